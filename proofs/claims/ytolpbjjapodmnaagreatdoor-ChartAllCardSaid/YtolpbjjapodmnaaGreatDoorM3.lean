/- Texts of this claim, one after the other: ChaR, ChaT, ChaU, ChaE, Gen, Chw1, Tree, Grid, Chw2. -/
import Derived.Test.YtolpbjjapodmnaaGreatDoorM1
import Derived.Test.YtolpbjjapodmnaaGreatDoorM2
namespace Go.Proofs.YtolpbjjapodmnaaGreatDoor
open Go.RowKit Go.Han
set_option maxRecDepth 100000
/-! ### derivations -/
inductive TreeV where
 | node (rule item frm unt:Int) (kids:List TreeV)
structure ItemG where
 cat:Int
 frm:Int
 unt:Int
 cost:Int
 tgt:StrS
 term:Int
def ItemG.cells (x:ItemG):List Value:=[.int .i64 x.cat,.int .i64 x.frm,.int .i64 x.unt,.int .i64 x.cost,.slice x.tgt.addr x.tgt.xs.length x.tgt.cap,.int .i64 x.term]
abbrev Dv:=Int×TreeV
abbrev Dk:=Int×List TreeV
def Zt (j:Nat) (i k:Int):TreeV:=.node (-1) j i k []
def Xq (c i k:Int):Nat→List ItemG→List Dv
 | _,[]=>[]
 | j,x :: l=>(if x.cat=c∧x.frm=i∧x.unt=k then [(x.cost,Zt j i k)] else [])++Xq c i k (j+1) l
def Xm (items:List ItemG) (i:Int) (s:ByteArray):Bool:=items.any (fun x=>decide (x.cat = -1) && decide (x.frm=i) && (match x.tgt.xs with|y :: _=>decide (y=s)|[]=>false))
def Ye (st:Int→ByteArray→Bool) (A:Int→Nat→Nat→List Dv):List PartG→Nat→Nat→List Dk
 | [],i,k=>if i=k then [(0,[])] else []
 | p :: ps,i,k =>
  if p.text.size≠0 then (if i<k∧st i p.text=true then Ye st A ps (i+1) k else [])
  else (List.range' (i+1) (k-i)).flatMap fun m=>Y7 List.cons (A p.no i m) (Ye st A ps m k)
def Xac (st:Int→ByteArray→Bool) (A:Int→Nat→Nat→List Dv) (j:Nat) (r:RuleG) (i k:Nat):List Dv :=
 (Ye st A r.parts.xs i k).map fun x=>(r.cost+x.1,.node j (-1) i k x.2)
def X4 (st:Int→ByteArray→Bool) (A:Int→Nat→Nat→List Dv) (c:Int) (i k:Nat):Nat→List RuleG→List Dv
 | _,[]=>[]
 | j,r :: l=>(if r.no=c then Xac st A j r i k else [])++X4 st A c i k (j+1) l
def derF (g:Gram) (items:List ItemG):Nat→Int→Nat→Nat→List Dv
 | 0,_,_,_=>[]
 | f+1,c,i,k=>Xq c i k 0 items++X4 (Xm items) (derF g items f) c i k 0 g.rules.xs
def Vb (rs:List RuleG) (a:ByteArray):Nat→Nat
 | 0=>0
 | n+1=>if Xaa rs (n+1) a then n+1 else Vb rs a n
def Vw (g:Gram) (c:Int):Nat:=match g.cats.xs[c.toNat]? with|some a=>Vb g.rules.xs a g.cats.xs.length|none=>0
def muG (g:Gram) (c:Int) (i k:Nat):Nat:=(k-i)*(g.cats.xs.length+1)+Vw g c
def derG (g:Gram) (items:List ItemG) (c:Int) (i k:Nat):List Dv:=derF g items (muG g c i k+1) c i k
/-! ### the measure -/
theorem Ty (rs:List RuleG) (a:ByteArray):∀n,Vb rs a n≤n
 | 0=>Nat.le_refl _
 | n+1=>by
  have:=Ty rs a n
  unfold Vb
  split<;>omega
theorem Tb (rs:List RuleG) (a:ByteArray):∀n,Xaa rs (Vb rs a n) a=true
 | 0=>rfl
 | n+1=>by
  unfold Vb
  split
  ·assumption
  ·exact Tb rs a n
theorem Xhc (rs:List RuleG) (a:ByteArray) (m:Nat) (h:Xaa rs m a=true):∀n,m≤n→m≤Vb rs a n
 | 0,hm=>by omega
 | n+1,hm=>by
  unfold Vb
  split
  ·omega
  ·rename_i hp
   have h2:m≤n:=by
    rcases Nat.lt_or_ge n m with h3|h3
    ·obtain rfl:m=n+1:=by omega
     exact absurd h hp
    ·exact h3
   exact Xhc rs a m h n h2
structure Yu (g:Gram):Prop where
 start:0≤g.startNo∧g.startNo<g.cats.xs.length
 few:g.cats.xs.length≤32
 fewR:g.rules.xs.length≤128
 fewE:g.entries.xs.length≤512
 rule:∀x∈g.rules.xs,x.no=idxF x.cat g.cats.xs∧0≤x.no∧0≤x.cost∧x.cost≤1000∧1≤x.parts.xs.length∧x.parts.xs.length≤4
 part:∀x∈g.rules.xs,∀p∈x.parts.xs,(p.text.size=0→p.no=idxF p.cat g.cats.xs∧0≤p.no)
 entry:∀x∈g.entries.xs,x.no=idxF x.cat g.cats.xs∧0≤x.no∧0≤x.cost∧x.cost≤1000∧1≤x.gives.xs.length∧x.gives.xs.length≤4
 circ:∀c∈g.cats.xs,Xaa g.rules.xs g.cats.xs.length c=false
theorem Xgs {g:Gram} (h:Ys g=0):Yu g:=by
 unfold Ys at h
 split at h
 ·cases h
 rename_i hb
 split at h
 ·cases h
 rename_i ht
 split at h
 ·cases h
 rename_i hc
 split at h
 rotate_left
 ·cases h
 rename_i hr
 unfold bigB at hb
 unfold Xz at ht
 unfold Vm at hc
 unfold Zm at hr
 simp only[Bool.or_eq_true,Bool.and_eq_true,decide_eq_true_eq,List.all_eq_true,List.any_eq_true,Bool.not_eq_true',not_or,Bool.not_eq_false,not_exists,not_and,Bool.not_eq_true] at hb ht hc hr
 obtain⟨⟨hb1,hb2⟩,hb3⟩:=hb
 obtain⟨⟨⟨⟨⟨⟨ht1,ht2⟩,ht3⟩,ht4⟩,ht5⟩,ht6⟩,ht7⟩:=ht
 obtain⟨⟨hr1,hr2⟩,hr3⟩:=hr
 refine⟨?_,by omega,by omega,by omega,?_,?_,?_,?_⟩
 ·rw[hr1];unfold catB at ht3;simp only[decide_eq_true_eq] at ht3;exact⟨ht3,Xee _ _⟩
 ·intro x hx
  have h1:=ht7 x hx
  have h2:=(hr3 x hx).1
  unfold Yh Vn catB at h1
  simp only[Bool.and_eq_true,decide_eq_true_eq] at h1
  obtain⟨⟨⟨⟨⟨⟨a1,a2⟩,a3⟩,a4⟩,a5⟩,a6⟩,a7⟩:=h1
  exact⟨h2,by rw[h2];exact a1,a4.1,a4.2,a2.1,a2.2⟩
 ·intro x hx p hp h0
  have h1:=ht7 x hx
  have h2:=(hr3 x hx).2 p hp
  unfold Yh at h1
  simp only[Bool.and_eq_true,List.all_eq_true] at h1
  have h3:=h1.1.1.2 p hp
  unfold Yj catB at h3
  unfold noP at h2
  rw[if_pos h0] at h2 h3
  simp only[decide_eq_true_eq] at h3
  exact⟨h2,by rw[h2];exact h3⟩
 ·intro x hx
  have h1:=ht6 x hx
  have h2:=hr2 x hx
  unfold Yt Vn catB at h1
  simp only[Bool.and_eq_true,decide_eq_true_eq] at h1
  obtain⟨⟨⟨⟨a1,a2⟩,a3⟩,a4⟩,a5⟩:=h1
  exact⟨h2,by rw[h2];exact a2,a5.1,a5.2,a3.1,a3.2⟩
 ·exact hc
theorem Xfm {g:Gram} (h:Yu g) {r:RuleG} (hr:r∈g.rules.xs) {p:PartG} (hp:r.parts.xs=[p]) (ht:p.text.size=0):Vw g p.no<Vw g r.no:=by
 have h1:=h.rule r hr
 have h2:=h.part r hr p (by rw[hp];simp) ht
 have e1:=Xfb r.cat g.cats.xs r.no.toNat (by rw[← h1.1];omega)
 have e2:=Xfb p.cat g.cats.xs p.no.toNat (by rw[← h2.1];omega)
 unfold Vw
 rw[e1,e2]
 show Vb g.rules.xs p.cat _<Vb g.rules.xs r.cat _
 have h3:=Tb g.rules.xs p.cat g.cats.xs.length
 have h4:Xaa g.rules.xs (Vb g.rules.xs p.cat g.cats.xs.length+1) r.cat=true:=by
  unfold Xaa
  rw[List.any_eq_true]
  exact⟨r,hr,by rw[hp];simp[ht,h3]⟩
 have h5:Vb g.rules.xs p.cat g.cats.xs.length<g.cats.xs.length:=by
  rcases Nat.lt_or_ge (Vb g.rules.xs p.cat g.cats.xs.length) g.cats.xs.length with h|h'
  ·exact h
  ·have h6:=h.circ p.cat (List.mem_of_getElem? e2)
   have h7:=Ty g.rules.xs p.cat g.cats.xs.length
   rw[show Vb g.rules.xs p.cat g.cats.xs.length=g.cats.xs.length by omega] at h3
   rw[h3] at h6;cases h6
 have:=Xhc _ _ _ h4 g.cats.xs.length (by omega)
 omega
theorem Xjl (g:Gram) (c:Int):Vw g c≤g.cats.xs.length:=by
 unfold Vw
 split
 ·exact Ty _ _ _
 ·exact Nat.zero_le _
/-! ### no more steps down are needed -/
theorem Vf (st:Int→ByteArray→Bool) (A:Int→Nat→Nat→List Dv):∀(ps:List PartG) (i k:Nat),k<i+ps.length→Ye st A ps i k=[]
 | [],i,k,h=>by
  unfold Ye
  rw[if_neg (by simp at h;omega)]
 | p :: ps,i,k,h=>by
  rw[List.length_cons] at h
  unfold Ye
  split
  ·split
   ·rename_i h2
    exact Vf st A ps _ _ (by omega)
   ·rfl
  ·refine List.flatMap_eq_nil_iff.2 fun m hm=>?_
   rw[List.mem_range'_1] at hm
   rw[Vf st A ps m k (by omega)]
   unfold Y7
   simp
theorem Uj (st:Int→ByteArray→Bool) (A B:Int→Nat→Nat→List Dv):∀(ps:List PartG) (i k:Nat),(∀p∈ps,p.text.size=0→∀u v,i≤u→u<v→v≤k→(v-u)+ps.length≤(k-i)+1→A p.no u v=B p.no u v)→Ye st A ps i k=Ye st B ps i k
 | [],i,k,_=>rfl
 | p :: ps,i,k,h=>by
  unfold Ye
  rw[List.length_cons] at h
  by_cases hp:p.text.size≠0
  ·rw[if_pos hp,if_pos hp]
   split
   ·rename_i h2
    exact Uj st A B ps (i+1) k fun q hq hq0 u v h3 h4 h5 h6=>h q (List.mem_cons_of_mem _ hq) hq0 u v (by omega) h4 h5 (by omega)
   ·rfl
  ·rw[if_neg hp,if_neg hp]
   simp only[List.flatMap]
   congr 1
   refine List.map_congr_left fun m hm=>?_
   rw[List.mem_range'_1] at hm
   by_cases hk:k<m+ps.length
   ·rw[Vf st A ps m k hk,Vf st B ps m k hk]
    have e:∀l:List Dv,Y7 List.cons l ([]:List Dk)=[]:=fun l=>List.flatMap_eq_nil_iff.2 (fun _ _=>rfl)
    rw[e,e]
   ·rw[h p (List.mem_cons_self ..) (by simpa using hp) i m (Nat.le_refl _) (by omega) (by omega) (by omega),Uj st A B ps m k fun q hq hq0 u v h3 h4 h5 h6=>h q (List.mem_cons_of_mem _ hq) hq0 u v (by omega) h4 h5 (by omega)]
theorem Uu (st:Int→ByteArray→Bool) (A B:Int→Nat→Nat→List Dv) (c:Int) (i k:Nat):∀(j:Nat) (rs:List RuleG),(∀r∈rs,r.no=c→Ye st A r.parts.xs i k=Ye st B r.parts.xs i k)→X4 st A c i k j rs=X4 st B c i k j rs
 | j,[],_=>rfl
 | j,r :: l,h=>by
  unfold X4 Xac
  rw[Uu st A B c i k (j+1) l fun r' hr'=>h r' (List.mem_cons_of_mem _ hr')]
  split
  ·rename_i hc
   rw[h r (List.mem_cons_self ..) hc]
  ·rfl
theorem Xk7 {g:Gram} (hg:Yu g) {r:RuleG} (hr:r∈g.rules.xs) {p:PartG} (hp:p∈r.parts.xs) (ht:p.text.size=0) {i k u v:Nat} (_h1:i≤u) (_h2:u<v) (_h3:v≤k) (h4:(v-u)+r.parts.xs.length≤(k-i)+1):muG g p.no u v<muG g r.no i k:=by
 unfold muG
 have hl:=Xjl g p.no
 have h5:=(hg.rule r hr).2.2.2.2.1
 by_cases hs:r.parts.xs.length=1
 ·obtain⟨q,hq⟩:=List.length_eq_one_iff.1 hs
  rw[hq] at hp
  rw[List.mem_singleton.1 hp] at ht hl ⊢
  have:=Xfm hg hr hq ht
  have h6:(v-u)*(g.cats.xs.length+1)≤(k-i)*(g.cats.xs.length+1):=Nat.mul_le_mul_right _ (by omega)
  omega
 ·have h6:(v-u+1)*(g.cats.xs.length+1)≤(k-i)*(g.cats.xs.length+1):=Nat.mul_le_mul_right _ (by omega)
  rw[Nat.succ_mul] at h6
  omega
theorem Xdo {g:Gram} (hg:Yu g) (items:List ItemG):∀(f f':Nat) (c:Int) (i k:Nat),muG g c i k<f→muG g c i k<f'→derF g items f c i k=derF g items f' c i k
 | 0,_,_,_,_,h,_=>by omega
 | _+1,0,_,_,_,_,h=>by omega
 | f+1,f'+1,c,i,k,h,h'=>by
  unfold derF
  congr 1
  refine Uu _ _ _ c i k 0 g.rules.xs fun r hr hc=>?_
  refine Uj _ _ _ _ i k fun p hp ht u v h1 h2 h3 h4=>?_
  have:=Xk7 hg hr hp ht h1 h2 h3 h4
  rw[hc] at this
  exact Xdo hg items f f' p.no u v (by omega) (by omega)
theorem Xec {g:Gram} (hg:Yu g) (items:List ItemG) (c:Int) (i k:Nat):derG g items c i k=Xq c i k 0 items++X4 (Xm items) (derG g items) c i k 0 g.rules.xs:=by
 unfold derG
 rw[derF]
 congr 1
 refine Uu _ _ _ c i k 0 g.rules.xs fun r hr hc=>?_
 refine Uj _ _ _ _ i k fun p hp ht u v h1 h2 h3 h4=>?_
 have:=Xk7 hg hr hp ht h1 h2 h3 h4
 rw[hc] at this
 exact Xdo hg items _ _ p.no u v (by omega) (by omega)
/-! ### trees -/
@[simp] def TreeV.rule:TreeV→Int | .node r _ _ _ _=>r
@[simp] def TreeV.item:TreeV→Int | .node _ j _ _ _=>j
@[simp] def TreeV.frm:TreeV→Int | .node _ _ i _ _=>i
@[simp] def TreeV.unt:TreeV→Int | .node _ _ _ k _=>k
@[simp] def TreeV.kids:TreeV→List TreeV | .node _ _ _ _ l=>l
mutual
def X5:TreeV→Nat
 | .node _ _ _ _ l=>1+Xp l
def Xp:List TreeV→Nat
 | []=>0
 | t :: l=>X5 t+Xp l
end
abbrev KidV:=Int×Int×(Int→Int×Bool)
def Z9 (st:Int→ByteArray→Bool):List PartG→List KidV→Int→Int→Int→Int×Bool
 | [],ks,i,k,c=>(c,decide (ks=[]) && decide (i=k))
 | p :: ps,ks,i,k,c =>
  if p.text.size≠0 then (if i<k∧st i p.text=true then Z9 st ps ks (i+1) k c else (0,false))
  else match ks with
   | []=>(0,false)
   | x :: ks'=>if x.1=i then (if (x.2.2 p.no).2 then Z9 st ps ks' x.2.1 k (c+(x.2.2 p.no).1) else (0,false)) else (0,false)
mutual
def X6 (g:Gram) (items:List ItemG):TreeV→Int→Int×Bool
 | .node r j i k kids,c =>
  if r = -1 then (if j<0∨(items.length:Int)≤j∨0<kids.length then (0,false) else match items[j.toNat]? with|some x=>(x.cost,decide (x.cat=c) && decide (x.frm=i) && decide (x.unt=k))|none=>(0,false))
  else if j ≠ -1∨r<0∨(g.rules.xs.length:Int)≤r then (0,false)
  else match g.rules.xs[r.toNat]? with
   | none=>(0,false)
   | some x=>if x.no=c then Z9 (Xm items) x.parts.xs (Yl g items kids) i k x.cost else (0,false)
def Yl (g:Gram) (items:List ItemG):List TreeV→List KidV
 | []=>[]
 | t :: l=>(t.frm,t.unt,X6 g items t) :: Yl g items l
end
mutual
def Xa9:TreeV→TreeV→Bool
 | .node r j i k l,t=>decide (r=t.rule) && decide (j=t.item) && decide (i=t.frm) && decide (k=t.unt) && Xah l t.kids
def Xah:List TreeV→List TreeV→Bool
 | [],[]=>true
 | x :: l,y :: m=>Xa9 x y && Xah l m
 | _,_=>false
end
mutual
def Vc:TreeV→TreeV→Bool
 | .node r j _ _ l,t =>
  if decide (r = -1)≠decide (t.rule = -1) then decide (r = -1)
  else if r≠t.rule then decide (r<t.rule)
  else if j≠t.item then decide (j<t.item)
  else Z5 l t.kids
def Z5:List TreeV→List TreeV→Bool
 | x :: l,y :: m=>if x.unt≠y.unt then decide (x.unt<y.unt) else if Xa9 x y then Z5 l m else Vc x y
 | _,_=>false
end
mutual
theorem U4:∀a b:TreeV,Xa9 a b=true↔a=b
 | .node r j i k l,.node r' j' i' k' l'=>by
  unfold Xa9
  show (decide (r=r') && decide (j=j') && decide (i=i') && decide (k=k') && Xah l l')=true↔_
  rw[Bool.and_eq_true,Xfu l l',TreeV.node.injEq]
  simp only[Bool.and_eq_true,decide_eq_true_eq]
  constructor
  ·rintro⟨⟨⟨⟨h1,h2⟩,h3⟩,h4⟩,h5⟩;exact⟨h1,h2,h3,h4,h5⟩
  ·rintro⟨h1,h2,h3,h4,h5⟩;exact⟨⟨⟨⟨h1,h2⟩,h3⟩,h4⟩,h5⟩
theorem Xfu:∀a b:List TreeV,Xah a b=true↔a=b
 | [],[]=>by simp[Xah]
 | [],y :: m=>by simp[Xah]
 | x :: l,[]=>by simp[Xah]
 | x :: l,y :: m=>by
  unfold Xah
  rw[Bool.and_eq_true,U4 x y,Xfu l m,List.cons.injEq]
end
theorem Vx (r j i k:Int) (l:List TreeV) (r' j' i' k':Int) (l':List TreeV):Vc (.node r j i k l) (.node r' j' i' k' l')=if decide (r = -1)≠decide (r' = -1) then decide (r = -1) else if r≠r' then decide (r<r') else if j≠j' then decide (j<j') else Z5 l l':=by
 unfold Vc;rfl
theorem Uh (x:TreeV) (l:List TreeV) (y:TreeV) (m:List TreeV):Z5 (x :: l) (y :: m)=if x.unt≠y.unt then decide (x.unt<y.unt) else if Xa9 x y=true then Z5 l m else Vc x y:=by
 rw[Z5]
mutual
theorem T7:∀a b:TreeV,Vc a b=true→Vc b a=false
 | .node r j i k l,.node r' j' i' k' l'=>by
  rw[Vx,Vx]
  have h:=Xa1 l l'
  by_cases h3:r=r'
  ·subst h3
   by_cases h4:j=j'
   ·subst h4;simpa using h
   ·have h5:¬j'=j:=fun e=>h4 e.symm
    simp[h4,h5];omega
  ·have h5:¬r'=r:=fun e=>h3 e.symm
   by_cases h1:r = -1
   ·have h2:¬r' = -1:=fun e=>h3 (h1.trans e.symm)
    simp[h1,h2]
   ·by_cases h2:r' = -1
    ·simp[h1,h2]
    ·simp[h1,h2,h3,h5];omega
theorem Xa1:∀a b:List TreeV,Z5 a b=true→Z5 b a=false
 | [],_=>by intro h;unfold Z5 at h;cases h
 | x :: l,[]=>by intro _;rfl
 | x :: l,y :: m=>by
  rw[Uh,Uh]
  have h1:=T7 x y
  have h2:=Xa1 l m
  by_cases hu:x.unt=y.unt
  ·by_cases hs:x=y
   ·subst hs
    have e:Xa9 x x=true:=(U4 x x).2 rfl
    simpa[e] using h2
   ·have e1:Xa9 x y=false:=by
     cases h:Xa9 x y
     ·rfl
     ·exact absurd ((U4 x y).1 h) hs
    have e2:Xa9 y x=false:=by
     cases h:Xa9 y x
     ·rfl
     ·exact absurd ((U4 y x).1 h).symm hs
    simp only[ne_eq,hu,not_true_eq_false,if_false,e1,e2,Bool.false_eq_true]
    exact h1
  ·have hu':¬y.unt=x.unt:=fun e=>hu e.symm
   simp only[ne_eq,hu,hu',not_false_eq_true,if_true,decide_eq_true_eq,decide_eq_false_iff_not]
   omega
end
theorem Qy (a:TreeV):Vc a a=false:=by
 cases h:Vc a a
 ·rfl
 ·rw[T7 a a h] at h;cases h
/-! ### the order of the derivations -/
theorem Zf {c i k:Int} {x:Dv}:∀ {j:Nat} {l:List ItemG},x∈Xq c i k j l↔∃(n:Nat) (y:ItemG),l[n]? = some y∧y.cat=c∧y.frm=i∧y.unt=k∧x=(y.cost,Zt (j+n) i k)
 | j,[]=>by simp[Xq]
 | j,y :: l=>by
  unfold Xq
  rw[List.mem_append,Zf (j:=j+1) (l:=l)]
  constructor
  ·rintro(h|⟨n,z,h1,h2,h3,h4,h5⟩)
   ·split at h
    ·rename_i hc
     exact⟨0,y,rfl,hc.1,hc.2.1,hc.2.2,by simpa using h⟩
    ·cases h
   ·exact⟨n+1,z,by simpa using h1,h2,h3,h4,by rw[h5];congr 2;omega⟩
  ·rintro⟨n,z,h1,h2,h3,h4,h5⟩
   cases n with
   | zero =>
    simp at h1;subst h1
    left
    rw[if_pos ⟨h2,h3,h4⟩];simpa using h5
   | succ n=>exact .inr ⟨n,z,by simpa using h1,h2,h3,h4,by rw[h5];congr 2;omega⟩
theorem Zi {st:Int→ByteArray→Bool} {A:Int→Nat→Nat→List Dv} {c:Int} {i k:Nat} {x:Dv}:∀ {j:Nat} {l:List RuleG},x∈X4 st A c i k j l↔∃(n:Nat) (r:RuleG),l[n]? = some r∧r.no=c∧x∈Xac st A (j+n) r i k
 | j,[]=>by simp[X4]
 | j,y :: l=>by
  unfold X4
  rw[List.mem_append,Zi (j:=j+1) (l:=l)]
  constructor
  ·rintro(h|⟨n,z,h1,h2,h3⟩)
   ·split at h
    ·rename_i hc
     exact⟨0,y,rfl,hc,h⟩
    ·cases h
   ·exact⟨n+1,z,by simpa using h1,h2,by rw[show j+(n+1)=j+1+n by omega];exact h3⟩
  ·rintro⟨n,z,h1,h2,h3⟩
   cases n with
   | zero =>
    simp at h1;subst h1
    left
    rw[if_pos h2];exact h3
   | succ n=>exact .inr ⟨n,z,by simpa using h1,h2,by rw[show j+1+n=j+(n+1) by omega];exact h3⟩
theorem Z1 {st:Int→ByteArray→Bool} {A:Int→Nat→Nat→List Dv} {j:Nat} {r:RuleG} {i k:Nat} {x:Dv}:x∈Xac st A j r i k↔∃y∈Ye st A r.parts.xs i k,x=(r.cost+y.1,.node j (-1) i k y.2):=by
 unfold Xac
 rw[List.mem_map]
 constructor
 ·rintro⟨y,h1,h2⟩;exact⟨y,h1,h2.symm⟩
 ·rintro⟨y,h1,h2⟩;exact⟨y,h1,h2.symm⟩
theorem Xbj {g:Gram} {items:List ItemG} {f:Nat} {c:Int} {i k:Nat} {x:Dv} (h:x∈derF g items f c i k):x.2.frm=i∧x.2.unt=k:=by
 cases f with
 | zero=>cases h
 | succ f =>
  unfold derF at h
  rcases List.mem_append.1 h with h|h
  ·obtain⟨n,y,_,_,_,_,rfl⟩:=Zf.1 h
   exact⟨rfl,rfl⟩
  ·obtain⟨n,r,_,_,h⟩:=Zi.1 h
   obtain⟨y,_,rfl⟩:=Z1.1 h
   exact⟨rfl,rfl⟩
def BefD (a b:Dv):Prop:=Vc a.2 b.2=true
def BefK (a b:Dk):Prop:=Z5 a.2 b.2=true
theorem Xa5 (c i k:Int):∀(j:Nat) (l:List ItemG),(Xq c i k j l).Pairwise BefD
 | j,[]=>List.Pairwise.nil
 | j,y :: l=>by
  unfold Xq
  rw[List.pairwise_append]
  refine⟨by split<;>simp,Xa5 c i k (j+1) l,?_⟩
  intro a ha b hb
  split at ha
  ·simp at ha;subst ha
   obtain⟨n,z,_,_,_,_,rfl⟩:=Zf.1 hb
   unfold BefD Zt
   rw[Vx,if_neg (by simp),if_neg (by simp),if_pos (by omega)]
   simp;omega
  ·cases ha
theorem Qg (st:Int→ByteArray→Bool) (A:Int→Nat→Nat→List Dv) (hA:∀c u v,(A c u v).Pairwise BefD) (hp:∀c u v,∀x∈A c u v,x.2.unt=(v:Int)):∀(ps:List PartG) (i k:Nat),(Ye st A ps i k).Pairwise BefK
 | [],i,k=>by unfold Ye;split<;>simp
 | p :: ps,i,k=>by
  unfold Ye
  split
  ·split
   ·exact Qg st A hA hp ps _ _
   ·exact List.Pairwise.nil
  ·rw[List.pairwise_flatMap]
   refine⟨fun m _=>?_,?_⟩
   ·unfold Y7
    rw[List.pairwise_flatMap]
    refine⟨fun a _=>?_,?_⟩
    ·rw[List.pairwise_map]
     refine(Qg st A hA hp ps m k).imp fun {x y} h=>?_
     unfold BefK
     rw[Uh,if_neg (by simp),if_pos ((U4 _ _).2 rfl)]
     exact h
    ·refine(List.Pairwise.and_mem.1 (hA p.no i m)).imp fun {a b} h=>?_
     obtain⟨ha,hb,h⟩:=h
     intro x hx y hy
     obtain⟨x',_,rfl⟩:=List.mem_map.1 hx
     obtain⟨y',_,rfl⟩:=List.mem_map.1 hy
     unfold BefK
     rw[Uh,if_neg (by rw[hp _ _ _ a ha,hp _ _ _ b hb];simp),if_neg]
     ·exact h
     ·intro hs
      have:=(U4 _ _).1 hs
      unfold BefD at h
      rw[this,Qy] at h;cases h
   ·refine(List.pairwise_lt_range' (s:=i+1) (n:=k-i)).imp fun {m m'} hlt=>?_
    intro x hx y hy
    unfold Y7 at hx hy
    obtain⟨a,ha,hx⟩:=List.mem_flatMap.1 hx
    obtain⟨b,hb,hy⟩:=List.mem_flatMap.1 hy
    obtain⟨x',_,rfl⟩:=List.mem_map.1 hx
    obtain⟨y',_,rfl⟩:=List.mem_map.1 hy
    unfold BefK
    rw[Uh,if_pos (by rw[hp _ _ _ a ha,hp _ _ _ b hb];omega),hp _ _ _ a ha,hp _ _ _ b hb]
    simp;omega
theorem Xa7 (st:Int→ByteArray→Bool) (A:Int→Nat→Nat→List Dv) (c:Int) (i k:Nat) (hA:∀c u v,(A c u v).Pairwise BefD) (hp:∀c u v,∀x∈A c u v,x.2.unt=(v:Int)):∀(j:Nat) (rs:List RuleG),(X4 st A c i k j rs).Pairwise BefD
 | j,[]=>List.Pairwise.nil
 | j,r :: l=>by
  unfold X4
  rw[List.pairwise_append]
  refine⟨?_,Xa7 st A c i k hA hp (j+1) l,?_⟩
  ·split
   ·unfold Xac
    rw[List.pairwise_map]
    refine(Qg st A hA hp r.parts.xs i k).imp fun {x y} h=>?_
    unfold BefD
    rw[Vx,if_neg (by simp),if_neg (by simp),if_neg (by simp)]
    exact h
   ·exact List.Pairwise.nil
  ·intro a ha b hb
   split at ha
   ·obtain⟨y,_,rfl⟩:=Z1.1 ha
    obtain⟨n,z,_,_,hb⟩:=Zi.1 hb
    obtain⟨y',_,rfl⟩:=Z1.1 hb
    unfold BefD
    rw[Vx,if_neg (by simp;omega),if_pos (by omega)]
    simp;omega
   ·cases ha
theorem Xdn (g:Gram) (items:List ItemG):∀(f:Nat) (c:Int) (i k:Nat),(derF g items f c i k).Pairwise BefD
 | 0,_,_,_=>List.Pairwise.nil
 | f+1,c,i,k=>by
  unfold derF
  rw[List.pairwise_append]
  refine⟨Xa5 _ _ _ _ _,Xa7 _ _ _ _ _ (fun c u v=>Xdn g items f c u v) (fun c u v x hx=>(Xbj hx).2) _ _,?_⟩
  intro a ha b hb
  obtain⟨n,y,_,_,_,_,rfl⟩:=Zf.1 ha
  obtain⟨n',z,_,_,hb⟩:=Zi.1 hb
  obtain⟨y',_,rfl⟩:=Z1.1 hb
  unfold BefD Zt
  rw[Vx,if_pos (by simp)]
  simp
theorem Xcx {g:Gram} {items:List ItemG} {f:Nat} {c:Int} {i k:Nat} {t x:Dv} (ht:Xv (derF g items f c i k)=some t) (hx:x∈derF g items f c i k) (he:x.1=t.1):Vc x.2 t.2=false:=by
 have hs:=Xdn g items f c i k
 generalize derF g items f c i k=l at *
 have key:∀l:List Dv,l.Pairwise BefD→∀t,Xv l=some t→∀x∈l,x.1=t.1→x=t∨Vc t.2 x.2=true:=by
  intro l
  induction l with
  | nil=>intro _ t _ x hx;cases hx
  | cons y l ih =>
   intro hs t ht x hx he
   rw[List.pairwise_cons] at hs
   rw[Yo] at ht
   cases hl:Xv l with
   | none =>
    rw[hl] at ht
    cases ht
    have:=Zw hl
    subst this
    simp at hx
    exact .inl hx
   | some z =>
    rw[hl,Xt] at ht
    split at ht
    ·cases ht
     rcases List.mem_cons.1 hx with rfl|hx
     ·omega
     ·exact ih hs.2 _ hl x hx he
    ·cases ht
     rcases List.mem_cons.1 hx with rfl|hx
     ·exact .inl rfl
     ·exact .inr (hs.1 x hx)
 rcases key l hs t ht x hx he with rfl|h
 ·exact Qy _
 ·exact T7 _ _ h
/-! ### trees that are derivations -/
theorem TreeV.ind {P:TreeV→Prop} (h:∀r j i k l,(∀t∈l,P t)→P (.node r j i k l)):∀t,P t :=
 fun t=>TreeV.rec (motive_1:=P) (motive_2:=fun l=>∀t∈l,P t) (fun r j i k l hl=>h r j i k l hl) (fun _ ht=>by cases ht) (fun x l hx hl t ht=>by
  rcases List.mem_cons.1 ht with rfl|ht
  ·exact hx
  ·exact hl t ht) t
theorem Xha {α β γ:Type} {f:α→β→γ} {l:List (Int×α)} {m:List (Int×β)} {x:Int×γ}:x∈Y7 f l m↔∃a∈l,∃b∈m,x=(a.1+b.1,f a.2 b.2):=by
 unfold Y7
 rw[List.mem_flatMap]
 constructor
 ·rintro⟨a,ha,h⟩
  obtain⟨b,hb,rfl⟩:=List.mem_map.1 h
  exact⟨a,ha,b,hb,rfl⟩
 ·rintro⟨a,ha,b,hb,rfl⟩
  exact⟨a,ha,List.mem_map.2 ⟨b,hb,rfl⟩⟩
theorem V8 {st:Int→ByteArray→Bool} {A:Int→Nat→Nat→List Dv} {p:PartG} {ps:List PartG} {i k:Nat} {x:Dk} (hp:p.text.size≠0):x∈Ye st A (p :: ps) i k↔i<k∧st i p.text=true∧x∈Ye st A ps (i+1) k:=by
 rw[Ye,if_pos hp]
 constructor
 ·intro h
  split at h
  ·rename_i hc;exact⟨hc.1,hc.2,h⟩
  ·cases h
 ·rintro⟨h1,h2,h3⟩
  rw[if_pos ⟨h1,h2⟩];exact h3
theorem U1 {st:Int→ByteArray→Bool} {A:Int→Nat→Nat→List Dv} {p:PartG} {ps:List PartG} {i k:Nat} {x:Dk} (hp:p.text.size=0):x∈Ye st A (p :: ps) i k↔∃m,i<m∧m≤k∧∃a∈A p.no i m,∃b∈Ye st A ps m k,x=(a.1+b.1,a.2 :: b.2):=by
 rw[Ye,if_neg (by simpa using hp),List.mem_flatMap]
 constructor
 ·rintro⟨m,hm,h⟩
  rw[List.mem_range'_1] at hm
  exact⟨m,by omega,by omega,Xha.1 h⟩
 ·rintro⟨m,h1,h2,h⟩
  exact⟨m,by rw[List.mem_range'_1];omega,Xha.2 h⟩
theorem V7 {st:Int→ByteArray→Bool} {A:Int→Nat→Nat→List Dv} {i k:Nat} {x:Dk}:x∈Ye st A [] i k↔i=k∧x=(0,[]):=by
 unfold Ye
 split
 ·rename_i h;simp[h]
 ·rename_i h;simp[h]
theorem Xbp {st:Int→ByteArray→Bool} {A:Int→Nat→Nat→List Dv} {ps:List PartG} {i k:Nat} {x:Dk} (h:x∈Ye st A ps i k):i+ps.length≤k:=by
 rcases Nat.lt_or_ge k (i+ps.length) with h1|h1
 ·rw[Vf st A ps i k h1] at h;cases h
 ·exact h1
theorem U9 {st:Int→ByteArray→Bool} {p:PartG} (hp:p.text.size≠0) (ps:List PartG) (ks:List KidV) (i k c:Int):Z9 st (p :: ps) ks i k c=if i<k∧st i p.text=true then Z9 st ps ks (i+1) k c else (0,false):=by
 simp only[Z9];rw[if_pos hp]
theorem Xbt {st:Int→ByteArray→Bool} {p:PartG} (hp:¬p.text.size≠0) (ps:List PartG) (i k c:Int):Z9 st (p :: ps) [] i k c=(0,false):=by
 simp only[Z9];rw[if_neg hp]
theorem U3 {st:Int→ByteArray→Bool} {p:PartG} (hp:¬p.text.size≠0) (ps:List PartG) (x:KidV) (ks:List KidV) (i k c:Int):Z9 st (p :: ps) (x :: ks) i k c=if x.1=i then (if (x.2.2 p.no).2 then Z9 st ps ks x.2.1 k (c+(x.2.2 p.no).1) else (0,false)) else (0,false):=by
 simp only[Z9];rw[if_neg hp]
structure Zr (n:Nat) (m:Nat) (items:List ItemG):Prop where
 place:∀x∈items,0≤x.frm∧x.frm<x.unt∧x.unt≤n
 cost:∀x∈items,0≤x.cost∧x.cost≤1000
 cat:∀x∈items, -1≤x.cat∧x.cat<m
theorem Xcn {n m:Nat} {items:List ItemG} (hi:Zr n m items) {i:Int} {s:ByteArray} (h:Xm items i s=true):0≤i∧i<n:=by
 unfold Xm at h
 obtain⟨x,hx,h⟩:=List.any_eq_true.1 h
 simp only[Bool.and_eq_true,decide_eq_true_eq] at h
 have:=hi.place x hx
 omega
section
variable {g:Gram} {items:List ItemG}
def Xj7 (g:Gram) (items:List ItemG) (n:Nat) (t:TreeV):Prop :=
 ∀c cost,X6 g items t c=(cost,true)→∃i k:Nat,t.frm=i∧t.unt=k∧i<k∧k≤n∧(cost,t)∈derG g items c i k
theorem Xfh {n m:Nat} (hi:Zr n m items):∀(ps:List PartG) (kids:List TreeV) (i:Nat) (k c0 c:Int),(∀t∈kids,Xj7 g items n t)→i≤n →
  Z9 (Xm items) ps (Yl g items kids) i k c0=(c,true)→∃k':Nat,k=k'∧k'≤n∧(c-c0,kids)∈Ye (Xm items) (derG g items) ps i k'
 | [],kids,i,k,c0,c,hk,hn,h=>by
  unfold Z9 at h
  simp only[Prod.mk.injEq,Bool.and_eq_true,decide_eq_true_eq] at h
  obtain⟨rfl,h1,h2⟩:=h
  refine⟨i,h2.symm,hn,V7.2 ⟨rfl,?_⟩⟩
  cases kids with
  | nil=>simp
  | cons t l=>simp[Yl] at h1
 | p :: ps,kids,i,k,c0,c,hk,hn,h=>by
  by_cases hp:p.text.size≠0
  ·rw[U9 hp] at h
   split at h
   ·rename_i hc
    have h1:=Xcn hi hc.2
    obtain⟨k',h2,h3,h4⟩:=Xfh hi ps kids (i+1) k c0 c hk (by omega) (by exact_mod_cast h)
    exact⟨k',h2,h3,(V8 hp).2 ⟨by omega,hc.2,h4⟩⟩
   ·simp at h
  ·have hp0:p.text.size=0:=by simpa using hp
   cases kids with
   | nil=>rw[Yl,Xbt hp] at h;simp at h
   | cons t l =>
    rw[Yl,U3 hp] at h
    simp only at h
    split at h
    ·rename_i hf
     split at h
     ·rename_i ht
      obtain⟨u,v,h1,h2,h3,h4,h5⟩:=hk t (List.mem_cons_self ..) p.no (X6 g items t p.no).1 (by rw[← ht])
      rw[h2] at h
      obtain⟨k',h6,h7,h8⟩:=Xfh hi ps l v k _ c (fun y hy=>hk y (List.mem_cons_of_mem _ hy)) h4 h
      have hu:u=i:=by omega
      subst hu
      have:=Xbp h8
      exact⟨k',h6,h7,(U1 hp0).2 ⟨v,h3,by omega,_,h5,_,h8,by simp;omega⟩⟩
     ·simp at h
    ·simp at h
theorem Xk3 {n m:Nat} (hi:Zr n m items) {ps:List PartG} (h0:ps≠[]) {kids:List TreeV} {i k c0 c:Int} (hk:∀t∈kids,Xj7 g items n t) (h:Z9 (Xm items) ps (Yl g items kids) i k c0=(c,true)):∃i':Nat,i=i'∧i'≤n:=by
 cases ps with
 | nil=>exact absurd rfl h0
 | cons p ps =>
  by_cases hp:p.text.size≠0
  ·rw[U9 hp] at h
   split at h
   ·rename_i hc
    have h1:=Xcn hi hc.2
    exact⟨i.toNat,by omega,by omega⟩
   ·simp at h
  ·cases kids with
   | nil=>rw[Yl,Xbt hp] at h;simp at h
   | cons t l =>
    rw[Yl,U3 hp] at h
    simp only at h
    split at h
    ·rename_i hf
     split at h
     ·rename_i ht
      obtain⟨u,v,h1,h2,h3,h4,h5⟩:=hk t (List.mem_cons_self ..) p.no (X6 g items t p.no).1 (by rw[← ht])
      exact⟨u,by omega,by omega⟩
     ·simp at h
    ·simp at h
theorem Xgx {n m:Nat} (hg:Yu g) (hi:Zr n m items):∀t,Xj7 g items n t :=
 TreeV.ind fun r j i k l ih c cost h=>by
  rw[X6] at h
  split at h
  ·rename_i hr
   split at h
   ·simp at h
   rename_i hj
   split at h
   ·rename_i x hx
    simp only[Prod.mk.injEq,Bool.and_eq_true,decide_eq_true_eq] at h
    obtain⟨rfl,⟨h1,h2⟩,h3⟩:=h
    have hp:=hi.place x (List.mem_of_getElem? hx)
    have hl:l=[]:=by
     cases l with
     | nil=>rfl
     | cons t l=>simp at hj
    refine⟨i.toNat,k.toNat,by simp;omega,by simp;omega,by omega,by omega,?_⟩
    rw[Xec hg]
    refine List.mem_append_left _ (Zf.2 ⟨j.toNat,x,hx,h1,by omega,by omega,?_⟩)
    subst hl hr
    unfold Zt
    congr 2<;>omega
   ·simp at h
  ·split at h
   ·simp at h
   rename_i hj
   split at h
   ·simp at h
   ·rename_i x hx
    split at h
    ·rename_i hc
     have hxm:=List.mem_of_getElem? hx
     have h1:=hg.rule x hxm
     have hne:x.parts.xs≠[]:=fun e=>by rw[e] at h1;simp at h1
     obtain⟨i',h2,h3⟩:=Xk3 hi hne ih h
     rw[h2] at h
     obtain⟨k',h4,h5,h6⟩:=Xfh hi x.parts.xs l i' k x.cost cost ih h3 h
     have:=Xbp h6
     refine⟨i',k',by simpa using h2,by simpa using h4,by omega,h5,?_⟩
     rw[Xec hg]
     refine List.mem_append_right _ (Zi.2 ⟨r.toNat,x,hx,hc,Z1.2 ⟨_,h6,?_⟩⟩)
     rw[h2,h4]
     have e1:j = -1:=by omega
     have e2:((0+r.toNat:Nat):Int)=r:=by omega
     rw[e2,e1]
     congr 1;simp;omega
    ·simp at h
theorem Q6 {A:Int→Nat→Nat→List Dv}:∀(ps:List PartG) (i k:Nat) (c0:Int) (x:Dk),(∀c i k,∀y∈A c i k,y.2.frm=(i:Int)∧y.2.unt=(k:Int)∧X6 g items y.2 c=(y.1,true))→x∈Ye (Xm items) A ps i k→Z9 (Xm items) ps (Yl g items x.2) i k c0=(c0+x.1,true)
 | [],i,k,c0,x,hA,h=>by
  obtain⟨rfl,rfl⟩:=V7.1 h
  simp[Z9,Yl]
 | p :: ps,i,k,c0,x,hA,h=>by
  by_cases hp:p.text.size≠0
  ·obtain⟨h1,h2,h3⟩:=(V8 hp).1 h
   rw[U9 hp,if_pos ⟨by omega,h2⟩]
   have:=Q6 ps (i+1) k c0 x hA h3
   exact_mod_cast this
  ·have hp0:p.text.size=0:=by simpa using hp
   obtain⟨m,h1,h2,a,ha,b,hb,rfl⟩:=(U1 hp0).1 h
   obtain⟨h3,h4,h5⟩:=hA _ _ _ a ha
   rw[Yl,U3 hp]
   simp only
   rw[if_pos h3,h5,h4]
   simp only[if_true]
   rw[Q6 ps m k (c0+a.1) b hA hb,Int.add_assoc]
theorem Xb7:∀(f:Nat) (c:Int) (i k:Nat) (x:Dv),x∈derF g items f c i k→x.2.frm=(i:Int)∧x.2.unt=(k:Int)∧X6 g items x.2 c=(x.1,true)
 | 0,_,_,_,_,h=>by cases h
 | f+1,c,i,k,x,h=>by
  refine⟨(Xbj h).1,(Xbj h).2,?_⟩
  unfold derF at h
  rcases List.mem_append.1 h with h|h
  ·obtain⟨n,y,h1,h2,h3,h4,rfl⟩:=Zf.1 h
   unfold Zt
   rw[X6]
   have hn:n<items.length:=(List.getElem?_eq_some_iff.1 h1).1
   rw[if_pos rfl,if_neg (by simp;omega)]
   have e:((0+n:Nat):Int).toNat=n:=by omega
   rw[e,h1]
   simp[h2,h3,h4]
  ·obtain⟨n,r,h1,h2,h⟩:=Zi.1 h
   obtain⟨y,hy,rfl⟩:=Z1.1 h
   rw[X6]
   have hn:n<g.rules.xs.length:=(List.getElem?_eq_some_iff.1 h1).1
   have e:((0+n:Nat):Int).toNat=n:=by omega
   rw[if_neg (by omega),if_neg (by omega),e,h1]
   simp only
   rw[if_pos h2]
   exact Q6 r.parts.xs i k r.cost y (fun c i k z hz=>Xb7 f c i k z hz) hy
/-! ### how great, how dear -/
theorem Xbq {st:Int→ByteArray→Bool} {A:Int→Nat→Nat→List Dv} (N:Nat):∀(ps:List PartG) (i k:Nat) (x:Dk),(∀c u v,∀y∈A c u v,u<v→X5 y.2≤(2*(v-u)-1)*N)→x∈Ye st A ps i k→Xp x.2≤(2*(k-i)-ps.length)*N
 | [],i,k,x,hA,h=>by obtain⟨_,rfl⟩:=V7.1 h;simp[Xp]
 | p :: ps,i,k,x,hA,h=>by
  by_cases hp:p.text.size≠0
  ·obtain⟨h1,h2,h3⟩:=(V8 hp).1 h
   refine Nat.le_trans (Xbq N ps (i+1) k x hA h3) (Nat.mul_le_mul_right _ ?_)
   rw[List.length_cons];omega
  ·obtain⟨m,h1,h2,a,ha,b,hb,rfl⟩:=(U1 (by simpa using hp)).1 h
   have h3:=hA _ _ _ a ha h1
   have h4:=Xbq N ps m k b hA hb
   have h5:=Xbp hb
   rw[Xp,List.length_cons]
   have e:2*(k-i)-(ps.length+1)=(2*(m-i)-1)+(2*(k-m)-ps.length):=by omega
   rw[e,Nat.add_mul]
   omega
theorem Xc4 {st:Int→ByteArray→Bool} {A:Int→Nat→Nat→List Dv}:∀(ps:List PartG) (i k:Nat) (x:Dk),(∀c u v,∀y∈A c u v,0≤y.1∧y.1≤1000*X5 y.2)→x∈Ye st A ps i k→0≤x.1∧x.1≤1000*Xp x.2
 | [],i,k,x,hA,h=>by obtain⟨_,rfl⟩:=V7.1 h;simp[Xp]
 | p :: ps,i,k,x,hA,h=>by
  by_cases hp:p.text.size≠0
  ·obtain⟨h1,h2,h3⟩:=(V8 hp).1 h
   exact Xc4 ps (i+1) k x hA h3
  ·obtain⟨m,h1,h2,a,ha,b,hb,rfl⟩:=(U1 (by simpa using hp)).1 h
   have h3:=hA _ _ _ a ha
   have h4:=Xc4 ps m k b hA hb
   rw[Xp]
   simp only
   omega
theorem Xe2 (hg:Yu g) {n m:Nat} (hi:Zr n m items):∀(f:Nat) (c:Int) (i k:Nat) (x:Dv),x∈derF g items f c i k→0≤x.1∧x.1≤1000*X5 x.2
 | 0,_,_,_,_,h=>by cases h
 | f+1,c,i,k,x,h=>by
  unfold derF at h
  rcases List.mem_append.1 h with h|h
  ·obtain⟨n,y,h1,h2,h3,h4,rfl⟩:=Zf.1 h
   have:=hi.cost y (List.mem_of_getElem? h1)
   simp[Zt,X5,Xp];omega
  ·obtain⟨n,r,h1,h2,h⟩:=Zi.1 h
   obtain⟨y,hy,rfl⟩:=Z1.1 h
   have h3:=hg.rule r (List.mem_of_getElem? h1)
   have h4:=Xc4 r.parts.xs i k y (fun c u v z hz=>Xe2 hg hi f c u v z hz) hy
   rw[X5]
   simp only
   omega
theorem Xaq (hg:Yu g):∀(f:Nat) (c:Int) (i k:Nat) (x:Dv),x∈derF g items f c i k→i<k→X5 x.2≤(2*(k-i)-2)*g.cats.xs.length+1+Vw g c
 | 0,_,_,_,_,h,_=>by cases h
 | f+1,c,i,k,x,h,hik=>by
  unfold derF at h
  rcases List.mem_append.1 h with h|h
  ·obtain⟨n,y,h1,h2,h3,h4,rfl⟩:=Zf.1 h
   simp[Zt,X5,Xp];omega
  ·obtain⟨n,r,h1,h2,h⟩:=Zi.1 h
   obtain⟨y,hy,rfl⟩:=Z1.1 h
   have hr:=List.mem_of_getElem? h1
   have h3:=hg.rule r hr
   rw[X5]
   have hlt:∀c,Vw g c+1≤g.cats.xs.length:=by
    intro c
    unfold Vw
    split
    ·rename_i a ha
     have h5:=hg.circ a (List.mem_of_getElem? ha)
     have h6:=Ty g.rules.xs a g.cats.xs.length
     have h7:=Tb g.rules.xs a g.cats.xs.length
     rcases Nat.lt_or_ge (Vb g.rules.xs a g.cats.xs.length) g.cats.xs.length with h|h
     ·omega
     ·rw[show Vb g.rules.xs a g.cats.xs.length=g.cats.xs.length by omega,h5] at h7;cases h7
    ·have:=hg.start;omega
   have hA:∀c u v,∀y∈derF g items f c u v,u<v→X5 y.2≤(2*(v-u)-1)*g.cats.xs.length:=by
    intro c u v y hy huv
    have h4:=Xaq hg f c u v y hy huv
    have h5:=hlt c
    rw[show 2*(v-u)-1=(2*(v-u)-2)+1 by omega,Nat.add_mul]
    omega
   by_cases hs:r.parts.xs.length=1
   ·obtain⟨p,hp⟩:=List.length_eq_one_iff.1 hs
    rw[hp] at hy
    by_cases ht:p.text.size≠0
    ·obtain⟨h4,h5,h6⟩:=(V8 ht).1 hy
     obtain⟨_,rfl⟩:=V7.1 h6
     simp[Xp];omega
    ·obtain⟨m,h4,h5,a,ha,b,hb,rfl⟩:=(U1 (by simpa using ht)).1 hy
     obtain⟨rfl,rfl⟩:=V7.1 hb
     have h6:=Xaq hg f p.no i m a ha h4
     have h7:=Xfm hg hr hp (by simpa using ht)
     rw[h2] at h7
     simp only[Xp]
     omega
   ·have h4:=Xbq g.cats.xs.length r.parts.xs i k y hA hy
    have h5:(2*(k-i)-r.parts.xs.length)*g.cats.xs.length≤(2*(k-i)-2)*g.cats.xs.length:=Nat.mul_le_mul_right _ (by omega)
    omega
end
/-! ### arguments that are right -/
def Zo (g:Gram) (n:Int) (x:ItemG):Bool :=
 decide (0≤x.frm) && decide (x.frm<x.unt) && decide (x.unt≤n) && (decide (-1≤x.term) && decide (x.term≤1048576)) && (decide (1≤x.tgt.xs.length) && decide (x.tgt.xs.length≤4)) && x.tgt.xs.all Yi &&
  (if x.cat = -1 then decide (x.unt=x.frm+1) && decide (x.cost=0) && decide (x.tgt.xs.length=1) else (decide (0≤x.cat) && decide (x.cat<g.cats.xs.length)) && (decide (0≤x.cost) && decide (x.cost≤1000)))
def errC (g:Gram) (items:List ItemG) (n:Int):Int :=
 if Ys g≠0 then Ys g else if n<1∨16<n then 1 else if 16384<items.length then 2 else if items.all (Zo g n) then 0 else 280
structure T3 (g:Gram) (items:List ItemG) (n:Int):Prop where
 check:Ys g=0
 gram:Yu g
 n1:1≤n
 n16:n≤16
 few:items.length≤16384
 right:∀x∈items,Zo g n x=true
 items:Zr n.toNat g.cats.xs.length items
theorem Ut {g:Gram} {n:Int} {x:ItemG} (h:Zo g n x=true):0≤x.frm∧x.frm<x.unt∧x.unt≤n∧0≤x.cost∧x.cost≤1000 ∧ -1≤x.cat∧(x.cat<g.cats.xs.length∨x.cat = -1)∧1≤x.tgt.xs.length:=by
 unfold Zo at h
 simp only[Bool.and_eq_true,decide_eq_true_eq] at h
 obtain⟨⟨⟨⟨⟨⟨a1,a2⟩,a3⟩,a4⟩,a5⟩,a6⟩,a7⟩:=h
 split at a7
 ·rename_i hc
  simp only[Bool.and_eq_true,decide_eq_true_eq] at a7
  refine⟨a1,a2,a3,by omega,by omega,by omega,.inr hc,a5.1⟩
 ·simp only[Bool.and_eq_true,decide_eq_true_eq] at a7
  refine⟨a1,a2,a3,a7.2.1,a7.2.2,by omega,.inl a7.1.2,a5.1⟩
theorem Vz {g:Gram} {items:List ItemG} {n:Int} (h:errC g items n=0):T3 g items n:=by
 unfold errC at h
 split at h
 ·rename_i h1;exact absurd h h1
 rename_i h1
 split at h
 ·cases h
 rename_i h2
 split at h
 ·cases h
 rename_i h3
 split at h
 ·rename_i h4
  have hc:Ys g=0:=Decidable.not_not.1 h1
  have hg:=Xgs hc
  rw[List.all_eq_true] at h4
  have hst:=hg.start
  refine⟨hc,hg,by omega,by omega,by omega,h4,⟨fun x hx=>?_,fun x hx=>?_,fun x hx=>?_⟩⟩
  ·have:=Ut (h4 x hx);omega
  ·have:=Ut (h4 x hx);omega
  ·have:=Ut (h4 x hx);omega
 ·cases h
/-! ### what is answered -/
def Un:TreeV:=.node 0 0 0 0 []
def Xdl (g:Gram) (items:List ItemG) (n:Int):Option Dv:=Xv (derG g items g.startNo 0 n.toNat)
def bigN:Nat:=1099511627776
def Xqd (g:Gram) (items:List ItemG) (n:Int):Nat:=capN bigN (derG g items g.startNo 0 n.toNat).length
def Zk (g:Gram) (items:List ItemG) (n:Int):TreeV×Int×Bool×Int :=
 if errC g items n≠0 then (Un,0,false,errC g items n) else match Xdl g items n with|none=>(Un,0,false,0)|some x=>(x.2,x.1,true,0)
def Vy (g:Gram) (items:List ItemG) (n:Int):Int×Int :=
 if errC g items n≠0 then (0,errC g items n) else if bigN<Xqd g items n then (0,2) else (Xqd g items n,0)
def Vv (g:Gram) (items:List ItemG) (n:Int) (t:TreeV):Int×Bool×Int :=
 if errC g items n≠0 then (0,false,errC g items n) else if 1024<X5 t then (0,false,2)
 else if (X6 g items t g.startNo).2=false∨t.frm≠0∨t.unt≠n then (0,false,0) else ((X6 g items t g.startNo).1,true,0)
section
variable {g:Gram} {items:List ItemG} {n:Int}
end
end Go.Proofs.YtolpbjjapodmnaaGreatDoor
/- Small lemmas: blocks, new slices, rows that grow. No program in sight. -/
namespace Go.Han
open Go.RowKit
theorem gblk {w:World} {b t:Nat} {cs:Array Value} {fr:Nat×Nat} (h:w.heap[b]? = some (.cells cs t fr)) (j:Nat):w.cell? ⟨b,j,none⟩=cs[j]? := by
 simp[World.cell?,h]
theorem gb2 {w:World} {b t:Nat} {cs:Array Value} {fr:Nat×Nat} (h:w.heap[b]? = some (.cells cs t fr)):w.cell? ⟨b,0,none⟩=cs[0]? ∧ w.cell? ⟨b,1,none⟩=cs[1]? := ⟨gblk h 0,gblk h 1⟩
theorem gb3 {w:World} {b t:Nat} {cs:Array Value} {fr:Nat×Nat} (h:w.heap[b]? = some (.cells cs t fr)):w.cell? ⟨b,0,none⟩=cs[0]? ∧ w.cell? ⟨b,1,none⟩=cs[1]? ∧ w.cell? ⟨b,2,none⟩=cs[2]? := ⟨gblk h 0,gblk h 1,gblk h 2⟩
theorem gb5 {w:World} {b t:Nat} {cs:Array Value} {fr:Nat×Nat} (h:w.heap[b]? = some (.cells cs t fr)):w.cell? ⟨b,0,none⟩=cs[0]? ∧ w.cell? ⟨b,1,none⟩=cs[1]? ∧ w.cell? ⟨b,2,none⟩=cs[2]? ∧ w.cell? ⟨b,3,none⟩=cs[3]? ∧ w.cell? ⟨b,4,none⟩=cs[4]? := ⟨gblk h 0,gblk h 1,gblk h 2,gblk h 3,gblk h 4⟩
theorem gb6 {w:World} {b t:Nat} {cs:Array Value} {fr:Nat×Nat} (h:w.heap[b]? = some (.cells cs t fr)):w.cell? ⟨b,0,none⟩=cs[0]? ∧ w.cell? ⟨b,1,none⟩=cs[1]? ∧ w.cell? ⟨b,2,none⟩=cs[2]? ∧ w.cell? ⟨b,3,none⟩=cs[3]? ∧ w.cell? ⟨b,4,none⟩=cs[4]? ∧ w.cell? ⟨b,5,none⟩=cs[5]? := ⟨gblk h 0,gblk h 1,gblk h 2,gblk h 3,gblk h 4,gblk h 5⟩
theorem gb8 {w:World} {b t:Nat} {cs:Array Value} {fr:Nat×Nat} (h:w.heap[b]? = some (.cells cs t fr)):w.cell? ⟨b,0,none⟩=cs[0]? ∧ w.cell? ⟨b,1,none⟩=cs[1]? ∧ w.cell? ⟨b,2,none⟩=cs[2]? ∧ w.cell? ⟨b,3,none⟩=cs[3]? ∧ w.cell? ⟨b,4,none⟩=cs[4]? ∧ w.cell? ⟨b,5,none⟩=cs[5]? ∧ w.cell? ⟨b,6,none⟩=cs[6]? ∧ w.cell? ⟨b,7,none⟩=cs[7]? := ⟨gblk h 0,gblk h 1,gblk h 2,gblk h 3,gblk h 4,gblk h 5,gblk h 6,gblk h 7⟩
theorem gb9 {w:World} {b t:Nat} {cs:Array Value} {fr:Nat×Nat} (h:w.heap[b]? = some (.cells cs t fr)):w.cell? ⟨b,0,none⟩=cs[0]? ∧ w.cell? ⟨b,1,none⟩=cs[1]? ∧ w.cell? ⟨b,2,none⟩=cs[2]? ∧ w.cell? ⟨b,3,none⟩=cs[3]? ∧ w.cell? ⟨b,4,none⟩=cs[4]? ∧ w.cell? ⟨b,5,none⟩=cs[5]? ∧ w.cell? ⟨b,6,none⟩=cs[6]? ∧ w.cell? ⟨b,7,none⟩=cs[7]? ∧ w.cell? ⟨b,8,none⟩=cs[8]? := ⟨gblk h 0,gblk h 1,gblk h 2,gblk h 3,gblk h 4,gblk h 5,gblk h 6,gblk h 7,gblk h 8⟩
theorem X0 (w:World) (o:Obj) (n:Nat) (h:n=w.heap.size):(w.alloc o).heap[n]? = some o:=by
 subst h;exact World.alloc_heap_new _ _
theorem Yw {w:World} {b t:Nat} {cs:Array Value} {fr:Nat×Nat} {xs:List Value} (h:w.heap[b]? = some (.cells cs t fr)) (hx:cs.toList=xs):Rd w (some ⟨b,0,none⟩) xs:=by
 refine .inr ⟨b,0,rfl,Xc h,fun j u hu=>?_⟩
 rw[Nat.zero_add,gblk h]
 rw[← hx] at hu
 simpa using hu
theorem Xbk (w:World) (cs:List Value) (t:Nat):∀(j:Nat) (u:Value),cs[j]? = some u→(w.alloc (.cells cs.toArray t)).cell? ((⟨w.heap.size,0,none⟩:Addr).add j)=some u:=by
 intro j u hu
 rw[show (⟨w.heap.size,0,none⟩:Addr).add j=⟨w.heap.size,j,none⟩ from by unfold Addr.add;split<;>simp_all,gblk (X0 _ _ _ rfl)]
 simpa using hu
theorem Qc {w w':World} (h:Below w.heap.size w w') (row:Option Nat):w.grownBy w' row:=⟨h.os,h.tape,h.output,h.size,fun i hi _=>h.block i hi⟩
theorem Xdk {w w':World} (h:Below w.heap.size w w') (n:Nat):Below w.heap.size w (w'.drewN n):=⟨h.os,h.tape,h.output,h.size,h.block⟩
end Go.Han
namespace Go.Proofs.YtolpbjjapodmnaaGreatDoor
open Go.RowKit Go.Han
attribute [local irreducible] wpStill wpQuiet
set_option maxRecDepth 100000
theorem Xhg {a b:Nat} (ha:0<a) (h:bigN / a<b):Zj bigN a b=bigN+1:=by unfold Zj;rw[if_pos ⟨ha,h⟩]
theorem Xax {a b:Nat} (h:¬(0<a∧bigN / a<b)):Zj bigN a b=a*b:=by unfold Zj;rw[if_neg h]
theorem Xfw {a b:Nat} (h:¬(0<a∧bigN / a<b)):a*b≤bigN:=by
 rcases Nat.eq_zero_or_pos a with rfl|ha
 ·rw[Nat.zero_mul];exact Nat.zero_le _
 ·have h1:b≤bigN / a:=Nat.le_of_not_lt fun h2=>h ⟨ha,h2⟩
  have h2:=Nat.mul_le_mul_left a h1
  exact Nat.le_trans h2 (Nat.mul_div_le _ _)
theorem Xep:(bigN:Int)+1<9223372036854775807:=by decide
theorem Xef (a:Nat):(1099511627776:Int).tdiv (a:Int)=(bigN:Int) / (a:Int):=rfl
theorem Xi5 {a b:Nat} (h:a*b≤bigN):IntKind.i64.wrap ((a:Int)*(b:Int))=((a*b:Nat):Int):=by
 have h1:=Xep
 have h2:((a*b:Nat):Int)≤(bigN:Int):=by exact_mod_cast h
 have h3:(0:Int)≤((a*b:Nat):Int):=Int.natCast_nonneg _
 have e:(a:Int)*(b:Int)=((a*b:Nat):Int):=(Int.natCast_mul a b).symm
 rw[e]
 generalize ((a*b:Nat):Int)=x at *
 generalize (bigN:Int)=y at *
 rw[IntWalk.i64_in _ (by omega)]
theorem Xci (a:Nat):IntKind.i64.wrap ((bigN:Int) / (a:Int))=((bigN / a:Nat):Int):=by
 have h1:=Xep
 have h2:((bigN / a:Nat):Int)≤(bigN:Int):=by exact_mod_cast Nat.div_le_self bigN a
 have h3:(0:Int)≤((bigN / a:Nat):Int):=Int.natCast_nonneg _
 have e:(bigN:Int) / (a:Int)=((bigN / a:Nat):Int):=(Int.natCast_ediv bigN a).symm
 rw[e]
 generalize ((bigN / a:Nat):Int)=x at *
 generalize (bigN:Int)=y at *
 rw[IntWalk.i64_in _ (by omega)]
theorem Xom (a b:Nat) (w:World):Calls Tryz.prog 181 #[.int .i64 (a:Int),.int .i64 (b:Int)] w fun e w'=>e = .returned (.int .i64 (Zj bigN a b:Nat))∧w=w':=by
 rcases Nat.eq_zero_or_pos a with rfl|ha
 ·have HE:Hid (Zj bigN 0 b=0):=by show _=_;rw[Xax (by omega),Nat.zero_mul]
  go_enter Tryz.func181,Tryz.ntmps181
  go_wp2_with fail
  go_ret
  exact⟨by rw[HE.out];simp,rfl⟩
 ·have g1:decide ((0:Int)<(a:Int))=true:=decide_eq_true (by omega)
  have g0:0<a:=ha
  by_cases h:bigN / a<b
  ·have HE:=Xa (Xhg ha h)
   have g2:decide (bigN / a<b)=true:=decide_eq_true h
   have hq:=Xef a
   have hw:=Xci a
   have ha2:(a:Int)≠0:=by omega
   generalize bigN / a=q at *
   generalize (bigN:Int)=y at *
   go_enter Tryz.func181,Tryz.ntmps181
   go_wp2_with fail
   go_ret
   exact⟨by rw[HE.out];rfl,rfl⟩
  ·have HE:=Xa (Xax (a:=a) (b:=b) fun h2=>h h2.2)
   have g2:decide (bigN / a<b)=false:=decide_eq_false h
   have hq:=Xef a
   have hw:=Xci a
   have hm:=Xi5 (Xfw (a:=a) (b:=b) fun h2=>h h2.2)
   have ha2:(a:Int)≠0:=by omega
   generalize bigN / a=q at *
   generalize (bigN:Int)=y at *
   go_enter Tryz.func181,Tryz.ntmps181
   go_wp2_with fail
   go_ret
   exact⟨by rw[HE.out];first|rfl|(simp;done),rfl⟩
theorem Xif (a:Nat):((capN bigN a:Nat):Int)=min (a:Int) 1099511627777:=by unfold capN bigN;omega
end Go.Proofs.YtolpbjjapodmnaaGreatDoor
namespace Go.Proofs.YtolpbjjapodmnaaGreatDoor
open Go.RowKit Go.Han
set_option maxRecDepth 100000
def InP (P:Nat→Prop) (A:Option Addr) (n:Nat):Prop:=0<n→∃b off,A=some ⟨b,off,none⟩∧P b
mutual
def TreeAt (w:World) (P:Nat→Prop):TreeV→List Value→Prop
 | .node r j i k l,cs=>∃A cap css,cs=[.int .i64 r,.int .i64 j,.int .i64 i,.int .i64 k,.slice A l.length cap]∧l.length≤cap∧cap≤9223372036854775807∧(A=none→l=[])∧InP P A l.length∧Rd w A css.flatten∧KidsAt w P l css
def KidsAt (w:World) (P:Nat→Prop):List TreeV→List (List Value)→Prop
 | [],css=>css=[]
 | t :: l,css=>∃cs css',css=cs :: css'∧TreeAt w P t cs∧KidsAt w P l css'
end
theorem Xrq {w w':World} {P:Nat→Prop} (hk:∀b,P b→b<w.heap.size→w'.heap[b]? = w.heap[b]?) (hs:w.heap.size≤w'.heap.size) {A:Option Addr} {n:Nat} {xs:List Value} (hP:InP P A n) (h0:n=0→xs=[]) (h:Rd w A xs):Rd w' A xs:=by
 rcases h with h|⟨b,off,rfl,hb,hc⟩
 ·exact .inl h
 ·rcases Nat.eq_zero_or_pos n with hn|hn
  ·exact .inl (h0 hn)
  ·obtain⟨b',off',e,hp⟩:=hP hn
   cases e
   exact .inr ⟨b,off,rfl,Nat.lt_of_lt_of_le hb hs,fun j u hu=>(World.cell?_of_block (w:=w) (hk b hp hb)).trans (hc j u hu)⟩
theorem Xbo {w:World} {P:Nat→Prop}:∀ {l:List TreeV} {css:List (List Value)},KidsAt w P l css→css.length=l.length
 | [],css,h=>by unfold KidsAt at h;rw[h];rfl
 | t :: l,css,h=>by
  unfold KidsAt at h
  obtain⟨cs,css',rfl,_,h⟩:=h
  rw[List.length_cons,List.length_cons,Xbo h]
theorem Xbv {w:World} {P:Nat→Prop} {t:TreeV} {cs:List Value} (h:TreeAt w P t cs):cs.length=5:=by
 cases t
 unfold TreeAt at h
 obtain⟨A,cap,css,rfl,_⟩:=h
 rfl
theorem Xit {w:World} {P:Nat→Prop} {l:List TreeV} {css:List (List Value)} (h:KidsAt w P l css) (h0:l.length=0):css.flatten=[]:=by
 have:=Xbo h
 have:css=[]:=List.eq_nil_of_length_eq_zero (by omega)
 rw[this];rfl
mutual
theorem TreeAt.keep {w w':World} {P P':Nat→Prop} (hk:∀b,P b→b<w.heap.size→w'.heap[b]? = w.heap[b]?) (hs:w.heap.size≤w'.heap.size) (hP:∀b,P b→P' b):∀ {t:TreeV} {cs:List Value},TreeAt w P t cs→TreeAt w' P' t cs
 | .node r j i k l,cs,h=>by
  unfold TreeAt at h ⊢
  obtain⟨A,cap,css,h1,h2,h3,h4,h5,h6,h7⟩:=h
  refine⟨A,cap,css,h1,h2,h3,h4,fun hn=>?_,Xrq hk hs h5 (fun h0=>Xit h7 h0) h6,KidsAt.keep hk hs hP h7⟩
  obtain⟨b,off,e,hp⟩:=h5 hn
  exact⟨b,off,e,hP b hp⟩
theorem KidsAt.keep {w w':World} {P P':Nat→Prop} (hk:∀b,P b→b<w.heap.size→w'.heap[b]? = w.heap[b]?) (hs:w.heap.size≤w'.heap.size) (hP:∀b,P b→P' b):∀ {l:List TreeV} {css:List (List Value)},KidsAt w P l css→KidsAt w' P' l css
 | [],css,h=>by unfold KidsAt at h ⊢;exact h
 | t :: l,css,h=>by
  unfold KidsAt at h ⊢
  obtain⟨cs,css',rfl,h1,h2⟩:=h
  exact⟨cs,css',rfl,TreeAt.keep hk hs hP h1,KidsAt.keep hk hs hP h2⟩
end
theorem TreeAt.ext {w w':World} {P:Nat→Prop} {t:TreeV} {cs:List Value} (h:TreeAt w P t cs) (hb:Below w.heap.size w w'):TreeAt w' P t cs:=h.keep (fun b _ hlt=>hb.block b hlt) hb.size fun _ h=>h
theorem KidsAt.snoc {w:World} {P:Nat→Prop} {t:TreeV} {cs:List Value} (ht:TreeAt w P t cs):∀ {l:List TreeV} {css:List (List Value)},KidsAt w P l css→KidsAt w P (l++[t]) (css++[cs])
 | [],css,h=>by
  unfold KidsAt at h
  rw[h]
  exact⟨cs,[],rfl,ht,rfl⟩
 | x :: l,css,h=>by
  unfold KidsAt at h
  obtain⟨c,css',rfl,h1,h2⟩:=h
  exact⟨c,css'++[cs],rfl,h1,KidsAt.snoc ht h2⟩
theorem KidsAt.get {w:World} {P:Nat→Prop}:∀ {l:List TreeV} {css:List (List Value)},KidsAt w P l css→∀(n:Nat) (hn:n<l.length),∃hc:n<css.length,TreeAt w P l[n] css[n]
 | [],css,h,n,hn=>by simp at hn
 | x :: l,css,h,n,hn=>by
  unfold KidsAt at h
  obtain⟨c,css',rfl,h1,h2⟩:=h
  cases n with
  | zero=>exact⟨by simp,h1⟩
  | succ n =>
   obtain⟨hc,h3⟩:=KidsAt.get h2 n (by simpa using hn)
   exact⟨by simpa using hc,h3⟩
theorem Xdu {w:World} {P:Nat→Prop}:∀ {l:List TreeV} {css:List (List Value)},KidsAt w P l css→css.flatten.length=l.length*5
 | [],css,h=>by unfold KidsAt at h;rw[h];rfl
 | x :: l,css,h=>by
  unfold KidsAt at h
  obtain⟨c,css',rfl,h1,h2⟩:=h
  rw[List.flatten_cons,List.length_append,Xbv h1,Xdu h2,List.length_cons];omega
theorem Xe6:∀ {css:List (List Value)} {n:Nat} (hn:n<css.length),(∀c∈css,c.length=5)→∀(j:Nat) (u:Value),css[n][j]? = some u→css.flatten[n*5+j]? = some u
 | [],n,hn,_,_,_,_=>by simp at hn
 | c :: css,0,hn,h5,j,u,hu=>by
  rw[List.flatten_cons,Nat.zero_mul,Nat.zero_add]
  rw[List.getElem?_append_left (by have:=(List.getElem?_eq_some_iff.1 hu).1;simpa using this)]
  simpa using hu
 | c :: css,n+1,hn,h5,j,u,hu=>by
  rw[List.flatten_cons,List.getElem?_append_right (by rw[h5 c (List.mem_cons_self ..)];omega),h5 c (List.mem_cons_self ..)]
  rw[show (n+1)*5+j-5=n*5+j by omega]
  exact Xe6 (by simpa using hn) (fun d hd=>h5 d (List.mem_cons_of_mem _ hd)) j u (by simpa using hu)
theorem Xdt {w:World} {P:Nat→Prop}:∀ {l:List TreeV} {css:List (List Value)},KidsAt w P l css→∀c∈css,c.length=5
 | [],css,h,c,hc=>by unfold KidsAt at h;rw[h] at hc;cases hc
 | x :: l,css,h,c,hc=>by
  unfold KidsAt at h
  obtain⟨c',css',rfl,h1,h2⟩:=h
  rcases List.mem_cons.1 hc with rfl|hc
  ·exact Xbv h1
  ·exact Xdt h2 c hc
theorem Uz {w:World} {P:Nat→Prop} {l:List TreeV} {css:List (List Value)} {A:Option Addr} (hr:Rd w A css.flatten) (h:KidsAt w P l css) {n:Nat} (hn:n<l.length) :
  ∃b off B cap,A=some ⟨b,off,none⟩∧b<w.heap.size∧TreeAt w P l[n] [.int .i64 l[n].rule,.int .i64 l[n].item,.int .i64 l[n].frm,.int .i64 l[n].unt,.slice B l[n].kids.length cap] ∧
   w.cell? ⟨b,off+n*5,none⟩=some (.int .i64 l[n].rule)∧w.cell? ⟨b,off+n*5+1,none⟩=some (.int .i64 l[n].item)∧w.cell? ⟨b,off+n*5+2,none⟩=some (.int .i64 l[n].frm)∧w.cell? ⟨b,off+n*5+3,none⟩=some (.int .i64 l[n].unt)∧w.cell? ⟨b,off+n*5+4,none⟩=some (.slice B l[n].kids.length cap):=by
 obtain⟨hc,ht⟩:=h.get n hn
 have h5:=Xdt h
 have hcs:∃B cap,css[n]=[.int .i64 l[n].rule,.int .i64 l[n].item,.int .i64 l[n].frm,.int .i64 l[n].unt,.slice B l[n].kids.length cap]:=by
  generalize l[n]=t at ht
  cases t
  unfold TreeAt at ht
  obtain⟨B,cap,_,e,_⟩:=ht
  exact⟨B,cap,e⟩
 obtain⟨B,cap,e⟩:=hcs
 rw[e] at ht
 have hne:css.flatten≠[]:=by
  intro h0
  have:=Xdu h
  rw[h0] at this
  simp at this
  omega
 rcases hr with h0|⟨b,off,rfl,hb,hcl⟩
 ·exact absurd h0 hne
 ·have key:∀(j:Nat) (u:Value),css[n][j]? = some u→w.cell? ⟨b,off+n*5+j,none⟩=some u:=fun j u hu=>by
   rw[Nat.add_assoc]
   exact hcl _ u (Xe6 hc h5 j u hu)
  rw[e] at key
  exact⟨b,off,B,cap,rfl,hb,ht,key 0 _ rfl,key 1 _ rfl,key 2 _ rfl,key 3 _ rfl,key 4 _ rfl⟩
end Go.Proofs.YtolpbjjapodmnaaGreatDoor
/- A table: rows of numbers, each in a block of its own, and a block of their slices. No program in sight. -/
namespace Go.Han
open Go.RowKit
theorem Xr {w:World} {b t:Nat} {cs:Array Value} (h:w.heap[b]? = some (.cells cs t (0,0))) (o:Nat) (u:Value):(w.setCell ⟨b,o,none⟩ u).heap[b]? = some (.cells (cs.setIfInBounds o u) t (0,0)):=by
 simp[World.setCell,Array.getElem?_modify,h]
structure Grid (W:World) (H la lb:Nat) (M:Nat→Prop) (rb:Nat→Nat) (f:Nat→Nat→Nat):Prop where
 hd:∃(cs:Array Value) (T:Nat),W.heap[H]? = some (.cells cs T (0,0))∧cs.size=la+1∧∀i,M i→cs[i]? = some (.slice (some ⟨rb i,0,none⟩) (lb+1) (lb+1))
 row:∀i,M i→∃(cs:Array Value) (T:Nat),W.heap[rb i]? = some (.cells cs T (0,0))∧cs.size=lb+1∧∀k,k≤lb→cs[k]? = some (.int .i64 (f i k:Nat))
 inj:∀i j,M i→M j→rb i=rb j→i=j
 ne:∀i,M i→rb i≠H
namespace Grid
variable {W:World} {H la lb:Nat} {M:Nat→Prop} {rb:Nat→Nat} {f:Nat→Nat→Nat}
def own (H:Nat) (M:Nat→Prop) (rb:Nat→Nat) (k:Nat):Prop:=k=H∨∃i,M i∧k=rb i
theorem lt (h:Grid W H la lb M rb f):H<W.heap.size:=by
 obtain⟨cs,T,h1,_⟩:=h.hd
 exact Xc h1
theorem rlt (h:Grid W H la lb M rb f) {i:Nat} (hi:M i):rb i<W.heap.size:=by
 obtain⟨cs,T,h1,_⟩:=h.row i hi
 exact Xc h1
theorem olt (h:Grid W H la lb M rb f) {k:Nat} (hk:own H M rb k):k<W.heap.size:=by
 rcases hk with rfl|⟨i,hi,rfl⟩
 ·exact h.lt
 ·exact h.rlt hi
theorem of_blocks {W':World} (h:Grid W H la lb M rb f) (hb:∀k,own H M rb k→W'.heap[k]? = W.heap[k]?):Grid W' H la lb M rb f:=by
 refine⟨?_,fun i hi=>?_,h.inj,h.ne⟩
 ·obtain⟨cs,T,h1,h2⟩:=h.hd
  exact⟨cs,T,(hb _ (.inl rfl)).trans h1,h2⟩
 ·obtain⟨cs,T,h1,h2⟩:=h.row i hi
  exact⟨cs,T,(hb _ (.inr ⟨i,hi,rfl⟩)).trans h1,h2⟩
theorem ext {W':World} (h:Grid W H la lb M rb f) (hb:Below W.heap.size W W'):Grid W' H la lb M rb f :=
 h.of_blocks fun k hk=>hb.block k (h.olt hk)
theorem cell (h:Grid W H la lb M rb f) {i k:Nat} (hi:M i) (hk:k≤lb):W.cell? ⟨rb i,k,none⟩=some (.int .i64 (f i k:Nat)):=by
 obtain⟨cs,T,h1,_,h2⟩:=h.row i hi
 rw[gblk h1];exact h2 k hk
theorem free (h:Grid W H la lb M rb f) {i:Nat} (hi:M i) (k:Nat):W.frozen? ⟨rb i,k,none⟩=false:=by
 obtain⟨cs,T,h1,_⟩:=h.row i hi
 exact Xf h1 k
def upd (f:Nat→Nat→Nat) (i k v:Nat):Nat→Nat→Nat:=fun j m=>if j=i∧m=k then v else f j m
theorem Xq1 (f:Nat→Nat→Nat) (i k v:Nat):upd f i k v i k=v:=by unfold upd;rw[if_pos ⟨rfl,rfl⟩]
theorem Xhj {f:Nat→Nat→Nat} {i k v j m:Nat} (h:¬(j=i∧m=k)):upd f i k v j m=f j m:=by unfold upd;rw[if_neg h]
theorem store (h:Grid W H la lb M rb f) {i k:Nat} (hi:M i) (hk:k≤lb) (v:Nat):Grid (W.setCell ⟨rb i,k,none⟩ (.int .i64 (v:Nat))) H la lb M rb (upd f i k v):=by
 refine⟨?_,fun j hj=>?_,h.inj,h.ne⟩
 ·obtain⟨cs,T,h1,h2⟩:=h.hd
  exact⟨cs,T,(Below.heap_setCell _ _ _ _ (Ne.symm (h.ne i hi))).trans h1,h2⟩
 ·obtain⟨cs,T,h1,h2,h3⟩:=h.row j hj
  by_cases hji:j=i
  ·subst hji
   refine⟨_,T,Xr h1 k _,by simpa using h2,fun m hm=>?_⟩
   by_cases hmk:m=k
   ·subst hmk
    rw[Xq1]
    exact Array.getElem?_setIfInBounds_self_of_lt (by omega)
   ·rw[Xhj (by rintro⟨_,h⟩;exact hmk h)]
    rw[Array.getElem?_setIfInBounds_ne (Ne.symm hmk)]
    exact h3 m hm
  ·refine⟨cs,T,(Below.heap_setCell _ _ _ _ (fun e=>hji (h.inj _ _ hj hi e))).trans h1,h2,fun m hm=>?_⟩
   rw[Xhj (by rintro⟨h,_⟩;exact hji h)]
   exact h3 m hm
theorem add (h:Grid W H la lb M rb f) {i r T z:Nat} (hi:i≤la) (hM:¬M i) (hr:W.heap[r]? = some (.cells (Array.replicate (lb+1) (.int .i64 (z:Nat))) T (0,0))) (hnr:∀k,own H M rb k→k≠r) :
  Grid (W.setCell ⟨H,i,none⟩ (.slice (some ⟨r,0,none⟩) (lb+1) (lb+1))) H la lb (fun j=>j=i∨M j) (fun j=>if j=i then r else rb j) (fun j k=>if j=i then z else f j k):=by
 refine⟨?_,?_,?_,?_⟩
 ·obtain⟨cs,T',h1,h2,h3⟩:=h.hd
  refine⟨_,T',Xr h1 i _,by simpa using h2,fun j hj=>?_⟩
  by_cases hji:j=i
  ·subst hji
   rw[if_pos rfl]
   exact Array.getElem?_setIfInBounds_self_of_lt (by omega)
  ·simp only[if_neg hji]
   rw[Array.getElem?_setIfInBounds_ne (Ne.symm hji)]
   exact h3 j (hj.resolve_left hji)
 ·intro j hj
  by_cases hji:j=i
  ·subst hji
   simp only[if_true]
   refine⟨_,T,(Below.heap_setCell _ _ _ _ (fun e=>hnr H (.inl rfl) e.symm)).trans hr,by simp,fun k hk=>?_⟩
   simp[Array.getElem?_replicate];omega
  ·simp only[if_neg hji]
   obtain⟨cs,T',h1,h2⟩:=h.row j (hj.resolve_left hji)
   exact⟨cs,T',(Below.heap_setCell _ _ _ _ (h.ne j (hj.resolve_left hji))).trans h1,h2⟩
 ·intro j k hj hk e
  by_cases hji:j=i<;>by_cases hki:k=i
  ·rw[hji,hki]
  ·subst hji
   simp only[if_true,if_neg hki] at e
   exact absurd e.symm (hnr _ (.inr ⟨k,hk.resolve_left hki,rfl⟩))
  ·subst hki
   simp only[if_true,if_neg hji] at e
   exact absurd e (hnr _ (.inr ⟨j,hj.resolve_left hji,rfl⟩))
  ·simp only[if_neg hji,if_neg hki] at e
   exact h.inj j k (hj.resolve_left hji) (hk.resolve_left hki) e
 ·intro j hj
  by_cases hji:j=i
  ·subst hji
   simp only[if_true]
   exact fun e=>hnr H (.inl rfl) e.symm
  ·simp only[if_neg hji]
   exact h.ne j (hj.resolve_left hji)
end Grid
end Go.Han
namespace Go.Proofs.YtolpbjjapodmnaaGreatDoor
open Go.RowKit Go.Han
attribute [local irreducible] wpStill wpQuiet
set_option maxRecDepth 100000
structure KidS where
 addr:Option Addr
 len:Nat
 cap:Nat
structure FoundG where
 ok:Bool
 cost:Int
 rule:Int
 item:Int
 frm:Int
 unt:Int
 kids:KidS
 many:Int
structure TreeG where
 rule:Int
 item:Int
 frm:Int
 unt:Int
 kids:KidS
def Xdy (f:FoundG) (cost:Int) (many:Int) (t:TreeG):FoundG :=
 if f.ok=false∨cost<f.cost then ⟨true,cost,t.rule,t.item,t.frm,t.unt,t.kids,min (f.many+many) 1099511627777⟩ else ⟨f.ok,f.cost,f.rule,f.item,f.frm,f.unt,f.kids,min (f.many+many) 1099511627777⟩
def Xb2 (fb:Nat) (f':FoundG) (w:World) (e:Ending) (w':World):Prop :=
 e = .returned (.tuple #[])∧w'.heap[fb]? = some (.cells #[.bool f'.ok,.int .i64 f'.cost,.int .i64 f'.rule,.int .i64 f'.item,.int .i64 f'.frm,.int .i64 f'.unt,.slice f'.kids.addr f'.kids.len f'.kids.cap,.int .i64 f'.many] 114 (0,0))∧Only (fun j=>j=fb) w w'
theorem Xne {V:World} {fb:Nat} {f:FoundG} (h:V.heap[fb]? = some (.cells #[.bool f.ok,.int .i64 f.cost,.int .i64 f.rule,.int .i64 f.item,.int .i64 f.frm,.int .i64 f.unt,.slice f.kids.addr f.kids.len f.kids.cap,.int .i64 f.many] 114 (0,0))) (cost:Int) (t:TreeG) :
  (((((((V.setCell ⟨fb,0,none⟩ (.bool true)).setCell ⟨fb,1,none⟩ (.int .i64 cost)).setCell ⟨fb,2,none⟩ (.int .i64 t.rule)).setCell ⟨fb,3,none⟩ (.int .i64 t.item)).setCell ⟨fb,4,none⟩ (.int .i64 t.frm)).setCell ⟨fb,5,none⟩ (.int .i64 t.unt)).setCell ⟨fb,6,none⟩ (.slice t.kids.addr t.kids.len t.kids.cap)).heap[fb]? =
   some (.cells #[.bool true,.int .i64 cost,.int .i64 t.rule,.int .i64 t.item,.int .i64 t.frm,.int .i64 t.unt,.slice t.kids.addr t.kids.len t.kids.cap,.int .i64 f.many] 114 (0,0)):=by
 have h0:(V.setCell ⟨fb,0,none⟩ (.bool true)).heap[fb]? = some (.cells #[.bool true,.int .i64 f.cost,.int .i64 f.rule,.int .i64 f.item,.int .i64 f.frm,.int .i64 f.unt,.slice f.kids.addr f.kids.len f.kids.cap,.int .i64 f.many] 114 (0,0)):=Xr h 0 _
 have h1:((V.setCell ⟨fb,0,none⟩ (.bool true)).setCell ⟨fb,1,none⟩ (.int .i64 cost)).heap[fb]? = some (.cells #[.bool true,.int .i64 cost,.int .i64 f.rule,.int .i64 f.item,.int .i64 f.frm,.int .i64 f.unt,.slice f.kids.addr f.kids.len f.kids.cap,.int .i64 f.many] 114 (0,0)):=Xr h0 1 _
 have h2:(((V.setCell ⟨fb,0,none⟩ (.bool true)).setCell ⟨fb,1,none⟩ (.int .i64 cost)).setCell ⟨fb,2,none⟩ (.int .i64 t.rule)).heap[fb]? = some (.cells #[.bool true,.int .i64 cost,.int .i64 t.rule,.int .i64 f.item,.int .i64 f.frm,.int .i64 f.unt,.slice f.kids.addr f.kids.len f.kids.cap,.int .i64 f.many] 114 (0,0)):=Xr h1 2 _
 have h3:((((V.setCell ⟨fb,0,none⟩ (.bool true)).setCell ⟨fb,1,none⟩ (.int .i64 cost)).setCell ⟨fb,2,none⟩ (.int .i64 t.rule)).setCell ⟨fb,3,none⟩ (.int .i64 t.item)).heap[fb]? = some (.cells #[.bool true,.int .i64 cost,.int .i64 t.rule,.int .i64 t.item,.int .i64 f.frm,.int .i64 f.unt,.slice f.kids.addr f.kids.len f.kids.cap,.int .i64 f.many] 114 (0,0)):=Xr h2 3 _
 have h4:(((((V.setCell ⟨fb,0,none⟩ (.bool true)).setCell ⟨fb,1,none⟩ (.int .i64 cost)).setCell ⟨fb,2,none⟩ (.int .i64 t.rule)).setCell ⟨fb,3,none⟩ (.int .i64 t.item)).setCell ⟨fb,4,none⟩ (.int .i64 t.frm)).heap[fb]? = some (.cells #[.bool true,.int .i64 cost,.int .i64 t.rule,.int .i64 t.item,.int .i64 t.frm,.int .i64 f.unt,.slice f.kids.addr f.kids.len f.kids.cap,.int .i64 f.many] 114 (0,0)):=Xr h3 4 _
 have h5:((((((V.setCell ⟨fb,0,none⟩ (.bool true)).setCell ⟨fb,1,none⟩ (.int .i64 cost)).setCell ⟨fb,2,none⟩ (.int .i64 t.rule)).setCell ⟨fb,3,none⟩ (.int .i64 t.item)).setCell ⟨fb,4,none⟩ (.int .i64 t.frm)).setCell ⟨fb,5,none⟩ (.int .i64 t.unt)).heap[fb]? = some (.cells #[.bool true,.int .i64 cost,.int .i64 t.rule,.int .i64 t.item,.int .i64 t.frm,.int .i64 t.unt,.slice f.kids.addr f.kids.len f.kids.cap,.int .i64 f.many] 114 (0,0)):=Xr h4 5 _
 have h6:(((((((V.setCell ⟨fb,0,none⟩ (.bool true)).setCell ⟨fb,1,none⟩ (.int .i64 cost)).setCell ⟨fb,2,none⟩ (.int .i64 t.rule)).setCell ⟨fb,3,none⟩ (.int .i64 t.item)).setCell ⟨fb,4,none⟩ (.int .i64 t.frm)).setCell ⟨fb,5,none⟩ (.int .i64 t.unt)).setCell ⟨fb,6,none⟩ (.slice t.kids.addr t.kids.len t.kids.cap)).heap[fb]? = some (.cells #[.bool true,.int .i64 cost,.int .i64 t.rule,.int .i64 t.item,.int .i64 t.frm,.int .i64 t.unt,.slice t.kids.addr t.kids.len t.kids.cap,.int .i64 f.many] 114 (0,0)):=Xr h5 6 _
 exact h6
set_option maxHeartbeats 2000000 in
theorem Xjx (fb:Nat) (f:FoundG) (cost many:Int) (g:Nat) (lb:Array Value) (t:TreeG) (w:World) (hf:w.heap[fb]? = some (.cells #[.bool f.ok,.int .i64 f.cost,.int .i64 f.rule,.int .i64 f.item,.int .i64 f.frm,.int .i64 f.unt,.slice f.kids.addr f.kids.len f.kids.cap,.int .i64 f.many] 114 (0,0))) (eg:∀args w,(callFunc g args).run Tryz.prog w = .ok (.enter g args) w)
  (hg:∀W,Only (fun j=>j=fb) w W→Calls Tryz.prog g lb W fun e w'=>e = .returned (.agg #[.int .i64 t.rule,.int .i64 t.item,.int .i64 t.frm,.int .i64 t.unt,.slice t.kids.addr t.kids.len t.kids.cap])∧Below W.heap.size W w')
  (h1:IntKind.i64.wrap (f.many+many)=f.many+many) :
  Calls Tryz.prog 178 #[.pointer (some ⟨fb,0,none⟩),.int .i64 cost,.int .i64 many,.func (.func g) #[] lb] w (Xb2 fb (Xdy f cost many t) w):=by
 have hlt:=Xc hf
 have Hf:=Xa hf
 obtain⟨a0,a1,a2,a3,a4,a5,a6,a7⟩:=gb8 hf
 have hz:=Xf hf 7
 obtain⟨m',hm'⟩:∃m',min (f.many+many) 1099511627777=m':=⟨_,rfl⟩
 have hO:Only (fun j=>j=fb) w (w.setCell ⟨fb,7,none⟩ (.int .i64 m')):=Only.setCell (M:=fun j=>j=fb) (Only.refl _ _) (p:=⟨fb,7,none⟩) (.inl rfl) _
 have hfm:(w.setCell ⟨fb,7,none⟩ (.int .i64 m')).heap[fb]? = some (.cells #[.bool f.ok,.int .i64 f.cost,.int .i64 f.rule,.int .i64 f.item,.int .i64 f.frm,.int .i64 f.unt,.slice f.kids.addr f.kids.len f.kids.cap,.int .i64 m'] 114 (0,0)):=Xr hf 7 _
 have HT:Hid (Xdy f cost many t=if f.ok=false∨cost<f.cost then ⟨true,cost,t.rule,t.item,t.frm,t.unt,t.kids,m'⟩ else ⟨f.ok,f.cost,f.rule,f.item,f.frm,f.unt,f.kids,m'⟩):=by rw[← hm'];rfl
 have Hfm:=Xa hfm
 have HO:=Xa hO
 have Hg:=Xa (hg _ hO)
 have fin:∀V,Below (w.setCell ⟨fb,7,none⟩ (.int .i64 m')).heap.size (w.setCell ⟨fb,7,none⟩ (.int .i64 m')) V→V.heap[fb]? = some (.cells #[.bool f.ok,.int .i64 f.cost,.int .i64 f.rule,.int .i64 f.item,.int .i64 f.frm,.int .i64 f.unt,.slice f.kids.addr f.kids.len f.kids.cap,.int .i64 m'] 114 (0,0)):=fun V hV=>Xh hV hfm
 have Hfin:=Xa fin
 clear hg hf hfm hO fin
 obtain⟨W1,hW1⟩:∃W1,w.setCell ⟨fb,7,none⟩ (.int .i64 m')=W1:=⟨_,rfl⟩
 rw[hW1] at Hfm HO Hg Hfin
 have hfm:=Hfm.out
 obtain⟨b0,b1,b2,b3,b4,b5,b6,b7⟩:=gb8 hfm
 have go:(f.ok=false∨cost<f.cost)→∀V,Below W1.heap.size W1 V→Xb2 fb (Xdy f cost many t) w (.returned (.tuple #[])) (((((((V.setCell ⟨fb,0,none⟩ (.bool true)).setCell ⟨fb,1,none⟩ (.int .i64 cost)).setCell ⟨fb,2,none⟩ (.int .i64 t.rule)).setCell ⟨fb,3,none⟩ (.int .i64 t.item)).setCell ⟨fb,4,none⟩ (.int .i64 t.frm)).setCell ⟨fb,5,none⟩ (.int .i64 t.unt)).setCell ⟨fb,6,none⟩ (.slice t.kids.addr t.kids.len t.kids.cap)):=fun hc V hV=>by
  rw[HT.out,if_pos hc]
  exact⟨rfl,Xne (f:=⟨f.ok,f.cost,f.rule,f.item,f.frm,f.unt,f.kids,m'⟩) (Hfin.out V hV) cost t,(((((((HO.out.ext hV).setCell (p:=⟨fb,0,none⟩) (.inl rfl) _).setCell (p:=⟨fb,1,none⟩) (.inl rfl) _).setCell (p:=⟨fb,2,none⟩) (.inl rfl) _).setCell (p:=⟨fb,3,none⟩) (.inl rfl) _).setCell (p:=⟨fb,4,none⟩) (.inl rfl) _).setCell (p:=⟨fb,5,none⟩) (.inl rfl) _).setCell (p:=⟨fb,6,none⟩) (.inl rfl) _⟩
 have Go:=Xa go
 clear go hfm
 cases hok:f.ok
 ·have hc:=Xa (Go.out (.inl hok))
  rw[hok] at a0 b0 Hfin
  clear Go hok
  go_enter Tryz.func178,Tryz.ntmps178
  go_wp2_with fail
  refine Hg.out.mono ?_
  rintro e V ⟨rfl,hV⟩
  have hfV:=Hfin.out V hV
  obtain⟨c0,c1,c2,c3,c4,c5,c6,c7⟩:=gb8 hfV
  have hltV:=Xc hfV
  have hzV:=fun i=>Xf hfV i
  have hfin:=Xa (hc.out V hV)
  clear hfV Hg Hfin hc hV
  go_wp2_with fail
  exact bodyPost_ret (results_none rfl _ _ _) rfl hfin.out
 ·rw[hok] at a0 b0 Hfin
  by_cases hlc:cost<f.cost
  ·have hc:=Xa (Go.out (.inr hlc))
   have g1:decide (cost<f.cost)=true:=decide_eq_true hlc
   clear Go hok hlc
   go_enter Tryz.func178,Tryz.ntmps178
   go_wp2_with fail
   refine Hg.out.mono ?_
   rintro e V ⟨rfl,hV⟩
   have hfV:=Hfin.out V hV
   obtain⟨c0,c1,c2,c3,c4,c5,c6,c7⟩:=gb8 hfV
   have hltV:=Xc hfV
   have hzV:=fun i=>Xf hfV i
   have hfin:=Xa (hc.out V hV)
   clear hfV Hg Hfin hc hV
   go_wp2_with fail
   exact bodyPost_ret (results_none rfl _ _ _) rfl hfin.out
  ·have g1:decide (cost<f.cost)=false:=decide_eq_false hlc
   have hfin:Xb2 fb (Xdy f cost many t) w (.returned (.tuple #[])) W1:=by
    rw[HT.out,if_neg (by rw[hok];rintro(h|h);cases h;exact hlc h)]
    exact⟨rfl,Hfm.out,HO.out⟩
   have HF:=Xa hfin
   clear Go hok hlc hfin
   go_enter Tryz.func178,Tryz.ntmps178
   go_wp2_with fail
   exact bodyPost_ret (results_none rfl _ _ _) rfl HF.out
end Go.Proofs.YtolpbjjapodmnaaGreatDoor
