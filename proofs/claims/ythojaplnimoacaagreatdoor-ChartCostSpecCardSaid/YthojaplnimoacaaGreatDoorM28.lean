/- Texts of this claim, one after the other: OrdP, R29i, R29j, R29k, R29l. -/
import Derived.Test.YthojaplnimoacaaGreatDoorM13
import Derived.Test.YthojaplnimoacaaGreatDoorM10
import Derived.Test.YthojaplnimoacaaGreatDoorM15
import Derived.Test.YthojaplnimoacaaGreatDoorM17
import Derived.Test.YthojaplnimoacaaGreatDoorM22
namespace Go.Proofs.YthojaplnimoacaaGreatDoor
open Go.RowKit Go.Han
set_option maxRecDepth 100000
def Xt7:List Value→Nat→List Value→List Value
 | xs,_,[]=>xs
 | xs,j,c :: cs=>Xt7 (xs.set j c) (j+1) cs
theorem Xto:∀(cs a b r:List Value),b.length=cs.length→Xt7 (a++b++r) a.length cs=a++cs++r
 | [],a,b,r,h=>by
  have:b=[]:=List.eq_nil_of_length_eq_zero h
  subst this;rfl
 | c :: cs,a,[],r,h=>by simp at h
 | c :: cs,a,x :: b,r,h=>by
  unfold Xt7
  have e:(a++x :: b++r).set a.length c=(a++[c])++b++r:=by simp
  rw[e]
  have:=Xto cs (a++[c]) b r (by simpa using h)
  rw[List.length_append] at this
  rw[show a.length+1=a.length+[c].length by rfl,this]
  simp
theorem Xt3 {α:Type} {f:α→List Value} {s:Nat} (hf:∀y,(f y).length=s) (l:List α) (i:Nat) (hi:i<l.length) (z:α):Xt7 (l.flatMap f) (i*s) (f z)=(l.set i z).flatMap f:=by
 have hlen:∀k:List α,(k.flatMap f).length=k.length*s:=by
  intro k
  induction k with
  | nil=>simp
  | cons x k ih=>rw[List.flatMap_cons,List.length_append,hf,ih,List.length_cons];rw[Nat.add_mul];omega
 have h1:l.flatMap f=(l.take i).flatMap f++f l[i]++(l.drop (i+1)).flatMap f:=by
  conv=>lhs;rw[← List.take_append_drop i l,List.flatMap_append,List.drop_eq_getElem_cons hi,List.flatMap_cons]
  rw[List.append_assoc]
 have h2:(l.set i z).flatMap f=(l.take i).flatMap f++f z++(l.drop (i+1)).flatMap f:=by
  rw[List.set_eq_take_append_cons_drop,if_pos hi,List.flatMap_append,List.flatMap_cons,List.append_assoc]
 rw[h1,h2]
 have:=Xto (f z) ((l.take i).flatMap f) (f l[i]) ((l.drop (i+1)).flatMap f) (by rw[hf,hf])
 rw[hlen,List.length_take,Nat.min_eq_left (Nat.le_of_lt hi)] at this
 exact this
end Go.Proofs.YthojaplnimoacaaGreatDoor
namespace Go.Proofs.YthojaplnimoacaaGreatDoor
open Go.RowKit Go.Han
attribute [local irreducible] wpStill wpQuiet
set_option maxRecDepth 100000
structure Ch29 where
 g:Gram
 its:SlS ItemG
 n:Int
 l:KidS
def posC (n cats u v d:Nat):Nat:=(u*(n+1)+v)*cats+d
theorem Xtd {n cats u v d:Nat} (hu:u≤n) (hv:v≤n) (hd:d<cats):posC n cats u v d<(n+1)*(n+1)*cats:=by
 unfold posC
 have h1:u*(n+1)≤n*(n+1):=Nat.mul_le_mul_right _ hu
 have h2:u*(n+1)+v+1≤(n+1)*(n+1):=by rw[Nat.add_mul n 1];omega
 have h3:=Nat.mul_le_mul_right cats h2
 rw[Nat.add_mul _ 1] at h3
 omega
theorem Xul {n cats u v d u' v' d':Nat} (hv:v≤n) (hv':v'≤n) (hd:d<cats) (hd':d'<cats) (h:posC n cats u v d=posC n cats u' v' d'):u=u'∧v=v'∧d=d':=by
 unfold posC at h
 have h1:(u*(n+1)+v)=(u'*(n+1)+v'):=by
  have a:=congrArg (· / cats) h
  rw[Nat.add_comm _ d,Nat.add_comm _ d',Nat.add_mul_div_right _ _ (by omega),Nat.add_mul_div_right _ _ (by omega),Nat.div_eq_of_lt hd,Nat.div_eq_of_lt hd'] at a
  omega
 rw[h1] at h
 have h2:u=u':=by
  have a:=congrArg (· / (n+1)) h1
  rw[Nat.add_comm _ v,Nat.add_comm _ v',Nat.add_mul_div_right _ _ (by omega),Nat.add_mul_div_right _ _ (by omega),Nat.div_eq_of_lt (by omega),Nat.div_eq_of_lt (by omega)] at a
  omega
 subst h2
 exact⟨rfl,by omega,by omega⟩
theorem Xtb (c:Ch29) (n u v d:Nat) (w:World) (hn:c.n=(n:Int)) (h16:n≤16) (hu:u≤n) (hv:v≤n) (hd:d<c.g.cats.xs.length) (hc:c.g.cats.xs.length≤32) :
  Calls Tryz.prog 104 #[.agg #[.string c.g.name,.slice c.g.cats.addr c.g.cats.xs.length c.g.cats.cap,.string c.g.start,.int .i64 c.g.startNo,.slice c.g.entries.addr c.g.entries.xs.length c.g.entries.cap,.slice c.g.rules.addr c.g.rules.xs.length c.g.rules.cap,.slice c.its.addr c.its.xs.length c.its.cap,.int .i64 c.n,.slice c.l.addr c.l.len c.l.cap],.int .i64 (u:Int),.int .i64 (v:Int),.int .i64 (d:Int)] w fun e w'=>e = .returned (.int .i64 ((posC n c.g.cats.xs.length u v d:Nat):Int))∧Below w.heap.size w w':=by
 obtain⟨W1,hW1⟩:∃W1,w.alloc (.cells #[.string c.g.name,.slice c.g.cats.addr c.g.cats.xs.length c.g.cats.cap,.string c.g.start,.int .i64 c.g.startNo,.slice c.g.entries.addr c.g.entries.xs.length c.g.entries.cap,.slice c.g.rules.addr c.g.rules.xs.length c.g.rules.cap,.slice c.its.addr c.its.xs.length c.its.cap,.int .i64 c.n,.slice c.l.addr c.l.len c.l.cap] 166)=W1:=⟨_,rfl⟩
 have HB:=Xa (show Below w.heap.size w W1 by rw[← hW1];exact Xe (Below.refl _ _) _)
 have hk:=Yv hW1
 obtain⟨p,hp⟩:∃p,u*(n+1)=p:=⟨_,rfl⟩
 have hpb:p≤16*17:=by rw[← hp];exact Nat.mul_le_mul (by omega) (by omega)
 have e1:(u:Int)*((n:Int)+1)=(p:Int):=by rw[← hp];exact(Int.natCast_mul u (n+1)).symm
 obtain⟨q,hq⟩:∃q,(p+v)*c.g.cats.xs.length=q:=⟨_,rfl⟩
 have hqb:q≤288*32:=by rw[← hq];exact Nat.mul_le_mul (by omega) hc
 have e2:((p:Int)+(v:Int))*(c.g.cats.xs.length:Int)=(q:Int):=by rw[← hq];exact(Int.natCast_mul (p+v) _).symm
 have HE:Hid (((posC n c.g.cats.xs.length u v d:Nat):Int)=(q:Int)+(d:Int)):=by show _=_;unfold posC;rw[hp,hq];rfl
 have hdb:d<32:=by omega
 have b0:=gblk hk 0
 have b1:=gblk hk 1
 have b2:=gblk hk 2
 have b3:=gblk hk 3
 have b4:=gblk hk 4
 have b5:=gblk hk 5
 have b6:=gblk hk 6
 have b7:=gblk hk 7
 have b8:=gblk hk 8
 have f1:IntKind.i64.wrap (c.n+1)=(n:Int)+1:=by rw[hn];exact IntWalk.i64_in _ (by omega)
 have f2:IntKind.i64.wrap ((u:Int)*((n:Int)+1))=(p:Int):=by rw[e1];exact IntWalk.i64_in _ (by omega)
 have f3:IntKind.i64.wrap (((p:Int)+(v:Int))*(c.g.cats.xs.length:Int))=(q:Int):=by rw[e2];exact IntWalk.i64_in _ (by omega)
 have f4:IntKind.i64.wrap ((p:Int)+(v:Int))=(p:Int)+(v:Int):=IntWalk.i64_in _ (by omega)
 have f5:IntKind.i64.wrap ((q:Int)+(d:Int))=(q:Int)+(d:Int):=IntWalk.i64_in _ (by omega)
 clear hk hp hpb hq hqb hc hd hu hv h16 hdb hn e1 e2
 go_enter Tryz.func104,Tryz.ntmps104
 go_wp2_with fail
 go_ret
 exact⟨by rw[HE.out];rfl,HB.out⟩
end Go.Proofs.YthojaplnimoacaaGreatDoor
namespace Go.Proofs.YthojaplnimoacaaGreatDoor
open Go.RowKit Go.Han
set_option maxRecDepth 100000
def kidT (x:Dk):Dv:=(x.1,.node 0 0 0 0 x.2)
theorem Xtf (l:List Dk):Xv (l.map kidT)=(Xv l).map kidT:=by
 induction l with
 | nil=>rfl
 | cons x l ih =>
  rw[List.map_cons,Yo,Yo,ih]
  cases Xv l with
  | none=>rfl
  | some y =>
   show Yy (some (kidT x)) (some (kidT y))=Option.map kidT (Yy (some x) (some y))
   rw[Xt,Xt]
   by_cases h:y.1<x.1
   ·rw[if_pos h,if_pos (show (kidT y).1<(kidT x).1 from h)];rfl
   ·rw[if_neg h,if_neg (show ¬(kidT y).1<(kidT x).1 from h)];rfl
theorem fd_kid {A:List Dv} {B L:List Dk} {c1 c2:Int} {t:TreeV} {ks:List TreeV} (h1:Xv A=some (c1,t)) (h2:Xv B=some (c2,ks)) :
  Fd.of bigN ((L++Y7 List.cons A B).map kidT)=Fd.add bigN (Fd.of bigN (L.map kidT)) ⟨Zj bigN (capN bigN A.length) (capN bigN B.length),some (c1+c2,.node 0 0 0 0 (t :: ks))⟩:=by
 rw[List.map_append,Fd.of_append]
 congr 1
 unfold Fd.of
 rw[List.length_map,Zh,Xkd]
 congr 1
 rw[Xtf,Vi,h1,h2]
 rfl
def PartOk (X:Nat→Prop) (w:World) (f:FoundG) (l:List Dk):Prop:=(l=[]∧f.ok=false)∨(l≠[]∧FoundOk X w f (Fd.of bigN (l.map kidT)))
theorem PartOk.keep {X X':Nat→Prop} {w w':World} {f:FoundG} {l:List Dk} (h:PartOk X w f l) (hk:∀t x,TreeW X w t x→TreeW X' w' t x):PartOk X' w' f l:=by
 rcases h with h|⟨h1,h2⟩
 ·exact .inl h
 ·exact .inr ⟨h1,h2.keep hk⟩
theorem FoundOk.some_ {X:Nat→Prop} {w:World} {f:FoundG} {l:List Dv} (h:FoundOk X w f (Fd.of bigN l)) (ho:f.ok=true):∃c t,Xv l=some (c,t)∧f.cost=c∧TreeW X w t f.tree∧f.many=(capN bigN l.length:Nat):=by
 have hb:=h.best
 unfold Fd.of at hb
 cases hl:Xv l with
 | none=>rw[hl] at hb;rw[hb.1] at ho;cases ho
 | some y =>
  obtain⟨c,t⟩:=y
  rw[hl] at hb
  exact⟨c,t,rfl,hb.2.1,hb.2.2,h.many⟩
theorem FoundOk.none_ {X:Nat→Prop} {w:World} {f:FoundG} {l:List Dv} (h:FoundOk X w f (Fd.of bigN l)) (ho:f.ok=false):l=[]:=by
 have hb:=h.best
 unfold Fd.of at hb
 cases hl:Xv l with
 | none=>exact Zw hl
 | some y =>
  obtain⟨c,t⟩:=y
  rw[hl] at hb
  rw[hb.1] at ho;cases ho
theorem PartOk.some_ {X:Nat→Prop} {w:World} {f:FoundG} {l:List Dk} (h:PartOk X w f l) (ho:f.ok=true):∃c ks,Xv l=some (c,ks)∧f.cost=c∧TreeW X w (.node 0 0 0 0 ks) f.tree∧f.many=(capN bigN l.length:Nat):=by
 rcases h with ⟨_,h⟩|⟨_,h⟩
 ·rw[h] at ho;cases ho
 ·obtain⟨c,t,h1,h2,h3,h4⟩:=h.some_ ho
  rw[Xtf] at h1
  cases hl:Xv l with
  | none=>rw[hl] at h1;cases h1
  | some y =>
   obtain⟨c',ks⟩:=y
   rw[hl] at h1
   cases h1
   exact⟨_,_,rfl,h2,h3,by rw[h4,List.length_map]⟩
theorem PartOk.none_ {X:Nat→Prop} {w:World} {f:FoundG} {l:List Dk} (h:PartOk X w f l) (ho:f.ok=false):l=[]:=by
 rcases h with ⟨h,_⟩|⟨_,h⟩
 ·exact h
 ·have:=h.none_ ho
  simpa using this
theorem FoundOk.part {X:Nat→Prop} {w:World} {f:FoundG} {l:List Dk} (h:FoundOk X w f (Fd.of bigN (l.map kidT))):PartOk X w f l:=by
 by_cases hl:l=[]
 ·subst hl
  refine .inl ⟨rfl,?_⟩
  have hb:=h.best
  exact hb.1
 ·exact .inr ⟨hl,h⟩
def Xsz (st:Int→ByteArray→Bool) (A:Int→Nat→Nat→List Dv) (no:Int) (ps:List PartG) (i k m:Nat):List Dk :=
 (List.range' (i+1) m).flatMap fun e=>Y7 List.cons (A no i e) (Ye st A ps e k)
theorem Xs5 (st:Int→ByteArray→Bool) (A:Int→Nat→Nat→List Dv) (no:Int) (ps:List PartG) (i k m:Nat):Xsz st A no ps i k (m+1)=Xsz st A no ps i k m++Y7 List.cons (A no i (i+1+m)) (Ye st A ps (i+1+m) k):=by
 unfold Xsz
 rw[List.range'_concat,List.flatMap_append]
 simp
theorem Xt6 {st:Int→ByteArray→Bool} {A:Int→Nat→Nat→List Dv} {p:PartG} {ps:List PartG} {i k:Nat} (hp:p.text.size=0):Ye st A (p :: ps) i k=Xsz st A p.no ps i k (k-i):=by
 conv=>lhs;unfold Ye
 rw[if_neg (by omega)]
 rfl
mutual
theorem Xt5 {w:World} {P:Nat→Prop}:∀ {t:TreeV} {cs:List Value},TreeAt w P t cs→∀u∈cs,u.oneCell'=true
 | .node r j i k l,cs,h=>by
  unfold TreeAt at h
  obtain⟨A,cap,css,rfl,_⟩:=h
  intro u hu
  simp at hu
  rcases hu with rfl|rfl|rfl|rfl|rfl<;>rfl
theorem Xtg {w:World} {P:Nat→Prop}:∀ {l:List TreeV} {css:List (List Value)},KidsAt w P l css→∀u∈css.flatten,u.oneCell'=true
 | [],css,h=>by unfold KidsAt at h;subst h;intro u hu;simp at hu
 | t :: l,css,h=>by
  unfold KidsAt at h
  obtain⟨cs,css',rfl,h1,h2⟩:=h
  intro u hu
  rw[List.flatten_cons] at hu
  rcases List.mem_append.1 hu with hu|hu
  ·exact Xt5 h1 u hu
  ·exact Xtg h2 u hu
end
theorem Xt9 {X:Nat→Prop} {w V:World} {b:Nat} {t:TreeV} {x y:TreeG} {ks:List TreeV} (hV:Below w.heap.size w V) (hX:∀j,X j→j<w.heap.size) (hb:w.heap.size≤b) (hk:V.heap[b]? = some (.cells #[.int .i64 x.rule,.int .i64 x.item,.int .i64 x.frm,.int .i64 x.unt,.slice x.kids.addr x.kids.len x.kids.cap] 32 (0,0))) (ht:TreeW X w t x) (hy:TreeW X w (.node 0 0 0 0 ks) y) (hf:ks.length≤100000) :
  ∃A n c V',(Builtin.append_ #[30,30] 30 #[.slice (some ⟨b,0,none⟩) 1 1,.slice y.kids.addr y.kids.len y.kids.cap]).run Tryz.prog V = .ok (.slice A n c) V'∧Below w.heap.size w V'∧TreeW X V' (.node 0 0 0 0 (t :: ks)) ⟨0,0,0,0,⟨A,n,c⟩⟩:=by
 unfold TreeW TreeAt at hy
 obtain⟨A0,cap0,css,he,h2,h3,h4,h5,h6,h7⟩:=hy
 have hlen:=Xdu h7
 have hone:=Xtg h7
 injection he with _ he
 injection he with _ he
 injection he with _ he
 injection he with _ he
 injection he with he _
 injection he with e1 e2 e3
 subst e1 e3
 rw[e2]
 obtain⟨i0,z0,hi0,hz0,hz1,hz2,hzs⟩:=Xfl
 have hown:OwnK V w.heap.size (.slice (some ⟨b,0,none⟩) 1 1) [x]:=by
  unfold OwnK OwnL
  refine⟨rfl,.inr ⟨b,1,_,rfl,hb,hk,Nat.le_refl _,by decide,rfl,rfl⟩⟩
 have hr:Rd V y.kids.addr css.flatten:=h6.ext hV
 obtain⟨v',V',hrun,ho,hg,hat⟩:=Xa8 (P:=Tryz.prog) (w:=V) w.heap.size 30 30 32 i0 z0 5 56 Tryz.underlying30 hi0 hz0 hz1 hz2 hzs (by decide) (.slice (some ⟨b,0,none⟩) 1 1) 1 ([x].flatMap TreeG.cells) hown y.kids.addr ks.length y.kids.cap css.flatten hlen hr hone (by unfold maxLen;omega) (by omega) hV.size
 have hB':Below w.heap.size w V':=Xgp hV hown (Nat.le_refl _) hg
 obtain⟨A,c,rfl,hr2,hb2⟩:∃A c,v' = .slice A (1+ks.length) c∧Rd V' A (x.cells++css.flatten)∧(1+ks.length≤c∧c≤9223372036854775807∧∃b' ,A=some ⟨b',0,none⟩∧w.heap.size≤b'∧KidP V' b'):=by
  have hno:=ho.2
  rcases hno with ⟨h8,h9⟩|⟨g9,c9,cur,rfl,h10,h11,h12,h13,h14,h15⟩
  ·exfalso
   simp at h9
  ·refine⟨some ⟨g9,0,none⟩,c9,rfl,.inr ⟨g9,0,rfl,Xc h11,fun j u hu=>?_⟩,h12,by unfold maxLen at h13;omega,g9,rfl,h10,⟨_,_,h11⟩⟩
   have hfl:[x].flatMap TreeG.cells=x.cells:=by simp
   rw[hfl] at h15
   rw[Nat.zero_add,gblk h11]
   rw[← h15,List.getElem?_take] at hu
   split at hu
   ·simpa using hu
   ·cases hu
 refine⟨A,1+ks.length,c,V',hrun,hB',?_⟩
 unfold TreeW TreeAt
 obtain⟨hc1,hc2,b',hA,hb',hkb⟩:=hb2
 have keep:∀j,(KidP w j∧¬X j)→KidP V' j∧¬X j:=fun j ⟨⟨cs,fr,h⟩,hn⟩=>⟨⟨cs,fr,Xh hB' h⟩,hn⟩
 refine⟨A,c,x.cells :: css,by rw[List.length_cons,Nat.add_comm],by rw[List.length_cons];omega,hc2,(fun h=>by rw[hA] at h;cases h),fun _=>⟨b',0,hA,hkb,fun hx=>by have:=hX b' hx;omega⟩,by rw[List.flatten_cons];exact hr2,?_⟩
 unfold KidsAt
 exact⟨x.cells,css,rfl,TreeAt.keep (fun j hj hlt=>hB'.block j hlt) hB'.size keep ht,KidsAt.keep (fun j hj hlt=>hB'.block j hlt) hB'.size keep h7⟩
/-! ### a table that holds nothing but derivations -/
def SoundA (g:Gram) (items:List ItemG) (n:Nat) (A:Int→Nat→Nat→List Dv):Prop:=∀(d:Int) (u v:Nat),0≤d→d<g.cats.xs.length→u<v→v≤n→∀x∈A d u v,x∈derG g items d u v
theorem Xs3 {st:Int→ByteArray→Bool} {A B:Int→Nat→Nat→List Dv} {n:Nat}:∀(ps:List PartG) (i k:Nat) (x:Dk),(∀p∈ps,p.text.size=0→∀u v,u<v→v≤n→∀y∈A p.no u v,y∈B p.no u v)→k≤n→x∈Ye st A ps i k→x∈Ye st B ps i k
 | [],i,k,x,_,_,h=>by unfold Ye at h ⊢;exact h
 | p :: ps,i,k,x,hA,hk,h=>by
  by_cases hp:p.text.size≠0
  ·obtain⟨h1,h2,h3⟩:=(V8 hp).1 h
   exact(V8 hp).2 ⟨h1,h2,Xs3 ps (i+1) k x (fun q hq=>hA q (List.mem_cons_of_mem _ hq)) hk h3⟩
  ·obtain⟨m,h1,h2,a,ha,b,hb,rfl⟩:=(U1 (by simpa using hp)).1 h
   exact(U1 (by simpa using hp)).2 ⟨m,h1,h2,a,hA p (List.mem_cons_self ..) (by simpa using hp) i m (by omega) (by omega) a ha,b,Xs3 ps m k b (fun q hq=>hA q (List.mem_cons_of_mem _ hq)) hk hb,rfl⟩
theorem Xt4 {g:Gram} (hg:Yu g) {items:List ItemG} {n:Nat} {A:Int→Nat→Nat→List Dv} (hA:SoundA g items n A) {c:Int} {i k:Nat} (hk:k≤n):∀x∈Xq c i k 0 items++X4 (Xm items) A c i k 0 g.rules.xs,x∈derG g items c i k:=by
 intro x hx
 rw[Xec hg]
 rcases List.mem_append.1 hx with h|h
 ·exact List.mem_append_left _ h
 ·refine List.mem_append_right _ ?_
  obtain⟨j,r,h1,h2,h⟩:=Zi.1 h
  obtain⟨y,hy,rfl⟩:=Z1.1 h
  refine Zi.2 ⟨j,r,h1,h2,Z1.2 ⟨y,Xs3 (n:=n) r.parts.xs i k y (fun p hp ht u v huv hv z hz=>?_) hk hy,rfl⟩⟩
  have hr:=List.mem_of_getElem? h1
  have hn:=hg.part r hr p hp ht
  have hlt:=Xee p.cat g.cats.xs
  rw[← hn.1] at hlt
  exact hA p.no u v hn.2 hlt huv hv z hz
theorem SoundA.put {g:Gram} (hg:Yu g) {items:List ItemG} {n:Nat} {A:Int→Nat→Nat→List Dv} (hA:SoundA g items n A) {c:Int} {i k:Nat} (hk:k≤n):SoundA g items n (putA A c i k (Xq c i k 0 items++X4 (Xm items) A c i k 0 g.rules.xs)):=by
 intro d u v h0 h1 h2 h3 x hx
 unfold putA at hx
 split at hx
 ·rename_i h
  obtain⟨rfl,rfl,rfl⟩:=h
  exact Xt4 hg hA hk x hx
 ·exact hA d u v h0 h1 h2 h3 x hx
end Go.Proofs.YthojaplnimoacaaGreatDoor
namespace Go.Proofs.YthojaplnimoacaaGreatDoor
open Go.RowKit Go.Han
attribute [local irreducible] wpStill wpQuiet
set_option maxRecDepth 100000
def FoundG.cells (f:FoundG):List Value:=[.bool f.ok,.int .i64 f.cost,.int .i64 f.rule,.int .i64 f.item,.int .i64 f.frm,.int .i64 f.unt,.slice f.kids.addr f.kids.len f.kids.cap,.int .i64 f.many]
theorem FoundG.size_cells (f:FoundG):f.cells.length=8:=rfl
def Xs0:FoundG:=⟨false,0,0,0,0,0,⟨none,0,0⟩,0⟩
structure ChC (c:Ch29) (n:Nat) (A:Int→Nat→Nat→List Dv):Prop where
 hn:c.n=(n:Int)
 h16:n≤16
 gram:Yu c.g
 sound:SoundA c.g c.its.xs n A
 items:Zr n c.g.cats.xs.length c.its.xs
 one:∀x∈c.its.xs,1≤x.tgt.xs.length
structure ChW (X:Nat→Prop) (c:Ch29) (n:Nat) (A:Int→Nat→Nat→List Dv) (F:List FoundG) (w:World):Prop where
 g:c.g.lies w
 its:ItemsAt w c.its
 rd:Rd w c.l.addr (F.flatMap FoundG.cells)
 len:c.l.len=F.length
 size:F.length=(n+1)*(n+1)*c.g.cats.xs.length
 ok:∀(d u v:Nat),d<c.g.cats.xs.length→u<v→v≤n→∀(h:posC n c.g.cats.xs.length u v d<F.length),FoundOk X w F[posC n c.g.cats.xs.length u v d] (Fd.of bigN (A d u v))
theorem ChW.ext {X:Nat→Prop} {c:Ch29} {n:Nat} {A:Int→Nat→Nat→List Dv} {F:List FoundG} {w w':World} (h:ChW X c n A F w) (hb:Below w.heap.size w w'):ChW X c n A F w' :=
 ⟨h.g.ext hb,h.its.ext hb,h.rd.ext hb,h.len,h.size,fun d u v h1 h2 h3 h4=>(h.ok d u v h1 h2 h3 h4).keep fun _ _ ht=>ht.ext hb⟩
def Xsy (X:Nat→Prop) (l:List Dk) (w:World) (e:Ending) (w':World):Prop:=∃f:FoundG,e = .returned (.agg #[.bool f.ok,.int .i64 f.cost,.int .i64 f.rule,.int .i64 f.item,.int .i64 f.frm,.int .i64 f.unt,.slice f.kids.addr f.kids.len f.kids.cap,.int .i64 f.many])∧PartOk X w' f l∧Below w.heap.size w w'
theorem Xuk (X:Nat→Prop) (w:World) (i k:Nat) (st:Int→ByteArray→Bool) (A:Int→Nat→Nat→List Dv):PartOk X w ⟨decide (i=k),0,0,0,0,0,⟨none,0,0⟩,1⟩ (Ye st A [] i k):=by
 unfold Ye
 by_cases h:i=k
 ·rw[if_pos h]
  refine .inr ⟨by simp,?_⟩
  refine⟨rfl,?_⟩
  show decide (i=k)=true∧(0:Int)=0∧TreeW X w (.node 0 0 0 0 []) _
  refine⟨by simpa using h,rfl,?_⟩
  unfold TreeW TreeAt
  exact⟨none,0,[],rfl,Nat.le_refl _,by omega,fun _=>rfl,fun h=>by simp at h,.inl rfl,rfl⟩
 ·rw[if_neg h]
  exact .inl ⟨rfl,by simpa using h⟩
theorem Xs2 {V:World} {fb t:Nat} {f:FoundG} (h:V.heap[fb]? = some (.cells #[.bool f.ok,.int .i64 f.cost,.int .i64 f.rule,.int .i64 f.item,.int .i64 f.frm,.int .i64 f.unt,.slice f.kids.addr f.kids.len f.kids.cap,.int .i64 f.many] t (0,0))) (y:FoundG):(set8 V fb y).heap[fb]? = some (.cells #[.bool y.ok,.int .i64 y.cost,.int .i64 y.rule,.int .i64 y.item,.int .i64 y.frm,.int .i64 y.unt,.slice y.kids.addr y.kids.len y.kids.cap,.int .i64 y.many] t (0,0)):=by
 have h1:(V.setCell ⟨fb,0,none⟩ (.bool y.ok)).heap[fb]? = some (.cells #[.bool y.ok,.int .i64 f.cost,.int .i64 f.rule,.int .i64 f.item,.int .i64 f.frm,.int .i64 f.unt,.slice f.kids.addr f.kids.len f.kids.cap,.int .i64 f.many] t (0,0)):=Xr h 0 _
 have h2:((V.setCell ⟨fb,0,none⟩ (.bool y.ok)).setCell ⟨fb,1,none⟩ (.int .i64 y.cost)).heap[fb]? = some (.cells #[.bool y.ok,.int .i64 y.cost,.int .i64 f.rule,.int .i64 f.item,.int .i64 f.frm,.int .i64 f.unt,.slice f.kids.addr f.kids.len f.kids.cap,.int .i64 f.many] t (0,0)):=Xr h1 1 _
 have h3:(((V.setCell ⟨fb,0,none⟩ (.bool y.ok)).setCell ⟨fb,1,none⟩ (.int .i64 y.cost)).setCell ⟨fb,2,none⟩ (.int .i64 y.rule)).heap[fb]? = some (.cells #[.bool y.ok,.int .i64 y.cost,.int .i64 y.rule,.int .i64 f.item,.int .i64 f.frm,.int .i64 f.unt,.slice f.kids.addr f.kids.len f.kids.cap,.int .i64 f.many] t (0,0)):=Xr h2 2 _
 have h4:((((V.setCell ⟨fb,0,none⟩ (.bool y.ok)).setCell ⟨fb,1,none⟩ (.int .i64 y.cost)).setCell ⟨fb,2,none⟩ (.int .i64 y.rule)).setCell ⟨fb,3,none⟩ (.int .i64 y.item)).heap[fb]? = some (.cells #[.bool y.ok,.int .i64 y.cost,.int .i64 y.rule,.int .i64 y.item,.int .i64 f.frm,.int .i64 f.unt,.slice f.kids.addr f.kids.len f.kids.cap,.int .i64 f.many] t (0,0)):=Xr h3 3 _
 have h5:(((((V.setCell ⟨fb,0,none⟩ (.bool y.ok)).setCell ⟨fb,1,none⟩ (.int .i64 y.cost)).setCell ⟨fb,2,none⟩ (.int .i64 y.rule)).setCell ⟨fb,3,none⟩ (.int .i64 y.item)).setCell ⟨fb,4,none⟩ (.int .i64 y.frm)).heap[fb]? = some (.cells #[.bool y.ok,.int .i64 y.cost,.int .i64 y.rule,.int .i64 y.item,.int .i64 y.frm,.int .i64 f.unt,.slice f.kids.addr f.kids.len f.kids.cap,.int .i64 f.many] t (0,0)):=Xr h4 4 _
 have h6:((((((V.setCell ⟨fb,0,none⟩ (.bool y.ok)).setCell ⟨fb,1,none⟩ (.int .i64 y.cost)).setCell ⟨fb,2,none⟩ (.int .i64 y.rule)).setCell ⟨fb,3,none⟩ (.int .i64 y.item)).setCell ⟨fb,4,none⟩ (.int .i64 y.frm)).setCell ⟨fb,5,none⟩ (.int .i64 y.unt)).heap[fb]? = some (.cells #[.bool y.ok,.int .i64 y.cost,.int .i64 y.rule,.int .i64 y.item,.int .i64 y.frm,.int .i64 y.unt,.slice f.kids.addr f.kids.len f.kids.cap,.int .i64 f.many] t (0,0)):=Xr h5 5 _
 have h7:(((((((V.setCell ⟨fb,0,none⟩ (.bool y.ok)).setCell ⟨fb,1,none⟩ (.int .i64 y.cost)).setCell ⟨fb,2,none⟩ (.int .i64 y.rule)).setCell ⟨fb,3,none⟩ (.int .i64 y.item)).setCell ⟨fb,4,none⟩ (.int .i64 y.frm)).setCell ⟨fb,5,none⟩ (.int .i64 y.unt)).setCell ⟨fb,6,none⟩ (.slice y.kids.addr y.kids.len y.kids.cap)).heap[fb]? = some (.cells #[.bool y.ok,.int .i64 y.cost,.int .i64 y.rule,.int .i64 y.item,.int .i64 y.frm,.int .i64 y.unt,.slice y.kids.addr y.kids.len y.kids.cap,.int .i64 f.many] t (0,0)):=Xr h6 6 _
 have h8:((((((((V.setCell ⟨fb,0,none⟩ (.bool y.ok)).setCell ⟨fb,1,none⟩ (.int .i64 y.cost)).setCell ⟨fb,2,none⟩ (.int .i64 y.rule)).setCell ⟨fb,3,none⟩ (.int .i64 y.item)).setCell ⟨fb,4,none⟩ (.int .i64 y.frm)).setCell ⟨fb,5,none⟩ (.int .i64 y.unt)).setCell ⟨fb,6,none⟩ (.slice y.kids.addr y.kids.len y.kids.cap)).setCell ⟨fb,7,none⟩ (.int .i64 y.many)).heap[fb]? = some (.cells #[.bool y.ok,.int .i64 y.cost,.int .i64 y.rule,.int .i64 y.item,.int .i64 y.frm,.int .i64 y.unt,.slice y.kids.addr y.kids.len y.kids.cap,.int .i64 y.many] t (0,0)):=Xr h7 7 _
 exact h8
theorem ChW.cell {X:Nat→Prop} {c:Ch29} {n:Nat} {A:Int→Nat→Nat→List Dv} {F:List FoundG} {w:World} (h:ChW X c n A F w) {q:Nat} (hq:q<F.length):∃b off,c.l.addr=some ⟨b,off,none⟩∧b<w.heap.size∧∀(j:Nat) (u:Value),F[q].cells[j]? = some u→w.cell? ⟨b,off+q*8+j,none⟩=some u :=
 h.rd.elem FoundG.size_cells (by decide) hq
theorem Xs4 {w W3:World} {c:Ch29} {r:RuleG} (h:((w.alloc (.cells #[.string c.g.name,.slice c.g.cats.addr c.g.cats.xs.length c.g.cats.cap,.string c.g.start,.int .i64 c.g.startNo,.slice c.g.entries.addr c.g.entries.xs.length c.g.entries.cap,.slice c.g.rules.addr c.g.rules.xs.length c.g.rules.cap,.slice c.its.addr c.its.xs.length c.its.cap,.int .i64 c.n,.slice c.l.addr c.l.len c.l.cap] 166)).alloc (.cells #[.string r.cat,.int .i64 r.no,.slice r.parts.addr r.parts.xs.length r.parts.cap,.slice r.gives.addr r.gives.xs.length r.gives.cap,.int .i64 r.cost] 104)).alloc (.cells #[.bool false,.int .i64 0,.int .i64 0,.int .i64 0,.int .i64 0,.int .i64 0,.slice none 0 0,.int .i64 0] 93)=W3) :
  Hid (Below w.heap.size w W3)∧Hid (W3.heap[w.heap.size]? = some (.cells #[.string c.g.name,.slice c.g.cats.addr c.g.cats.xs.length c.g.cats.cap,.string c.g.start,.int .i64 c.g.startNo,.slice c.g.entries.addr c.g.entries.xs.length c.g.entries.cap,.slice c.g.rules.addr c.g.rules.xs.length c.g.rules.cap,.slice c.its.addr c.its.xs.length c.its.cap,.int .i64 c.n,.slice c.l.addr c.l.len c.l.cap] 166 (0,0)))∧Hid (W3.heap[w.heap.size+1]? = some (.cells #[.string r.cat,.int .i64 r.no,.slice r.parts.addr r.parts.xs.length r.parts.cap,.slice r.gives.addr r.gives.xs.length r.gives.cap,.int .i64 r.cost] 104 (0,0)))∧Hid (W3.heap[w.heap.size+1+1]? = some (.cells #[.bool false,.int .i64 0,.int .i64 0,.int .i64 0,.int .i64 0,.int .i64 0,.slice none 0 0,.int .i64 0] 93 (0,0))):=by
 subst h
 refine⟨Xe (Xe (Xe (Below.refl _ _) _) _) _,?_,?_,?_⟩
 ·exact(Below.heap_alloc _ _ _ (by simp;omega)).trans ((Below.heap_alloc _ _ _ (by simp)).trans (World.alloc_heap_new _ _))
 ·exact(Below.heap_alloc _ _ _ (by simp)).trans (X0 _ _ _ (by simp))
 ·exact X0 _ _ _ (by simp)
theorem V5 {V:World} {b:Nat} {cs:Array Value} {fr:Nat×Nat} (h:V.heap[b]? = some (.cells cs 93 fr)):¬KidP V b:=fun ⟨cs',fr',h'⟩=>by
 rw[h] at h'
 injection h' with h'
 injection h' with _ e _
 exact absurd e (by decide)
theorem Xs6 {X:Nat→Prop} {l:List Dk} {w w5:World} {b:Nat} {f:FoundG} (hB:Below w.heap.size w w5) (hb:w.heap.size≤b) (hz:w5.heap[b]? = some (.cells #[.bool false,.int .i64 0,.int .i64 0,.int .i64 0,.int .i64 0,.int .i64 0,.slice none 0 0,.int .i64 0] 93 (0,0))) (hok:PartOk X w5 f l) :
  Xsy X l w (.returned (.agg #[.bool f.ok,.int .i64 f.cost,.int .i64 f.rule,.int .i64 f.item,.int .i64 f.frm,.int .i64 f.unt,.slice f.kids.addr f.kids.len f.kids.cap,.int .i64 f.many])) (set8 w5 b f)∧(set8 w5 b f).heap[b]? = some (.cells #[.bool f.ok,.int .i64 f.cost,.int .i64 f.rule,.int .i64 f.item,.int .i64 f.frm,.int .i64 f.unt,.slice f.kids.addr f.kids.len f.kids.cap,.int .i64 f.many] 93 (0,0)):=by
 have hO:=Ud w5 b f
 refine⟨⟨f,rfl,hok.keep fun _ _ ht=>ht.only hO fun j hj h=>V5 hz (by rw[← show j=b from hj];exact h.1),Yf hB hB.size hO hb⟩,Xs2 (f:=Xs0) hz f⟩
theorem Calls.swap {P:Program} {g:Nat} {xs:Array Value} {w W:World} {v:Value} (h:Calls P g xs w fun e w'=>e = .returned v∧W=w'):Calls P g xs w fun e w'=>e = .returned v∧w'=W:=h.mono fun _ _ h=>⟨h.1,h.2.symm⟩
theorem V6 (w:World) (a:Addr) (v:Value):(w.setCell a v).drew=w.drew.setCell a v:=rfl
theorem Xtn (w:World) (b:Nat) (f:FoundG):(set8 w b f).drew=set8 w.drew b f:=by
 unfold set8
 rw[V6,V6,V6,V6,V6,V6,V6,V6]
theorem Xuc {st:Int→ByteArray→Bool} {A:Int→Nat→Nat→List Dv} {q:PartG} {ps:List PartG} {i k:Nat} (hq:q.text.size≠0):Ye st A (q :: ps) i k=if i<k∧st i q.text=true then Ye st A ps (i+1) k else []:=by
 conv=>lhs;unfold Ye
 rw[if_pos hq]
theorem Xuo {X:Nat→Prop} {c:Ch29} {n:Nat} {A:Int→Nat→Nat→List Dv} {d:Int} {u v:Nat} (hC:ChC c n A) (h0:0≤d) (h1:d<c.g.cats.xs.length) (h2:u<v) (h3:v≤n) {V:World} {f:FoundG} (h:FoundOk X V f (Fd.of bigN (A d u v))):0≤f.cost∧f.cost≤1000000:=by
 cases ho:f.ok with
 | false =>
  have hb:=h.best
  rw[show (Fd.of bigN (A d u v)).best=none by unfold Fd.of;rw[h.none_ ho];rfl] at hb
  have:=hb.2.1
  omega
 | true =>
  obtain⟨c',t,h4,h5,_⟩:=h.some_ ho
  have:=Xps hC.gram hC.items (hC.sound d u v h0 h1 h2 h3 _ (Zv h4).1) h2 (by have:=hC.h16;omega)
  rw[h5]
  exact this
theorem Xs1 {c:Ch29} {n:Nat} {A:Int→Nat→Nat→List Dv} (hC:ChC c n A) {st:Int→ByteArray→Bool}:∀(ps:List PartG) (i k:Nat) (x:Dk),(∀q∈ps,q.text.size=0→0≤q.no∧q.no<c.g.cats.xs.length)→k≤n→x∈Ye st A ps i k→0≤x.1∧x.1≤1000000*(ps.length:Int)∧x.2.length≤ps.length
 | [],i,k,x,_,_,h=>by obtain⟨_,rfl⟩:=V7.1 h;simp
 | p :: ps,i,k,x,hq,hk,h=>by
  by_cases hp:p.text.size≠0
  ·obtain⟨_,_,h3⟩:=(V8 hp).1 h
   have:=Xs1 hC ps (i+1) k x (fun q hm=>hq q (List.mem_cons_of_mem _ hm)) hk h3
   rw[List.length_cons]
   push_cast
   omega
  ·obtain⟨m,h1,h2,a,ha,b,hb,rfl⟩:=(U1 (by simpa using hp)).1 h
   have h3:=Xs1 hC ps m k b (fun q hm=>hq q (List.mem_cons_of_mem _ hm)) hk hb
   obtain⟨h4,h5⟩:=hq p (List.mem_cons_self ..) (by simpa using hp)
   have h6:=Xps hC.gram hC.items (hC.sound p.no i m h4 h5 (by omega) (by omega) _ ha) (by omega) (by have:=hC.h16;omega)
   rw[List.length_cons]
   push_cast
   simp only[List.length_cons]
   omega
structure PaR (X:Nat→Prop) (W:World) (b:Nat) (f:FoundG) (L:List Dv) (V:World):Prop where
 only:Only (fun j=>j=b) W V
 box:V.heap[b]? = some (.cells #[.bool f.ok,.int .i64 f.cost,.int .i64 f.rule,.int .i64 f.item,.int .i64 f.frm,.int .i64 f.unt,.slice f.kids.addr f.kids.len f.kids.cap,.int .i64 f.many] 93 (0,0))
 ok:FoundOk X V f (Fd.of bigN L)
set_option maxHeartbeats 4000000 in
theorem Xuf (X:Nat→Prop) (c:Ch29) (n:Nat) (A:Int→Nat→Nat→List Dv) (F:List FoundG)  (r:RuleG) (p i k:Nat) (w:World) (hps:r.parts.xs.drop p=[]) (hp:p≤r.parts.xs.length) (_:r.parts.xs.length≤4) (_:∀q∈r.parts.xs,q.text.size=0→0≤q.no∧q.no<c.g.cats.xs.length) (_:i≤k) (_:k≤n) (_:∀b,X b→b<w.heap.size) (_:r.lies w) (_:ChW X c n A F w) :
  Calls Tryz.prog 152 #[.agg #[.string c.g.name,.slice c.g.cats.addr c.g.cats.xs.length c.g.cats.cap,.string c.g.start,.int .i64 c.g.startNo,.slice c.g.entries.addr c.g.entries.xs.length c.g.entries.cap,.slice c.g.rules.addr c.g.rules.xs.length c.g.rules.cap,.slice c.its.addr c.its.xs.length c.its.cap,.int .i64 c.n,.slice c.l.addr c.l.len c.l.cap],.agg #[.string r.cat,.int .i64 r.no,.slice r.parts.addr r.parts.xs.length r.parts.cap,.slice r.gives.addr r.gives.xs.length r.gives.cap,.int .i64 r.cost],.int .i64 (p:Int),.int .i64 (i:Int),.int .i64 (k:Int)] w (Xsy X (Ye (Xm c.its.xs) A [] i k) w):=by
 have hpl:p=r.parts.xs.length:=by
  have:=congrArg List.length hps
  rw[List.length_drop] at this
  simp at this
  omega
 obtain⟨W3,hW3⟩:∃v,((w.alloc (.cells #[.string c.g.name,.slice c.g.cats.addr c.g.cats.xs.length c.g.cats.cap,.string c.g.start,.int .i64 c.g.startNo,.slice c.g.entries.addr c.g.entries.xs.length c.g.entries.cap,.slice c.g.rules.addr c.g.rules.xs.length c.g.rules.cap,.slice c.its.addr c.its.xs.length c.its.cap,.int .i64 c.n,.slice c.l.addr c.l.len c.l.cap] 166)).alloc (.cells #[.string r.cat,.int .i64 r.no,.slice r.parts.addr r.parts.xs.length r.parts.cap,.slice r.gives.addr r.gives.xs.length r.gives.cap,.int .i64 r.cost] 104)).alloc (.cells #[.bool false,.int .i64 0,.int .i64 0,.int .i64 0,.int .i64 0,.int .i64 0,.slice none 0 0,.int .i64 0] 93)=v:=⟨_,rfl⟩
 obtain⟨HB, -,HK,HZ⟩:=Xs4 hW3
 have hk:=HK.out
 have hz:=HZ.out
 have b0:=gblk hk 0
 have b1:=gblk hk 1
 have b2:=gblk hk 2
 have b3:=gblk hk 3
 have b4:=gblk hk 4
 have z0:=gblk hz 0
 have z1:=gblk hz 1
 have z2:=gblk hz 2
 have z3:=gblk hz 3
 have z4:=gblk hz 4
 have z5:=gblk hz 5
 have z6:=gblk hz 6
 have z7:=gblk hz 7
 have hzf:=fun n=>Xf hz n
 have hs8:=Xs2 (f:=⟨false,0,0,0,0,0,⟨none,0,0⟩,0⟩) hz ⟨decide (i=k),0,0,0,0,0,⟨none,0,0⟩,1⟩
 have HB8:=Xa (Yf HB.out HB.out.size (Ud W3 (w.heap.size+1+1) ⟨decide (i=k),0,0,0,0,0,⟨none,0,0⟩,1⟩) (by omega))
 have HS8:=Xa hs8
 obtain⟨bv,hbv⟩:∃b,decide (i=k)=b:=⟨_,rfl⟩
 have he:((i:Int) == (k:Int))=bv:=by
  rw[← hbv]
  by_cases h:i=k
  ·simp[h]
  ·have h2:¬(i:Int)=(k:Int):=by omega
   simp[h,h2]
 have Hbv:=Xa hbv
 rw[hbv] at HB8 HS8
 subst hpl
 clear hk hz hs8 hbv
 go_enter Tryz.func152,Tryz.ntmps152
 go_wp2_with fail
 change bodyPost _ _ _ _ _ (set8 W3 (w.heap.size+1+1) ⟨bv,0,0,0,0,0,⟨none,0,0⟩,1⟩)
 have hs:=HS8.out
 generalize set8 W3 (w.heap.size+1+1) ⟨bv,0,0,0,0,0,⟨none,0,0⟩,1⟩=w9 at *
 have s0:=gblk hs 0
 have s1:=gblk hs 1
 have s2:=gblk hs 2
 have s3:=gblk hs 3
 have s4:=gblk hs 4
 have s5:=gblk hs 5
 have s6:=gblk hs 6
 have s7:=gblk hs 7
 exact bodyPost_ret (v:=.agg #[.bool bv,.int .i64 0,.int .i64 0,.int .i64 0,.int .i64 0,.int .i64 0,.slice none 0 0,.int .i64 1]) (by simp[results,Tryz.results152,go_sem,s0,s1,s2,s3,s4,s5,s6,s7]) rfl ⟨⟨bv,0,0,0,0,0,⟨none,0,0⟩,1⟩,rfl,by rw[← Hbv.out];exact Xuk X w9 i k _ A,HB8.out⟩
set_option maxHeartbeats 4000000 in
theorem Xt2 (X:Nat→Prop) (c:Ch29) (n:Nat) (A:Int→Nat→Nat→List Dv) (F:List FoundG) (hC:ChC c n A) (q:PartG) (ps:List PartG) (r:RuleG) (p i k:Nat) (w:World) (ih:∀(r:RuleG) (p i k:Nat) (w:World),r.parts.xs.drop p=ps→p≤r.parts.xs.length→r.parts.xs.length≤4→(∀q∈r.parts.xs,q.text.size=0→0≤q.no∧q.no<c.g.cats.xs.length)→i≤k→k≤n→(∀b,X b→b<w.heap.size)→r.lies w→ChW X c n A F w→Calls Tryz.prog 152 #[.agg #[.string c.g.name,.slice c.g.cats.addr c.g.cats.xs.length c.g.cats.cap,.string c.g.start,.int .i64 c.g.startNo,.slice c.g.entries.addr c.g.entries.xs.length c.g.entries.cap,.slice c.g.rules.addr c.g.rules.xs.length c.g.rules.cap,.slice c.its.addr c.its.xs.length c.its.cap,.int .i64 c.n,.slice c.l.addr c.l.len c.l.cap],.agg #[.string r.cat,.int .i64 r.no,.slice r.parts.addr r.parts.xs.length r.parts.cap,.slice r.gives.addr r.gives.xs.length r.gives.cap,.int .i64 r.cost],.int .i64 (p:Int),.int .i64 (i:Int),.int .i64 (k:Int)] w (Xsy X (Ye (Xm c.its.xs) A ps i k) w)) (hps:r.parts.xs.drop p=(q :: ps)) (hp:p≤r.parts.xs.length) (h4:r.parts.xs.length≤4) (hq:∀q∈r.parts.xs,q.text.size=0→0≤q.no∧q.no<c.g.cats.xs.length) (hik:i≤k) (hkn:k≤n) (hX:∀b,X b→b<w.heap.size) (hr:r.lies w) (hW:ChW X c n A F w) (ht:q.text.size≠0) :
  Calls Tryz.prog 152 #[.agg #[.string c.g.name,.slice c.g.cats.addr c.g.cats.xs.length c.g.cats.cap,.string c.g.start,.int .i64 c.g.startNo,.slice c.g.entries.addr c.g.entries.xs.length c.g.entries.cap,.slice c.g.rules.addr c.g.rules.xs.length c.g.rules.cap,.slice c.its.addr c.its.xs.length c.its.cap,.int .i64 c.n,.slice c.l.addr c.l.len c.l.cap],.agg #[.string r.cat,.int .i64 r.no,.slice r.parts.addr r.parts.xs.length r.parts.cap,.slice r.gives.addr r.gives.xs.length r.gives.cap,.int .i64 r.cost],.int .i64 (p:Int),.int .i64 (i:Int),.int .i64 (k:Int)] w (Xsy X (Ye (Xm c.its.xs) A (q :: ps) i k) w):=by
 have hpl:p<r.parts.xs.length:=by
  have:=congrArg List.length hps
  rw[List.length_drop,List.length_cons] at this
  omega
 have hqm:r.parts.xs[p]=q∧r.parts.xs.drop (p+1)=ps:=by
  rw[List.drop_eq_getElem_cons hpl] at hps
  injection hps with h1 h2
  exact⟨h1,h2⟩
 obtain⟨hqp,hps1⟩:=hqm
 have hqq:=hq q (by rw[← hqp];exact List.getElem_mem hpl)
 have IH:Hid (∀(z:Int) (i':Nat) (w':World),z=(i':Int)→i'≤k→Below w.heap.size w w'→Calls Tryz.prog 152 #[.agg #[.string c.g.name,.slice c.g.cats.addr c.g.cats.xs.length c.g.cats.cap,.string c.g.start,.int .i64 c.g.startNo,.slice c.g.entries.addr c.g.entries.xs.length c.g.entries.cap,.slice c.g.rules.addr c.g.rules.xs.length c.g.rules.cap,.slice c.its.addr c.its.xs.length c.its.cap,.int .i64 c.n,.slice c.l.addr c.l.len c.l.cap],.agg #[.string r.cat,.int .i64 r.no,.slice r.parts.addr r.parts.xs.length r.parts.cap,.slice r.gives.addr r.gives.xs.length r.gives.cap,.int .i64 r.cost],.int .i64 ((p:Int)+1),.int .i64 z,.int .i64 (k:Int)] w' (Xsy X (Ye (Xm c.its.xs) A ps i' k) w')):=fun z i' w' e h1 hb=>by
  subst e
  exact ih r (p+1) i' k w' hps1 (by omega) h4 hq h1 hkn (fun b hx=>Nat.lt_of_lt_of_le (hX b hx) hb.size) (hr.ext hb) (hW.ext hb)
 obtain⟨W3,hW3⟩:∃v,((w.alloc (.cells #[.string c.g.name,.slice c.g.cats.addr c.g.cats.xs.length c.g.cats.cap,.string c.g.start,.int .i64 c.g.startNo,.slice c.g.entries.addr c.g.entries.xs.length c.g.entries.cap,.slice c.g.rules.addr c.g.rules.xs.length c.g.rules.cap,.slice c.its.addr c.its.xs.length c.its.cap,.int .i64 c.n,.slice c.l.addr c.l.len c.l.cap] 166)).alloc (.cells #[.string r.cat,.int .i64 r.no,.slice r.parts.addr r.parts.xs.length r.parts.cap,.slice r.gives.addr r.gives.xs.length r.gives.cap,.int .i64 r.cost] 104)).alloc (.cells #[.bool false,.int .i64 0,.int .i64 0,.int .i64 0,.int .i64 0,.int .i64 0,.slice none 0 0,.int .i64 0] 93)=v:=⟨_,rfl⟩
 obtain⟨HB,HH,HK,HZ⟩:=Xs4 hW3
 obtain⟨bP,oP,hA,_,hcP⟩:=hr.1.at_ PartG.size_cells (by decide) hpl
 have HPc:=Xa (fun (V:World) (hV:Below w.heap.size w V)=>hcP p hpl V hV)
 rw[hqp] at HPc
 have hk:=HK.out
 have hh:=HH.out
 have b0:=gblk hk 0
 have b1:=gblk hk 1
 have b2:=gblk hk 2
 have b3:=gblk hk 3
 have b4:=gblk hk 4
 have a0:=gblk hh 0
 have a1:=gblk hh 1
 have a2:=gblk hh 2
 have a3:=gblk hh 3
 have a4:=gblk hh 4
 have a5:=gblk hh 5
 have a6:=gblk hh 6
 have a7:=gblk hh 7
 have a8:=gblk hh 8
 have p0:=HPc.out W3 HB.out 0 _ rfl
 have p1:=HPc.out W3 HB.out 1 _ rfl
 have p2:=HPc.out W3 HB.out 2 _ rfl
 have hlI:(p:Int)<(r.parts.xs.length:Int):=by omega
 have hne:((p:Int) == (r.parts.xs.length:Int))=false:=by simp;omega
 have hrc:r.parts.xs.length≤r.parts.cap:=hr.1.cap
 have Hr:=Xa hr
 have HW:=Xa hW
 rw[hA] at b2 IH
 have HA:=Xa hA
 clear hA ih hps hps1 hcP hk hh hr hW hqp
 have k3:=Zp (s:=q.text) (by omega)
 have k4:¬q.text.toList=[]:=by intro h;rw[h] at k3;cases k3
 rw[Xuc ht]
 by_cases hik':i<k
 rotate_left
 ·have g1:decide ((k:Int)≤(i:Int))=true:=decide_eq_true (by omega)
  rw[if_neg (fun h=>hik' h.1)]
  have hz:=HZ.out
  have z0:=gblk hz 0
  have z1:=gblk hz 1
  have z2:=gblk hz 2
  have z3:=gblk hz 3
  have z4:=gblk hz 4
  have z5:=gblk hz 5
  have z6:=gblk hz 6
  have z7:=gblk hz 7
  have hzf:=fun n=>Xf hz n
  clear hz
  go_enter Tryz.func152,Tryz.ntmps152
  go_wp2_with fail
  go_still (by kernel_rfl)
  go_wp2_with fail
  clear z0 z1 z2 z3 z4 z5 z6 z7 hzf
  obtain⟨hpp,hs⟩:=Xs6 (X:=X) (l:=[]) (f:=Xs0) (Xi HB.out) (by omega) HZ.out (.inl ⟨rfl,rfl⟩)
  change bodyPost _ _ _ _ _ (World.drew (set8 W3 (w.heap.size+1+1) Xs0))
  rw[Xtn]
  generalize set8 W3.drew (w.heap.size+1+1) Xs0=w9 at *
  have s0:=gblk hs 0
  have s1:=gblk hs 1
  have s2:=gblk hs 2
  have s3:=gblk hs 3
  have s4:=gblk hs 4
  have s5:=gblk hs 5
  have s6:=gblk hs 6
  have s7:=gblk hs 7
  exact bodyPost_ret (v:=.agg #[.bool false,.int .i64 0,.int .i64 0,.int .i64 0,.int .i64 0,.int .i64 0,.slice none 0 0,.int .i64 0]) (by simp[results,Tryz.results152,go_sem,s0,s1,s2,s3,s4,s5,s6,s7,Xs0]) rfl hpp
 ·have g1:decide ((k:Int)≤(i:Int))=false:=decide_eq_false (by omega)
  have hst:=Xrs c.its (i:Int) q.text W3.drew ((HW.out.its.ext HB.out).ext (Xi (Below.refl _ _))) hC.one
  cases hwd:Xm c.its.xs (i:Int) q.text
  ·rw[hwd] at hst
   rw[if_neg (fun h=>by cases h.2)]
   have HS:=Xa (Calls.swap hst)
   have hz:=HZ.out
   have z0:=gblk hz 0
   have z1:=gblk hz 1
   have z2:=gblk hz 2
   have z3:=gblk hz 3
   have z4:=gblk hz 4
   have z5:=gblk hz 5
   have z6:=gblk hz 6
   have z7:=gblk hz 7
   have hzf:=fun n=>Xf hz n
   clear hz hst hwd
   go_enter Tryz.func152,Tryz.ntmps152
   go_wp2_with fail
   refine wp_region_still_lit (by kernel_rfl) (by kernel_rfl) ?_
   repeat still_step
   still_call HS.out
   repeat still_step
   refine wpStill_nil ?_
   go_wp2_with fail
   clear z0 z1 z2 z3 z4 z5 z6 z7 hzf
   obtain⟨hpp,hs⟩:=Xs6 (X:=X) (l:=[]) (f:=Xs0) (Xi HB.out) (by omega) HZ.out (.inl ⟨rfl,rfl⟩)
   change bodyPost _ _ _ _ _ (World.drew (set8 W3 (w.heap.size+1+1) Xs0))
   rw[Xtn]
   generalize set8 W3.drew (w.heap.size+1+1) Xs0=w9 at *
   have s0:=gblk hs 0
   have s1:=gblk hs 1
   have s2:=gblk hs 2
   have s3:=gblk hs 3
   have s4:=gblk hs 4
   have s5:=gblk hs 5
   have s6:=gblk hs 6
   have s7:=gblk hs 7
   exact bodyPost_ret (v:=.agg #[.bool false,.int .i64 0,.int .i64 0,.int .i64 0,.int .i64 0,.int .i64 0,.slice none 0 0,.int .i64 0]) (by simp[results,Tryz.results152,go_sem,s0,s1,s2,s3,s4,s5,s6,s7,Xs0]) rfl hpp
  ·rw[hwd] at hst
   rw[if_pos ⟨hik',rfl⟩]
   have HS:=Xa (Calls.swap hst)
   have hwi:IntKind.i64.wrap ((i:Int)+1)=(i:Int)+1:=IntWalk.i64_in _ (by have:=hC.h16;omega)
   have hwp:IntKind.i64.wrap ((p:Int)+1)=(p:Int)+1:=IntWalk.i64_in _ (by omega)
   clear hst hwd
   go_enter Tryz.func152,Tryz.ntmps152
   go_wp2_with fail
   refine wp_region_still_lit (by kernel_rfl) (by kernel_rfl) ?_
   repeat still_step
   still_call HS.out
   repeat still_step
   refine wpStill_nil ?_
   go_wp2_with fail
   refine(IH.out _ (i+1) _ (by push_cast;rfl) hik' (Xi HB.out)).mono ?_
   rintro e w5 ⟨f,rfl,hf,hb⟩
   have hB5:=Xb (Xi HB.out) hb
   have hz5:=Xh hb (show W3.drew.heap[w.heap.size+1+1]? = _ from HZ.out)
   obtain⟨hpp,hs⟩:=Xs6 hB5 (by omega) hz5 hf
   have HS9:=Xa hs
   have HP9:=Xa hpp
   have z0:=gblk hz5 0
   have z1:=gblk hz5 1
   have z2:=gblk hz5 2
   have z3:=gblk hz5 3
   have z4:=gblk hz5 4
   have z5:=gblk hz5 5
   have z6:=gblk hz5 6
   have z7:=gblk hz5 7
   have hzf:=fun n=>Xf hz5 n
   clear hb hB5 hz5 hf hpp hs a0 a1 a2 a3 a4 a5 a6 a7 a8 b0 b1 b2 b3 b4
   go_wp2_with fail
   change bodyPost _ _ _ _ _ (set8 w5 (w.heap.size+1+1) f)
   have hs:=HS9.out
   generalize set8 w5 (w.heap.size+1+1) f=w9 at *
   have s0:=gblk hs 0
   have s1:=gblk hs 1
   have s2:=gblk hs 2
   have s3:=gblk hs 3
   have s4:=gblk hs 4
   have s5:=gblk hs 5
   have s6:=gblk hs 6
   have s7:=gblk hs 7
   exact bodyPost_ret (v:=.agg #[.bool f.ok,.int .i64 f.cost,.int .i64 f.rule,.int .i64 f.item,.int .i64 f.frm,.int .i64 f.unt,.slice f.kids.addr f.kids.len f.kids.cap,.int .i64 f.many]) (by simp[results,Tryz.results152,go_sem,s0,s1,s2,s3,s4,s5,s6,s7]) rfl HP9.out
theorem Xtw {V:World} {b t:Nat} {a0 a1 a2 a3 a4 a5 a6 a7:Value} (h:V.heap[b]? = some (.cells #[a0,a1,a2,a3,a4,a5,a6,a7] t (0,0))) (u v:Value):((V.setCell ⟨b,0,none⟩ u).setCell ⟨b,1,none⟩ v).heap[b]? = some (.cells #[u,v,a2,a3,a4,a5,a6,a7] t (0,0)):=by
 have h1:(V.setCell ⟨b,0,none⟩ u).heap[b]? = some (.cells #[u,a1,a2,a3,a4,a5,a6,a7] t (0,0)):=Xr h 0 _
 exact Xr h1 1 _
theorem Xtc (V:World) (b:Nat) (u v:Value):Only (fun j=>j=b) V ((V.setCell ⟨b,0,none⟩ u).setCell ⟨b,1,none⟩ v) :=
 Only.setCell (M:=fun j=>j=b) (Only.setCell (M:=fun j=>j=b) (Only.refl _ V) (p:=⟨b,0,none⟩) (.inl rfl) u) (p:=⟨b,1,none⟩) (.inl rfl) v
theorem Xth {V:World} {b t:Nat} {a0 a1 a2 a3 a4 a5 a6 a7:Value} (h:V.heap[b]? = some (.cells #[a0,a1,a2,a3,a4,a5,a6,a7] t (0,0))) (u2 u3 u4 u5 u6:Value):(((((V.setCell ⟨b,2,none⟩ u2).setCell ⟨b,2+1,none⟩ u3).setCell ⟨b,2+2,none⟩ u4).setCell ⟨b,2+3,none⟩ u5).setCell ⟨b,2+4,none⟩ u6).heap[b]? = some (.cells #[a0,a1,u2,u3,u4,u5,u6,a7] t (0,0)):=by
 have h2:(V.setCell ⟨b,2,none⟩ u2).heap[b]? = some (.cells #[a0,a1,u2,a3,a4,a5,a6,a7] t (0,0)):=Xr h 2 _
 have h3:((V.setCell ⟨b,2,none⟩ u2).setCell ⟨b,2+1,none⟩ u3).heap[b]? = some (.cells #[a0,a1,u2,u3,a4,a5,a6,a7] t (0,0)):=Xr h2 3 _
 have h4:(((V.setCell ⟨b,2,none⟩ u2).setCell ⟨b,2+1,none⟩ u3).setCell ⟨b,2+2,none⟩ u4).heap[b]? = some (.cells #[a0,a1,u2,u3,u4,a5,a6,a7] t (0,0)):=Xr h3 4 _
 have h5:((((V.setCell ⟨b,2,none⟩ u2).setCell ⟨b,2+1,none⟩ u3).setCell ⟨b,2+2,none⟩ u4).setCell ⟨b,2+3,none⟩ u5).heap[b]? = some (.cells #[a0,a1,u2,u3,u4,u5,a6,a7] t (0,0)):=Xr h4 5 _
 exact Xr h5 6 _
theorem Xs7 (V:World) (b:Nat) (u2 u3 u4 u5 u6:Value):Only (fun j=>j=b) V (((((V.setCell ⟨b,2,none⟩ u2).setCell ⟨b,2+1,none⟩ u3).setCell ⟨b,2+2,none⟩ u4).setCell ⟨b,2+3,none⟩ u5).setCell ⟨b,2+4,none⟩ u6):=by
 have st:∀(U:World) (n:Nat) (u:Value),Only (fun j=>j=b) V U→Only (fun j=>j=b) V (U.setCell ⟨b,n,none⟩ u):=fun U n u h=>Only.setCell (M:=fun j=>j=b) h (p:=⟨b,n,none⟩) (.inl rfl) u
 exact st _ _ _ (st _ _ _ (st _ _ _ (st _ _ _ (st _ _ _ (Only.refl _ V)))))
theorem PaR.ext {X:Nat→Prop} {W V V':World} {b:Nat} {f:FoundG} {L:List Dv} (h:PaR X W b f L V) (hb:Below V.heap.size V V'):PaR X W b f L V' :=
 ⟨⟨hb.os.trans h.only.os,hb.tape.trans h.only.tape,hb.output.trans h.only.output,Nat.le_trans h.only.size hb.size,fun j hj hn=>(hb.block j (Nat.lt_of_lt_of_le hj h.only.size)).trans (h.only.block j hj hn)⟩,Xh hb h.box,h.ok.keep fun _ _ ht=>ht.ext hb⟩
theorem PaR.put {X:Nat→Prop} {W V V':World} {b b':Nat} {f:FoundG} {L:List Dv} (h:PaR X W b f L V) (ho:Only (fun j=>j=b') V V') (hb:W.heap.size≤b') (hne:b<W.heap.size) (hk:¬KidP V b'):PaR X W b f L V' :=
 ⟨⟨ho.os.trans h.only.os,ho.tape.trans h.only.tape,ho.output.trans h.only.output,Nat.le_trans h.only.size ho.size,fun j hj hn=>(ho.block j (Nat.lt_of_lt_of_le hj h.only.size) (by show j≠b';omega)).trans (h.only.block j hj hn)⟩,(ho.block b (Nat.lt_of_lt_of_le hne h.only.size) (by show b≠b';omega)).trans h.box,h.ok.keep fun _ _ ht=>ht.only ho fun j hj hx=>hk (by rw[← show j=b' from hj];exact hx.1)⟩
theorem FoundOk.skip {X X':Nat→Prop} {w w':World} {f:FoundG} {d:Fd TreeV} (h:FoundOk X w f d) (hk:∀t x,TreeW X w t x→TreeW X' w' t x) {cost:Int} {m:Nat} {t:TreeV} (hn:¬(f.ok=false∨cost<f.cost)) :
  FoundOk X' w' ⟨f.ok,f.cost,f.rule,f.item,f.frm,f.unt,f.kids,((capN bigN (d.many+m):Nat):Int)⟩ (Fd.add bigN d ⟨m,some (cost,t)⟩):=by
 have hb:=h.best
 unfold Fd.add
 cases hd:d.best with
 | none =>
  rw[hd] at hb
  exact absurd (.inl hb.1) hn
 | some y =>
  obtain⟨c,t'⟩:=y
  rw[hd] at hb
  obtain⟨h1,h2,h3⟩:=hb
  refine⟨rfl,?_⟩
  rw[Xt,if_neg (by rw[← h2];exact fun h=>hn (.inr h))]
  exact⟨h1,h2,hk _ _ h3⟩
theorem FoundOk.took {X X':Nat→Prop} {w w':World} {f:FoundG} {d:Fd TreeV} (h:FoundOk X w f d) {cost:Int} {m:Nat} {t:TreeV} {x:TreeG} (ht:TreeW X' w' t x) (hn:f.ok=false∨cost<f.cost) :
  FoundOk X' w' ⟨true,cost,x.rule,x.item,x.frm,x.unt,x.kids,((capN bigN (d.many+m):Nat):Int)⟩ (Fd.add bigN d ⟨m,some (cost,t)⟩):=by
 have hb:=h.best
 unfold Fd.add
 cases hd:d.best with
 | none=>exact⟨rfl,rfl,rfl,ht⟩
 | some y =>
  obtain⟨c,t'⟩:=y
  rw[hd] at hb
  obtain⟨h1,h2,h3⟩:=hb
  refine⟨rfl,?_⟩
  rw[Xt,if_pos (by rw[← h2];rcases hn with h|h;rw[h1] at h;cases h;exact h)]
  exact⟨rfl,rfl,ht⟩
theorem Xui (a b:Nat):Zj bigN a b≤bigN+1:=by
 unfold Zj
 split
 ·exact Nat.le_refl _
 ·rename_i h
  have:=Xfw h
  omega
theorem Xtj {a b:Nat} (ha:a≤bigN+1) (hb:b≤bigN+1):IntKind.i64.wrap ((a:Int)+(b:Int))=((a+b:Nat):Int):=by
 have e:(a:Int)+(b:Int)=((a+b:Nat):Int):=(Int.natCast_add a b).symm
 rw[e]
 unfold bigN at ha hb
 exact IntWalk.i64_in _ (by omega)
theorem Xs9 {P:Program} {w w':World} {ops:Array Oper} {rest:List Oper} {o:Oper} {a:Act} {Q:Exit→Act→World→Prop} (hgd:o.guard=none) (s x:Operand) (t:TypeId)
  (ho:o.op = .call {callee:=.builtin .append,args:=#[s,x],argTypes:=#[t,t]}) {v u v':Value} (hs:a.eval s=v) (hx:a.eval x=u) (hrun:(Builtin.append_ #[t,t] o.type #[v,u]).run P w = .ok v' w') (h:wpList P ops Q rest (a.put o.dst v') w') :
  wpList P ops Q (o :: rest) a w:=by
 refine wpList_plain hgd fun K hK=>?_
 unfold Oper.wp execOp
 simp only[ho,resolve,invoke,builtin,Sem.run_bind,Sem.run_pure,Result.andThen_ok,List.map_toArray,List.map_cons,List.map_nil,hs,hx,hrun]
 exact hK _ _ h
set_option maxHeartbeats 4000000 in
theorem Xue (X:Nat→Prop) (c:Ch29) (n:Nat) (A:Int→Nat→Nat→List Dv) (F:List FoundG) (hC:ChC c n A) (q:PartG) (ps:List PartG) (r:RuleG) (p i k:Nat) (w:World) (ih:∀(r:RuleG) (p i k:Nat) (w:World),r.parts.xs.drop p=ps→p≤r.parts.xs.length→r.parts.xs.length≤4→(∀q∈r.parts.xs,q.text.size=0→0≤q.no∧q.no<c.g.cats.xs.length)→i≤k→k≤n→(∀b,X b→b<w.heap.size)→r.lies w→ChW X c n A F w→Calls Tryz.prog 152 #[.agg #[.string c.g.name,.slice c.g.cats.addr c.g.cats.xs.length c.g.cats.cap,.string c.g.start,.int .i64 c.g.startNo,.slice c.g.entries.addr c.g.entries.xs.length c.g.entries.cap,.slice c.g.rules.addr c.g.rules.xs.length c.g.rules.cap,.slice c.its.addr c.its.xs.length c.its.cap,.int .i64 c.n,.slice c.l.addr c.l.len c.l.cap],.agg #[.string r.cat,.int .i64 r.no,.slice r.parts.addr r.parts.xs.length r.parts.cap,.slice r.gives.addr r.gives.xs.length r.gives.cap,.int .i64 r.cost],.int .i64 (p:Int),.int .i64 (i:Int),.int .i64 (k:Int)] w (Xsy X (Ye (Xm c.its.xs) A ps i k) w)) (hps:r.parts.xs.drop p=(q :: ps)) (hp:p≤r.parts.xs.length) (h4:r.parts.xs.length≤4) (hq:∀q∈r.parts.xs,q.text.size=0→0≤q.no∧q.no<c.g.cats.xs.length) (hik:i≤k) (hkn:k≤n) (hX:∀b,X b→b<w.heap.size) (hr:r.lies w) (hW:ChW X c n A F w) (ht:¬q.text.size≠0) :
  Calls Tryz.prog 152 #[.agg #[.string c.g.name,.slice c.g.cats.addr c.g.cats.xs.length c.g.cats.cap,.string c.g.start,.int .i64 c.g.startNo,.slice c.g.entries.addr c.g.entries.xs.length c.g.entries.cap,.slice c.g.rules.addr c.g.rules.xs.length c.g.rules.cap,.slice c.its.addr c.its.xs.length c.its.cap,.int .i64 c.n,.slice c.l.addr c.l.len c.l.cap],.agg #[.string r.cat,.int .i64 r.no,.slice r.parts.addr r.parts.xs.length r.parts.cap,.slice r.gives.addr r.gives.xs.length r.gives.cap,.int .i64 r.cost],.int .i64 (p:Int),.int .i64 (i:Int),.int .i64 (k:Int)] w (Xsy X (Ye (Xm c.its.xs) A (q :: ps) i k) w):=by
 have hpl:p<r.parts.xs.length:=by
  have:=congrArg List.length hps
  rw[List.length_drop,List.length_cons] at this
  omega
 have hqm:r.parts.xs[p]=q∧r.parts.xs.drop (p+1)=ps:=by
  rw[List.drop_eq_getElem_cons hpl] at hps
  injection hps with h1 h2
  exact⟨h1,h2⟩
 obtain⟨hqp,hps1⟩:=hqm
 have hqq:=hq q (by rw[← hqp];exact List.getElem_mem hpl)
 have IH:Hid (∀(z:Int) (i':Nat) (w':World),z=(i':Int)→i'≤k→Below w.heap.size w w'→Calls Tryz.prog 152 #[.agg #[.string c.g.name,.slice c.g.cats.addr c.g.cats.xs.length c.g.cats.cap,.string c.g.start,.int .i64 c.g.startNo,.slice c.g.entries.addr c.g.entries.xs.length c.g.entries.cap,.slice c.g.rules.addr c.g.rules.xs.length c.g.rules.cap,.slice c.its.addr c.its.xs.length c.its.cap,.int .i64 c.n,.slice c.l.addr c.l.len c.l.cap],.agg #[.string r.cat,.int .i64 r.no,.slice r.parts.addr r.parts.xs.length r.parts.cap,.slice r.gives.addr r.gives.xs.length r.gives.cap,.int .i64 r.cost],.int .i64 ((p:Int)+1),.int .i64 z,.int .i64 (k:Int)] w' (Xsy X (Ye (Xm c.its.xs) A ps i' k) w')):=fun z i' w' e h1 hb=>by
  subst e
  exact ih r (p+1) i' k w' hps1 (by omega) h4 hq h1 hkn (fun b hx=>Nat.lt_of_lt_of_le (hX b hx) hb.size) (hr.ext hb) (hW.ext hb)
 obtain⟨W3,hW3⟩:∃v,((w.alloc (.cells #[.string c.g.name,.slice c.g.cats.addr c.g.cats.xs.length c.g.cats.cap,.string c.g.start,.int .i64 c.g.startNo,.slice c.g.entries.addr c.g.entries.xs.length c.g.entries.cap,.slice c.g.rules.addr c.g.rules.xs.length c.g.rules.cap,.slice c.its.addr c.its.xs.length c.its.cap,.int .i64 c.n,.slice c.l.addr c.l.len c.l.cap] 166)).alloc (.cells #[.string r.cat,.int .i64 r.no,.slice r.parts.addr r.parts.xs.length r.parts.cap,.slice r.gives.addr r.gives.xs.length r.gives.cap,.int .i64 r.cost] 104)).alloc (.cells #[.bool false,.int .i64 0,.int .i64 0,.int .i64 0,.int .i64 0,.int .i64 0,.slice none 0 0,.int .i64 0] 93)=v:=⟨_,rfl⟩
 obtain⟨HB,HH,HK,HZ⟩:=Xs4 hW3
 obtain⟨bP,oP,hA,_,hcP⟩:=hr.1.at_ PartG.size_cells (by decide) hpl
 have HPc:=Xa (fun (V:World) (hV:Below w.heap.size w V)=>hcP p hpl V hV)
 rw[hqp] at HPc
 have hk:=HK.out
 have hh:=HH.out
 have b0:=gblk hk 0
 have b1:=gblk hk 1
 have b2:=gblk hk 2
 have b3:=gblk hk 3
 have b4:=gblk hk 4
 have a0:=gblk hh 0
 have a1:=gblk hh 1
 have a2:=gblk hh 2
 have a3:=gblk hh 3
 have a4:=gblk hh 4
 have a5:=gblk hh 5
 have a6:=gblk hh 6
 have a7:=gblk hh 7
 have a8:=gblk hh 8
 have p0:=HPc.out W3 HB.out 0 _ rfl
 have p1:=HPc.out W3 HB.out 1 _ rfl
 have p2:=HPc.out W3 HB.out 2 _ rfl
 have hlI:(p:Int)<(r.parts.xs.length:Int):=by omega
 have hne:((p:Int) == (r.parts.xs.length:Int))=false:=by simp;omega
 have hrc:r.parts.xs.length≤r.parts.cap:=hr.1.cap
 have Hr:=Xa hr
 have HW:=Xa hW
 rw[hA] at b2 IH
 have HA:=Xa hA
 have HqP:Hid (∀q'∈ps,q'.text.size=0→0≤q'.no∧q'.no<c.g.cats.xs.length):=fun q' hq'=>hq q' (by have h:=List.mem_of_mem_drop (show q'∈r.parts.xs.drop (p+1) by rw[hps1];exact hq');exact h)
 have HplP:Hid (ps.length≤4):=by
  show ps.length≤4
  rw[← hps1,List.length_drop]
  omega
 clear hA ih hps hps1 hcP hk hh hr hW hqp
 have k3:=Zq (s:=q.text) (by omega)
 have k4:q.text.toList=[]:=List.isEmpty_iff.1 k3
 have ht0:q.text.size=0:=by omega
 obtain⟨hq0,hq1⟩:=hqq ht0
 rw[Xt6 ht0]
 obtain⟨d,hd⟩:∃d:Nat,q.no=(d:Int):=⟨q.no.toNat,by omega⟩
 obtain⟨W4,hW4⟩:∃v,W3.alloc (.cells #[.bool false,.int .i64 0,.int .i64 0,.int .i64 0,.int .i64 0,.int .i64 0,.slice none 0 0,.int .i64 0] 93)=v:=⟨_,rfl⟩
 have hb4:=Yn hW4
 have hz4:=Yv hW4
 have hs3:W3.heap.size=w.heap.size+1+1+1:=by rw[← hW3];simp
 have HB4:=Xa (Xb HB.out hb4)
 have HK4:=Xa (Xh hb4 HK.out)
 have HH4:=Xa (Xh hb4 HH.out)
 have HZ4:=Xa (Xh hb4 HZ.out)
 have HY4:=Xa hz4
 have h16:=hC.h16
 have hwi:IntKind.i64.wrap ((i:Int)+1)=(i:Int)+1:=IntWalk.i64_in _ (by omega)
 have hwp:IntKind.i64.wrap ((p:Int)+1)=(p:Int)+1:=IntWalk.i64_in _ (by omega)
 have Hd:=Xa hd
 have Ht0:=Xa ht0
 have Hs3:=Xa hs3
 have HW4:=Xa hW4
 clear hb4 hz4 hs3 hd hqq HB HK HH HZ hW4
 go_enter Tryz.func152,Tryz.ntmps152
 go_wp2_with fail
 rw[HW4.out]
 go_loopw [12] (fun iv wr=>∃(j:Nat) (f:FoundG),j≤k-i∧iv = .int .i64 ((i+1+j:Nat):Int)∧Hid (PaR X W4 W3.heap.size f ((Xsz (Xm c.its.xs) A q.no ps i k j).map kidT) wr)) (fun iv _=>k+1-(intOf iv).toNat)
 case atStart=>exact⟨0,Xs0,Nat.zero_le _,rfl,⟨Only.refl _ _,HY4.out,FoundOk.zero X _⟩⟩
 case round =>
  obtain⟨j,f,hj,rfl,HP⟩:=hrel
  obtain⟨m,hm⟩:∃m,i+1+j=m:=⟨_,rfl⟩
  rw[hm]
  have hz3:=Hs3.out
  have hW4s:W4.heap.size=w.heap.size+1+1+1+1:=by rw[← HW4.out];simp[hz3]
  have HBw:=Xa (Yf HB4.out HB4.out.size HP.out.only (by omega))
  by_cases hlt:m≤k
  rotate_left
  ·have g1:decide ((m:Int)≤(k:Int))=false:=decide_eq_false (by omega)
   obtain rfl:j=k-i:=by omega
   have ho:=HP.out.box
   have hz:=(HP.out.only.block (w.heap.size+1+1) (by omega) (by show _≠_;omega)).trans HZ4.out
   obtain⟨hpp,hs⟩:=Xs6 HBw.out (by omega) hz HP.out.ok.part
   have HP9:=Xa hpp
   have HS9:=Xa hs
   have z0:=gblk hz 0
   have z1:=gblk hz 1
   have z2:=gblk hz 2
   have z3:=gblk hz 3
   have z4:=gblk hz 4
   have z5:=gblk hz 5
   have z6:=gblk hz 6
   have z7:=gblk hz 7
   have o0:=gblk ho 0
   have o1:=gblk ho 1
   have o2:=gblk ho 2
   have o3:=gblk ho 3
   have o4:=gblk ho 4
   have o5:=gblk ho 5
   have o6:=gblk ho 6
   have o7:=gblk ho 7
   have hzf:=fun n=>Xf hz n
   clear ho hz hpp hs hz3 hW4s HW4 HB4 HBw HP
   go_wp2_with fail
   change bodyPost _ _ _ _ _ (set8 wr (w.heap.size+1+1) f)
   have hs:=HS9.out
   generalize set8 wr (w.heap.size+1+1) f=w9 at *
   have s0:=gblk hs 0
   have s1:=gblk hs 1
   have s2:=gblk hs 2
   have s3:=gblk hs 3
   have s4:=gblk hs 4
   have s5:=gblk hs 5
   have s6:=gblk hs 6
   have s7:=gblk hs 7
   exact bodyPost_ret (v:=.agg #[.bool f.ok,.int .i64 f.cost,.int .i64 f.rule,.int .i64 f.item,.int .i64 f.frm,.int .i64 f.unt,.slice f.kids.addr f.kids.len f.kids.cap,.int .i64 f.many]) (by simp[results,Tryz.results152,go_sem,s0,s1,s2,s3,s4,s5,s6,s7]) rfl HP9.out
  have g1:decide ((m:Int)≤(k:Int))=true:=decide_eq_true (by omega)
  have hH:=(HP.out.only.block w.heap.size (by omega) (by show _≠_;omega)).trans HH4.out
  have hKk:=(HP.out.only.block (w.heap.size+1) (by omega) (by show _≠_;omega)).trans HK4.out
  have Hwr:=Xa (HW.out.ext HBw.out)
  obtain⟨pos,hpos⟩:∃z,posC n c.g.cats.xs.length i m d=z:=⟨_,rfl⟩
  have hposl:pos<F.length:=by rw[← hpos,HW.out.size];exact Xtd (by omega) (by omega) (by have:=Hd.out;omega)
  obtain⟨lb,lo,hla,hlb,hcl⟩:=Hwr.out.cell hposl
  have Hx:Hid (FoundOk X wr F[pos] (Fd.of bigN (A d i m))):=by
   have h:=Hwr.out.ok d i m (by have:=Hd.out;omega) (by omega) (by omega) (by rw[hpos];exact hposl)
   simp only[hpos] at h
   exact h
  have hplace:=fun V=>Xtb ⟨c.g,c.its,c.n,⟨some ⟨lb,lo,none⟩,c.l.len,c.l.cap⟩⟩ n i m d V hC.hn hC.h16 (by omega) (by omega) (by have:=Hd.out;show d<c.g.cats.xs.length;omega) hC.gram.few
  have hpp:∀V,Below wr.heap.size wr V→V.cell? ⟨bP,oP+p*3+1,none⟩=some (.int .i64 (d:Int)):=fun V hV=>by
   have h:=HPc.out V (Xb HBw.out hV) 1 _ rfl
   rw[Hd.out] at h
   exact h
  obtain⟨fx,hfx⟩:∃y,F[pos]=y:=⟨_,rfl⟩
  rw[hfx] at Hx hcl
  simp only[hpos] at hplace
  have HC:Hid (∀V,Below wr.heap.size wr V→V.heap[w.heap.size]? = some (.cells #[.string c.g.name,.slice c.g.cats.addr c.g.cats.xs.length c.g.cats.cap,.string c.g.start,.int .i64 c.g.startNo,.slice c.g.entries.addr c.g.entries.xs.length c.g.entries.cap,.slice c.g.rules.addr c.g.rules.xs.length c.g.rules.cap,.slice c.its.addr c.its.xs.length c.its.cap,.int .i64 c.n,.slice (some ⟨lb,lo,none⟩) c.l.len c.l.cap] 166 (0,0))∧V.cell? ⟨w.heap.size+1,2,none⟩=some (.slice (some ⟨bP,oP,none⟩) r.parts.xs.length r.parts.cap)∧V.cell? ⟨bP,oP+p*3+1,none⟩=some (.int .i64 (d:Int))∧∀(z:Nat) (u:Value),fx.cells[z]? = some u→V.cell? ⟨lb,lo+pos*8+z,none⟩=some u):=fun V hV =>
   ⟨by rw[← hla];exact Xh hV hH,by have h:=gblk (Xh hV hKk) 2;rw[HA.out] at h;exact h,hpp V hV,fun z u hu=>(World.cell?_of_block (w:=wr) (a:=⟨lb,lo+pos*8+z,none⟩) (hV.block lb hlb)).trans (hcl z u hu)⟩
  have hlen:c.l.len=F.length:=HW.out.len
  have hposI:((pos:Nat):Int)<(c.l.len:Int):=by omega
  have Hplace:=Xa hplace
  have Hm:=Xa hm
  have HH9:=Xa hH
  have HK9:=Xa hKk
  have Hla:=Xa hla
  have Hhj:=Xa hj
  clear hpp hcl hplace hm hH hKk hla hlen hj hfx hposl hpos hz3
  have hmk:(m:Int)≤(k:Int):=by omega
  go_wp2_with fail
  refine wpIn_wide (n:=0) |>.1 ?_
  refine Td (fun (bx:Nat) a=>{a with tmps:=((((((((((((((a.tmps.setIfInBounds 64 (.pointer (some ⟨w.heap.size,8,none⟩))).setIfInBounds 65 (.slice (some ⟨lb,lo,none⟩) c.l.len c.l.cap)).setIfInBounds 66 (.agg #[.string c.g.name,.slice c.g.cats.addr c.g.cats.xs.length c.g.cats.cap,.string c.g.start,.int .i64 c.g.startNo,.slice c.g.entries.addr c.g.entries.xs.length c.g.entries.cap,.slice c.g.rules.addr c.g.rules.xs.length c.g.rules.cap,.slice c.its.addr c.its.xs.length c.its.cap,.int .i64 c.n,.slice (some ⟨lb,lo,none⟩) c.l.len c.l.cap])).setIfInBounds 67 (.int .i64 (i:Int))).setIfInBounds 68 (.int .i64 (m:Int))).setIfInBounds 69 (.pointer (some ⟨w.heap.size+1,2,none⟩))).setIfInBounds 70 (.slice (some ⟨bP,oP,none⟩) r.parts.xs.length r.parts.cap)).setIfInBounds 71 (.int .i64 (p:Int))).setIfInBounds 72 (.pointer (some ⟨bP,oP+p*3,none⟩))).setIfInBounds 73 (.pointer (some ⟨bP,oP+p*3+1,none⟩))).setIfInBounds 74 (.int .i64 (d:Int))).setIfInBounds 75 (.int .i64 (pos:Int))).setIfInBounds 76 (.pointer (some ⟨lb,lo+pos*8,none⟩))).setIfInBounds 77 (.agg #[.bool fx.ok,.int .i64 fx.cost,.int .i64 fx.rule,.int .i64 fx.item,.int .i64 fx.frm,.int .i64 fx.unt,.slice fx.kids.addr fx.kids.len fx.kids.cap,.int .i64 fx.many])).setIfInBounds 13 (.pointer (some ⟨bx,0,none⟩))}) (fun bx v=>v.heap[bx]? = some (.cells #[.bool fx.ok,.int .i64 fx.cost,.int .i64 fx.rule,.int .i64 fx.item,.int .i64 fx.frm,.int .i64 fx.unt,.slice fx.kids.addr fx.kids.len fx.kids.cap,.int .i64 fx.many] 93 (0,0))∧Below wr.heap.size wr v∧wr.heap.size≤bx) ?_ ?_
  ·refine Xo (fun V=>Below wr.heap.size wr V) (by kernel_rfl) ?_
   have hC0:Below wr.heap.size wr wr.drew:=Xi (Below.refl _ _)
   refine Xd (i:=0) rfl (by kernel_rfl) (fun _ _ _ h=>h) (fun V hV=>(by skip;go_simp<;>rfl)) ?_
   refine Xd (i:=1) rfl (by kernel_rfl) (fun _ _ _ h=>h) (fun V hV=>(by obtain⟨h1,h2,h3,h4⟩:=HC.out V hV;have c8:=gblk h1 8;go_simp<;>rfl)) ?_
   refine Xd (i:=2) (v:=.agg #[.string c.g.name,.slice c.g.cats.addr c.g.cats.xs.length c.g.cats.cap,.string c.g.start,.int .i64 c.g.startNo,.slice c.g.entries.addr c.g.entries.xs.length c.g.entries.cap,.slice c.g.rules.addr c.g.rules.xs.length c.g.rules.cap,.slice c.its.addr c.its.xs.length c.its.cap,.int .i64 c.n,.slice (some ⟨lb,lo,none⟩) c.l.len c.l.cap]) rfl (by kernel_rfl) (fun _ _ _ h=>h) (fun V hV=>(by obtain⟨h1,h2,h3,h4⟩:=HC.out V hV;have c0:=gblk h1 0;have c1':=gblk h1 1;have c2:=gblk h1 2;have c3:=gblk h1 3;have c4:=gblk h1 4;have c5:=gblk h1 5;have c6:=gblk h1 6;have c7:=gblk h1 7;have c8:=gblk h1 8;clear h1 h2 h3 h4;go_simp)) ?_
   refine Xd (i:=3) rfl (by kernel_rfl) (fun _ _ _ h=>h) (fun V hV=>(by skip;go_simp<;>rfl)) ?_
   refine Xd (i:=4) rfl (by kernel_rfl) (fun _ _ _ h=>h) (fun V hV=>(by skip;go_simp<;>rfl)) ?_
   refine Xd (i:=5) rfl (by kernel_rfl) (fun _ _ _ h=>h) (fun V hV=>(by skip;go_simp<;>rfl)) ?_
   refine Xd (i:=6) rfl (by kernel_rfl) (fun _ _ _ h=>h) (fun V hV=>(by obtain⟨h1,h2,h3,h4⟩:=HC.out V hV;clear h1 h3 h4;go_simp<;>rfl)) ?_
   refine Xd (i:=7) rfl (by kernel_rfl) (fun _ _ _ h=>h) (fun V hV=>(by skip;go_simp<;>rfl)) ?_
   refine Xd (i:=8) rfl (by kernel_rfl) (fun _ _ _ h=>h) (fun V hV=>(by skip;go_simp<;>rfl)) ?_
   refine Xd (i:=9) rfl (by kernel_rfl) (fun _ _ _ h=>h) (fun V hV=>(by skip;go_simp<;>rfl)) ?_
   refine Xd (i:=10) rfl (by kernel_rfl) (fun _ _ _ h=>h) (fun V hV=>(by obtain⟨h1,h2,h3,h4⟩:=HC.out V hV;clear h1 h2 h4;go_simp<;>rfl)) ?_
   refine Xs (rs:=[11,14]) hC0 (by kernel_rfl) (by simp) (AllC.cons rfl (fun K hK=>?_) (AllC.cons rfl (fun K hK=>?_) AllC.nil))
   ·skip
    go_simp
    refine⟨trivial,rfl,callsIn_wide.2 ((Hplace.out _).mono ?_)⟩
    rintro e V1 ⟨rfl,hb1⟩
    refine hK _ _ ?_
    clear hK K
    have hB1:=Xb hC0 hb1
    refine Xd (i:=12) rfl (by kernel_rfl) (fun _ _ _ h=>h) (fun V hV=>(by skip;go_simp<;>rfl)) ?_
    refine Xd (i:=13) (v:=.agg #[.bool fx.ok,.int .i64 fx.cost,.int .i64 fx.rule,.int .i64 fx.item,.int .i64 fx.frm,.int .i64 fx.unt,.slice fx.kids.addr fx.kids.len fx.kids.cap,.int .i64 fx.many]) rfl (by kernel_rfl) (fun _ _ _ h=>h) (fun V hV=>(by obtain⟨h1,h2,h3,h4⟩:=HC.out V hV;have e0:V.cell? ⟨lb,lo+pos*8,none⟩=some (.bool fx.ok):=h4 0 _ rfl;have e1:=h4 1 _ rfl;have e2:=h4 2 _ rfl;have e3:=h4 3 _ rfl;have e4:=h4 4 _ rfl;have e5:=h4 5 _ rfl;have e6:=h4 6 _ rfl;have e7:=h4 7 _ rfl;clear h1 h2 h3 h4;go_simp)) ?_
    refine Xg (i:=14) hB1 (by kernel_rfl) rfl (fun K hK=>?_)
    go_simp
    refine hK _ _ ?_
    clear hK K
    refine Xg (i:=15) (Xe hB1 _) (by kernel_rfl) rfl (fun K hK=>?_)
    go_simp
    refine hK _ _ ?_
    clear hK K
    refine Xl (Xe hB1 (.cells #[.bool fx.ok,.int .i64 fx.cost,.int .i64 fx.rule,.int .i64 fx.item,.int .i64 fx.frm,.int .i64 fx.unt,.slice fx.kids.addr fx.kids.len fx.kids.cap,.int .i64 fx.many] 93)) (by kernel_rfl) ?_ _
    refine⟨V1.heap.size,?_,World.alloc_heap_new _ _,Xe hB1 _,hB1.size⟩
    kernel_rfl
   ·skip
    go_simp
    refine hK _ _ ?_
    clear hK K
    obtain⟨V1,hV1⟩:∃v,(wr.alloc (.cells #[.bool false,.int .i64 0,.int .i64 0,.int .i64 0,.int .i64 0,.int .i64 0,.slice none 0 0,.int .i64 0] 93)).drew=v:=⟨_,rfl⟩
    have hB1:Below wr.heap.size wr V1:=by rw[← hV1];exact Xi (Xe (Below.refl _ _) _)
    have hz1:V1.heap[wr.heap.size]? = some (.cells #[.bool false,.int .i64 0,.int .i64 0,.int .i64 0,.int .i64 0,.int .i64 0,.slice none 0 0,.int .i64 0] 93 (0,0)):=by rw[← hV1];exact World.alloc_heap_new _ _
    rw[hV1]
    clear hV1
    refine Xg (i:=11) hB1 (by kernel_rfl) rfl (fun K hK=>?_)
    go_simp
    refine⟨trivial,rfl,callsIn_wide.2 ((Hplace.out _).mono ?_)⟩
    rintro e V2 ⟨rfl,hb2⟩
    refine hK _ _ ?_
    clear hK K
    have hB2:=Xb hB1 hb2
    refine Xd (i:=12) rfl (by kernel_rfl) (fun _ _ _ h=>h) (fun V hV=>(by skip;go_simp<;>rfl)) ?_
    refine Xd (i:=13) (v:=.agg #[.bool fx.ok,.int .i64 fx.cost,.int .i64 fx.rule,.int .i64 fx.item,.int .i64 fx.frm,.int .i64 fx.unt,.slice fx.kids.addr fx.kids.len fx.kids.cap,.int .i64 fx.many]) rfl (by kernel_rfl) (fun _ _ _ h=>h) (fun V hV=>(by obtain⟨h1,h2,h3,h4⟩:=HC.out V hV;have e0:V.cell? ⟨lb,lo+pos*8,none⟩=some (.bool fx.ok):=h4 0 _ rfl;have e1:=h4 1 _ rfl;have e2:=h4 2 _ rfl;have e3:=h4 3 _ rfl;have e4:=h4 4 _ rfl;have e5:=h4 5 _ rfl;have e6:=h4 6 _ rfl;have e7:=h4 7 _ rfl;clear h1 h2 h3 h4;go_simp)) ?_
    have hz2:=Xh hb2 hz1
    have zq0:=gblk hz2 0
    have zq1:=gblk hz2 1
    have zq2:=gblk hz2 2
    have zq3:=gblk hz2 3
    have zq4:=gblk hz2 4
    have zq5:=gblk hz2 5
    have zq6:=gblk hz2 6
    have zq7:=gblk hz2 7
    have hzf:=fun n=>Xf hz2 n
    refine Xg (i:=15) hB2 (by kernel_rfl) rfl (fun K hK=>?_)
    go_simp
    refine hK _ _ ?_
    clear hK K
    change wpAnyC _ _ _ _ _ _ _ _ (set8 V2 wr.heap.size fx)
    have hB9:Below wr.heap.size wr (set8 V2 wr.heap.size fx):=Yf hB2 hB2.size (Ud _ _ _) (Nat.le_refl _)
    refine Xl hB9 (by kernel_rfl) ?_ _
    refine⟨wr.heap.size,?_,Xs2 (f:=Xs0) hz2 fx,hB9,Nat.le_refl _⟩
    kernel_rfl
  rintro bx w6 ⟨hx6,hb6,hbx⟩
  have HP6:=Xa (HP.out.ext hb6)
  have HB6:=Xa hb6
  have HX6:=Xa hx6
  have Hx6:=Xa (Hx.out.keep (X':=X) (w':=w6) fun _ _ h=>h.ext hb6)
  have hxl:=Xc hx6
  have hxn:bx≠w6.heap.size:=by omega
  obtain⟨W7,hW7⟩:∃v,w6.alloc (.cells #[.bool false,.int .i64 0,.int .i64 0,.int .i64 0,.int .i64 0,.int .i64 0,.slice none 0 0,.int .i64 0] 93)=v:=⟨_,rfl⟩
  have hb7:=Yn hW7
  have HB7:=Xa hb7
  have HW7:=Xa hW7
  have HP7:=Xa (HP6.out.ext hb7)
  have x0:=gblk hx6 0
  have x1:=gblk hx6 1
  have x2:=gblk hx6 2
  have x3:=gblk hx6 3
  have x4:=gblk hx6 4
  have x5:=gblk hx6 5
  have x6:=gblk hx6 6
  have x7:=gblk hx6 7
  clear hb6 hx6 hb7 hW7 HC Hplace HP6
  cases hox:fx.ok
  ·rw[hox] at x0
   have hA0:=Hx.out.none_ hox
   have HL:Hid (Xsz (Xm c.its.xs) A q.no ps i k (j+1)=Xsz (Xm c.its.xs) A q.no ps i k j):=by
    show _=_
    rw[Xs5,Hd.out,Hm.out,hA0]
    unfold Y7
    simp
   clear hox hA0
   gi_wp2_with fail
   go_wp2_with fail
   go_roundw
   case rel=>exact⟨j+1,f,by have:=Hm.out;omega,by rw[← Hm.out];congr 1,by rw[HL.out,HW7.out];exact HP7.out⟩
   case measure=>simp[intOf];omega
  ·rw[hox] at x0
   obtain⟨c1,tx,hfx1,hfx2,hfx3,hfx4⟩:=Hx6.out.some_ hox
   have Hox:=Xa hox
   have hh6:=Xh HB6.out HH9.out
   have hk6:=Xh HB6.out HK9.out
   have a0:=gblk hh6 0
   have a1:=gblk hh6 1
   have a2:=gblk hh6 2
   have a3:=gblk hh6 3
   have a4:=gblk hh6 4
   have a5:=gblk hh6 5
   have a6:=gblk hh6 6
   have a7:=gblk hh6 7
   have a8:=gblk hh6 8
   have b0:=gblk hk6 0
   have b1:=gblk hk6 1
   have b2:=gblk hk6 2
   have b3:=gblk hk6 3
   have b4:=gblk hk6 4
   rw[HA.out] at b2
   have hwl:=Nat.le_trans HBw.out.size HB6.out.size
   have hn0:w.heap.size≠w6.heap.size:=by have:=Xc hh6;omega
   have hn1:w.heap.size+1≠w6.heap.size:=by have:=Xc hk6;omega
   have hl0:=Xc hh6
   have hl1:=Xc hk6
   have hz7:=Yv HW7.out
   have HZ7:=Xa hz7
   have hx7:=Xh HB7.out HX6.out
   have HX7:=Xa hx7
   clear hh6 hk6 hz7 hx7 hox
   gi_wp2_with fail
   go_wp2_with fail
   rw[HW7.out]
   refine(IH.out _ m _ rfl (by omega) (Xb (Xb HBw.out HB6.out) HB7.out)).mono ?_
   rintro e w8 ⟨f2,rfl,hf2,hb8⟩
   have hy8:=Xh hb8 HZ7.out
   have hx8:=Xh hb8 HX7.out
   have hP8:=HP7.out.ext hb8
   obtain⟨w9,hw9⟩:∃v,set8 w8 w6.heap.size f2=v:=⟨_,rfl⟩
   have hO9:=Ud w8 w6.heap.size f2
   have hy9:=Xs2 (f:=Xs0) hy8 f2
   rw[hw9] at hO9 hy9
   have hbW:W3.heap.size<W4.heap.size:=by have:=Hs3.out;omega
   have h46:W4.heap.size≤w6.heap.size:=Nat.le_trans HP.out.only.size HB6.out.size
   have hx9:=(hO9.block bx (Xc hx8) (by show bx≠_;omega)).trans hx8
   have HP9:=Xa (hP8.put hO9 h46 hbW (V5 hy8))
   have hX69:∀t x,TreeW X w6 t x→TreeW X w9 t x:=fun t x h=>((h.ext HB7.out).ext hb8).only hO9 fun b hb hh=>V5 hy8 (by rw[← show b=w6.heap.size from hb];exact hh.1)
   have hX89:∀t x,TreeW X w8 t x→TreeW X w9 t x:=fun t x h=>h.only hO9 fun b hb hh=>V5 hy8 (by rw[← show b=w6.heap.size from hb];exact hh.1)
   have Hf2:=Xa (hf2.keep hX89)
   have Hfx3:=Xa (hX69 _ _ hfx3)
   have HY9:=Xa hy9
   have HX9:=Xa hx9
   have Hfx1:=Xa hfx1
   have Hfx2:=Xa hfx2
   have Hfx4:=Xa hfx4
   have HbW:=Xa hbW
   have H46:=Xa h46
   have H9s:Hid (w6.heap.size<w9.heap.size):=Xc hy9
   have ho9:=HP9.out.box
   clear a0 a1 a2 a3 a4 a5 a6 a7 a8 b0 b1 b2 b3 b4 x0 x1 x2 x3 x4 x5 x6 x7
   have z0:=gblk hy8 0
   have z1:=gblk hy8 1
   have z2:=gblk hy8 2
   have z3:=gblk hy8 3
   have z4:=gblk hy8 4
   have z5:=gblk hy8 5
   have z6:=gblk hy8 6
   have z7:=gblk hy8 7
   have hzf:=fun n=>Xf hy8 n
   have x0:=gblk hx9 0
   have x1:=gblk hx9 1
   have x2:=gblk hx9 2
   have x3:=gblk hx9 3
   have x4:=gblk hx9 4
   have x5:=gblk hx9 5
   have x6:=gblk hx9 6
   have x7:=gblk hx9 7
   have y0:=gblk hy9 0
   have y1:=gblk hy9 1
   have y2:=gblk hy9 2
   have y3:=gblk hy9 3
   have y4:=gblk hy9 4
   have y5:=gblk hy9 5
   have y6:=gblk hy9 6
   have y7:=gblk hy9 7
   have o0:=gblk ho9 0
   have o1:=gblk ho9 1
   have o2:=gblk ho9 2
   have o3:=gblk ho9 3
   have o4:=gblk ho9 4
   have o5:=gblk ho9 5
   have o6:=gblk ho9 6
   have o7:=gblk ho9 7
   rw[Hox.out] at x0
   unfold set8 at hw9
   clear hy8 hx8 hb8 hP8 hO9 hy9 hx9 hX69 hX89 hf2 hfx1 hfx2 hfx3 hfx4 hbW h46 ho9
   cases ho2:f2.ok
   ·rw[ho2] at y0 hw9
    have hK0:=Hf2.out.none_ ho2
    have HL:Hid (Xsz (Xm c.its.xs) A q.no ps i k (j+1)=Xsz (Xm c.its.xs) A q.no ps i k j):=by
     show _=_
     rw[Xs5,Hd.out,Hm.out,hK0]
     unfold Y7
     simp
    clear hK0 ho2
    go_wp2_with fail
    go_roundw
    case rel=>exact⟨j+1,f,by have:=Hm.out;omega,by rw[← Hm.out];congr 1,by rw[HL.out];exact HP9.out⟩
    case measure=>simp[intOf];omega
   rw[ho2] at y0 hw9
   obtain⟨c2,ks,hk1,hk2,hk3,hk4⟩:=Hf2.out.some_ ho2
   have hd0:(Fd.of bigN ((Xsz (Xm c.its.xs) A q.no ps i k j).map kidT)).many≤bigN+1:=Xan _ _
   obtain⟨M0,hM0⟩:∃M:Nat,(Fd.of bigN ((Xsz (Xm c.its.xs) A q.no ps i k j).map kidT)).many=M:=⟨_,rfl⟩
   obtain⟨M1,hM1⟩:∃M:Nat,capN bigN (A d i m).length=M:=⟨_,rfl⟩
   obtain⟨M2,hM2⟩:∃M:Nat,capN bigN (Ye (Xm c.its.xs) A ps m k).length=M:=⟨_,rfl⟩
   have hf0:f.many=(M0:Int):=by rw[← hM0];exact HP9.out.ok.many
   rw[hM0] at hd0
   rw[hf0] at o7
   rw[Hfx4.out,hM1] at x7
   rw[hk4,hM2] at y7
   have hT:=Xui M1 M2
   obtain⟨T,hTT⟩:∃T,Zj bigN M1 M2=T:=⟨_,rfl⟩
   have hwS:=Xtj hd0 (by rw[hTT] at hT;exact hT)
   obtain⟨S,hS⟩:∃S,M0+T=S:=⟨_,rfl⟩
   rw[hS] at hwS
   obtain⟨Q,hQ⟩:∃Q,capN bigN S=Q:=⟨_,rfl⟩
   have Htm:Hid (∀V,Calls Tryz.prog 184 #[.int .i64 (M1:Int),.int .i64 (M2:Int)] V fun e w'=>e = .returned (.int .i64 (T:Int))∧V=w'):=fun V=>by
    have h:=Xjy M1 M2 V
    rw[hTT] at h
    exact h
   have Hfw:Hid (∀V,Calls Tryz.prog 151 #[.int .i64 (S:Int)] V fun e w'=>e = .returned (.int .i64 (Q:Int))∧V=w'):=fun V=>by
    have h:=few29N_any S V
    rw[hQ] at h
    exact h
   have HM0:=Xa hM0
   have HM1:=Xa hM1
   have HM2:=Xa hM2
   have HTT:=Xa hTT
   have HS:=Xa hS
   have HQ:=Xa hQ
   have Hk1:=Xa hk1
   have Hk2:=Xa hk2
   have Hk3:=Xa hk3
   have ho9':=HP9.out.box
   have hof:=fun n=>Xf ho9' n
   have hbx3:bx≠W3.heap.size:=by have:=HP.out.only.size;have:=HbW.out;omega
   have hb63:w6.heap.size≠W3.heap.size:=by have:=H46.out;have:=HbW.out;omega
   clear ho2 hM0 hM1 hM2 hf0 hd0 hT hTT hS hQ hk1 hk2 hk3 hk4 ho9'
   have hx9l:bx<w9.heap.size:=Xc HX9.out
   have hO10:Only (fun b=>b=W3.heap.size) w9 (w9.setCell ⟨W3.heap.size,7,none⟩ (.int .i64 (Q:Int))).drew:=by
    have h0:Only (fun b=>b=W3.heap.size) w9 (w9.setCell ⟨W3.heap.size,7,none⟩ (.int .i64 (Q:Int))):=Only.setCell (M:=fun b=>b=W3.heap.size) (Only.refl _ w9) (p:=⟨W3.heap.size,7,none⟩) (.inl rfl) _
    exact⟨h0.os,h0.tape,h0.output,h0.size,h0.block⟩
   have hC9:(w9.setCell ⟨W3.heap.size,7,none⟩ (.int .i64 (Q:Int))).drew.cell? ⟨bx,7,none⟩=some (.int .i64 (M1:Int))∧(w9.setCell ⟨W3.heap.size,7,none⟩ (.int .i64 (Q:Int))).drew.cell? ⟨w6.heap.size,7,none⟩=some (.int .i64 (M2:Int)) :=
    ⟨(World.cell?_of_block (w:=w9) (a:=⟨bx,7,none⟩) (hO10.block bx hx9l hbx3)).trans x7,(World.cell?_of_block (w:=w9) (a:=⟨w6.heap.size,7,none⟩) (hO10.block w6.heap.size H9s.out hb63)).trans y7⟩
   have HO10:=Xa hO10
   clear hO10
   go_wp2_with fail
   clear hw9 z0 z1 z2 z3 z4 z5 z6 z7 hzf
   refine wpIn_wide (n:=0) |>.1 ?_
   refine Td (fun (_:Unit) a=>{a with tmps:=(((((((((a.tmps.setIfInBounds 91 (.pointer (some ⟨W3.heap.size,7,none⟩))).setIfInBounds 92 (.int .i64 (M0:Int))).setIfInBounds 93 (.pointer (some ⟨bx,7,none⟩))).setIfInBounds 94 (.int .i64 (M1:Int))).setIfInBounds 95 (.pointer (some ⟨w6.heap.size,7,none⟩))).setIfInBounds 96 (.int .i64 (M2:Int))).setIfInBounds 97 (.int .i64 (T:Int))).setIfInBounds 98 (.int .i64 (S:Int))).setIfInBounds 99 (.int .i64 (Q:Int))).setIfInBounds 100 (.pointer (some ⟨W3.heap.size,7,none⟩))}) (fun _ v=>v=(w9.setCell ⟨W3.heap.size,7,none⟩ (.int .i64 (Q:Int))).drew) ?_ ?_
   ·refine Xo (fun V=>V.cell? ⟨bx,7,none⟩=some (.int .i64 (M1:Int))∧V.cell? ⟨w6.heap.size,7,none⟩=some (.int .i64 (M2:Int))) (by kernel_rfl) ?_
    have hC0:w9.drew.cell? ⟨bx,7,none⟩=some (.int .i64 (M1:Int))∧w9.drew.cell? ⟨w6.heap.size,7,none⟩=some (.int .i64 (M2:Int)):=⟨x7,y7⟩
    refine Xd (i:=0) rfl (by kernel_rfl) (fun _ _ _ h=>h) (fun V hV=>(by obtain⟨h1,h2⟩:=hV;go_simp<;>rfl)) ?_
    refine Xd (i:=2) rfl (by kernel_rfl) (fun _ _ _ h=>h) (fun V hV=>(by obtain⟨h1,h2⟩:=hV;go_simp<;>rfl)) ?_
    refine Xd (i:=3) rfl (by kernel_rfl) (fun _ _ _ h=>h) (fun V hV=>(by obtain⟨h1,h2⟩:=hV;go_simp<;>rfl)) ?_
    refine Xd (i:=4) rfl (by kernel_rfl) (fun _ _ _ h=>h) (fun V hV=>(by obtain⟨h1,h2⟩:=hV;go_simp<;>rfl)) ?_
    refine Xd (i:=5) rfl (by kernel_rfl) (fun _ _ _ h=>h) (fun V hV=>(by obtain⟨h1,h2⟩:=hV;go_simp<;>rfl)) ?_
    refine Xs (rs:=[1,6]) hC0 (by kernel_rfl) (by simp) (AllC.cons rfl (fun K hK=>?_) (AllC.cons rfl (fun K hK=>?_) AllC.nil))
    ·skip
     go_simp
     refine hK _ _ ?_
     clear hK K
     refine Xg (i:=6) hC0 (by kernel_rfl) rfl (fun K hK=>?_)
     go_simp
     refine⟨trivial,rfl,callsIn_wide.2 ((Htm.out _).mono ?_)⟩
     rintro e V1 ⟨rfl,rfl⟩
     refine hK _ _ ?_
     clear hK K
     refine Xd (i:=7) rfl (by kernel_rfl) (fun _ _ _ h=>h) (fun V hV=>(by skip;go_simp<;>rfl)) ?_
     refine Xg (i:=8) hC0 (by kernel_rfl) rfl (fun K hK=>?_)
     go_simp
     refine⟨trivial,rfl,callsIn_wide.2 ((Hfw.out _).mono ?_)⟩
     rintro e V1 ⟨rfl,rfl⟩
     refine hK _ _ ?_
     clear hK K
     refine Xd (i:=9) rfl (by kernel_rfl) (fun _ _ _ h=>h) (fun V hV=>(by skip;go_simp<;>rfl)) ?_
     refine Xg (i:=10) hC0 (by kernel_rfl) rfl (fun K hK=>?_)
     go_simp
     refine hK _ _ ?_
     clear hK K
     refine Xl hC9 (by kernel_rfl) ?_ _
     refine⟨(),?_,rfl⟩
     kernel_rfl
    ·skip
     go_simp
     refine⟨trivial,rfl,callsIn_wide.2 ((Htm.out _).mono ?_)⟩
     rintro e V1 ⟨rfl,rfl⟩
     refine hK _ _ ?_
     clear hK K
     refine Xg (i:=1) hC0 (by kernel_rfl) rfl (fun K hK=>?_)
     go_simp
     refine hK _ _ ?_
     clear hK K
     refine Xd (i:=7) rfl (by kernel_rfl) (fun _ _ _ h=>h) (fun V hV=>(by skip;go_simp<;>rfl)) ?_
     refine Xg (i:=8) hC0 (by kernel_rfl) rfl (fun K hK=>?_)
     go_simp
     refine⟨trivial,rfl,callsIn_wide.2 ((Hfw.out _).mono ?_)⟩
     rintro e V1 ⟨rfl,rfl⟩
     refine hK _ _ ?_
     clear hK K
     refine Xd (i:=9) rfl (by kernel_rfl) (fun _ _ _ h=>h) (fun V hV=>(by skip;go_simp<;>rfl)) ?_
     refine Xg (i:=10) hC0 (by kernel_rfl) rfl (fun K hK=>?_)
     go_simp
     refine hK _ _ ?_
     clear hK K
     refine Xl hC9 (by kernel_rfl) ?_ _
     refine⟨(),?_,rfl⟩
     kernel_rfl
   rintro-v rfl
   have ho10:(w9.setCell ⟨W3.heap.size,7,none⟩ (.int .i64 (Q:Int))).drew.heap[W3.heap.size]? = some (.cells #[.bool f.ok,.int .i64 f.cost,.int .i64 f.rule,.int .i64 f.item,.int .i64 f.frm,.int .i64 f.unt,.slice f.kids.addr f.kids.len f.kids.cap,.int .i64 (Q:Int)] 93 (0,0)):=Xr HP9.out.box 7 _
   obtain⟨w10,hw10⟩:∃v,(w9.setCell ⟨W3.heap.size,7,none⟩ (.int .i64 (Q:Int))).drew=v:=⟨_,rfl⟩
   rw[hw10] at ho10 HO10 ⊢
   have hX10:∀t x,TreeW X w9 t x→TreeW X w10 t x:=fun t x h=>h.only HO10.out fun b hb hh=>V5 HP9.out.box (by rw[← show b=W3.heap.size from hb];exact hh.1)
   have hx10:=(HO10.out.block bx hx9l hbx3).trans HX9.out
   have hy10:=(HO10.out.block w6.heap.size H9s.out hb63).trans HY9.out
   have HO10W:Hid (Only (fun b=>b=W3.heap.size) W4 w10):=HP9.out.only.trans HO10.out
   have hr1:=Xuo hC (by omega) (by have:=Hd.out;omega) (show i<m by have:=Hm.out;omega) (by omega) Hx6.out
   have hr2:=(Xs1 hC (st:=Xm c.its.xs) ps m k _ (fun q' hq'=>HqP.out q' hq') hkn (Zv Hk1.out).1).2.1
   have hr3:=(Xs1 hC (st:=Xm c.its.xs) ps m k _ (fun q' hq'=>HqP.out q' hq') hkn (Zv Hk1.out).1).1
   have hpl4:ps.length≤4:=HplP.out
   have hwc:IntKind.i64.wrap (fx.cost+f2.cost)=fx.cost+f2.cost:=IntWalk.i64_in _ (by rw[Hk2.out];simp only at hr2 hr3;omega)
   have Hfd:Hid (Fd.of bigN ((Xsz (Xm c.its.xs) A q.no ps i k (j+1)).map kidT)=Fd.add bigN (Fd.of bigN ((Xsz (Xm c.its.xs) A q.no ps i k j).map kidT)) ⟨T,some (fx.cost+f2.cost,.node 0 0 0 0 (tx :: ks))⟩):=by
    show _=_
    rw[Xs5,Hd.out,Hm.out,fd_kid Hfx1.out Hk1.out,HM1.out,HM2.out,HTT.out,Hfx2.out,Hk2.out]
   have Hr:=Xa hwc
   have x0:=gblk hx10 0
   have x1:=gblk hx10 1
   have x2:=gblk hx10 2
   have x3:=gblk hx10 3
   have x4:=gblk hx10 4
   have x5:=gblk hx10 5
   have x6:=gblk hx10 6
   have x7:=gblk hx10 7
   have y0:=gblk hy10 0
   have y1:=gblk hy10 1
   have y2:=gblk hy10 2
   have y3:=gblk hy10 3
   have y4:=gblk hy10 4
   have y5:=gblk hy10 5
   have y6:=gblk hy10 6
   have y7:=gblk hy10 7
   have o0:=gblk ho10 0
   have o1:=gblk ho10 1
   have o2:=gblk ho10 2
   have o3:=gblk ho10 3
   have o4:=gblk ho10 4
   have o5:=gblk ho10 5
   have o6:=gblk ho10 6
   have o7:=gblk ho10 7
   rw[Hox.out] at x0
   have Hx10:=Xa hx10
   have Hy10:=Xa hy10
   have Ho10:=Xa ho10
   have HX10:=Xa hX10
   have hof:=fun n=>Xf ho10 n
   clear hx10 hy10 ho10 hX10 hr1 hr2 hr3 hpl4 hw10 hx9l hC9
   have hcase:(f.ok=true∧¬fx.cost+f2.cost<f.cost)∨(f.ok=false∨(f.ok=true∧fx.cost+f2.cost<f.cost)):=by
    cases f.ok<;>simp<;>omega
   rcases hcase with ⟨hk1,hk2⟩|hcase
   ·have g5:decide (fx.cost+f2.cost<f.cost)=false:=decide_eq_false hk2
    rw[hk1] at o0
    have HF:=Xa (HP9.out.ok.skip (cost:=fx.cost+f2.cost) (m:=T) (t:=.node 0 0 0 0 (tx :: ks)) HX10.out (fun h=>by rcases h with h|h;rw[hk1] at h;cases h;exact hk2 h))
    gi_wp2_with fail
    go_wp2_with fail
    go_roundw
    case rel=>exact⟨j+1,⟨f.ok,f.cost,f.rule,f.item,f.frm,f.unt,f.kids,(Q:Int)⟩,by have:=Hm.out;omega,by rw[← Hm.out];congr 1,⟨HO10W.out,Ho10.out,by rw[Hfd.out,← HQ.out,← HS.out,← HM0.out];exact HF.out⟩⟩
    case measure=>simp[intOf];omega
   ·have Hcase:=Xa hcase
    obtain⟨w11,hw11⟩:∃v,(w10.setCell ⟨W3.heap.size,0,none⟩ (.bool true)).setCell ⟨W3.heap.size,1,none⟩ (.int .i64 (fx.cost+f2.cost))=v:=⟨_,rfl⟩
    have hO11:=Xtc w10 W3.heap.size (.bool true) (.int .i64 (fx.cost+f2.cost))
    have ho11:=Xtw Ho10.out (.bool true) (.int .i64 (fx.cost+f2.cost))
    rw[hw11] at hO11 ho11
    have hx11:=(hO11.block bx (Xc Hx10.out) hbx3).trans Hx10.out
    have hy11:=(hO11.block w6.heap.size (Xc Hy10.out) hb63).trans Hy10.out
    have hX11:∀t x,TreeW X w9 t x→TreeW X w11 t x:=fun t x h=>(HX10.out t x h).only hO11 fun b hb hh=>V5 Ho10.out (by rw[← show b=W3.heap.size from hb];exact hh.1)
    have hO11W:Only (fun b=>b=W3.heap.size) W4 w11:=HO10W.out.trans hO11
    obtain⟨w12,hw12⟩:∃v,w11.alloc (.cells #[.int .i64 fx.rule,.int .i64 fx.item,.int .i64 fx.frm,.int .i64 fx.unt,.slice fx.kids.addr fx.kids.len fx.kids.cap] 32)=v:=⟨_,rfl⟩
    have hb12:=Yn hw12
    have hy12:=Xh hb12 hy11
    have hks:=(Xs1 hC (st:=Xm c.its.xs) ps m k _ (fun q' hq'=>HqP.out q' hq') hkn (Zv Hk1.out).1).2.2
    have hpl4:ps.length≤4:=HplP.out
    obtain⟨A9,n9,c9,w13,hrun,hB13,htr⟩:=Xt9 (X:=X) (w:=w11) (V:=w12) (b:=w11.heap.size) (t:=tx) (x:=fx.tree) (y:=f2.tree) (ks:=ks) hb12 (fun b hb=>by have:=hX b hb;have:=hO11W.size;have:=HB4.out.size;omega) (Nat.le_refl _) (Yv hw12) (hX11 _ _ Hfx3.out) (hX11 _ _ Hk3.out) (by simp only at hks;omega)
    have ho13:=Xh hB13 ho11
    obtain⟨w14,hw14⟩:∃v,((((w13.setCell ⟨W3.heap.size,2,none⟩ (.int .i64 0)).setCell ⟨W3.heap.size,2+1,none⟩ (.int .i64 0)).setCell ⟨W3.heap.size,2+2,none⟩ (.int .i64 0)).setCell ⟨W3.heap.size,2+3,none⟩ (.int .i64 0)).setCell ⟨W3.heap.size,2+4,none⟩ (.slice A9 n9 c9)=v:=⟨_,rfl⟩
    have hO14:=Xs7 w13 W3.heap.size (.int .i64 0) (.int .i64 0) (.int .i64 0) (.int .i64 0) (.slice A9 n9 c9)
    have ho14:=Xth ho13 (.int .i64 0) (.int .i64 0) (.int .i64 0) (.int .i64 0) (.slice A9 n9 c9)
    rw[hw14] at hO14 ho14
    have htr14:=htr.only hO14 fun b hb hh=>V5 ho13 (by rw[← show b=W3.heap.size from hb];exact hh.1)
    have HF:=Xa (HP9.out.ok.took (X':=X) (w':=w14) (cost:=fx.cost+f2.cost) (m:=T) htr14 (by rcases Hcase.out with h|h;exact .inl h;exact .inr h.2))
    have HO14:Hid (Only (fun b=>b=W3.heap.size) W4 w14):=(hO11W.trans ⟨hB13.os,hB13.tape,hB13.output,hB13.size,fun b hb _=>hB13.block b hb⟩).trans hO14
    have Ho14:=Xa ho14
    have Hrun:=Xa hrun
    have hqf:=fun n=>Xf ho13 n
    have e0:=gblk hx11 0
    have e1:=gblk hx11 1
    have e2:=gblk hx11 2
    have e3:=gblk hx11 3
    have e4:=gblk hx11 4
    have e5:=gblk hx11 5
    have e6:=gblk hx11 6
    have e7:=gblk hx11 7
    have d0:=gblk hy12 0
    have d1:=gblk hy12 1
    have d2:=gblk hy12 2
    have d3:=gblk hy12 3
    have d4:=gblk hy12 4
    have d5:=gblk hy12 5
    have d6:=gblk hy12 6
    have d7:=gblk hy12 7
    have g0:=gblk ho13 0
    have g1:=gblk ho13 1
    have g2:=gblk ho13 2
    have g3:=gblk ho13 3
    have g4:=gblk ho13 4
    have g5:=gblk ho13 5
    have g6:=gblk ho13 6
    have g7:=gblk ho13 7
    clear hcase hO11 ho11 hx11 hy11 hX11 hO11W hb12 hy12 hks hpl4 hB13 htr ho13 hO14 ho14 htr14 hrun
    rcases Hcase.out with hk1|⟨hk1,hk2⟩
    all_goals
     rw[hk1] at o0
     gi_wp2_with fail
     go_wp2_with (at_builtin;refine Xs9 rfl _ _ 30 rfl rfl rfl Hrun.out ?_)
     go_roundw
     case rel=>exact⟨j+1,⟨true,fx.cost+f2.cost,0,0,0,0,⟨A9,n9,c9⟩,(Q:Int)⟩,by have:=Hm.out;omega,by rw[← Hm.out];congr 1,⟨HO14.out,Ho14.out,by rw[Hfd.out,← HQ.out,← HS.out,← HM0.out];exact HF.out⟩⟩
     case measure=>simp[intOf];omega
theorem Xud (X:Nat→Prop) (c:Ch29) (n:Nat) (A:Int→Nat→Nat→List Dv) (F:List FoundG) (hC:ChC c n A):∀(ps:List PartG) (r:RuleG) (p i k:Nat) (w:World),r.parts.xs.drop p=ps→p≤r.parts.xs.length→r.parts.xs.length≤4→(∀q∈r.parts.xs,q.text.size=0→0≤q.no∧q.no<c.g.cats.xs.length)→i≤k→k≤n→(∀b,X b→b<w.heap.size)→r.lies w→ChW X c n A F w →
  Calls Tryz.prog 152 #[.agg #[.string c.g.name,.slice c.g.cats.addr c.g.cats.xs.length c.g.cats.cap,.string c.g.start,.int .i64 c.g.startNo,.slice c.g.entries.addr c.g.entries.xs.length c.g.entries.cap,.slice c.g.rules.addr c.g.rules.xs.length c.g.rules.cap,.slice c.its.addr c.its.xs.length c.its.cap,.int .i64 c.n,.slice c.l.addr c.l.len c.l.cap],.agg #[.string r.cat,.int .i64 r.no,.slice r.parts.addr r.parts.xs.length r.parts.cap,.slice r.gives.addr r.gives.xs.length r.gives.cap,.int .i64 r.cost],.int .i64 (p:Int),.int .i64 (i:Int),.int .i64 (k:Int)] w (Xsy X (Ye (Xm c.its.xs) A ps i k) w):=by
 intro ps
 induction ps with
 | nil=>exact fun r p i k w hps hp h4 hq hik hkn hX hr hW=>Xuf X c n A F r p i k w hps hp h4 hq hik hkn hX hr hW
 | cons q ps ih =>
  intro r p i k w hps hp h4 hq hik hkn hX hr hW
  by_cases ht:q.text.size≠0
  ·exact Xt2 X c n A F hC q ps r p i k w ih hps hp h4 hq hik hkn hX hr hW ht
  ·exact Xue X c n A F hC q ps r p i k w ih hps hp h4 hq hik hkn hX hr hW ht
end Go.Proofs.YthojaplnimoacaaGreatDoor
