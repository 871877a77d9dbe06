/- Texts of this claim, one after the other: TagQ, AddP, PlT, TagR, TagS, Law28z, TraS, TrR, TrW. -/
import Derived.Test.YtolpbjjapodmnaaGreatDoorM10
import Derived.Test.YtolpbjjapodmnaaGreatDoorM9
import Derived.Test.YtolpbjjapodmnaaGreatDoorM11
import Derived.Test.YtolpbjjapodmnaaGreatDoorM12
import Derived.Test.YtolpbjjapodmnaaGreatDoorM16
namespace Go.Proofs.YtolpbjjapodmnaaGreatDoor
open Go.RowKit Go.Han
set_option maxRecDepth 100000
/-! ### the first words -/
theorem X17 (cats:List ByteArray) (S:List Term) {ws:List ByteArray} {i m:Nat} (h0:0<m) (h:ws.length<i+m):Xwk cats S ws i m=[]:=by
 unfold Xwk;rw[X1y cats S h0 h]
theorem Xyb {cats:List ByteArray} {S:List Term} {ws:List ByteArray} {i m:Nat} {x:ItemC} (h:x∈Xwk cats S ws i m) :
  ∃t,Xyq cats S ws i m=some t∧x=⟨idxF t.cat cats,i,i+m,0,t.tgt.xs,t.no⟩:=by
 unfold Xwk at h
 split at h
 ·exact⟨_,by assumption,List.mem_singleton.1 h⟩
 ·cases h
theorem Xzc {g:Gram} {S:List Term} {ws:List ByteArray} {i:Nat} {s:ByteArray} {x:ItemC} (h:x∈Xxm g S ws i s):x.frm=i∧x.unt=i+1:=by
 have key:∀y,y∈Xwk g.cats.xs S ws i 1++Xwl g.entries.xs i s→y.frm=i∧y.unt=i+1:=by
  intro y hy
  rcases List.mem_append.1 hy with hy|hy
  ·obtain⟨t,_,rfl⟩:=Xyb hy
   exact⟨rfl,rfl⟩
  ·obtain⟨z,_,rfl⟩:=List.mem_map.1 hy
   exact⟨rfl,rfl⟩
 unfold Xxm at h
 split at h
 ·obtain⟨z,_,rfl⟩:=List.mem_map.1 h
  exact⟨rfl,rfl⟩
 ·exact key x h
theorem X43 {g:Gram} {S:List Term} {ws:List ByteArray} {i:Nat} {s:ByteArray} {x:ItemC} (h:x∈Xx1 g S ws i s):x.frm=i∧(i:Int)+1≤x.unt:=by
 unfold Xx1 at h
 simp only[List.mem_append] at h
 rcases h with ((h|h)|h)|h
 ·obtain⟨h1,h2⟩:=Xzc h
  exact⟨h1,by omega⟩
 all_goals
  obtain⟨t,_,rfl⟩:=Xyb h
  exact⟨rfl,by show (i:Int)+1≤(i:Int)+_;omega⟩
theorem Xyi {g:Gram} {l:List Term} {lang:Int} {ws:List ByteArray} {t u:Int} (h:Xwu g l lang ws t u=0):Ys g=0∧Xw0 l lang t u=0∧ws.length≤16∧ws.all Yi=true∧(Xxc g (Xwo l lang t u) ws).length≤1024:=by
 unfold Xwu at h
 split at h
 ·contradiction
 split at h
 ·contradiction
 split at h
 ·cases h
 split at h
 ·cases h
 split at h
 ·cases h
 rename_i h1 h2 h3 h4 h5
 exact⟨by omega,by omega,by omega,by simpa using h4,by omega⟩
/-! ### a term that is added -/
def isB (ws src:List ByteArray) (i:Int):Bool:=decide (0≤i) && decide (i.toNat+src.length≤ws.length) && decide ((ws.drop i.toNat).take src.length=src)
theorem X2y {S:List Term} (hu:∀x∈S,∀y∈S,x.src.xs=y.src.xs→x=y) (cats ws:List ByteArray) (i many:Nat) (y:Term) :
  Xyq cats S ws i many=some y↔y∈S∧y.src.xs.length=many∧Xxn y (ws.drop i)=true∧catB cats y.cat=true:=by
 unfold Xyq
 constructor
 ·intro h
  have h1:=List.find?_some h
  simp only[Bool.and_eq_true,decide_eq_true_eq] at h1
  exact⟨List.mem_of_find?_eq_some h,h1.1.1,h1.1.2,h1.2⟩
 ·rintro⟨hy,h1,h2,h3⟩
  cases hf:S.find? (fun x=>decide (x.src.xs.length=many) && Xxn x (ws.drop i) && catB cats x.cat) with
  | none =>
   rw[List.find?_eq_none] at hf
   exact absurd (by simp[h1,h2,h3]) (hf y hy)
  | some z =>
   have h4:=List.find?_some hf
   have h5:=List.mem_of_find?_eq_some hf
   simp only[Bool.and_eq_true,decide_eq_true_eq,Xxn] at h4 h2
   have:z.src.xs=y.src.xs:=by rw[← h4.1.2,← h2,h4.1.1,h1]
   rw[hu z h5 y hy this]
theorem X33 {cats:List ByteArray} {s:ByteArray} (h:catB cats s=true):0≤idxF s cats:=by
 unfold catB at h;simpa using h
theorem X9e {ws src:List ByteArray} (h0:src≠[]) (i:Nat):isB ws src i=decide ((ws.drop i).take src.length=src):=by
 unfold isB
 rw[Bool.eq_iff_iff]
 simp only[Bool.and_eq_true,decide_eq_true_eq,Int.toNat_natCast]
 constructor
 ·exact fun h=>h.2
 ·intro h
  refine⟨⟨by omega,?_⟩,h⟩
  have:=congrArg List.length h
  rw[List.length_take,List.length_drop] at this
  have:0<src.length:=List.length_pos_iff.2 h0
  omega
end Go.Proofs.YtolpbjjapodmnaaGreatDoor
/- Terms that are added, in plain lists: what Add gives. No program in sight. -/
namespace Go.Proofs.YtolpbjjapodmnaaGreatDoor
open Go.RowKit Go.Han
end Go.Proofs.YtolpbjjapodmnaaGreatDoor
namespace Go.Proofs.YtolpbjjapodmnaaGreatDoor
open Go.RowKit Go.Han
theorem Xx5 {l:List Term} {lang t u:Int} (h:Xw0 l lang t u=0):Xwz l=0∧(langB lang && tmB t && tmB u)=true:=by
 unfold Xw0 at h
 by_cases hc:Xwz l=0
 ·rw[if_neg (by simpa using hc)] at h
  refine⟨hc,?_⟩
  cases hb:(langB lang && tmB t && tmB u)
  ·rw[hb] at h;cases h
  ·rfl
 ·rw[if_pos hc] at h;exact absurd h hc
end Go.Proofs.YtolpbjjapodmnaaGreatDoor
namespace Go.Proofs.YtolpbjjapodmnaaGreatDoor
open Go.RowKit Go.Han
set_option maxRecDepth 100000
theorem X34 {g:Gram} (h:Ys g=0):bigB g=false∧Xz g=true∧Vm g=false∧Zm g=true:=by
 unfold Ys at h
 split at h
 ·cases h
 split at h
 ·cases h
 split at h
 ·cases h
 split at h
 ·rename_i h1 h2 h3 h4
  exact⟨by simpa using h1,by simpa using h2,by simpa using h3,h4⟩
 ·cases h
theorem X3g {g:Gram} (h:Ys g=0):∀x∈g.entries.xs,0≤x.no∧x.no<g.cats.xs.length:=by
 intro x hx
 obtain⟨_,h2,_,h4⟩:=X34 h
 unfold Xz at h2
 unfold Zm at h4
 simp only[Bool.and_eq_true,decide_eq_true_eq,List.all_eq_true] at h2 h4
 have h5:=h4.1.2 x hx
 have h6:=h2.1.2 x hx
 unfold Yt at h6
 simp only[Bool.and_eq_true] at h6
 have h7:=X33 h6.1.1.1.2
 have:=Xee x.cat g.cats.xs
 omega
theorem Xya {l:List Term} (h:Xwz l=0) (lang t u:Int):∀x∈Xwo l lang t u,x.ok=true:=fun x hx=>(Xx2 h).2.1 x (List.mem_filter.1 hx).1
theorem Xyh {l:List Term} (h:Xwz l=0) (lang t u:Int):∀x∈Xwo l lang t u,∀y∈Xwo l lang t u,x.src.xs=y.src.xs→x=y:=X5w (Xx2 h).2.2
/-! ### terms that do not matter -/
/-! ### the term that is found -/
def X5e (cats ws:List ByteArray) (x:ItemC) (t:Term):Bool :=
 decide (t.no=x.term) && decide (cats[x.cat.toNat]? = some t.cat) && decide ((t.src.xs.length:Int)=x.unt-x.frm) && isB ws t.src.xs x.frm && decide (x.cost=0) && decide (x.tgt=t.tgt.xs)
def X1g (cats ws:List ByteArray) (S:List Term) (x:ItemC):Bool:=S.any (X5e cats ws x)
def X0j (ncats n:Nat) (x:ItemC):Bool:=decide (0≤x.cat) && decide (x.cat<ncats) && decide (0≤x.frm) && decide (x.frm<x.unt) && decide (x.unt≤n)
def X06 (x:ItemC):Bool:=decide (x.unt=x.frm+1)
def Xxw (cats ws:List ByteArray) (S:List Term) (x:ItemC):Bool:=X0j cats.length ws.length x && (X1g cats ws S x || (decide (x.term = -1) && X06 x))
def Xy2 (i:Int) (L:List ItemC):Nat:=L.countP fun x=>X06 x && decide (x.frm=i)
def Xxk (cats ws:List ByteArray) (S:List Term) (i:Int) (L:List ItemC):Nat:=L.countP fun x => !X1g cats ws S x && decide (x.frm=i)
def X1u (es:List EntryG) (s:ByteArray):Nat:=es.countP fun x=>decide (x.text=s)
def X6g (cats:List ByteArray) (S:List Term) (s:ByteArray):Bool:=S.any fun t=>decide (t.src.xs=[s]) && catB cats t.cat
def X8l (g:Gram) (S:List Term) (s:ByteArray):Nat:=if X1u g.entries.xs s=0∧X6g g.cats.xs S s=false then g.cats.xs.length else X1u g.entries.xs s
theorem X1h {cats ws:List ByteArray} {S:List Term} {i m:Nat} (h0:0<m) {t:Term} (hp:Xyq cats S ws i m=some t):X1g cats ws S ⟨idxF t.cat cats,i,i+m,0,t.tgt.xs,t.no⟩=true∧t∈S∧i+m≤ws.length∧0≤idxF t.cat cats:=by
 have hlen:i+m≤ws.length:=Nat.le_of_not_lt fun h=>by rw[X1y cats S h0 h] at hp;cases hp
 unfold Xyq at hp
 have h1:=List.find?_some hp
 have h2:=List.mem_of_find?_eq_some hp
 simp only[Bool.and_eq_true,decide_eq_true_eq,Xxn] at h1
 have hc:=X33 h1.2
 refine⟨List.any_eq_true.2 ⟨t,h2,?_⟩,h2,hlen,hc⟩
 unfold X5e
 have hne:t.src.xs≠[]:=fun e=>by rw[e] at h1;simp at h1;omega
 have e1:cats[(idxF t.cat cats).toNat]? = some t.cat:=Xfb t.cat cats _ (by omega)
 have e2:isB ws t.src.xs (i:Int)=true:=by rw[X9e hne];simpa using h1.1.2
 have e3:decide ((t.src.xs.length:Int)=(i:Int)+m-i)=true:=by simp;omega
 simp only[e1,e2,e3]
 simp
theorem X4c {cats ws:List ByteArray} {S:List Term} (hok:∀x∈S,x.ok=true) {x:ItemC} (h:x.term<0):X1g cats ws S x=false:=by
 unfold X1g
 rw[List.any_eq_false]
 intro t ht hc
 have:=hok t ht
 unfold Term.ok noB at this
 unfold X5e at hc
 simp only[Bool.and_eq_true,decide_eq_true_eq] at this hc
 omega
structure WordTk (g:Gram) (ws:List ByteArray) (S:List Term) (i:Nat) (s:ByteArray):Prop where
 fit:∀x∈Xx1 g S ws i s,Xxw g.cats.xs ws S x=true
 rest:Xxk g.cats.xs ws S i (Xx1 g S ws i s)=X8l g S s
 ones:0<g.cats.xs.length→0<Xy2 i (Xx1 g S ws i s)
theorem X3i {cats ws:List ByteArray} {S:List Term} (hok:∀x∈S,x.ok=true) (es:List EntryG) (i:Nat) (s:ByteArray):Xxk cats ws S i (Xwl es i s)=X1u es s:=by
 have e:Xxk cats ws S i (Xwl es i s)=(Xwl es i s).length:=by
  unfold Xxk
  rw[List.countP_eq_length]
  intro x hx
  obtain⟨z,_,rfl⟩:=List.mem_map.1 hx
  rw[X4c hok (by show (-1:Int)<0;decide)]
  simp[X0b]
 rw[e]
 unfold Xwl X1u
 rw[List.length_map,List.countP_eq_length_filter]
theorem X7m {cats ws:List ByteArray} {S:List Term} {i m:Nat} (h0:0<m):Xxk cats ws S i (Xwk cats S ws i m)=0:=by
 unfold Xxk
 rw[List.countP_eq_zero]
 intro x hx
 obtain⟨t,ht,rfl⟩:=Xyb hx
 rw[(X1h h0 ht).1];simp
theorem X84 {cats ws:List ByteArray} {S:List Term} (hok:∀x∈S,x.ok=true) (n i:Nat) (s:ByteArray):Xxk cats ws S i (unkC n i s)=n:=by
 have e:Xxk cats ws S i (unkC n i s)=(unkC n i s).length:=by
  unfold Xxk
  rw[List.countP_eq_length]
  intro x hx
  obtain⟨z,_,rfl⟩:=List.mem_map.1 hx
  rw[X4c hok (by show (-1:Int)<0;decide)]
  simp
 rw[e];unfold unkC;simp
theorem Xxl (cats ws:List ByteArray) (S:List Term) (i:Int) (a b:List ItemC):Xxk cats ws S i (a++b)=Xxk cats ws S i a+Xxk cats ws S i b:=by unfold Xxk;rw[List.countP_append]
theorem Xxv (i:Int) (a b:List ItemC):Xy2 i (a++b)=Xy2 i a+Xy2 i b:=by unfold Xy2;rw[List.countP_append]
theorem X5y {cats:List ByteArray} {S:List Term} (hu:∀x∈S,∀y∈S,x.src.xs=y.src.xs→x=y) {ws:List ByteArray} {i:Nat} {s:ByteArray} (hs:ws[i]? = some s):X6g cats S s=decide ((Xwk cats S ws i 1).length≠0):=by
 have hd:(ws.drop i).take 1=[s]:=by
  obtain⟨hi,he⟩:=List.getElem?_eq_some_iff.1 hs
  rw[List.drop_eq_getElem_cons hi,he];rfl
 cases hp:Xyq cats S ws i 1 with
 | some t =>
  have h:=(X2y hu cats ws i 1 t).1 hp
  have e:(Xwk cats S ws i 1).length=1:=by unfold Xwk;rw[hp];rfl
  rw[e]
  unfold X6g
  rw[decide_eq_true (by decide),List.any_eq_true]
  refine⟨t,h.1,?_⟩
  have h2:=h.2.2.1
  simp only[Xxn,decide_eq_true_eq] at h2
  rw[h.2.1,hd] at h2
  rw[h.2.2.2,← h2];simp
 | none =>
  have e:(Xwk cats S ws i 1).length=0:=by unfold Xwk;rw[hp];rfl
  rw[e]
  unfold X6g
  rw[decide_eq_false (by decide),List.any_eq_false]
  intro t ht hc
  simp only[Bool.and_eq_true,decide_eq_true_eq] at hc
  have:=(X2y hu cats ws i 1 t).2 ⟨ht,by rw[hc.1];rfl,by unfold Xxn;rw[hc.1];simpa using hd,hc.2⟩
  rw[hp] at this;cases this
theorem X9n {g:Gram} (hc:Ys g=0) {S:List Term} (hok:∀x∈S,x.ok=true) (hu:∀x∈S,∀y∈S,x.src.xs=y.src.xs→x=y) {ws:List ByteArray} {i:Nat} {s:ByteArray} (hs:ws[i]? = some s):WordTk g ws S i s:=by
 have hi:i<ws.length:=(List.getElem?_eq_some_iff.1 hs).1
 have fitT:∀m,0<m→∀x∈Xwk g.cats.xs S ws i m,Xxw g.cats.xs ws S x=true:=by
  intro m h0 x hx
  obtain⟨t,ht,rfl⟩:=Xyb hx
  obtain⟨h1,_,h3,h4⟩:=X1h h0 ht
  have:=Xee t.cat g.cats.xs
  unfold Xxw X0j
  rw[h1]
  simp only[Bool.and_eq_true,decide_eq_true_eq,Bool.true_or,and_true]
  omega
 have fitE:∀x:ItemC,0≤x.cat→x.cat<g.cats.xs.length→x.frm=i→x.unt=i+1→x.term = -1→Xxw g.cats.xs ws S x=true:=by
  intro x h1 h2 h3 h4 h5
  unfold Xxw X0j X06
  rw[h3,h4,h5]
  simp only[Bool.and_eq_true,decide_eq_true_eq,Bool.or_eq_true]
  exact⟨by omega,.inr ⟨trivial,trivial⟩⟩
 have hrT:∀m,0<m→Xxk g.cats.xs ws S i (Xwk g.cats.xs S ws i m)=0:=fun m h0=>X7m h0
 refine⟨fun x hx=>?_,?_,fun h0=>?_⟩
 ·unfold Xx1 at hx
  simp only[List.mem_append] at hx
  rcases hx with ((hx|hx)|hx)|hx
  ·have h1:=Xzc hx
   unfold Xxm at hx
   split at hx
   ·obtain⟨z,hz,rfl⟩:=List.mem_map.1 hx
    refine fitE _ (Int.natCast_nonneg _) ?_ rfl rfl rfl
    have:=List.mem_range.1 hz
    show (z:Int)<_;omega
   ·rcases List.mem_append.1 hx with hx|hx
    ·exact fitT 1 (by decide) x hx
    ·obtain⟨z,hz,rfl⟩:=List.mem_map.1 hx
     have:=X3g hc z (List.mem_filter.1 hz).1
     exact fitE _ this.1 this.2 rfl rfl rfl
  ·exact fitT 2 (by decide) x hx
  ·exact fitT 3 (by decide) x hx
  ·exact fitT 4 (by decide) x hx
 ·unfold Xx1
  rw[Xxl,Xxl,Xxl,hrT 2 (by decide),hrT 3 (by decide),hrT 4 (by decide)]
  unfold Xxm X8l
  rw[X5y hu hs]
  have he:(Xwl g.entries.xs i s).length=X1u g.entries.xs s:=by unfold Xwl X1u;rw[List.length_map,List.countP_eq_length_filter]
  rw[List.length_append,he]
  by_cases hz:(Xwk g.cats.xs S ws i 1).length+X1u g.entries.xs s=0
  ·rw[if_pos hz,X84 hok,if_pos ⟨by omega,decide_eq_false (fun h=>h (by omega))⟩]
   rfl
  ·rw[if_neg hz,Xxl,hrT 1 (by decide),X3i hok,if_neg]
   ·omega
   ·rintro⟨h1,h2⟩
    have:=of_decide_eq_false h2
    omega
 ·unfold Xx1
  rw[Xxv,Xxv,Xxv]
  have:0<Xy2 i (Xxm g S ws i s):=by
   have hall:Xy2 i (Xxm g S ws i s)=(Xxm g S ws i s).length:=by
    unfold Xy2
    rw[List.countP_eq_length]
    intro x hx
    obtain⟨h1,h2⟩:=Xzc hx
    unfold X06
    rw[h1,h2];simp
   rw[hall]
   unfold Xxm
   split
   ·unfold unkC;simpa using h0
   ·omega
  omega
theorem Xz7 {g:Gram} (hc:Ys g=0) {S:List Term} (hok:∀x∈S,x.ok=true) (hu:∀x∈S,∀y∈S,x.src.xs=y.src.xs→x=y) {ws:List ByteArray}:∀(l:List ByteArray) (k:Nat),ws.drop k=l →
  (∀x∈Xww g S ws k l,Xxw g.cats.xs ws S x=true)∧∀(i:Nat) (s:ByteArray),k≤i→ws[i]? = some s→Xxk g.cats.xs ws S i (Xww g S ws k l)=X8l g S s∧(0<g.cats.xs.length→0<Xy2 i (Xww g S ws k l))
 | [],k,h=>by
  refine⟨fun x hx=>(by cases hx),fun i s hk hs=>?_⟩
  have h1:=(List.getElem?_eq_some_iff.1 hs).1
  have:=List.length_drop (i:=k) (l:=ws)
  rw[h] at this
  simp at this
  omega
 | s :: l,k,h=>by
  have hlt:k<ws.length:=by
   have:=List.length_drop (i:=k) (l:=ws)
   rw[h] at this
   simp at this
   omega
  rw[List.drop_eq_getElem_cons hlt] at h
  simp only[List.cons.injEq] at h
  obtain⟨hs,hl⟩:=h
  have hsk:ws[k]? = some s:=by rw[List.getElem?_eq_getElem hlt,hs]
  obtain⟨ih1,ih2⟩:=Xz7 hc hok hu l (k+1) hl
  have hw:=X9n hc hok hu hsk
  have hfar:∀(l:List ByteArray) (j:Nat),∀x∈Xww g S ws j l,(j:Int)≤x.frm:=by
   intro l
   induction l with
   | nil=>intro j x hx;cases hx
   | cons s l ih =>
    intro j x hx
    rw[Xww] at hx
    rcases List.mem_append.1 hx with h|h
    ·rw[(X43 h).1];omega
    ·have:=ih (j+1) x h;omega
  refine⟨fun x hx=>?_,fun i s' hk hs'=>?_⟩
  ·rw[Xww] at hx
   rcases List.mem_append.1 hx with h|h
   ·exact hw.fit x h
   ·exact ih1 x h
  ·rw[Xww,Xxl,Xxv]
   by_cases hik:i=k
   ·subst hik
    have e:s'=s:=by rw[hsk] at hs';exact(Option.some.inj hs').symm
    subst e
    have h0:Xxk g.cats.xs ws S i (Xww g S ws (i+1) l)=0:=by
     unfold Xxk
     rw[List.countP_eq_zero]
     intro x hx hcc
     simp only[Bool.and_eq_true,decide_eq_true_eq] at hcc
     have:=hfar l (i+1) x hx
     omega
    rw[h0,hw.rest]
    exact⟨rfl,fun h=>by have:=hw.ones h;omega⟩
   ·obtain⟨a1,a2⟩:=ih2 i s' (by omega) hs'
    have h0:Xxk g.cats.xs ws S i (Xx1 g S ws k s)=0:=by
     unfold Xxk
     rw[List.countP_eq_zero]
     intro x hx hcc
     simp only[Bool.and_eq_true,decide_eq_true_eq] at hcc
     have:=(X43 hx).1
     omega
    rw[h0,a1]
    exact⟨by omega,fun h=>by have:=a2 h;omega⟩
end Go.Proofs.YtolpbjjapodmnaaGreatDoor
namespace Go.Proofs.YtolpbjjapodmnaaGreatDoor
open Go.RowKit Go.Han
attribute [local irreducible] wpStill wpQuiet
set_option maxRecDepth 100000
theorem X6f:∀(l:List ByteArray) (k:Nat),∀x∈Xxo k l,0≤x.frm∧x.unt=x.frm+1∧x.unt≤(k:Int)+l.length
 | [],_,x,h=>by cases h
 | s :: l,k,x,h=>by
  unfold Xxo at h
  rcases List.mem_cons.1 h with rfl|h
  ·exact⟨by show (0:Int)≤(k:Int);omega,rfl,by show (k:Int)+1≤_;simp only[List.length_cons];omega⟩
  ·have:=X6f l (k+1) x h
   simp only[List.length_cons]
   exact⟨this.1,this.2.1,by omega⟩
theorem X9m {g:Gram} {l:List Term} {lang t u:Int} {ws:List ByteArray} (h:Xwu g l lang ws t u=0):∀x∈Xxc g (Xwo l lang t u) ws,0≤x.frm∧x.frm<x.unt∧x.unt≤ws.length:=by
 obtain⟨hc,hs,h16,hw,hl⟩:=Xyi h
 have hk:=Xx5 hs
 intro x hx
 unfold Xxc at hx
 rcases List.mem_append.1 hx with hx|hx
 ·have:=X6f ws 0 x hx
  refine⟨this.1,?_,?_⟩<;>omega
 ·have h1:=(Xz7 hc (Xya hk.1 lang t u) (Xyh hk.1 lang t u) ws 0 rfl).1 x hx
  unfold Xxw X0j at h1
  simp only[Bool.and_eq_true,decide_eq_true_eq] at h1
  exact⟨h1.1.1.1.2,h1.1.1.2,h1.1.2⟩
end Go.Proofs.YtolpbjjapodmnaaGreatDoor
namespace Go.Proofs.YtolpbjjapodmnaaGreatDoor
open Go.RowKit Go.Han
set_option maxRecDepth 100000
/-! ### word by word -/
def Xx6 (o:Option ItemG) (x:ItemG):Bool:=match o with|none=>true|some b=>decide (b.unt<x.unt)
def Xwq (i:Int) (o:Option ItemG) (x:ItemG):Option ItemG:=if 0≤x.cat∧x.frm=i∧Xx6 o x=true then some x else o
def Xw8 (items:List ItemG) (i:Int):Option ItemG:=items.foldl (Xwq i) none
theorem X51 (l:List ItemG) (x:ItemG) (i:Int):Xw8 (l++[x]) i=Xwq i (Xw8 l i) x:=by unfold Xw8;rw[List.foldl_append];rfl
def WideAt (l:List ItemG) (i:Int):Option ItemG→Prop
 | none=>∀x∈l,¬(0≤x.cat∧x.frm=i)
 | some b=>∃pre post,l=pre++b :: post∧0≤b.cat∧b.frm=i∧(∀x∈pre,0≤x.cat→x.frm=i→x.unt<b.unt)∧∀x∈post,0≤x.cat→x.frm=i→x.unt≤b.unt
theorem X7v {l:List ItemG} {i:Int} {o:Option ItemG} (h:WideAt l i o) (x:ItemG):WideAt (l++[x]) i (Xwq i o x):=by
 unfold Xwq
 split
 ·rename_i hc
  obtain⟨h1,h2,h3⟩:=hc
  refine⟨l,[],rfl,h1,h2,?_,fun y hy=>by cases hy⟩
  intro y hy hy1 hy2
  cases o with
  | none=>exact absurd ⟨hy1,hy2⟩ (h y hy)
  | some b =>
   obtain⟨pre,post,rfl,b1,b2,b3,b4⟩:=h
   simp only[Xx6,decide_eq_true_eq] at h3
   rcases List.mem_append.1 hy with hy|hy
   ·have:=b3 y hy hy1 hy2;omega
   ·rcases List.mem_cons.1 hy with rfl|hy
    ·exact h3
    ·have:=b4 y hy hy1 hy2;omega
 ·rename_i hc
  cases o with
  | none =>
   intro y hy
   rcases List.mem_append.1 hy with hy|hy
   ·exact h y hy
   ·rw[List.mem_singleton] at hy
    subst hy
    exact fun hh=>hc ⟨hh.1,hh.2,rfl⟩
  | some b =>
   obtain⟨pre,post,rfl,b1,b2,b3,b4⟩:=h
   refine⟨pre,post++[x],by simp,b1,b2,b3,fun y hy hy1 hy2=>?_⟩
   rcases List.mem_append.1 hy with hy|hy
   ·exact b4 y hy hy1 hy2
   ·rw[List.mem_singleton] at hy
    subst hy
    have:¬(Xx6 (some b) y=true):=fun h3=>hc ⟨hy1,hy2,h3⟩
    simp only[Xx6,decide_eq_true_eq] at this
    omega
theorem X29 {i:Int}:∀(m l:List ItemG) (o:Option ItemG),WideAt l i o→WideAt (l++m) i (m.foldl (Xwq i) o)
 | [],l,o,h=>by simpa using h
 | x :: m,l,o,h=>by
  have:=X29 m (l++[x]) (Xwq i o x) (X7v h x)
  simpa using this
theorem X6k (l:List ItemG) (i:Int):WideAt l i (Xw8 l i):=by
 have h:WideAt [] i none:=fun x hx=>by cases hx
 simpa[Xw8] using X29 l [] none h
theorem Xyx {l:List ItemG} {i:Int} {b:ItemG} (h:Xw8 l i=some b):b∈l∧0≤b.cat∧b.frm=i∧∀x∈l,0≤x.cat→x.frm=i→x.unt≤b.unt:=by
 have hw:=X6k l i
 rw[h] at hw
 obtain⟨pre,post,rfl,b1,b2,b3,b4⟩:=hw
 refine⟨by simp,b1,b2,fun x hx h1 h2=>?_⟩
 rcases List.mem_append.1 hx with hx|hx
 ·have:=b3 x hx h1 h2;omega
 ·rcases List.mem_cons.1 hx with rfl|hx
  ·omega
  ·exact b4 x hx h1 h2
theorem X52 {l:List ItemG} {i:Int} (h:∃x∈l,0≤x.cat∧x.frm=i):∃b,Xw8 l i=some b:=by
 cases hb:Xw8 l i with
 | some b=>exact⟨b,rfl⟩
 | none =>
  have hw:=X6k l i
  rw[hb] at hw
  obtain⟨x,hx,h⟩:=h
  exact absurd h (hw x hx)
def wbwL (items:List ItemG) (n:Int):Nat→Int→List TgP
 | 0,_=>[]
 | f+1,i=>if n≤i then [] else match Xw8 items i with|none=>wbwL items n f (i+1)|some x=>Xw3 x []++wbwL items n f x.unt
theorem Xz6 (items:List ItemG) {n i:Int} (h:n≤i):∀f,wbwL items n f i=[]
 | 0=>rfl
 | f+1=>by unfold wbwL;rw[if_pos h]
theorem X2a {items:List ItemG} (hp:∀x∈items,x.frm<x.unt) {n:Int}:∀(f f':Nat) (i:Int),n-i≤f→n-i≤f'→wbwL items n f i=wbwL items n f' i
 | 0,f',i,h,_=>(Xz6 items (by omega) 0).trans (Xz6 items (by omega) f').symm
 | f+1,0,i,_,h=>(Xz6 items (by omega) (f+1)).trans (Xz6 items (by omega) 0).symm
 | f+1,f'+1,i,h,h'=>by
  unfold wbwL
  split
  ·rfl
  ·split
   ·exact X2a hp f f' (i+1) (by omega) (by omega)
   ·rename_i x hx
    obtain⟨h1,_,h2,_⟩:=Xyx hx
    have:=hp x h1
    rw[X2a hp f f' x.unt (by omega) (by omega)]
def wbwT (items:List ItemG) (n i:Int):List TgP:=wbwL items n (n-i).toNat i
theorem X41 (items:List ItemG) {n i:Int} (h:n≤i):wbwT items n i=[]:=Xz6 items h _
theorem X7u {items:List ItemG} {n i:Int} (h:i<n) (hw:Xw8 items i=none):wbwT items n i=wbwT items n (i+1):=by
 unfold wbwT
 rw[show (n-i).toNat=(n-(i+1)).toNat+1 by omega]
 conv=>lhs;unfold wbwL
 rw[if_neg (by omega),hw]
theorem X27 {items:List ItemG} (hp:∀x∈items,x.frm<x.unt) {n i:Int} (h:i<n) {x:ItemG} (hw:Xw8 items i=some x):wbwT items n i=Xw3 x []++wbwT items n x.unt:=by
 unfold wbwT
 obtain⟨h1,_,h2,_⟩:=Xyx hw
 have:=hp x h1
 rw[show (n-i).toNat=(n-(i+1)).toNat+1 by omega]
 conv=>lhs;unfold wbwL
 rw[if_neg (by omega),hw]
 simp only
 rw[X2a hp (n-(i+1)).toNat (n-x.unt).toNat x.unt (by omega) (by omega)]
theorem TransOk.append {i j k:Int} {ab:List Int} {a b:List TgP} (ha:TransOk i j ab a) (hb:TransOk j k ab b) (h1:i≤j) (h2:j≤k):TransOk i k ab (a++b):=by
 refine⟨fun h=>ha.some_ (List.append_eq_nil_iff.1 h).1,fun n hn hk=>?_,fun x hx=>?_,fun x hx=>?_,fun x hx=>?_⟩
 ·by_cases h:n<j
  ·obtain⟨x,hx,h⟩:=ha.cover n hn h
   exact⟨x,List.mem_append_left _ hx,h⟩
  ·obtain⟨x,hx,h⟩:=hb.cover n (by omega) hk
   exact⟨x,List.mem_append_right _ hx,h⟩
 ·rcases List.mem_append.1 hx with hx|hx
  ·exact ha.above x hx
  ·exact hb.above x hx
 ·rcases List.mem_append.1 hx with hx|hx
  ·obtain⟨e1,e2,e3⟩:=ha.inside x hx
   exact⟨e1,e2,fun n hn=>by rcases e3 n hn with h|h;exact .inl h;exact .inr (by omega)⟩
  ·obtain⟨e1,e2,e3⟩:=hb.inside x hx
   exact⟨e1,e2,fun n hn=>by rcases e3 n hn with h|h;exact .inl h;exact .inr (by omega)⟩
 ·rcases List.mem_append.1 hx with hx|hx
  ·exact ha.text x hx
  ·exact hb.text x hx
theorem X86 {items:List ItemG} {n:Nat} {m:Nat} (hi:Zr n m items) (ht:∀x∈items,1≤x.tgt.xs.length∧∀s∈x.tgt.xs,s.size≠0) (hc:∀i:Int,0≤i→i<n→∃x∈items,0≤x.cat∧x.frm=i) :
  ∀(d:Nat) (i:Int),0≤i→i<n→n-i≤d→TransOk i n [] (wbwT items n i)
 | 0,i,h0,h1,h2=>by omega
 | d+1,i,h0,h1,h2=>by
  obtain⟨b,hb⟩:=X52 (hc i h0 h1)
  obtain⟨e1,e2,e3,_⟩:=Xyx hb
  have hp:=hi.place b e1
  rw[X27 (fun x hx=>(hi.place x hx).2.1) h1 hb]
  have hk:=X6c hp.2.1 (ht b e1).1 (ht b e1).2 []
  rw[e3] at hk
  by_cases hn:b.unt<n
  ·exact hk.append (X86 hi ht hc d b.unt (by omega) hn (by omega)) (by omega) hp.2.2
  ·have he:b.unt=n:=by omega
   rw[X41 items (by omega),List.append_nil]
   rw[he] at hk
   exact hk
/-! ### a word that is replaced -/
def Xz8 (i:Int) (x y:ItemG):Prop:=x.cat=y.cat∧x.frm=y.frm∧x.unt=y.unt∧x.cost=y.cost∧(¬(x.frm≤i∧i<x.unt)→x.term=y.term∧x.tgt.xs=y.tgt.xs)
def Xxx (i:Int):List ItemG→List ItemG→Prop
 | [],[]=>True
 | x :: a,y :: b=>Xz8 i x y∧Xxx i a b
 | _,_=>False
theorem X2m {i:Int}:∀ {a b:List ItemG},Xxx i a b→a.length=b.length
 | [],[],_=>rfl
 | [],_ :: _,h=>h.elim
 | _ :: _,[],h=>h.elim
 | x :: a,y :: b,h=>by rw[List.length_cons,List.length_cons,X2m h.2]
theorem X2l {i:Int}:∀ {a b:List ItemG},Xxx i a b→∀(n:Nat) (x:ItemG),a[n]? = some x→∃y,b[n]? = some y∧Xz8 i x y
 | [],_,_,n,x,hx=>by simp at hx
 | _ :: _,[],h,_,_,_=>h.elim
 | u :: a,v :: b,h,0,x,hx=>by
  simp at hx;subst hx
  exact⟨v,rfl,h.1⟩
 | u :: a,v :: b,h,n+1,x,hx=>by
  obtain⟨y,h1,h2⟩:=X2l h.2 n x (by simpa using hx)
  exact⟨y,by simpa using h1,h2⟩
theorem X48 {i:Int} {a b:List ItemG} (h:Xxx i a b) {n:Nat} (hx:a[n]? = none):b[n]? = none:=by
 rw[List.getElem?_eq_none_iff] at hx ⊢
 rw[← X2m h];exact hx
theorem X0l {i:Int} (c u v:Int):∀ {a b:List ItemG} (j:Nat),Xxx i a b→Xq c u v j a=Xq c u v j b
 | [],[],_,_=>rfl
 | [],_ :: _,_,h=>h.elim
 | _ :: _,[],_,h=>h.elim
 | x :: a,y :: b,j,h=>by
  obtain⟨⟨h1,h2,h3,h4,_⟩,h5⟩:=h
  unfold Xq
  rw[h1,h2,h3,h4,X0l c u v (j+1) h5]
theorem X4k {st st':Int→ByteArray→Bool} (A:Int→Nat→Nat→List Dv):∀(ps:List PartG) (i k:Nat),(∀p∈ps,p.text.size≠0→∀m,st m p.text=st' m p.text)→Ye st A ps i k=Ye st' A ps i k
 | [],i,k,_=>rfl
 | p :: ps,i,k,h=>by
  have ih:=fun i k=>X4k A ps i k fun q hq=>h q (List.mem_cons_of_mem _ hq)
  rw[Ye,Ye]
  split
  ·rename_i hp
   rw[h p (List.mem_cons_self ..) hp,ih]
  ·refine Xyd fun m _=>?_
   rw[ih]
theorem X22 {st st':Int→ByteArray→Bool} (A:Int→Nat→Nat→List Dv) (c:Int) (i k:Nat):∀(j:Nat) (rs:List RuleG),(∀r∈rs,∀p∈r.parts.xs,p.text.size≠0→∀m,st m p.text=st' m p.text)→X4 st A c i k j rs=X4 st' A c i k j rs
 | _,[],_=>rfl
 | j,r :: rs,h=>by
  unfold X4 Xac
  rw[X4k A r.parts.xs i k (h r (List.mem_cons_self ..)),X22 A c i k (j+1) rs fun q hq=>h q (List.mem_cons_of_mem _ hq)]
theorem X1f {g:Gram} {i:Int} {a b:List ItemG} (h:Xxx i a b) (hs:∀r∈g.rules.xs,∀p∈r.parts.xs,p.text.size≠0→∀m,Xm a m p.text=Xm b m p.text):∀(f:Nat) (c:Int) (u v:Nat),derF g a f c u v=derF g b f c u v
 | 0,_,_,_=>rfl
 | f+1,c,u,v=>by
  have ih:derF g a f=derF g b f:=by
   funext c u v
   exact X1f h hs f c u v
  unfold derF
  rw[X0l c u v 0 h,ih,X22 (derF g b f) c u v 0 g.rules.xs hs]
theorem X5a {g:Gram} {i:Int} {a b:List ItemG} (h:Xxx i a b) (hs:∀r∈g.rules.xs,∀p∈r.parts.xs,p.text.size≠0→∀m,Xm a m p.text=Xm b m p.text) (n:Int):Xdl g a n=Xdl g b n:=by
 unfold Xdl derG
 rw[X1f h hs]
def Xxy (i:Int) (l:List TgP):List TgP:=l.filter fun x => !x.deps.contains i
theorem Xxu (i:Int) (a b:List TgP):Xxy i (a++b)=Xxy i a++Xxy i b:=List.filter_append ..
theorem X2n {i:Int} {x y:ItemG} (h:Xz8 i x y) (ab:List Int):Xxy i (Xw3 x ab)=Xxy i (Xw3 y ab):=by
 obtain⟨_,h2,h3,_,h5⟩:=h
 by_cases hi:x.frm≤i∧i<x.unt
 ·have key:∀z:ItemG,z.frm≤i∧i<z.unt→Xxy i (Xw3 z ab)=[]:=by
   intro z hz
   unfold Xxy Xw3
   rw[List.filter_eq_nil_iff]
   intro w hw
   obtain⟨s,_,rfl⟩:=List.mem_map.1 hw
   have:i∈setI (Xwt z.frm z.unt++ab):=Xw9.2 (List.mem_append_left _ (Xxq.2 hz))
   simpa using this
  rw[key x hi,key y (by rw[← h2,← h3];exact hi)]
 ·obtain⟨h6,h7⟩:=h5 hi
  unfold Xw3
  rw[h2,h3,h6,h7]
theorem X1i {α:Type} (i:Int) (f h:α→List TgP):∀l:List α,(∀y∈l,Xxy i (f y)=Xxy i (h y))→Xxy i (l.flatMap f)=Xxy i (l.flatMap h)
 | [],_=>rfl
 | y :: l,hl=>by rw[List.flatMap_cons,List.flatMap_cons,Xxu,Xxu,hl y (List.mem_cons_self ..),X1i i f h l fun z hz=>hl z (List.mem_cons_of_mem _ hz)]
theorem X9o {g:Gram} {i:Int} {a b:List ItemG} (h:Xxx i a b):∀t ab,Xxy i (Xwm g a t ab)=Xxy i (Xwm g b t ab) :=
 TreeV.ind fun r j u v l ih ab=>by
  by_cases hr:r<0
  ·rw[Xwm,Xwm,if_pos hr,if_pos hr]
   cases hx:a[j.toNat]? with
   | none=>rw[X48 h hx]
   | some x =>
    obtain⟨y,h1,h2⟩:=X2l h _ x hx
    rw[h1]
    exact X2n h2 ab
  ·cases hru:g.rules.xs[r.toNat]? with
   | none=>rw[Xwm,Xwm,if_neg hr,if_neg hr,hru]
   | some ru =>
    rw[Xxg g a hr hru,Xxg g b hr hru]
    refine X1i i _ _ _ fun y _=>?_
    split
    ·rfl
    ·split
     ·rename_i t ht
      exact ih t (List.mem_of_getElem? ht) _
     ·rfl
theorem X2b {i:Int} (m:Int):∀ {a b:List ItemG} {o o':Option ItemG},Xxx i a b→(match o,o' with|none,none=>True|some x,some y=>Xz8 i x y|_,_=>False) →
  match a.foldl (Xwq m) o,b.foldl (Xwq m) o' with|none,none=>True|some x,some y=>Xz8 i x y|_,_=>False
 | [],[],_,_,_,ho=>ho
 | [],_ :: _,_,_,h,_=>h.elim
 | _ :: _,[],_,_,h,_=>h.elim
 | x :: a,y :: b,o,o',h,ho=>by
  refine X2b m (a:=a) (b:=b) (o:=Xwq m o x) (o':=Xwq m o' y) h.2 ?_
  have hx:=h.1
  obtain⟨h1,h2,h3,_,_⟩:=h.1
  unfold Xwq
  rw[h1,h2]
  have hb:Xx6 o x=Xx6 o' y:=by
   cases o<;>cases o'
   ·rfl
   ·exact ho.elim
   ·exact ho.elim
   ·unfold Xx6
    rw[h3]
    have:=ho.2.2.1
    simp only[this]
  rw[hb]
  by_cases hc:0≤y.cat∧y.frm=m∧Xx6 o' y=true
  ·rw[if_pos hc,if_pos hc]
   exact hx
  ·rw[if_neg hc,if_neg hc]
   exact ho
theorem X28 {i:Int} {a b:List ItemG} (h:Xxx i a b) (n:Int):∀(f:Nat) (m:Int),Xxy i (wbwL a n f m)=Xxy i (wbwL b n f m)
 | 0,_=>rfl
 | f+1,m=>by
  unfold wbwL
  split
  ·rfl
  ·have hw:=X2b (i:=i) m (o:=none) (o':=none) h trivial
   change (match Xw8 a m,Xw8 b m with|none,none=>True|some x,some y=>Xz8 i x y|_,_=>False) at hw
   cases ha:Xw8 a m with
   | none =>
    cases hb:Xw8 b m with
    | none=>exact X28 h n f (m+1)
    | some y=>rw[ha,hb] at hw;exact hw.elim
   | some x =>
    cases hb:Xw8 b m with
    | none=>rw[ha,hb] at hw;exact hw.elim
    | some y =>
     rw[ha,hb] at hw
     simp only
     rw[Xxu,Xxu,X2n hw [],hw.2.2.1,X28 h n f y.unt]
theorem X0t:∀l:List UInt8,(∀c∈l,c.toNat<128)→Yk l=(l.map (·.toNat),true)
 | [],_=>rfl
 | c :: l,h=>by
  have hc:=h c (List.mem_cons_self ..)
  have hd:dec (c :: l)=(c.toNat,1):=by
   unfold dec Lib.decodeN
   exact if_pos hc
  rw[Xfs _ (by simp),hd]
  have hb:badB (c.toNat,1)=false:=by
   unfold badB
   simp
   omega
  rw[hb]
  simp only[Bool.false_eq_true,if_false,List.drop_succ_cons,List.drop_zero]
  rw[X0t l fun x hx=>h x (List.mem_cons_of_mem _ hx)]
  rfl
theorem X69 {s:ByteArray} (h:Vk s=true):Yi s=true:=by
 unfold Vk at h
 simp only[Bool.and_eq_true,decide_eq_true_eq,List.all_eq_true] at h
 obtain⟨⟨⟨h1,h2⟩,_⟩,h4⟩:=h
 have hp:∀c∈s.data.toList,c.toNat<128∧Y8 ((c.toNat:Nat):Int)=false:=fun c hc=>by
  have:=h4 c hc
  unfold Zu Yd Up at this
  simp only[Bool.or_eq_true,Bool.and_eq_true,decide_eq_true_eq] at this
  refine⟨by omega,?_⟩
  unfold Y8
  simp
  omega
 unfold Yi
 rw[X0t _ fun c hc=>(hp c hc).1]
 simp only[Bool.and_eq_true,decide_eq_true_eq,Bool.not_eq_true',List.any_eq_false,List.mem_map]
 refine⟨⟨⟨by omega,h1⟩,trivial⟩,?_⟩
 rintro x ⟨c,hc,rfl⟩
 rw[(hp c hc).2];simp
structure Xz9 (n ncats:Nat) (x:ItemC):Prop where
 place:0≤x.frm∧x.frm<x.unt∧x.unt≤n
 term : -1≤x.term∧x.term≤1048576
 some_:1≤x.tgt.length∧x.tgt.length≤4
 word:∀s∈x.tgt,Yi s=true
 kind:(x.cat = -1∧x.unt=x.frm+1∧x.cost=0∧x.tgt.length=1)∨(0≤x.cat∧x.cat<ncats∧0≤x.cost∧x.cost≤1000)
theorem X2v {g:Gram} {S:List Term} {ws:List ByteArray} {x:ItemC}:∀(l:List ByteArray) (k:Nat),x∈Xww g S ws k l→∃i s,s∈l∧x∈Xx1 g S ws i s
 | [],k,h=>by cases h
 | s :: l,k,h=>by
  unfold Xww at h
  rcases List.mem_append.1 h with h|h
  ·exact⟨k,s,List.mem_cons_self ..,h⟩
  ·obtain⟨i,s',h1,h2⟩:=X2v l (k+1) h
   exact⟨i,s',List.mem_cons_of_mem _ h1,h2⟩
theorem X4a {g:Gram} (h:Ys g=0):∀e∈g.entries.xs,∀s∈e.gives.xs,Yi s=true:=by
 unfold Ys at h
 split at h
 ·cases h
 split at h
 ·cases h
 rename_i ht
 unfold Xz at ht
 simp only[Bool.and_eq_true,decide_eq_true_eq,List.all_eq_true,Bool.not_eq_true',Bool.not_eq_false] at ht
 intro e he s hs
 have h1:=ht.1.2 e he
 unfold Yt at h1
 simp only[Bool.and_eq_true,decide_eq_true_eq,List.all_eq_true] at h1
 have h2:=h1.1.2 s hs
 unfold Xw at h2
 simp only[Bool.and_eq_true] at h2
 exact X69 h2.1
theorem X5z {cats ws:List ByteArray} {S:List Term} (hS:∀x∈S,x.ok=true∧x.gone=false) {i m:Nat} {x:ItemC} (h:x∈Xwk cats S ws i m):(-1≤x.term∧x.term≤1048576)∧(1≤x.tgt.length∧x.tgt.length≤4)∧(∀s∈x.tgt,Yi s=true)∧x.cost=0:=by
 obtain⟨t,ht,rfl⟩:=Xyb h
 have hm:=List.mem_of_find?_eq_some ht
 obtain⟨h1,h2⟩:=hS t hm
 unfold Term.ok at h1
 rw[h2] at h1
 unfold noB Xmm at h1
 simp only[Bool.and_eq_true,decide_eq_true_eq,List.all_eq_true,Bool.false_eq_true,if_false] at h1
 obtain⟨h3,h4⟩:=h1
 exact⟨⟨by show -1≤t.no;omega,by show t.no≤_;omega⟩,h4.1.1,h4.1.2,rfl⟩
theorem Xzd {g:Gram} {l:List Term} {lang t u:Int} {ws:List ByteArray} (h:Xwu g l lang ws t u=0):∀x∈Xxc g (Xwo l lang t u) ws,Xz9 ws.length g.cats.xs.length x:=by
 intro x hx
 have hin:=X9m h x hx
 obtain⟨hc,hs,h16,hw,hl⟩:=Xyi h
 have hk:=Xx5 hs
 have hG:=Xgs hc
 have hwd:∀s∈ws,Yi s=true:=List.all_eq_true.1 hw
 unfold Xxc at hx
 rcases List.mem_append.1 hx with hx|hx
 ·have key:∀(m:List ByteArray) (k:Nat),(∀s∈m,s∈ws)→x∈Xxo k m→x.term = -1∧x.cat = -1∧x.unt=x.frm+1∧x.cost=0∧∃s∈ws,x.tgt=[s]:=by
   intro m
   induction m with
   | nil=>intro k _ hx;cases hx
   | cons s m ih =>
    intro k hm hx
    unfold Xxo at hx
    rcases List.mem_cons.1 hx with rfl|hx
    ·exact⟨rfl,rfl,rfl,rfl,s,hm s (List.mem_cons_self ..),rfl⟩
    ·exact ih (k+1) (fun s hs=>hm s (List.mem_cons_of_mem _ hs)) hx
  obtain⟨e1,e2,e3,e4,s,hs,e5⟩:=key ws 0 (fun _ h=>h) hx
  exact⟨hin,by omega,by rw[e5];simp,fun y hy=>by rw[e5] at hy;rw[List.mem_singleton.1 hy];exact hwd s hs,.inl ⟨e2,e3,e4,by rw[e5];rfl⟩⟩
 ·have hfit:=(Xz7 hc (Xya hk.1 lang t u) (Xyh hk.1 lang t u) ws 0 rfl).1 x hx
  unfold Xxw X0j at hfit
  simp only[Bool.and_eq_true,decide_eq_true_eq] at hfit
  have hcat:0≤x.cat∧x.cat<g.cats.xs.length:=⟨hfit.1.1.1.1.1,hfit.1.1.1.1.2⟩
  have hS:∀y∈Xwo l lang t u,y.ok=true∧y.gone=false:=fun y hy=>⟨Xya hk.1 lang t u y hy,by
   have:=(List.mem_filter.1 hy).2
   unfold Xzr at this
   simp only[Bool.and_eq_true,Bool.not_eq_true'] at this
   exact this.2.1.1⟩
  obtain⟨i,s,hs,hx⟩:=X2v ws 0 hx
  have fin:((-1≤x.term∧x.term≤1048576)∧(1≤x.tgt.length∧x.tgt.length≤4)∧(∀s∈x.tgt,Yi s=true)∧0≤x.cost∧x.cost≤1000)→Xz9 ws.length g.cats.xs.length x:=fun ⟨a,b,c,d⟩=>⟨hin,a,b,c,.inr ⟨hcat.1,hcat.2,d⟩⟩
  have ft:∀m,x∈Xwk g.cats.xs (Xwo l lang t u) ws i m→Xz9 ws.length g.cats.xs.length x:=fun m hx=>by
   obtain⟨a,b,c,d⟩:=X5z hS hx
   exact fin ⟨a,b,c,by omega⟩
  unfold Xx1 at hx
  rcases List.mem_append.1 hx with hx|hx
  ·rcases List.mem_append.1 hx with hx|hx
   ·rcases List.mem_append.1 hx with hx|hx
    ·unfold Xxm at hx
     split at hx
     ·obtain⟨c,hc',rfl⟩:=List.mem_map.1 hx
      refine fin ⟨⟨by show (-1:Int) ≤ -1;omega,by show (-1:Int)≤1048576;omega⟩,⟨by show 1≤[s].length;simp,by show [s].length≤4;simp⟩,fun y hy=>?_,by show (0:Int)≤100;omega,by show (100:Int)≤1000;omega⟩
      rw[List.mem_singleton.1 hy];exact hwd s hs
     ·rcases List.mem_append.1 hx with hx|hx
      ·exact ft _ hx
      ·obtain⟨e,he,rfl⟩:=List.mem_map.1 hx
       have he':=(List.mem_filter.1 he).1
       have h1:=hG.entry e he'
       exact fin ⟨⟨by show (-1:Int) ≤ -1;omega,by show (-1:Int)≤1048576;omega⟩,h1.2.2.2.2,X4a hc e he',h1.2.2.1,h1.2.2.2.1⟩
    ·exact ft _ hx
   ·exact ft _ hx
  ·exact ft _ hx
theorem X5s {g:Gram} {n:Nat} {x:ItemG} (h:Xz9 n g.cats.xs.length x.c):Zo g n x=true:=by
 obtain⟨⟨a1,a2,a3⟩,⟨b1,b2⟩,⟨c1,c2⟩,d,e⟩:=h
 change 0≤x.frm at a1;change x.frm<x.unt at a2;change x.unt≤_ at a3;change -1≤x.term at b1;change x.term≤_ at b2;change 1≤x.tgt.xs.length at c1;change x.tgt.xs.length≤4 at c2
 change (x.cat = -1∧x.unt=x.frm+1∧x.cost=0∧x.tgt.xs.length=1)∨(0≤x.cat∧x.cat<_∧0≤x.cost∧x.cost≤1000) at e
 have hw:x.tgt.xs.all Yi=true:=List.all_eq_true.2 d
 unfold Zo
 rw[decide_eq_true a1,decide_eq_true a2,decide_eq_true a3,decide_eq_true b1,decide_eq_true b2,decide_eq_true c1,decide_eq_true c2,hw]
 rcases e with ⟨e1,e2,e3,e4⟩|⟨e1,e2,e3,e4⟩
 ·rw[if_pos e1,decide_eq_true e2,decide_eq_true e3,decide_eq_true e4];rfl
 ·rw[if_neg (by omega),decide_eq_true e1,decide_eq_true e2,decide_eq_true e3,decide_eq_true e4];rfl
theorem Xys {g:Gram} {l:List Term} {lang t u:Int} {ws:List ByteArray} {its:List ItemG} (h:Xwu g l lang ws t u=0) (h0:ws≠[]) (hm:its.map ItemG.c=Xxc g (Xwo l lang t u) ws):errC g its ws.length=0:=by
 obtain⟨hc,hs,h16,hw,hl⟩:=Xyi h
 have hll:its.length≤1024:=by have:=congrArg List.length hm;rw[List.length_map] at this;omega
 have hn:1≤ws.length:=by cases ws with|nil=>exact absurd rfl h0|cons=>simp
 unfold errC
 rw[if_neg (by rw[hc];simp),if_neg (by omega),if_neg (by omega),if_pos]
 rw[List.all_eq_true]
 intro x hx
 exact X5s (Xzd h x.c (by rw[← hm];exact List.mem_map_of_mem hx))
/-! ### what items say, without their addresses -/
def canG (x:ItemC):ItemG:=⟨x.cat,x.frm,x.unt,x.cost,⟨none,0,x.tgt⟩,x.term⟩
def canL (cs:List ItemC):List ItemG:=cs.map canG
theorem X2k (i:Int):∀its:List ItemG,Xxx i its (canL (its.map ItemG.c))
 | []=>trivial
 | x :: l=>⟨⟨rfl,rfl,rfl,rfl,fun _=>⟨rfl,rfl⟩⟩,X2k i l⟩
theorem X2c (m:Int) (s:ByteArray):∀its:List ItemG,Xm its m s=Xm (canL (its.map ItemG.c)) m s
 | []=>rfl
 | x :: l=>by
  have ih:=X2c m s l
  unfold Xm at ih ⊢
  unfold canL at ih ⊢
  rw[List.map_cons,List.map_cons,List.any_cons,List.any_cons,ih]
  rfl
theorem X32 (g:Gram) (its:List ItemG) (n:Int):Xdl g its n=Xdl g (canL (its.map ItemG.c)) n:=X5a (X2k 0 its) (fun _ _ _ _ _ m=>X2c m _ its) n
theorem X9c (its:List ItemG) (n:Nat):(canL (its.map ItemG.c))[n]? = its[n]?.map fun x=>canG x.c:=by
 unfold canL
 rw[List.map_map,List.getElem?_map]
 rfl
theorem X7n (g:Gram) (its:List ItemG):∀t ab,Xwm g its t ab=Xwm g (canL (its.map ItemG.c)) t ab :=
 TreeV.ind fun r j u v l ih ab=>by
  by_cases hr:r<0
  ·rw[Xwm,Xwm,if_pos hr,if_pos hr,X9c]
   cases its[j.toNat]? <;> rfl
  ·cases hru:g.rules.xs[r.toNat]? with
   | none=>rw[Xwm,Xwm,if_neg hr,if_neg hr,hru]
   | some ru =>
    rw[Xxg g its hr hru,Xxg g _ hr hru]
    refine Xyd fun y _=>?_
    split
    ·rfl
    ·split
     ·rename_i t ht
      exact ih t (List.mem_of_getElem? ht) _
     ·rfl
theorem X87 (i:Int) (its:List ItemG):Xw8 (canL (its.map ItemG.c)) i=(Xw8 its i).map fun x=>canG x.c:=by
 have key:∀(l:List ItemG) (o:Option ItemG),(canL (l.map ItemG.c)).foldl (Xwq i) (o.map fun x=>canG x.c)=(l.foldl (Xwq i) o).map fun x=>canG x.c:=by
  intro l
  induction l with
  | nil=>intro o;rfl
  | cons x l ih =>
   intro o
   have hb:Xx6 (o.map fun x=>canG x.c) (canG x.c)=Xx6 o x:=by cases o<;>rfl
   have hs:Xwq i (o.map fun x=>canG x.c) (canG x.c)=(Xwq i o x).map fun x=>canG x.c:=by
    unfold Xwq
    rw[hb]
    by_cases h:0≤x.cat∧x.frm=i∧Xx6 o x=true
    ·rw[if_pos h,if_pos (show 0≤(canG x.c).cat∧(canG x.c).frm=i∧Xx6 o x=true from h)];rfl
    ·rw[if_neg h,if_neg (show ¬(0≤(canG x.c).cat∧(canG x.c).frm=i∧Xx6 o x=true) from h)]
   unfold canL at ih ⊢
   rw[List.map_cons,List.map_cons,List.foldl_cons,List.foldl_cons,hs]
   exact ih _
 exact key its none
theorem X3x (its:List ItemG) (n:Int):∀(f:Nat) (i:Int),wbwL its n f i=wbwL (canL (its.map ItemG.c)) n f i
 | 0,_=>rfl
 | f+1,i=>by
  unfold wbwL
  rw[X87]
  split
  ·rfl
  ·cases Xw8 its i with
   | none=>exact X3x its n f (i+1)
   | some x=>exact congrArg _ (X3x its n f x.unt)
def trG (g:Gram) (cs:List ItemC) (n:Nat):List TgP×Bool:=match Xdl g (canL cs) n with|some x=>(Xwm g (canL cs) x.2 [],true)|none=>(wbwT (canL cs) n 0,false)
theorem X19 {g:Gram} {its:List ItemG} {n:Nat} {x:Dv} (h:Xdl g its n=some x):trG g (its.map ItemG.c) n=(Xwm g its x.2 [],true):=by
 unfold trG
 rw[← X32,h]
 simp only
 rw[← X7n]
theorem X18 {g:Gram} {its:List ItemG} {n:Nat} (h:Xdl g its n=none):trG g (its.map ItemG.c) n=(wbwT its n 0,false):=by
 unfold trG
 rw[← X32,h]
 simp only
 unfold wbwT
 rw[← X3x]
def trE (g:Gram) (l:List Term) (lang:Int) (ws:List ByteArray) (t u:Int):List TgP×Bool :=
 if Xwu g l lang ws t u≠0∨ws=[] then ([],false) else trG g (Xxc g (Xwo l lang t u) ws) ws.length
theorem X1t {g:Gram} {items:List ItemG} {st:Int→ByteArray→Bool}:∀(ps:List PartG) (kids:List TreeV) (i k c0 c:Int),Z9 st ps (Yl g items kids) i k c0=(c,true) →
  kids.length=ps.countP (fun x=>decide (x.text.size=0))∧∀t∈kids,∃c',(X6 g items t c').2=true
 | [],kids,i,k,c0,c,h=>by
  unfold Z9 at h
  simp only[Prod.mk.injEq,Bool.and_eq_true,decide_eq_true_eq] at h
  cases kids with
  | nil=>exact⟨rfl,fun t ht=>by cases ht⟩
  | cons t l=>rw[Yl] at h;simp at h
 | p :: ps,kids,i,k,c0,c,h=>by
  by_cases hp:p.text.size≠0
  ·rw[U9 hp] at h
   split at h
   ·rw[List.countP_cons_of_neg (by simpa using hp)]
    exact X1t ps kids (i+1) k c0 c h
   ·simp at h
  ·have hp0:p.text.size=0:=by simpa using hp
   cases kids with
   | nil=>rw[Yl,Xbt hp] at h;simp at h
   | cons t l =>
    rw[Yl,U3 hp] at h
    simp only at h
    split at h
    ·split at h
     ·rename_i ht2
      obtain⟨h1,h2⟩:=X1t ps l t.unt k _ c h
      rw[List.countP_cons_of_pos (by simpa using hp0),List.length_cons,h1]
      refine⟨rfl,fun u hu=>?_⟩
      rcases List.mem_cons.1 hu with rfl|hu
      ·exact⟨_,ht2⟩
      ·exact h2 u hu
     ·simp at h
    ·simp at h
theorem X9d {ps:List PartG} {y:GiveG} (h:Zs ps y=true) (ht:y.text.size=0):0≤y.part∧Xwr ps y.part.toNat=true:=by
 unfold Zs at h
 unfold Xwr
 rw[if_pos ht] at h
 unfold Th at h
 rw[Bool.and_eq_true,decide_eq_true_eq] at h
 exact h
theorem X42 {g:Gram} {items:List ItemG} (hg:Yu g) (hv:X3e g) {n m:Nat} (hn:n≤16) (hi:Zr n m items):∀t c,(X6 g items t c).2=true→WellT g items t :=
 TreeV.ind fun r j i k l ih c h=>by
  have hd:X6 g items (.node r j i k l) c=((X6 g items (.node r j i k l) c).1,true):=by rw[← h]
  obtain⟨u,v,e1,e2,e3,e4⟩:=Xgx hg hi (.node r j i k l) c _ hd
  simp at e1 e2
  rw[X6] at h
  split at h
  ·rename_i hr
   split at h
   ·simp at h
   rename_i hj
   refine .leaf (n:=j.toNat) (by omega) (by omega) (by omega)
  ·rename_i hr
   split at h
   ·simp at h
   rename_i hj
   split at h
   ·simp at h
   ·rename_i ru hru
    split at h
    ·have hm:=List.mem_of_getElem? hru
     obtain⟨hlt,hge⟩:=List.getElem?_eq_some_iff.1 hru
     have hl:Z9 (Xm items) ru.parts.xs (Yl g items l) i k ru.cost=((Z9 (Xm items) ru.parts.xs (Yl g items l) i k ru.cost).1,true):=by rw[← h]
     obtain⟨a1,a2⟩:=X1t _ _ _ _ _ _ hl
     have hr0:r=((r.toNat:Nat):Int):=by omega
     rw[hr0]
     subst hge
     refine .rule hlt (by omega) (by omega) (by omega) (by omega) (fun t ht=>?_) (fun y hy ht=>X9d (hv.give _ hm y hy) ht) (fun t ht=>?_)
     ·obtain⟨c',hc'⟩:=a2 t ht
      obtain⟨u',v',f1,f2,f3,f4⟩:=Xgx hg hi t c' _ (show X6 g items t c'=((X6 g items t c').1,true) by rw[← hc'])
      omega
     ·obtain⟨c',hc'⟩:=a2 t ht
      exact ih t ht c' hc'
    ·simp at h
theorem X6t {g:Gram} {its:List ItemG} {n:Int} (h:T3 g its n) {x:Dv} (hb:Xdl g its n=some x):WellT g its x.2∧X5 x.2≤1024:=by
 obtain⟨h1,h2,h3,h4⟩:=Xgq h hb
 refine⟨X42 h.gram (Xxh h.check) (by have:=h.n16;omega) h.items x.2 g.startNo (by rw[h1]),?_⟩
 have:=h.n16
 have:=h.n1
 have hc:=h.gram.few
 refine Nat.le_trans h4 (Nat.le_trans (Nat.mul_le_mul (show 2*n.toNat-1≤32 by omega) hc) (by omega))
end Go.Proofs.YtolpbjjapodmnaaGreatDoor
