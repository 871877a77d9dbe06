/- Texts of this claim, one after the other: TagQ, AddP, PlT, TagR, TagS, Law28z, TraS, TrR, TrW. -/
import Derived.Test.YtolpbjjapodmnaaGreatDoorM10
import Derived.Test.YtolpbjjapodmnaaGreatDoorM9
import Derived.Test.YtolpbjjapodmnaaGreatDoorM11
import Derived.Test.YtolpbjjapodmnaaGreatDoorM12
import Derived.Test.YtolpbjjapodmnaaGreatDoorM16
namespace Go.Proofs.YtolpbjjapodmnaaGreatDoor
open Go.RowKit Go.Han
set_option maxRecDepth 100000
attribute [local irreducible] wpStill wpQuiet
set_option maxHeartbeats 8000000
/-! ### the first words -/
theorem Xjf (cats:List ByteArray) (S:List Term) {ws:List ByteArray} {i m:Nat} (h0:0<m) (h:ws.length<i+m):Xw cats S ws i m=[]:=by
 unfold Xw;rw[Xi0 cats S h0 h]
theorem Xak {cats:List ByteArray} {S:List Term} {ws:List ByteArray} {i m:Nat} {x:Ye} (h:x∈Xw cats S ws i m) :
  ∃t,Xb1 cats S ws i m=some t/\x=⟨idxF t.cat cats,i,i+m,0,t.tgt.xs,t.no⟩:=by
 unfold Xw at h;split at h
 ·exact⟨_,by assumption,List.mem_singleton.1 h⟩
 ·cases h
theorem Xds {g:Gram} {S:List Term} {ws:List ByteArray} {i:Nat} {s:ByteArray} {x:Ye} (h:x∈Um g S ws i s):x.frm=i/\x.unt=i+1:=by
 have key:∀y,y∈Xw g.cats.xs S ws i 1++Xy g.entries.xs i s->y.frm=i/\y.unt=i+1:=by
  intro y hy;rcases List.mem_append.1 hy with hy|hy
  ·obtain⟨t,_,rfl⟩:=Xak hy
   exact⟨rfl,rfl⟩
  ·obtain⟨z,_,rfl⟩:=List.mem_map.1 hy
   exact⟨rfl,rfl⟩
 unfold Um at h;split at h
 ·obtain⟨z,_,rfl⟩:=List.mem_map.1 h
  exact⟨rfl,rfl⟩
 ·exact key x h
theorem Xqa {g:Gram} {S:List Term} {ws:List ByteArray} {i:Nat} {s:ByteArray} {x:Ye} (h:x∈Qg g S ws i s):x.frm=i/\(i:Int)+1<=x.unt:=by
 unfold Qg at h;simp only[List.mem_append] at h;rcases h with ((h|h)|h)|h
 ·obtain⟨h1,h2⟩:=Xds h
  exact⟨h1,by omega⟩
 all_goals
  obtain⟨t,_,rfl⟩:=Xak h;exact⟨rfl,by show (i:Int)+1<=(i:Int)+_;omega⟩
theorem Vy {g:Gram} {l:List Term} {lang:Int} {ws:List ByteArray} {t u:Int} (h:Xz g l lang ws t u=0):Yb g=0/\Zj l lang t u=0/\ws.length<=16/\ws.all Xq=true/\(Vb g (Yh l lang t u) ws).length<=1024:=by
 unfold Xz at h;split at h
 ·contradiction
 split at h
 ·contradiction
 split at h
 ·cases h
 split at h
 ·cases h
 split at h
 ·cases h
 rename_i h1 h2 h3 h4 h5;exact⟨by omega,by omega,by omega,by simpa using h4,by omega⟩
/-! ### a term that is added -/
def isB (ws src:List ByteArray) (i:Int):Bool:=decide (0<=i) && decide (i.toNat+src.length<=ws.length) && decide ((ws.drop i.toNat).take src.length=src)
theorem Xlj {S:List Term} (hu:∀x∈S,∀y∈S,x.src.xs=y.src.xs->x=y) (cats ws:List ByteArray) (i many:Nat) (y:Term) :
  Xb1 cats S ws i many=some y↔y∈S/\y.src.xs.length=many/\Un y (ws.drop i)=true/\catB cats y.cat=true:=by
 unfold Xb1;constructor
 ·intro h
  have h1:=List.find?_some h;simp only[Bool.and_eq_true,decide_eq_true_eq] at h1;exact⟨List.mem_of_find?_eq_some h,h1.1.1,h1.1.2,h1.2⟩
 ·rintro⟨hy,h1,h2,h3⟩
  cases hf:S.find? (fun x=>decide (x.src.xs.length=many) && Un x (ws.drop i) && catB cats x.cat) with
  | none =>
   rw[List.find?_eq_none] at hf;exact absurd (by simp[h1,h2,h3]) (hf y hy)
  | some z =>
   have h4:=List.find?_some hf;have h5:=List.mem_of_find?_eq_some hf;simp only[Bool.and_eq_true,decide_eq_true_eq,Un] at h4 h2;have:z.src.xs=y.src.xs:=(by rw[<- h4.1.2,<- h2,h4.1.1,h1]);rw[hu z h5 y hy this]
theorem Xns {cats:List ByteArray} {s:ByteArray} (h:catB cats s=true):0<=idxF s cats:=by
 unfold catB at h;simpa using h
theorem X11 {ws src:List ByteArray} (h0:src≠[]) (i:Nat):isB ws src i=decide ((ws.drop i).take src.length=src):=by
 unfold isB;rw[Bool.eq_iff_iff];simp only[Bool.and_eq_true,decide_eq_true_eq,Int.toNat_natCast];constructor
 ·exact fun h=>h.2
 ·intro h
  refine⟨⟨by omega,?_⟩,h⟩;have:=congrArg List.length h;rw[List.length_take,List.length_drop] at this;have:0<src.length:=List.length_pos_iff.2 h0;omega
end Go.Proofs.YtolpbjjapodmnaaGreatDoor
/- Terms that are added, in plain lists: what Add gives. No program in sight. -/
namespace Go.Proofs.YtolpbjjapodmnaaGreatDoor
open Go.RowKit Go.Han
end Go.Proofs.YtolpbjjapodmnaaGreatDoor
/- Terms that stand, and terms that are added, in plain lists. Conditions: none; plain facts. -/
namespace Go.Proofs.YtolpbjjapodmnaaGreatDoor
open Go.RowKit Go.Han
theorem Qp {l:List Term} {lang t u:Int} (h:Zj l lang t u=0):Zi l=0/\(Xbe lang && tmB t && tmB u)=true:=by
 unfold Zj at h;by_cases hc:Zi l=0
 ·rw[if_neg (by simpa using hc)] at h
  refine⟨hc,?_⟩;cases hb:(Xbe lang && tmB t && tmB u)
  ·rw[hb] at h;cases h
  ·rfl
 ·rw[if_pos hc] at h;exact absurd h hc
end Go.Proofs.YtolpbjjapodmnaaGreatDoor
namespace Go.Proofs.YtolpbjjapodmnaaGreatDoor
open Go.RowKit Go.Han
set_option maxRecDepth 100000
attribute [local irreducible] wpStill wpQuiet
set_option maxHeartbeats 8000000
theorem Xnw {g:Gram} (h:Yb g=0):bigB g=false/\Yk g=true/\T8 g=false/\Ua g=true:=by
 unfold Yb at h;split at h
 ·cases h
 split at h
 ·cases h
 split at h
 ·cases h
 split at h
 ·rename_i h1 h2 h3 h4
  exact⟨by simpa using h1,by simpa using h2,by simpa using h3,h4⟩
 ·cases h
theorem Xmn {g:Gram} (h:Yb g=0):∀x∈g.entries.xs,0<=x.no/\x.no<g.cats.xs.length:=by
 intro x hx;obtain⟨_,h2,_,h4⟩:=Xnw h;unfold Yk at h2;unfold Ua at h4;simp only[Bool.and_eq_true,decide_eq_true_eq,List.all_eq_true] at h2 h4;have h5:=h4.1.2 x hx;have h6:=h2.1.2 x hx;unfold Uz at h6;simp only[Bool.and_eq_true] at h6;have h7:=Xns h6.1.1.1.2;have:=Xcl x.cat g.cats.xs;omega
theorem Xai {l:List Term} (h:Zi l=0) (lang t u:Int):∀x∈Yh l lang t u,x.ok=true:=fun x hx=>(Qi h).2.1 x (List.mem_filter.1 hx).1
theorem Xa6 {l:List Term} (h:Zi l=0) (lang t u:Int):∀x∈Yh l lang t u,∀y∈Yh l lang t u,x.src.xs=y.src.xs->x=y:=Xsy (Qi h).2.2
/-! ### terms that do not matter -/
/-! ### the term that is found -/
def Xre (cats ws:List ByteArray) (x:Ye) (t:Term):Bool :=
 decide (t.no=x.term) && decide (cats[x.cat.toNat]? = some t.cat) && decide ((t.src.xs.length:Int)=x.unt-x.frm) && isB ws t.src.xs x.frm && decide (x.cost=0) && decide (x.tgt=t.tgt.xs)
def Xib (cats ws:List ByteArray) (S:List Term) (x:Ye):Bool:=S.any (Xre cats ws x)
def Xfy (ncats n:Nat) (x:Ye):Bool:=decide (0<=x.cat) && decide (x.cat<ncats) && decide (0<=x.frm) && decide (x.frm<x.unt) && decide (x.unt<=n)
def Xhe (x:Ye):Bool:=decide (x.unt=x.frm+1)
def T0 (cats ws:List ByteArray) (S:List Term) (x:Ye):Bool:=Xfy cats.length ws.length x && (Xib cats ws S x || (decide (x.term = -1) && Xhe x))
def Xc8 (i:Int) (L:List Ye):Nat:=L.countP fun x=>Xhe x && decide (x.frm=i)
def Uk (cats ws:List ByteArray) (S:List Term) (i:Int) (L:List Ye):Nat:=L.countP fun x => !Xib cats ws S x && decide (x.frm=i)
def Xit (es:List EntryG) (s:ByteArray):Nat:=es.countP fun x=>decide (x.text=s)
def Xuc (cats:List ByteArray) (S:List Term) (s:ByteArray):Bool:=S.any fun t=>decide (t.src.xs=[s]) && catB cats t.cat
def Xz5 (g:Gram) (S:List Term) (s:ByteArray):Nat:=if Xit g.entries.xs s=0/\Xuc g.cats.xs S s=false then g.cats.xs.length else Xit g.entries.xs s
theorem Xic {cats ws:List ByteArray} {S:List Term} {i m:Nat} (h0:0<m) {t:Term} (hp:Xb1 cats S ws i m=some t):Xib cats ws S ⟨idxF t.cat cats,i,i+m,0,t.tgt.xs,t.no⟩=true/\t∈S/\i+m<=ws.length/\0<=idxF t.cat cats:=by
 have hlen:i+m<=ws.length:=Nat.le_of_not_lt fun h=>by rw[Xi0 cats S h0 h] at hp;cases hp
 unfold Xb1 at hp;have h1:=List.find?_some hp;have h2:=List.mem_of_find?_eq_some hp;simp only[Bool.and_eq_true,decide_eq_true_eq,Un] at h1;have hc:=Xns h1.2;refine⟨List.any_eq_true.2 ⟨t,h2,?_⟩,h2,hlen,hc⟩;unfold Xre;have hne:t.src.xs≠[]:=fun e=>by rw[e] at h1;simp at h1;omega
 have e1:cats[(idxF t.cat cats).toNat]? = some t.cat:=Xeg t.cat cats _ (by omega);have e2:isB ws t.src.xs (i:Int)=true:=by rw[X11 hne];simpa using h1.1.2
 have e3:decide ((t.src.xs.length:Int)=(i:Int)+m-i)=true:=by simp;omega
 simp only[e1,e2,e3];simp
theorem Xom {cats ws:List ByteArray} {S:List Term} (hok:∀x∈S,x.ok=true) {x:Ye} (h:x.term<0):Xib cats ws S x=false:=by
 unfold Xib;rw[List.any_eq_false];intro t ht hc;have:=hok t ht;unfold Term.ok noB at this;unfold Xre at hc;simp only[Bool.and_eq_true,decide_eq_true_eq] at this hc;omega
structure WordTk (g:Gram) (ws:List ByteArray) (S:List Term) (i:Nat) (s:ByteArray):Prop where
 fit:∀x∈Qg g S ws i s,T0 g.cats.xs ws S x=true
 rest:Uk g.cats.xs ws S i (Qg g S ws i s)=Xz5 g S s
 ones:0<g.cats.xs.length->0<Xc8 i (Qg g S ws i s)
theorem Xmw {cats ws:List ByteArray} {S:List Term} (hok:∀x∈S,x.ok=true) (es:List EntryG) (i:Nat) (s:ByteArray):Uk cats ws S i (Xy es i s)=Xit es s:=by
 have e:Uk cats ws S i (Xy es i s)=(Xy es i s).length:=by
  unfold Uk;rw[List.countP_eq_length];intro x hx;obtain⟨z,_,rfl⟩:=List.mem_map.1 hx;rw[Xom hok (by show (-1:Int)<0;decide)];simp[Xe9]
 rw[e];unfold Xy Xit;rw[List.length_map,List.countP_eq_length_filter]
theorem Xxb {cats ws:List ByteArray} {S:List Term} {i m:Nat} (h0:0<m):Uk cats ws S i (Xw cats S ws i m)=0:=by
 unfold Uk;rw[List.countP_eq_zero];intro x hx;obtain⟨t,ht,rfl⟩:=Xak hx;rw[(Xic h0 ht).1];simp
theorem X08 {cats ws:List ByteArray} {S:List Term} (hok:∀x∈S,x.ok=true) (n i:Nat) (s:ByteArray):Uk cats ws S i (unkC n i s)=n:=by
 have e:Uk cats ws S i (unkC n i s)=(unkC n i s).length:=by
  unfold Uk;rw[List.countP_eq_length];intro x hx;obtain⟨z,_,rfl⟩:=List.mem_map.1 hx;rw[Xom hok (by show (-1:Int)<0;decide)];simp
 rw[e];unfold unkC;simp
theorem Ul (cats ws:List ByteArray) (S:List Term) (i:Int) (a b:List Ye):Uk cats ws S i (a++b)=Uk cats ws S i a+Uk cats ws S i b:=by unfold Uk;rw[List.countP_append]
theorem Tw (i:Int) (a b:List Ye):Xc8 i (a++b)=Xc8 i a+Xc8 i b:=by unfold Xc8;rw[List.countP_append]
theorem Xs1 {cats:List ByteArray} {S:List Term} (hu:∀x∈S,∀y∈S,x.src.xs=y.src.xs->x=y) {ws:List ByteArray} {i:Nat} {s:ByteArray} (hs:ws[i]? = some s):Xuc cats S s=decide ((Xw cats S ws i 1).length≠0):=by
 have hd:(ws.drop i).take 1=[s]:=by
  obtain⟨hi,he⟩:=List.getElem?_eq_some_iff.1 hs;rw[List.drop_eq_getElem_cons hi,he];rfl
 cases hp:Xb1 cats S ws i 1 with
 | some t =>
  have h:=(Xlj hu cats ws i 1 t).1 hp;have e:(Xw cats S ws i 1).length=1:=by unfold Xw;rw[hp];rfl
  rw[e];unfold Xuc;rw[decide_eq_true (by decide),List.any_eq_true];refine⟨t,h.1,?_⟩;have h2:=h.2.2.1;simp only[Un,decide_eq_true_eq] at h2;rw[h.2.1,hd] at h2;rw[h.2.2.2,<- h2];simp
 | none =>
  have e:(Xw cats S ws i 1).length=0:=by unfold Xw;rw[hp];rfl
  rw[e];unfold Xuc;rw[decide_eq_false (by decide),List.any_eq_false];intro t ht hc;simp only[Bool.and_eq_true,decide_eq_true_eq] at hc;have:=(Xlj hu cats ws i 1 t).2 ⟨ht,by rw[hc.1];rfl,by unfold Un;rw[hc.1];simpa using hd,hc.2⟩;rw[hp] at this;cases this
theorem X2o {g:Gram} (hc:Yb g=0) {S:List Term} (hok:∀x∈S,x.ok=true) (hu:∀x∈S,∀y∈S,x.src.xs=y.src.xs->x=y) {ws:List ByteArray} {i:Nat} {s:ByteArray} (hs:ws[i]? = some s):WordTk g ws S i s:=by
 have hi:i<ws.length:=(List.getElem?_eq_some_iff.1 hs).1
 have fitT:∀m,0<m->∀x∈Xw g.cats.xs S ws i m,T0 g.cats.xs ws S x=true:=by
  intro m h0 x hx;obtain⟨t,ht,rfl⟩:=Xak hx;obtain⟨h1,_,h3,h4⟩:=Xic h0 ht;have:=Xcl t.cat g.cats.xs;unfold T0 Xfy;rw[h1];simp only[Bool.and_eq_true,decide_eq_true_eq,Bool.true_or,and_true];omega
 have fitE:∀x:Ye,0<=x.cat->x.cat<g.cats.xs.length->x.frm=i->x.unt=i+1->x.term = -1->T0 g.cats.xs ws S x=true:=by
  intro x h1 h2 h3 h4 h5;unfold T0 Xfy Xhe;rw[h3,h4,h5];simp only[Bool.and_eq_true,decide_eq_true_eq,Bool.or_eq_true];exact⟨by omega,.inr ⟨trivial,trivial⟩⟩
 have hrT:∀m,0<m->Uk g.cats.xs ws S i (Xw g.cats.xs S ws i m)=0:=fun m h0=>Xxb h0;refine⟨fun x hx=>?_,?_,fun h0=>?_⟩
 ·unfold Qg at hx
  simp only[List.mem_append] at hx;rcases hx with ((hx|hx)|hx)|hx
  ·have h1:=Xds hx
   unfold Um at hx;split at hx
   ·obtain⟨z,hz,rfl⟩:=List.mem_map.1 hx
    refine fitE _ (Int.natCast_nonneg _) ?_ rfl rfl rfl;have:=List.mem_range.1 hz;show (z:Int)<_;omega
   ·rcases List.mem_append.1 hx with hx|hx
    ·exact fitT 1 (by decide) x hx
    ·obtain⟨z,hz,rfl⟩:=List.mem_map.1 hx
     have:=Xmn hc z (List.mem_filter.1 hz).1;exact fitE _ this.1 this.2 rfl rfl rfl
  ·exact fitT 2 (by decide) x hx
  ·exact fitT 3 (by decide) x hx
  ·exact fitT 4 (by decide) x hx
 ·unfold Qg
  rw[Ul,Ul,Ul,hrT 2 (by decide),hrT 3 (by decide),hrT 4 (by decide)];unfold Um Xz5;rw[Xs1 hu hs];have he:(Xy g.entries.xs i s).length=Xit g.entries.xs s:=by unfold Xy Xit;rw[List.length_map,List.countP_eq_length_filter]
  rw[List.length_append,he];by_cases hz:(Xw g.cats.xs S ws i 1).length+Xit g.entries.xs s=0
  ·rw[if_pos hz,X08 hok,if_pos ⟨by omega,decide_eq_false (fun h=>h (by omega))⟩]
   rfl
  ·rw[if_neg hz,Ul,hrT 1 (by decide),Xmw hok,if_neg]
   ·omega
   ·rintro⟨h1,h2⟩
    have:=of_decide_eq_false h2;omega
 ·unfold Qg
  rw[Tw,Tw,Tw]
  have:0<Xc8 i (Um g S ws i s):=by
   have hall:Xc8 i (Um g S ws i s)=(Um g S ws i s).length:=by
    unfold Xc8;rw[List.countP_eq_length];intro x hx;obtain⟨h1,h2⟩:=Xds hx;unfold Xhe;rw[h1,h2];simp
   rw[hall];unfold Um;split
   ·unfold unkC;simpa using h0
   ·omega
  omega
theorem Xex {g:Gram} (hc:Yb g=0) {S:List Term} (hok:∀x∈S,x.ok=true) (hu:∀x∈S,∀y∈S,x.src.xs=y.src.xs->x=y) {ws:List ByteArray}:∀(l:List ByteArray) (k:Nat),ws.drop k=l ->
  (∀x∈Y9 g S ws k l,T0 g.cats.xs ws S x=true)/\∀(i:Nat) (s:ByteArray),k<=i->ws[i]? = some s->Uk g.cats.xs ws S i (Y9 g S ws k l)=Xz5 g S s/\(0<g.cats.xs.length->0<Xc8 i (Y9 g S ws k l))
 | [],k,h=>by
  refine⟨fun x hx=>(by cases hx),fun i s hk hs=>?_⟩;have h1:=(List.getElem?_eq_some_iff.1 hs).1;have:=List.length_drop (i:=k) (l:=ws);rw[h] at this;simp at this;omega
 | s :: l,k,h=>by
  have hlt:k<ws.length:=by
   have:=List.length_drop (i:=k) (l:=ws);rw[h] at this;simp at this;omega
  rw[List.drop_eq_getElem_cons hlt] at h;simp only[List.cons.injEq] at h;obtain⟨hs,hl⟩:=h;have hsk:ws[k]? = some s:=by rw[List.getElem?_eq_getElem hlt,hs]
  obtain⟨ih1,ih2⟩:=Xex hc hok hu l (k+1) hl;have hw:=X2o hc hok hu hsk
  have hfar:∀(l:List ByteArray) (j:Nat),∀x∈Y9 g S ws j l,(j:Int)<=x.frm:=by
   intro l
   induction l with
   | nil=>intro j x hx;cases hx
   | cons s l ih =>
    intro j x hx;rw[Y9] at hx;rcases List.mem_append.1 hx with h|h
    ·rw[(Xqa h).1];omega
    ·have:=ih (j+1) x h;omega
  refine⟨fun x hx=>?_,fun i s' hk hs'=>?_⟩
  ·rw[Y9] at hx
   rcases List.mem_append.1 hx with h|h
   ·exact hw.fit x h
   ·exact ih1 x h
  ·rw[Y9,Ul,Tw]
   by_cases hik:i=k
   ·subst hik
    have e:s'=s:=(by rw[hsk] at hs';exact(Option.some.inj hs').symm);subst e
    have h0:Uk g.cats.xs ws S i (Y9 g S ws (i+1) l)=0:=by
     unfold Uk;rw[List.countP_eq_zero];intro x hx hcc;simp only[Bool.and_eq_true,decide_eq_true_eq] at hcc;have:=hfar l (i+1) x hx;omega
    rw[h0,hw.rest];exact⟨rfl,fun h=>by have:=hw.ones h;omega⟩
   ·obtain⟨a1,a2⟩:=ih2 i s' (by omega) hs'
    have h0:Uk g.cats.xs ws S i (Qg g S ws k s)=0:=by
     unfold Uk;rw[List.countP_eq_zero];intro x hx hcc;simp only[Bool.and_eq_true,decide_eq_true_eq] at hcc;have:=(Xqa hx).1;omega
    rw[h0,a1];exact⟨by omega,fun h=>by have:=a2 h;omega⟩
theorem Xt7:∀(l:List ByteArray) (k:Nat),∀x∈Us k l,0<=x.frm/\x.unt=x.frm+1/\x.unt<=(k:Int)+l.length
 | [],_,x,h=>by cases h
 | s :: l,k,x,h=>by
  unfold Us at h;rcases List.mem_cons.1 h with rfl|h
  ·exact⟨by show (0:Int)<=(k:Int);omega,rfl,by show (k:Int)+1<=_;simp only[List.length_cons];omega⟩
  ·have:=Xt7 l (k+1) x h
   simp only[List.length_cons];exact⟨this.1,this.2.1,by omega⟩
theorem X2k {g:Gram} {l:List Term} {lang t u:Int} {ws:List ByteArray} (h:Xz g l lang ws t u=0):∀x∈Vb g (Yh l lang t u) ws,0<=x.frm/\x.frm<x.unt/\x.unt<=ws.length:=by
 obtain⟨hc,hs,h16,hw,hl⟩:=Vy h;have hk:=Qp hs;intro x hx;unfold Vb at hx;rcases List.mem_append.1 hx with hx|hx
 ·have:=Xt7 ws 0 x hx
  refine⟨this.1,?_,?_⟩<;>omega
 ·have h1:=(Xex hc (Xai hk.1 lang t u) (Xa6 hk.1 lang t u) ws 0 rfl).1 x hx
  unfold T0 Xfy at h1;simp only[Bool.and_eq_true,decide_eq_true_eq] at h1;exact⟨h1.1.1.1.2,h1.1.1.2,h1.1.2⟩
/-! ### word by word -/
def Xdc (o:Option ItemG) (x:ItemG):Bool:=match o with|none=>true|some b=>decide (b.unt<x.unt)
def Y8 (i:Int) (o:Option ItemG) (x:ItemG):Option ItemG:=if 0<=x.cat/\x.frm=i/\Xdc o x=true then some x else o
def Vq (items:List ItemG) (i:Int):Option ItemG:=items.foldl (Y8 i) none
theorem Xta (l:List ItemG) (x:ItemG) (i:Int):Vq (l++[x]) i=Y8 i (Vq l i) x:=by unfold Vq;rw[List.foldl_append];rfl
def WideAt (l:List ItemG) (i:Int):Option ItemG->Prop
 | none=>∀x∈l,¬(0<=x.cat/\x.frm=i)
 | some b=>∃pre post,l=pre++b :: post/\0<=b.cat/\b.frm=i/\(∀x∈pre,0<=x.cat->x.frm=i->x.unt<b.unt)/\∀x∈post,0<=x.cat->x.frm=i->x.unt<=b.unt
theorem Xxw {l:List ItemG} {i:Int} {o:Option ItemG} (h:WideAt l i o) (x:ItemG):WideAt (l++[x]) i (Y8 i o x):=by
 unfold Y8;split
 ·rename_i hc
  obtain⟨h1,h2,h3⟩:=hc;refine⟨l,[],rfl,h1,h2,?_,fun y hy=>by cases hy⟩;intro y hy hy1 hy2;cases o with
  | none=>exact absurd ⟨hy1,hy2⟩ (h y hy)
  | some b =>
   obtain⟨pre,post,rfl,b1,b2,b3,b4⟩:=h;simp only[Xdc,decide_eq_true_eq] at h3;rcases List.mem_append.1 hy with hy|hy
   ·have:=b3 y hy hy1 hy2;omega
   ·rcases List.mem_cons.1 hy with rfl|hy
    ·exact h3
    ·have:=b4 y hy hy1 hy2;omega
 ·rename_i hc
  cases o with
  | none =>
   intro y hy;rcases List.mem_append.1 hy with hy|hy
   ·exact h y hy
   ·rw[List.mem_singleton] at hy
    subst hy;exact fun hh=>hc ⟨hh.1,hh.2,rfl⟩
  | some b =>
   obtain⟨pre,post,rfl,b1,b2,b3,b4⟩:=h;refine⟨pre,post++[x],by simp,b1,b2,b3,fun y hy hy1 hy2=>?_⟩;rcases List.mem_append.1 hy with hy|hy
   ·exact b4 y hy hy1 hy2
   ·rw[List.mem_singleton] at hy
    subst hy;have:¬(Xdc (some b) y=true):=fun h3=>hc ⟨hy1,hy2,h3⟩;simp only[Xdc,decide_eq_true_eq] at this;omega
theorem Xl4 {i:Int}:∀(m l:List ItemG) (o:Option ItemG),WideAt l i o->WideAt (l++m) i (m.foldl (Y8 i) o)
 | [],l,o,h=>by simpa using h
 | x :: m,l,o,h=>by
  have:=Xl4 m (l++[x]) (Y8 i o x) (Xxw h x)
  simpa using this
theorem Xnj (l:List ItemG) (i:Int):WideAt l i (Vq l i):=by
 have h:WideAt [] i none:=fun x hx=>by cases hx
 simpa[Vq] using Xl4 l [] none h
theorem Xf1 {l:List ItemG} {i:Int} {b:ItemG} (h:Vq l i=some b):b∈l/\0<=b.cat/\b.frm=i/\∀x∈l,0<=x.cat->x.frm=i->x.unt<=b.unt:=by
 have hw:=Xnj l i;rw[h] at hw;obtain⟨pre,post,rfl,b1,b2,b3,b4⟩:=hw;refine⟨by simp,b1,b2,fun x hx h1 h2=>?_⟩;rcases List.mem_append.1 hx with hx|hx
 ·have:=b3 x hx h1 h2;omega
 ·rcases List.mem_cons.1 hx with rfl|hx
  ·omega
  ·exact b4 x hx h1 h2
theorem Xtb {l:List ItemG} {i:Int} (h:∃x∈l,0<=x.cat/\x.frm=i):∃b,Vq l i=some b:=by
 cases hb:Vq l i with
 | some b=>exact⟨b,rfl⟩
 | none =>
  have hw:=Xnj l i;rw[hb] at hw;obtain⟨x,hx,h⟩:=h;exact absurd h (hw x hx)
def wbwL (items:List ItemG) (n:Int):Nat->Int->List TgP
 | 0,_=>[]
 | f+1,i=>if n<=i then [] else match Vq items i with|none=>wbwL items n f (i+1)|some x=>Uf x []++wbwL items n f x.unt
theorem Xeu (items:List ItemG) {n i:Int} (h:n<=i):∀f,wbwL items n f i=[]
 | 0=>rfl
 | f+1=>by unfold wbwL;rw[if_pos h]
theorem Xjj {items:List ItemG} (hp:∀x∈items,x.frm<x.unt) {n:Int}:∀(f f':Nat) (i:Int),n-i<=f->n-i<=f'->wbwL items n f i=wbwL items n f' i
 | 0,f',i,h,_=>(Xeu items (by omega) 0).trans (Xeu items (by omega) f').symm
 | f+1,0,i,_,h=>(Xeu items (by omega) (f+1)).trans (Xeu items (by omega) 0).symm
 | f+1,f'+1,i,h,h'=>by
  unfold wbwL;split
  ·rfl
  ·split
   ·exact Xjj hp f f' (i+1) (by omega) (by omega)
   ·rename_i x hx
    obtain⟨h1,_,h2,_⟩:=Xf1 hx;have:=hp x h1;rw[Xjj hp f f' x.unt (by omega) (by omega)]
def wbwT (items:List ItemG) (n i:Int):List TgP:=wbwL items n (n-i).toNat i
theorem Xji (items:List ItemG) {n i:Int} (h:n<=i):wbwT items n i=[]:=Xeu items h _
theorem Xxv {items:List ItemG} {n i:Int} (h:i<n) (hw:Vq items i=none):wbwT items n i=wbwT items n (i+1):=by
 unfold wbwT;rw[show (n-i).toNat=(n-(i+1)).toNat+1 by omega]
 conv=>lhs;unfold wbwL
 rw[if_neg (by omega),hw]
theorem Xl3 {items:List ItemG} (hp:∀x∈items,x.frm<x.unt) {n i:Int} (h:i<n) {x:ItemG} (hw:Vq items i=some x):wbwT items n i=Uf x []++wbwT items n x.unt:=by
 unfold wbwT;obtain⟨h1,_,h2,_⟩:=Xf1 hw;have:=hp x h1;rw[show (n-i).toNat=(n-(i+1)).toNat+1 by omega]
 conv=>lhs;unfold wbwL
 rw[if_neg (by omega),hw];simp only;rw[Xjj hp (n-(i+1)).toNat (n-x.unt).toNat x.unt (by omega) (by omega)]
theorem TransOk.append {i j k:Int} {ab:List Int} {a b:List TgP} (ha:TransOk i j ab a) (hb:TransOk j k ab b) (h1:i<=j) (h2:j<=k):TransOk i k ab (a++b):=by
 refine⟨fun h=>ha.some_ (List.append_eq_nil_iff.1 h).1,fun n hn hk=>?_,fun x hx=>?_,fun x hx=>?_,fun x hx=>?_⟩
 ·by_cases h:n<j
  ·obtain⟨x,hx,h⟩:=ha.cover n hn h
   exact⟨x,List.mem_append_left _ hx,h⟩
  ·obtain⟨x,hx,h⟩:=hb.cover n (by omega) hk
   exact⟨x,List.mem_append_right _ hx,h⟩
 ·rcases List.mem_append.1 hx with hx|hx
  ·exact ha.above x hx
  ·exact hb.above x hx
 ·rcases List.mem_append.1 hx with hx|hx
  ·obtain⟨e1,e2,e3⟩:=ha.inside x hx
   exact⟨e1,e2,fun n hn=>by rcases e3 n hn with h|h;exact .inl h;exact .inr (by omega)⟩
  ·obtain⟨e1,e2,e3⟩:=hb.inside x hx
   exact⟨e1,e2,fun n hn=>by rcases e3 n hn with h|h;exact .inl h;exact .inr (by omega)⟩
 ·rcases List.mem_append.1 hx with hx|hx
  ·exact ha.text x hx
  ·exact hb.text x hx
/-! ### a word that is replaced -/
def AlikeX (i:Int) (x y:ItemG):Prop:=x.cat=y.cat/\x.frm=y.frm/\x.unt=y.unt/\x.cost=y.cost/\(¬(x.frm<=i/\i<x.unt)->x.term=y.term/\x.tgt.xs=y.tgt.xs)
def Xhg (i:Int):List ItemG->List ItemG->Prop
 | [],[]=>True
 | x :: a,y :: b=>AlikeX i x y/\Xhg i a b
 | _,_=>False
theorem Xf3 {i:Int} (c u v:Int):∀ {a b:List ItemG} (j:Nat),Xhg i a b->X3 c u v j a=X3 c u v j b
 | [],[],_,_=>rfl
 | [],_ :: _,_,h=>h.elim
 | _ :: _,[],_,h=>h.elim
 | x :: a,y :: b,j,h=>by
  obtain⟨⟨h1,h2,h3,h4,_⟩,h5⟩:=h;unfold X3;rw[h1,h2,h3,h4,Xf3 c u v (j+1) h5]
theorem Xoy {st st':Int->ByteArray->Bool} (A:Int->Nat->Nat->List Dv):∀(ps:List PartG) (i k:Nat),(∀p∈ps,p.text.size≠0->∀m,st m p.text=st' m p.text)->Yx st A ps i k=Yx st' A ps i k
 | [],i,k,_=>rfl
 | p :: ps,i,k,h=>by
  have ih:=fun i k=>Xoy A ps i k fun q hq=>h q (List.mem_cons_of_mem _ hq);rw[Yx,Yx];split
  ·rename_i hp
   rw[h p (List.mem_cons_self ..) hp,ih]
  ·refine Xat fun m _=>?_
   rw[ih]
theorem Xlt {st st':Int->ByteArray->Bool} (A:Int->Nat->Nat->List Dv) (c:Int) (i k:Nat):∀(j:Nat) (rs:List RuleG),(∀r∈rs,∀p∈r.parts.xs,p.text.size≠0->∀m,st m p.text=st' m p.text)->Yd st A c i k j rs=Yd st' A c i k j rs
 | _,[],_=>rfl
 | j,r :: rs,h=>by
  unfold Yd Xeo;rw[Xoy A r.parts.xs i k (h r (List.mem_cons_self ..)),Xlt A c i k (j+1) rs fun q hq=>h q (List.mem_cons_of_mem _ hq)]
theorem Xh2 {g:Gram} {i:Int} {a b:List ItemG} (h:Xhg i a b) (hs:∀r∈g.rules.xs,∀p∈r.parts.xs,p.text.size≠0->∀m,Xp a m p.text=Xp b m p.text):∀(f:Nat) (c:Int) (u v:Nat),derF g a f c u v=derF g b f c u v
 | 0,_,_,_=>rfl
 | f+1,c,u,v=>by
  have ih:derF g a f=derF g b f:=by
   funext c u v
   exact Xh2 h hs f c u v
  unfold derF;rw[Xf3 c u v 0 h,ih,Xlt (derF g b f) c u v 0 g.rules.xs hs]
theorem Xqq {g:Gram} {i:Int} {a b:List ItemG} (h:Xhg i a b) (hs:∀r∈g.rules.xs,∀p∈r.parts.xs,p.text.size≠0->∀m,Xp a m p.text=Xp b m p.text) (n:Int):Tk g a n=Tk g b n:=by
 unfold Tk derG;rw[Xh2 h hs]
theorem Xgr:∀l:List UInt8,(∀c∈l,c.toNat<128)->Yt l=(l.map (·.toNat),true)
 | [],_=>rfl
 | c :: l,h=>by
  have hc:=h c (List.mem_cons_self ..)
  have hd:dec (c :: l)=(c.toNat,1):=by
   unfold dec Lib.decodeN;exact if_pos hc
  rw[Xa5 _ (by simp),hd]
  have hb:badB (c.toNat,1)=false:=by
   unfold badB;simp;omega
  rw[hb];simp only[Bool.false_eq_true,if_false,List.drop_succ_cons,List.drop_zero];rw[Xgr l fun x hx=>h x (List.mem_cons_of_mem _ hx)];rfl
theorem Xwj {s:ByteArray} (h:V9 s=true):Xq s=true:=by
 unfold V9 at h;simp only[Bool.and_eq_true,decide_eq_true_eq,List.all_eq_true] at h;obtain⟨⟨⟨h1,h2⟩,_⟩,h4⟩:=h
 have hp:∀c∈s.data.toList,c.toNat<128/\Xb8 ((c.toNat:Nat):Int)=false:=fun c hc=>by
  have:=h4 c hc;unfold Tu Yu Xar at this;simp only[Bool.or_eq_true,Bool.and_eq_true,decide_eq_true_eq] at this;refine⟨by omega,?_⟩;unfold Xb8;simp;omega
 unfold Xq;rw[Xgr _ fun c hc=>(hp c hc).1];simp only[Bool.and_eq_true,decide_eq_true_eq,Bool.not_eq_true',List.any_eq_false,List.mem_map];refine⟨⟨⟨by omega,h1⟩,trivial⟩,?_⟩;rintro x ⟨c,hc,rfl⟩;rw[(hp c hc).2];simp
structure Xe1 (n ncats:Nat) (x:Ye):Prop where
 place:0<=x.frm/\x.frm<x.unt/\x.unt<=n
 term : -1<=x.term/\x.term<=1048576
 some_:1<=x.tgt.length/\x.tgt.length<=4
 word:∀s∈x.tgt,Xq s=true
 kind:(x.cat = -1/\x.unt=x.frm+1/\x.cost=0/\x.tgt.length=1)\/(0<=x.cat/\x.cat<ncats/\0<=x.cost/\x.cost<=1000)
theorem Xlc {g:Gram} {S:List Term} {ws:List ByteArray} {x:Ye}:∀(l:List ByteArray) (k:Nat),x∈Y9 g S ws k l->∃i s,s∈l/\x∈Qg g S ws i s
 | [],k,h=>by cases h
 | s :: l,k,h=>by
  unfold Y9 at h;rcases List.mem_append.1 h with h|h
  ·exact⟨k,s,List.mem_cons_self ..,h⟩
  ·obtain⟨i,s',h1,h2⟩:=Xlc l (k+1) h
   exact⟨i,s',List.mem_cons_of_mem _ h1,h2⟩
theorem Xof {g:Gram} (h:Yb g=0):∀e∈g.entries.xs,∀s∈e.gives.xs,Xq s=true:=by
 unfold Yb at h;split at h
 ·cases h
 split at h
 ·cases h
 rename_i ht;unfold Yk at ht;simp only[Bool.and_eq_true,decide_eq_true_eq,List.all_eq_true,Bool.not_eq_true',Bool.not_eq_false] at ht;intro e he s hs;have h1:=ht.1.2 e he;unfold Uz at h1;simp only[Bool.and_eq_true,decide_eq_true_eq,List.all_eq_true] at h1;have h2:=h1.1.2 s hs;unfold Zc at h2;simp only[Bool.and_eq_true] at h2;exact Xwj h2.1
theorem Xs2 {cats ws:List ByteArray} {S:List Term} (hS:∀x∈S,x.ok=true/\x.gone=false) {i m:Nat} {x:Ye} (h:x∈Xw cats S ws i m):(-1<=x.term/\x.term<=1048576)/\(1<=x.tgt.length/\x.tgt.length<=4)/\(∀s∈x.tgt,Xq s=true)/\x.cost=0:=by
 obtain⟨t,ht,rfl⟩:=Xak h;have hm:=List.mem_of_find?_eq_some ht;obtain⟨h1,h2⟩:=hS t hm;unfold Term.ok at h1;rw[h2] at h1;unfold noB Zb at h1;simp only[Bool.and_eq_true,decide_eq_true_eq,List.all_eq_true,Bool.false_eq_true,if_false] at h1;obtain⟨h3,h4⟩:=h1;exact⟨⟨by show -1<=t.no;omega,by show t.no<=_;omega⟩,h4.1.1,h4.1.2,rfl⟩
theorem Xdt {g:Gram} {l:List Term} {lang t u:Int} {ws:List ByteArray} (h:Xz g l lang ws t u=0):∀x∈Vb g (Yh l lang t u) ws,Xe1 ws.length g.cats.xs.length x:=by
 intro x hx;have hin:=X2k h x hx;obtain⟨hc,hs,h16,hw,hl⟩:=Vy h;have hk:=Qp hs;have hG:=Qy hc;have hwd:∀s∈ws,Xq s=true:=List.all_eq_true.1 hw;unfold Vb at hx;rcases List.mem_append.1 hx with hx|hx
 ·have key:∀(m:List ByteArray) (k:Nat),(∀s∈m,s∈ws)->x∈Us k m->x.term = -1/\x.cat = -1/\x.unt=x.frm+1/\x.cost=0/\∃s∈ws,x.tgt=[s]:=by
   intro m
   induction m with
   | nil=>intro k _ hx;cases hx
   | cons s m ih =>
    intro k hm hx;unfold Us at hx;rcases List.mem_cons.1 hx with rfl|hx
    ·exact⟨rfl,rfl,rfl,rfl,s,hm s (List.mem_cons_self ..),rfl⟩
    ·exact ih (k+1) (fun s hs=>hm s (List.mem_cons_of_mem _ hs)) hx
  obtain⟨e1,e2,e3,e4,s,hs,e5⟩:=key ws 0 (fun _ h=>h) hx;exact⟨hin,by omega,by rw[e5];simp,fun y hy=>by rw[e5] at hy;rw[List.mem_singleton.1 hy];exact hwd s hs,.inl ⟨e2,e3,e4,by rw[e5];rfl⟩⟩
 ·have hfit:=(Xex hc (Xai hk.1 lang t u) (Xa6 hk.1 lang t u) ws 0 rfl).1 x hx
  unfold T0 Xfy at hfit;simp only[Bool.and_eq_true,decide_eq_true_eq] at hfit;have hcat:0<=x.cat/\x.cat<g.cats.xs.length:=⟨hfit.1.1.1.1.1,hfit.1.1.1.1.2⟩
  have hS:∀y∈Yh l lang t u,y.ok=true/\y.gone=false:=fun y hy=>⟨Xai hk.1 lang t u y hy,by
   have:=(List.mem_filter.1 hy).2;unfold Xes at this;simp only[Bool.and_eq_true,Bool.not_eq_true'] at this;exact this.2.1.1⟩
  obtain⟨i,s,hs,hx⟩:=Xlc ws 0 hx;have fin:((-1<=x.term/\x.term<=1048576)/\(1<=x.tgt.length/\x.tgt.length<=4)/\(∀s∈x.tgt,Xq s=true)/\0<=x.cost/\x.cost<=1000)->Xe1 ws.length g.cats.xs.length x:=fun ⟨a,b,c,d⟩=>⟨hin,a,b,c,.inr ⟨hcat.1,hcat.2,d⟩⟩
  have ft:∀m,x∈Xw g.cats.xs (Yh l lang t u) ws i m->Xe1 ws.length g.cats.xs.length x:=fun m hx=>by
   obtain⟨a,b,c,d⟩:=Xs2 hS hx;exact fin ⟨a,b,c,by omega⟩
  unfold Qg at hx;rcases List.mem_append.1 hx with hx|hx
  ·rcases List.mem_append.1 hx with hx|hx
   ·rcases List.mem_append.1 hx with hx|hx
    ·unfold Um at hx
     split at hx
     ·obtain⟨c,hc',rfl⟩:=List.mem_map.1 hx
      refine fin ⟨⟨by show (-1:Int) <= -1;omega,by show (-1:Int)<=1048576;omega⟩,⟨by show 1<=[s].length;simp,by show [s].length<=4;simp⟩,fun y hy=>?_,by show (0:Int)<=100;omega,by show (100:Int)<=1000;omega⟩;rw[List.mem_singleton.1 hy];exact hwd s hs
     ·rcases List.mem_append.1 hx with hx|hx
      ·exact ft _ hx
      ·obtain⟨e,he,rfl⟩:=List.mem_map.1 hx
       have he':=(List.mem_filter.1 he).1;have h1:=hG.entry e he';exact fin ⟨⟨by show (-1:Int) <= -1;omega,by show (-1:Int)<=1048576;omega⟩,h1.2.2.2.2,Xof hc e he',h1.2.2.1,h1.2.2.2.1⟩
    ·exact ft _ hx
   ·exact ft _ hx
  ·exact ft _ hx
theorem Xsi {g:Gram} {n:Nat} {x:ItemG} (h:Xe1 n g.cats.xs.length x.c):U9 g n x=true:=by
 obtain⟨⟨a1,a2,a3⟩,⟨b1,b2⟩,⟨c1,c2⟩,d,e⟩:=h;change 0<=x.frm at a1;change x.frm<x.unt at a2;change x.unt<=_ at a3;change -1<=x.term at b1;change x.term<=_ at b2;change 1<=x.tgt.xs.length at c1;change x.tgt.xs.length<=4 at c2;change (x.cat = -1/\x.unt=x.frm+1/\x.cost=0/\x.tgt.xs.length=1)\/(0<=x.cat/\x.cat<_/\0<=x.cost/\x.cost<=1000) at e;have hw:x.tgt.xs.all Xq=true:=List.all_eq_true.2 d;unfold U9;rw[decide_eq_true a1,decide_eq_true a2,decide_eq_true a3,decide_eq_true b1,decide_eq_true b2,decide_eq_true c1,decide_eq_true c2,hw];rcases e with ⟨e1,e2,e3,e4⟩|⟨e1,e2,e3,e4⟩
 ·rw[if_pos e1,decide_eq_true e2,decide_eq_true e3,decide_eq_true e4];rfl
 ·rw[if_neg (by omega),decide_eq_true e1,decide_eq_true e2,decide_eq_true e3,decide_eq_true e4];rfl
theorem Xpx {g:Gram} {l:List Term} {lang t u:Int} {ws:List ByteArray} {its:List ItemG} (h:Xz g l lang ws t u=0) (h0:ws≠[]) (hm:its.map ItemG.c=Vb g (Yh l lang t u) ws):errC g its ws.length=0:=by
 obtain⟨hc,hs,h16,hw,hl⟩:=Vy h;have hll:its.length<=1024:=by have:=congrArg List.length hm;rw[List.length_map] at this;omega
 have hn:1<=ws.length:=by cases ws with|nil=>exact absurd rfl h0|cons=>simp
 unfold errC;rw[if_neg (by rw[hc];simp),if_neg (by omega),if_neg (by omega),if_pos];rw[List.all_eq_true];intro x hx;exact Xsi (Xdt h x.c (by rw[<- hm];exact List.mem_map_of_mem hx))
/-! ### what items say, without their addresses -/
def canG (x:Ye):ItemG:=⟨x.cat,x.frm,x.unt,x.cost,⟨none,0,x.tgt⟩,x.term⟩
def canL (cs:List Ye):List ItemG:=cs.map canG
theorem Xkp (i:Int):∀its:List ItemG,Xhg i its (canL (its.map ItemG.c))
 | []=>trivial
 | _ :: l=>⟨⟨rfl,rfl,rfl,rfl,fun _=>⟨rfl,rfl⟩⟩,Xkp i l⟩
theorem Xjl (m:Int) (s:ByteArray):∀its:List ItemG,Xp its m s=Xp (canL (its.map ItemG.c)) m s
 | []=>rfl
 | x :: l=>by
  have ih:=Xjl m s l;unfold Xp at ih ⊢;unfold canL at ih ⊢;rw[List.map_cons,List.map_cons,List.any_cons,List.any_cons,ih];rfl
theorem Xnr (g:Gram) (its:List ItemG) (n:Int):Tk g its n=Tk g (canL (its.map ItemG.c)) n:=Xqq (Xkp 0 its) (fun _ _ _ _ _ m=>Xjl m _ its) n
theorem X1q (its:List ItemG) (n:Nat):(canL (its.map ItemG.c))[n]? = its[n]?.map fun x=>canG x.c:=by
 unfold canL;rw[List.map_map,List.getElem?_map];rfl
theorem Xxg (g:Gram) (its:List ItemG):∀t ab,Yj g its t ab=Yj g (canL (its.map ItemG.c)) t ab :=
 TreeV.ind fun r j u v l ih ab=>by
  by_cases hr:r<0
  ·rw[Yj,Yj,if_pos hr,if_pos hr,X1q]
   cases its[j.toNat]? <;> rfl
  ·cases hru:g.rules.xs[r.toNat]? with
   | none=>rw[Yj,Yj,if_neg hr,if_neg hr,hru]
   | some ru =>
    rw[Xca g its hr hru,Xca g _ hr hru];refine Xat fun y _=>?_;split
    ·rfl
    ·split
     ·rename_i t ht
      exact ih t (List.mem_of_getElem? ht) _
     ·rfl
theorem X1e (i:Int) (its:List ItemG):Vq (canL (its.map ItemG.c)) i=(Vq its i).map fun x=>canG x.c:=by
 have key:∀(l:List ItemG) (o:Option ItemG),(canL (l.map ItemG.c)).foldl (Y8 i) (o.map fun x=>canG x.c)=(l.foldl (Y8 i) o).map fun x=>canG x.c:=by
  intro l
  induction l with
  | nil=>intro o;rfl
  | cons x l ih =>
   intro o;have hb:Xdc (o.map fun x=>canG x.c) (canG x.c)=Xdc o x:=by cases o<;>rfl
   have hs:Y8 i (o.map fun x=>canG x.c) (canG x.c)=(Y8 i o x).map fun x=>canG x.c:=by
    unfold Y8;rw[hb];by_cases h:0<=x.cat/\x.frm=i/\Xdc o x=true
    ·rw[if_pos h,if_pos (show 0<=(canG x.c).cat/\(canG x.c).frm=i/\Xdc o x=true from h)];rfl
    ·rw[if_neg h,if_neg (show ¬(0<=(canG x.c).cat/\(canG x.c).frm=i/\Xdc o x=true) from h)]
   unfold canL at ih ⊢;rw[List.map_cons,List.map_cons,List.foldl_cons,List.foldl_cons,hs];exact ih _
 exact key its none
theorem Xnh (its:List ItemG) (n:Int):∀(f:Nat) (i:Int),wbwL its n f i=wbwL (canL (its.map ItemG.c)) n f i
 | 0,_=>rfl
 | f+1,i=>by
  unfold wbwL;rw[X1e];split
  ·rfl
  ·cases Vq its i with
   | none=>exact Xnh its n f (i+1)
   | some x=>exact congrArg _ (Xnh its n f x.unt)
def trG (g:Gram) (cs:List Ye) (n:Nat):List TgP×Bool:=match Tk g (canL cs) n with|some x=>(Yj g (canL cs) x.2 [],true)|none=>(wbwT (canL cs) n 0,false)
theorem Xp4 {g:Gram} {its:List ItemG} {n:Nat} {x:Dv} (h:Tk g its n=some x):trG g (its.map ItemG.c) n=(Yj g its x.2 [],true):=by
 unfold trG;rw[<- Xnr,h];simp only;rw[<- Xxg]
theorem Xp3 {g:Gram} {its:List ItemG} {n:Nat} (h:Tk g its n=none):trG g (its.map ItemG.c) n=(wbwT its n 0,false):=by
 unfold trG;rw[<- Xnr,h];simp only;unfold wbwT;rw[<- Xnh]
def trE (g:Gram) (l:List Term) (lang:Int) (ws:List ByteArray) (t u:Int):List TgP×Bool :=
 if Xz g l lang ws t u≠0\/ws=[] then ([],false) else trG g (Vb g (Yh l lang t u) ws) ws.length
theorem Xir {g:Gram} {items:List ItemG} {st:Int->ByteArray->Bool}:∀(ps:List PartG) (kids:List TreeV) (i k c0 c:Int),Z9 st ps (Ym g items kids) i k c0=(c,true) ->
  kids.length=ps.countP (fun x=>decide (x.text.size=0))/\∀t∈kids,∃c',(Zu g items t c').2=true
 | [],kids,i,k,c0,c,h=>by
  unfold Z9 at h;simp only[Prod.mk.injEq,Bool.and_eq_true,decide_eq_true_eq] at h;cases kids with
  | nil=>exact⟨rfl,fun t ht=>by cases ht⟩
  | cons t l=>rw[Ym] at h;simp at h
 | p :: ps,kids,i,k,c0,c,h=>by
  by_cases hp:p.text.size≠0
  ·rw[Qc hp] at h
   split at h
   ·rw[List.countP_cons_of_neg (by simpa using hp)]
    exact Xir ps kids (i+1) k c0 c h
   ·simp at h
  ·have hp0:p.text.size=0:=by simpa using hp
   cases kids with
   | nil=>rw[Ym,Xaz hp] at h;simp at h
   | cons t l =>
    rw[Ym,Xac hp] at h;simp only at h;split at h
    ·split at h
     ·rename_i ht2
      obtain⟨h1,h2⟩:=Xir ps l t.unt k _ c h;rw[List.countP_cons_of_pos (by simpa using hp0),List.length_cons,h1];refine⟨rfl,fun u hu=>?_⟩;rcases List.mem_cons.1 hu with rfl|hu
      ·exact⟨_,ht2⟩
      ·exact h2 u hu
     ·simp at h
    ·simp at h
theorem X1y {ps:List PartG} {y:GiveG} (h:Xgc ps y=true) (ht:y.text.size=0):0<=y.part/\Yo ps y.part.toNat=true:=by
 unfold Xgc at h;unfold Yo;rw[if_pos ht] at h;unfold Xej at h;rw[Bool.and_eq_true,decide_eq_true_eq] at h;exact h
theorem X1d {g:Gram} {items:List ItemG} (hg:Y5 g) (hv:Xti g) {n m:Nat} (hn:n<=16) (hi:Ve n m items):∀t c,(Zu g items t c).2=true->WellT g items t :=
 TreeV.ind fun r j i k l ih c h=>by
  have hd:Zu g items (.node r j i k l) c=((Zu g items (.node r j i k l) c).1,true):=by rw[<- h]
  obtain⟨u,v,e1,e2,e3,e4⟩:=Xe8 hg hi (.node r j i k l) c _ hd;simp at e1 e2;rw[Zu] at h;split at h
  ·rename_i hr
   split at h
   ·simp at h
   rename_i hj;refine .leaf (n:=j.toNat) (by omega) (by omega) (by omega)
  ·rename_i hr
   split at h
   ·simp at h
   rename_i hj;split at h
   ·simp at h
   ·rename_i ru hru
    split at h
    ·have hm:=List.mem_of_getElem? hru
     obtain⟨hlt,hge⟩:=List.getElem?_eq_some_iff.1 hru;have hl:Z9 (Xp items) ru.parts.xs (Ym g items l) i k ru.cost=((Z9 (Xp items) ru.parts.xs (Ym g items l) i k ru.cost).1,true):=(by rw[<- h]);obtain⟨a1,a2⟩:=Xir _ _ _ _ _ _ hl;have hr0:r=((r.toNat:Nat):Int):=(by omega);rw[hr0];subst hge;refine .rule hlt (by omega) (by omega) (by omega) (by omega) (fun t ht=>?_) (fun y hy ht=>X1y (hv.give _ hm y hy) ht) (fun t ht=>?_)
     ·obtain⟨c',hc'⟩:=a2 t ht
      obtain⟨u',v',f1,f2,f3,f4⟩:=Xe8 hg hi t c' _ (show Zu g items t c'=((Zu g items t c').1,true) by rw[<- hc']);omega
     ·obtain⟨c',hc'⟩:=a2 t ht
      exact ih t ht c' hc'
    ·simp at h
theorem Xks {g:Gram} {its:List ItemG} {n:Int} (h:Xg8 g its n) {x:Dv} (hb:Tk g its n=some x):WellT g its x.2/\Yr x.2<=1024:=by
 obtain⟨h1,h2,h3,h4⟩:=Xut h hb;refine⟨X1d h.gram (Xap h.check) (by have:=h.n16;omega) h.items x.2 g.startNo (by rw[h1]),?_⟩;have:=h.n16;have:=h.n1;have hc:=h.gram.few;refine Nat.le_trans h4 (Nat.le_trans (Nat.mul_le_mul (show 2*n.toNat-1<=32 by omega) hc) (by omega))
end Go.Proofs.YtolpbjjapodmnaaGreatDoor
