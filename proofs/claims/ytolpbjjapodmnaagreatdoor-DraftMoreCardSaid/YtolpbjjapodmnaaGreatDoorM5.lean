/- Texts of this claim, one after the other: R26e, GrmI, GrmK, Step, Queue, R26f. -/
import Derived.Test.YtolpbjjapodmnaaGreatDoorM4
import Derived.Test.YtolpbjjapodmnaaGreatDoorM3
import Derived.Deep.RegionLaw
import Derived.Deep.DrawnRows
import Derived.Deep.Upon
import Derived.Maps.AppendAt
import Derived.Deep.AppendLies
namespace Go.Proofs.YtolpbjjapodmnaaGreatDoor
open Go.RowKit Go.Han
set_option maxRecDepth 100000
attribute [local irreducible] wpStill wpQuiet
set_option maxHeartbeats 8000000
/-! ### the map of the names -/
def Zp:Nat->List ByteArray->ByteArray->Option Int
 | _,[],_=>none
 | i,x :: l,s=>match Zp (i+1) l s with|some n=>some n|none=>if x=s then some (i:Int) else none
theorem Xiq (x s:ByteArray):∀(i:Nat) (l:List ByteArray),Zp i (l++[x]) s=if s=x then some ((i+l.length:Nat):Int) else Zp i l s
 | i,[]=>by
  simp only[List.nil_append,Zp,List.length_nil,Nat.add_zero];by_cases h:x=s
  ·rw[if_pos h,if_pos h.symm]
  ·rw[if_neg h,if_neg (fun e=>h e.symm)]
 | i,y :: l=>by
  rw[List.cons_append,Zp,Zp,Xiq x s (i+1) l,List.length_cons];rw[show i+1+l.length=i+(l.length+1) by omega];by_cases h:s=x
  ·rw[if_pos h,if_pos h]
  ·rw[if_neg h,if_neg h]
theorem Xdo (s:ByteArray):∀(i:Nat) (l:List ByteArray),(Zp i l s).isSome↔s∈l
 | i,[]=>by simp[Zp]
 | i,x :: l=>by
  rw[Zp,List.mem_cons];have:=Xdo s (i+1) l;cases h:Zp (i+1) l s with
  | some n=>rw[h] at this;simp at this;simp[this]
  | none =>
   rw[h] at this;simp at this;by_cases e:x=s
   ·simp[e]
   ·have:¬s=x:=fun h=>e h.symm
    simp[*]
theorem Xvs (s x:ByteArray) (l:List ByteArray):idxF s (x :: l)=if x=s then 0 else if idxF s l = -1 then -1 else idxF s l+1:=rfl
theorem Xgk (s:ByteArray):∀(i:Nat) (l:List ByteArray),l.Nodup->Zp i l s=if 0<=idxF s l then some (i+idxF s l) else none
 | i,[],_=>by simp[Zp,idxF]
 | i,x :: l,h=>by
  rw[List.nodup_cons] at h;have ih:=Xgk s (i+1) l h.2;have hm:=Xeh s l;have hge:=Xhb s l;have hc:=Xvs s x l;by_cases h0:0<=idxF s l
  ·have e:¬x=s:=fun e=>h.1 (by rw[e];exact hm.1 h0)
   have hn:¬idxF s l = -1:=(by omega);rw[if_neg e,if_neg hn] at hc;rw[if_pos h0] at ih;rw[Zp,ih];simp only;rw[hc,if_pos (by omega)]
   congr 1;omega
  ·have hn:idxF s l = -1:=by omega
   rw[if_neg h0] at ih;rw[Zp,ih];simp only;by_cases e:x=s
   ·rw[if_pos e] at hc
    rw[hc,if_pos e,if_pos (by omega)];simp
   ·rw[if_neg e,if_pos hn] at hc
    rw[hc,if_neg e,if_neg (by omega)]
def Tt:List ByteArray->List ByteArray
 | []=>[]
 | x :: l=>if (l.any fun y=>decide (y=x))=true then Tt l else x :: Tt l
theorem Xam (x:ByteArray) (l:List ByteArray):(l.any fun y=>decide (y=x))=true↔x∈l:=by
 rw[List.any_eq_true];constructor
 ·rintro⟨y,hy,h⟩;rw[<- of_decide_eq_true h];exact hy
 ·intro h;exact⟨x,h,by simp⟩
theorem Xa3 (x:ByteArray) (l:List ByteArray):Tt (x :: l)=if (l.any fun y=>decide (y=x))=true then Tt l else x :: Tt l:=rfl
theorem Xad (s:ByteArray):∀l,s∈Tt l↔s∈l
 | []=>Iff.rfl
 | x :: l=>by
  rw[Xa3];have:=Xad s l;by_cases h:(l.any fun y=>decide (y=x))=true
  ·rw[if_pos h,this,List.mem_cons]
   exact⟨.inr,fun h'=>h'.elim (fun e=>by rw[e];exact(Xam x l).1 h) id⟩
  ·rw[if_neg h,List.mem_cons,List.mem_cons,this]
theorem Qn:∀l,(Tt l).Nodup
 | []=>List.nodup_nil
 | x :: l=>by
  rw[Xa3];by_cases h:(l.any fun y=>decide (y=x))=true
  ·rw[if_pos h];exact Qn l
  ·rw[if_neg h]
   exact List.nodup_cons.2 ⟨fun h'=>h ((Xam x l).2 ((Xad x l).1 h')),Qn l⟩
theorem Xo5:∀l,(Tt l).length<=l.length
 | []=>Nat.le_refl _
 | x :: l=>by
  rw[Xa3];have:=Xo5 l;split<;>simp<;>omega
theorem Xlf:∀l:List ByteArray,(Tt l).length=l.length↔l.Nodup
 | []=>by simp[Tt]
 | x :: l=>by
  rw[Xa3];have h1:=Xlf l;have h2:=Xo5 l;rw[List.nodup_cons];by_cases h:(l.any fun y=>decide (y=x))=true
  ·rw[if_pos h,List.length_cons]
   constructor
   ·intro e;omega
   ·rintro⟨h',_⟩;exact absurd ((Xam x l).1 h) h'
  ·rw[if_neg h,List.length_cons,List.length_cons]
   constructor
   ·intro e;exact⟨fun h'=>h ((Xam x l).2 h'),h1.1 (by omega)⟩
   ·rintro⟨_,h'⟩;rw[h1.2 h']
/-! ### striking what is in no circle -/
def Zt (f:ByteArray->Option Bool) (c:ByteArray) (x:RuleG):Bool:=match x.parts.xs with|[p]=>decide (x.cat=c) && decide (p.text.size=0) && (f p.cat).isSome|_=>false
structure LeftInv (rs:List RuleG) (cats:List ByteArray) (k:Nat) (f:ByteArray->Option Bool) (left:ByteArray->Bool):Prop where
 sub:∀x,(f x).isSome->x∈cats/\f x=some true
 keep:∀x,Xd6 (Ub rs) x->x∈cats->(f x).isSome
 path:∀x,(f x).isSome->PathN (Ub rs) k x/\(left x=false->PathN (Ub rs) (k+1) x)
theorem Xf6 (f:ByteArray->Option Bool) (c:ByteArray) (x:RuleG):Zt f c x=true↔∃b,Uw c b x=true/\(f b).isSome:=by
 unfold Zt Uw;cases hp:x.parts.xs with
 | nil=>simp
 | cons p l =>
  cases l with
  | nil =>
   simp only[Bool.and_eq_true,decide_eq_true_eq];constructor
   ·rintro⟨h1,h2⟩;exact⟨p.cat,⟨h1,rfl⟩,h2⟩
   ·rintro⟨b,⟨h1,rfl⟩,h2⟩;exact⟨h1,h2⟩
  | cons q l=>simp
theorem LeftInv.strike {rs:List RuleG} {cats:List ByteArray} {k:Nat} {f:ByteArray->Option Bool} {left:ByteArray->Bool} (h:LeftInv rs cats k f left) {c:ByteArray} (hE:∀y z,Ub rs y z->z∈cats) (hn:rs.any (Zt f c)=false) :
  LeftInv rs cats k (fun y=>if y=c then none else f y) (fun y=>left y && !decide (y=c)):=by
 refine⟨fun x hx=>?_,fun x ht hx=>?_,fun x hx=>?_⟩
 ·by_cases e:x=c
  ·simp[e] at hx
  ·simp only[e,if_false] at hx ⊢
   exact h.sub x hx
 ·by_cases e:x=c
  ·exfalso
   subst e;obtain⟨y,⟨r,hr,he⟩,hy⟩:=Xda ht;rw[List.any_eq_false] at hn;exact hn r hr ((Xf6 f x r).2 ⟨y,he,h.keep y hy (hE x y ⟨r,hr,he⟩)⟩)
  ·simp only[e,if_false]
   exact h.keep x ht hx
 ·by_cases e:x=c
  ·simp[e] at hx
  ·simp only[e,if_false] at hx
   simpa[e] using h.path x hx
theorem LeftInv.stay {rs:List RuleG} {cats:List ByteArray} {k:Nat} {f:ByteArray->Option Bool} {left:ByteArray->Bool} (h:LeftInv rs cats k f left) {c:ByteArray} (hn:rs.any (Zt f c)=true) :
  LeftInv rs cats k f (fun y=>left y && !decide (y=c)):=by
 refine⟨h.sub,h.keep,fun x hx=>?_⟩;by_cases e:x=c
 ·subst e
  obtain⟨r,hr,hc⟩:=List.any_eq_true.1 hn;obtain⟨b,hb,hf⟩:=(Xf6 f x r).1 hc;exact⟨(h.path x hx).1,fun _=>⟨b,⟨r,hr,hb⟩,(h.path b hf).1⟩⟩
 ·simpa[e] using h.path x hx
theorem LeftInv.next {rs:List RuleG} {cats:List ByteArray} {k:Nat} {f:ByteArray->Option Bool} {left:ByteArray->Bool} (h:LeftInv rs cats k f left) (hd:∀x∈cats,left x=false) :
  LeftInv rs cats (k+1) f (fun x=>(f x).isSome) :=
 ⟨h.sub,h.keep,fun x hx=>⟨(h.path x hx).2 (hd x (h.sub x hx).1),fun h0=>by rw[hx] at h0;cases h0⟩⟩
theorem LeftInv.start (rs:List RuleG) (cats:List ByteArray) {f:ByteArray->Option Bool} (hf:∀x,(x∈cats->f x=some true)/\(x∉cats->f x=none)):LeftInv rs cats 0 f (fun x=>(f x).isSome):=by
 refine⟨fun x hx=>?_,fun x _ hx=>by rw[(hf x).1 hx];rfl,fun x hx=>⟨trivial,fun h0=>by rw[hx] at h0;cases h0⟩⟩;rcases Classical.em (x∈cats) with h|h
 ·exact⟨h,(hf x).1 h⟩
 ·rw[(hf x).2 h] at hx;cases hx
theorem LeftInv.last {g:Gram} {f:ByteArray->Option Bool} {left:ByteArray->Bool} (h:LeftInv g.rules.xs g.cats.xs g.cats.xs.length f left)
  (hp:∀x∈g.rules.xs,∀p,x.parts.xs=[p]->p.text.size=0->p.cat∈g.cats.xs) (hc:∀x∈g.rules.xs,x.cat∈g.cats.xs):(∃x,(f x).isSome)↔T8 g=true:=by
 constructor
 ·rintro⟨x,hx⟩
  unfold T8;exact List.any_eq_true.2 ⟨x,(h.sub x hx).1,(Xfp _ _ _).2 (h.path x hx).1⟩
 ·intro hb
  obtain⟨x,hx⟩:=(Xu0 g hp hc).1 hb
  have hm:x∈g.cats.xs:=by
   have:∃y,Ub g.rules.xs x y:=by cases hx with
    | one e=>exact⟨_,e⟩
    | more e _=>exact⟨_,e⟩
   obtain⟨y,r,hr,e⟩:=this;unfold Uw at e;split at e
   ·simp only[Bool.and_eq_true,decide_eq_true_eq] at e
    rw[<- e.1.1];exact hc r hr
   ·cases e
  exact⟨x,h.keep x ⟨x,.inl rfl,hx⟩ hm⟩
def T6 (f:ByteArray->Option Bool) (cats:List ByteArray):List ByteArray:=Tt (cats.filter fun x=>(f x).isSome)
theorem Tf {f:ByteArray->Option Bool} {cats:List ByteArray} (h:∀x,(f x).isSome->x∈cats) (x:ByteArray):(f x).isSome↔x∈T6 f cats:=by
 unfold T6;rw[Xad,List.mem_filter];exact⟨fun hx=>⟨h x hx,hx⟩,fun hx=>hx.2⟩
theorem Xkh {f:ByteArray->Option Bool} {cats:List ByteArray} (h:∀x,(f x).isSome->x∈cats):decide (0<(T6 f cats).length)=true↔∃x,(f x).isSome:=by
 rw[decide_eq_true_eq,List.length_pos_iff_exists_mem];exact⟨fun ⟨x,hx⟩=>⟨x,(Tf h x).2 hx⟩,fun ⟨x,hx⟩=>⟨x,(Tf h x).1 hx⟩⟩
/-! ### what a breadth-first search reaches -/
structure ReachInv (rs:List RuleG) (frm:ByteArray) (out todo:List ByteArray):Prop where
 sound:∀x∈out,Leads (Ub rs) frm x
 done:∀x∈todo,x=frm\/x∈out
 full:∀x,(x=frm\/x∈out)->x∉todo->∀y,Ub rs x y->y∈out
theorem ReachInv.last {rs:List RuleG} {frm:ByteArray} {out:List ByteArray} (h:ReachInv rs frm out []) (x:ByteArray):x∈out↔Leads (Ub rs) frm x:=by
 constructor
 ·exact h.sound x
 ·intro hl
  have key:∀ {a b},Leads (Ub rs) a b->(a=frm\/a∈out)->b∈out:=by
   intro a b hab
   induction hab with
   | one e=>exact fun ha=>h.full _ ha (by simp) _ e
   | more e _ ih=>exact fun ha=>ih (.inr (h.full _ ha (by simp) _ e))
  exact key hl (.inl rfl)
end Go.Proofs.YtolpbjjapodmnaaGreatDoor
/- Appends of perhaps nothing, as a step of a region that draws its order; pieces of a slice. -/
namespace Go.Han
open Go.RowKit
section
variable {P:Program} {w:World}
theorem X2i (size c:Nat) (tx:TypeId) {e:TypeId} (ht:P.underlying tx=some (.slice e)):Src P size tx (.slice none 0 c) 0 [] w:=by
 refine⟨.inl ⟨e,ht⟩,fun w'=>?_,?_,?_,by simp,fun u hu=>by cases hu⟩
 ·rfl
 ·rfl
 ·rfl
theorem Y1 {base e size n:Nat} {v:Value} {xs:List Value} (h:w.ownsRow base e size v n xs):∃A cap,v = .slice A n cap/\n<=cap:=by
 rcases h.2 with ⟨h1,h2⟩|⟨g,cap,cur,h1,_,_,h4,_⟩
 ·subst h2;exact⟨none,0,h1,Nat.le_refl _⟩
 ·exact⟨_,cap,h1,h4⟩
theorem Xmz (row:Option Nat):w.grownBy w row:=Xau bo_q row
theorem Tg (base:Nat) (t ty e:TypeId) (i:TypeInfo) (z:Value) (size bytes:Nat) (ht:P.underlying t=some (.slice e)) (hi:P.info? e=some i) (hz:i.zero=some z)
  (hsize:i.size=size) (hby:i.bytes=bytes) (hzs:z.cells.size=size) (hsz:0<size)
  (v:Value) (n:Nat) (xs:List Value) (hown:w.ownsRow base e size v n xs)
  (B:Option Addr) (m c:Nat) (news:List Value) (hl:news.length=m*size) (hr:Rd w B news) (h1:∀u∈news,u.oneCell'=true)
  (h63:n+m<=maxLen) (hbytes:(n+m)*bytes<=140737488355328) (hbase:base<=w.heap.size) :
  ∃v' w',(Builtin.append_ #[t,t] ty #[v,.slice B m c]).run P w = .ok v' w'/\w'.ownsRow base e size v' (n+m) (xs++news)/\w.grownBy w' v.ownBlock/\(v'.ownBlock=v.ownBlock\/v'.ownBlock=some w.heap.size):=by
 cases B with
 | none =>
  have hn:news=[]:=by
   rcases hr with h|⟨b,off,h,_⟩
   ·exact h
   ·cases h
  subst hn
  have hm:m=0:=by
   rcases Nat.eq_zero_or_pos m with h|h
   ·exact h
   ·have:=Nat.mul_pos h hsz;simp at hl;omega
  subst hm;obtain⟨A,cap,rfl,hle⟩:=Y1 hown;refine⟨_,_,run_append_nothing w t t ty e i ht hi A n cap hle _ (X2i i.size c t ht),?_,Xmz _,.inl rfl⟩
  simpa using hown
 | some ad =>
  have hc:∀j u,news[j]? = some u->w.cell? (ad.add j)=some u:=by
   intro j u hu;rcases hr with h|⟨b,off,h,_,hc⟩
   ·rw[h] at hu;cases hu
   ·cases h
    have:=hc j u hu;rw[show (⟨b,off,none⟩:Addr).add j=⟨b,off+j,none⟩ from by unfold Addr.add;split<;>simp_all];exact this
  obtain⟨v',w',hr,h2,h3,_,h5⟩:=run_append_own_at (P:=P) w base t ty e i z size bytes ht hi hz hsize hby hzs hsz v n xs hown ad m c news hl hc h1 h63 hbytes hbase;exact⟨v',w',hr,h2,h3,h5⟩
theorem Te {ops:Array Oper} {rest:List Oper} {o:Oper} {a:Act} {Q:Exit->Act->World->Prop} (hgd:o.guard=none) (s x:Operand) (t:TypeId)
  (ho:o.op = .call {callee:=.builtin .append,args:=#[s,x],argTypes:=#[t,t]})
  (base:Nat) (e:TypeId) (i:TypeInfo) (z:Value) (size bytes:Nat) (ht:P.underlying t=some (.slice e)) (hi:P.info? e=some i) (hz:i.zero=some z)
  (hsize:i.size=size) (hby:i.bytes=bytes) (hzs:z.cells.size=size) (hsz:0<size)
  (v:Value) (n:Nat) (xs:List Value) (hs:a.eval s=v) (B:Option Addr) (m c:Nat) (news:List Value) (hx:a.eval x = .slice B m c)
  (hown:w.ownsRow base e size v n xs) (hl:news.length=m*size) (hr:Rd w B news) (h1:∀u∈news,u.oneCell'=true)
  (h63:n+m<=maxLen) (hbytes:(n+m)*bytes<=140737488355328) (hbase:base<=w.heap.size)
  (h:∀v' w',w'.ownsRow base e size v' (n+m) (xs++news)->w.grownBy w' v.ownBlock->(v'.ownBlock=v.ownBlock\/v'.ownBlock=some w.heap.size)->wpList P ops Q rest (a.put o.dst v') w') :
  wpList P ops Q (o :: rest) a w:=by
 refine wpList_plain hgd fun K hK=>?_;obtain⟨v',w',hrun,h2,h3,h5⟩:=Tg (P:=P) (w:=w) base t o.type e i z size bytes ht hi hz hsize hby hzs hsz v n xs hown B m c news hl hr h1 h63 hbytes hbase;unfold Oper.wp execOp;simp only[ho,resolve,invoke,builtin,Sem.run_bind,Sem.run_pure,Result.andThen_ok,List.map_toArray,List.map_cons,List.map_nil,hs,hx,hrun];exact hK _ _ (h v' w' h2 h3 h5)
theorem Xwu {base e size b:Nat} (h:w.heap[b]? = some (.cells #[] e (0,0))) (hb:base<=b):w.ownsRow base e size (.slice (some ⟨b,0,none⟩) 0 0) 0 [] :=
 ⟨by simp,.inr ⟨b,0,#[],rfl,hb,h,Nat.le_refl _,Nat.zero_le _,by simp,by simp⟩⟩
def subA (A:Option Addr) (cp i s:Nat):Option Addr:=if cp=i then A else A.map (·.add (i*s))
theorem Rd.cut {α:Type} {f:α->List Value} {s:Nat} (hs:0<s) (hf:∀y,(f y).length=s) {A:Option Addr} {l:List α} (h:Rd w A (l.flatMap f)) {cp i n:Nat} (hin:i+n<=l.length) (hcp:l.length<=cp) :
  Rd w (subA A cp i s) (((l.drop i).take n).flatMap f):=by
 unfold subA;by_cases hc:cp=i
 ·obtain rfl:n=0:=by omega
  simp only[List.take_zero];exact Rd.nil _ _
 ·rw[if_neg hc]
  rcases h with h0|⟨b,off,he,hb,hcl⟩
  ·have hl:l=[]:=by
    cases l with
    | nil=>rfl
    | cons x l =>
     have:=congrArg List.length h0;simp[hf] at this;omega
   rw[hl];simp only[List.drop_nil,List.take_nil];exact Rd.nil _ _
  ·refine .inr ⟨b,off+i*s,by rw[he];simp[Addr.add],hb,fun j u hu=>?_⟩
   rw[Nat.add_assoc];refine hcl (i*s+j) u ?_
   have h1:l.flatMap f=(l.take i).flatMap f++(((l.drop i).take n).flatMap f++((l.drop i).drop n).flatMap f):=by
    rw[<- List.flatMap_append,List.take_append_drop,<- List.flatMap_append,List.take_append_drop]
   have h2:((l.take i).flatMap f).length=i*s:=(by rw[Y0 f s hf,List.length_take,Nat.min_eq_left (by omega)]);rw[h1,List.getElem?_append_right (by omega),h2,Nat.add_sub_cancel_left,List.getElem?_append_left (List.getElem?_eq_some_iff.1 hu).1];exact hu
end
end Go.Han
/- Slices of one-cell elements that may begin in the midst of their block (queues): what they own, an append of one more, the rest behind the first. Conditions: none; plain facts about the machine's steps. No program in sight. -/
namespace Go.Han
open Go.RowKit
section
variable {P:Program} {w w':World}
def QRow (w:World) (q:Nat) (e:TypeId) (v:Value) (l:List Value):Prop :=
 ∃A off c cur,v = .slice A l.length c/\(0<c->A=some ⟨q,off,none⟩)/\w.heap[q]? = some (.cells cur e (0,0))/\l.length<=c/\c<=maxLen/\off+c<=cur.size/\∀j (u:Value),l[j]? = some u->cur[off+j]? = some u
theorem QRow.lt {q:Nat} {e:TypeId} {v:Value} {l:List Value} (h:QRow w q e v l):q<w.heap.size:=by
 obtain⟨_,_,_,_,_,_,h3,_⟩:=h;exact(Array.getElem?_eq_some_iff.1 h3).1
theorem QRow.block {q:Nat} {e:TypeId} {v:Value} {l:List Value} (h:QRow w q e v l) (hb:w'.heap[q]? = w.heap[q]?):QRow w' q e v l:=by
 obtain⟨A,off,c,cur,h1,h2,h3,h4⟩:=h;exact⟨A,off,c,cur,h1,h2,hb.trans h3,h4⟩
theorem QRow.form {q:Nat} {e:TypeId} {v:Value} {l:List Value} (h:QRow w q e v l):∃A c,v = .slice A l.length c/\l.length<=c/\c<=maxLen/\Rd w A l/\(A=none->l=[]):=by
 have hlt:=h.lt;obtain⟨A,off,c,cur,rfl,h2,h3,h4,h5,h6,h7⟩:=h;refine⟨A,c,rfl,h4,h5,?_,fun hA=>?_⟩
 ·rcases Nat.eq_zero_or_pos c with hc|hc
  ·exact .inl (List.eq_nil_of_length_eq_zero (by omega))
  ·refine .inr ⟨q,off,h2 hc,hlt,fun j u hu=>?_⟩
   simp[World.cell?,h3,h7 j u hu]
 ·rcases Nat.eq_zero_or_pos c with hc|hc
  ·exact List.eq_nil_of_length_eq_zero (by omega)
  ·rw[h2 hc] at hA;cases hA
structure QStep (q:Nat) (w w':World):Prop where
 os:w'.os=w.os
 tape:w'.tape=w.tape
 output:w'.output=w.output
 size:w.heap.size<=w'.heap.size
 block:∀k,k<w.heap.size->k≠q->w'.heap[k]? = w.heap[k]?
theorem QStep.below {q:Nat} {w0:World} (h:QStep q w w') (hb:Below w0.heap.size w0 w) (hq:w0.heap.size<=q):Below w0.heap.size w0 w' :=
 ⟨h.os.trans hb.os,h.tape.trans hb.tape,h.output.trans hb.output,Nat.le_trans hb.size h.size,fun k hk=>(h.block k (Nat.lt_of_lt_of_le hk hb.size) (by omega)).trans (hb.block k hk)⟩
theorem QRow.head {q:Nat} {e:TypeId} {A:Option Addr} {n c:Nat} {u:Value} {l:List Value} (h:QRow w q e (.slice A n c) (u :: l)):∃off,A=some ⟨q,off,none⟩/\w.cell? ⟨q,off,none⟩=some u:=by
 obtain⟨A',off,c',cur,he,h2,h3,h4,h5,h6,h7⟩:=h;cases he;rw[List.length_cons] at h4;refine⟨off,h2 (by omega),?_⟩;have:=h7 0 u (by simp);simp[World.cell?,h3]
 simpa using this
end
end Go.Han
namespace Go.Proofs.YtolpbjjapodmnaaGreatDoor
open Go.RowKit Go.Han
set_option maxRecDepth 100000
attribute [local irreducible] wpStill wpQuiet
set_option maxHeartbeats 8000000
section
attribute [-go_sem] run_slice_l
/-! ### plain -/
structure MidR (rs:List RuleG) (frm c:ByteArray) (out todo:List ByteArray) (i:Nat):Prop where
 at_:c=frm\/c∈out
 sound:∀x∈out,Leads (Ub rs) frm x
 done:∀x∈todo,x=frm\/x∈out
 full:∀x,(x=frm\/x∈out)->x∉todo->x≠c->∀y,Ub rs x y->y∈out
 here:∀(j:Nat) (r:RuleG),j<i->rs[j]? = some r->∀y,Uw c y r=true->y∈out
theorem MidR.start {rs:List RuleG} {frm c:ByteArray} {out rest:List ByteArray} (h:ReachInv rs frm out (c :: rest)):MidR rs frm c out rest 0 :=
 ⟨h.done c (List.mem_cons_self ..),h.sound,fun x hx=>h.done x (List.mem_cons_of_mem _ hx),fun x hx hn hne=>h.full x hx (by simp[hne,hn]),fun j r hj=>by omega⟩
theorem MidR.last {rs:List RuleG} {frm c:ByteArray} {out rest:List ByteArray} (h:MidR rs frm c out rest rs.length):ReachInv rs frm out rest:=by
 refine⟨h.sound,h.done,fun x hx hn y hy=>?_⟩;by_cases e:x=c
 ·subst e
  obtain⟨r,hr,hc⟩:=hy;obtain⟨j,hj,rfl⟩:=List.getElem_of_mem hr;exact h.here j _ hj (List.getElem?_eq_getElem hj) y hc
 ·exact h.full x hx hn e y hy
theorem Xhw {r:RuleG} {c y:ByteArray}:Uw c y r=true↔Xqv r=true/\r.cat=c/\∃p,r.parts.xs[0]? = some p/\p.cat=y:=by
 unfold Uw Xqv;cases hp:r.parts.xs with
 | nil=>simp
 | cons p l =>
  cases l with
  | nil=>simp only[Bool.and_eq_true,decide_eq_true_eq,List.getElem?_cons_zero,Option.some.injEq,exists_eq_left'];constructor<;>(rintro⟨h1,h2⟩;simp_all)
  | cons q l=>simp
theorem MidR.skip {rs:List RuleG} {frm c:ByteArray} {out todo:List ByteArray} {i:Nat} (h:MidR rs frm c out todo i) {r:RuleG} (hr:rs[i]? = some r) (hn:∀y,Uw c y r=true->y∈out):MidR rs frm c out todo (i+1):=by
 refine⟨h.at_,h.sound,h.done,h.full,fun j r' hj hr'=>?_⟩;by_cases e:j<i
 ·exact h.here j r' e hr'
 ·obtain rfl:j=i:=by omega
  rw[hr] at hr';cases hr';exact hn
theorem MidR.push {rs:List RuleG} {frm c y:ByteArray} {out todo:List ByteArray} {i:Nat} (h:MidR rs frm c out todo i) {r:RuleG} (hr:rs[i]? = some r) (hc:Uw c y r=true):MidR rs frm c (out++[y]) (todo++[y]) (i+1):=by
 have hmem:=List.mem_of_getElem? hr;refine⟨h.at_.imp id (fun h=>List.mem_append_left _ h),fun x hx=>?_,fun x hx=>?_,fun x hx hn hne z hz=>?_,fun j r' hj hr' z hz=>?_⟩
 ·rcases List.mem_append.1 hx with hx|hx
  ·exact h.sound x hx
  ·rw[List.mem_singleton.1 hx]
   rcases h.at_ with e|e
   ·rw[<- e];exact .one ⟨r,hmem,hc⟩
   ·exact(h.sound c e).snoc ⟨r,hmem,hc⟩
 ·rcases List.mem_append.1 hx with hx|hx
  ·exact(h.done x hx).imp id (fun h=>List.mem_append_left _ h)
  ·exact .inr (List.mem_append_right _ hx)
 ·rw[List.mem_append,not_or] at hn
  refine List.mem_append_left _ (h.full x (hx.imp id fun hx=>?_) hn.1 hne z hz);rcases List.mem_append.1 hx with hx|hx
  ·exact hx
  ·exact absurd hx hn.2
 ·by_cases e:j<i
  ·exact List.mem_append_left _ (h.here j r' e hr' z hz)
  ·obtain rfl:j=i:=by omega
   rw[hr] at hr';cases hr';obtain⟨_,_,p,hp,rfl⟩:=Xhw.1 hz;obtain⟨_,_,p',hp',rfl⟩:=Xhw.1 hc;rw[hp] at hp';cases hp';exact List.mem_append_right _ (List.mem_singleton.2 rfl)
/-! ### the walk -/
end
end Go.Proofs.YtolpbjjapodmnaaGreatDoor
