/- Texts of this claim, one after the other: UnuP, Law29u, Law29n. -/
import Derived.Test.YthojaplnimoacaaGreatDoorM15
import Derived.Test.YthojaplnimoacaaGreatDoorM10
import Derived.Test.YthojaplnimoacaaGreatDoorM13
import Derived.Test.YthojaplnimoacaaGreatDoorM23
import Derived.Test.YthojaplnimoacaaGreatDoorM24
namespace Go.Proofs.YthojaplnimoacaaGreatDoor
open Go.RowKit Go.Han
set_option maxRecDepth 100000
theorem Xc2 {st:Int→ByteArray→Bool} {A:Int→Nat→Nat→List Dv} {K:Nat}:∀(ps:List PartG) (i k:Nat) (x:Dk),(∀c u v,u≤v→v≤K→∀y∈A c u v,Z5 y.2)→k≤K→x∈Ye st A ps i k→Vd x.2
 | [],i,k,x,hA,hk,h=>by obtain⟨_,rfl⟩:=Vz.1 h;unfold Vd;trivial
 | p :: ps,i,k,x,hA,hk,h=>by
  by_cases hp:p.text.size≠0
  ·obtain⟨h1,h2,h3⟩:=(V0 hp).1 h
   exact Xc2 ps (i+1) k x hA hk h3
  ·obtain⟨m,h1,h2,a,ha,b,hb,rfl⟩:=(Uy (by simpa using hp)).1 h
   unfold Vd
   exact⟨hA _ _ _ (by omega) (by omega) a ha,Xc2 ps m k b hA hk hb⟩
theorem Xij {g:Gram} {items:List ItemG} (hg:Yu g) (hl:items.length≤16384) {K:Nat} (hK:K≤1000):∀(f:Nat) (c:Int) (i k:Nat) (x:Dv),i≤k→k≤K→x∈derF g items f c i k→Z5 x.2
 | 0,_,_,_,_,_,_,h=>by cases h
 | f+1,c,i,k,x,hik,hk,h=>by
  unfold derF at h
  rcases List.mem_append.1 h with h|h
  ·obtain⟨n,y,h1,h2,h3,h4,rfl⟩:=Zf.1 h
   have h5:=(List.getElem?_eq_some_iff.1 h1).1
   simp only[Zs,Z5,Vd,I6]
   exact⟨⟨by omega,by omega⟩,⟨by omega,by omega⟩,⟨by omega,by omega⟩,⟨by omega,by omega⟩,trivial⟩
  ·obtain⟨n,r,h1,h2,h⟩:=Zi.1 h
   obtain⟨y,hy,rfl⟩:=Z0.1 h
   have h5:=(List.getElem?_eq_some_iff.1 h1).1
   have h6:=hg.fewR
   have h7:=Xc2 r.parts.xs i k y (fun c u v huv hv z hz=>Xij hg hl hK f c u v z huv hv hz) hk hy
   simp only[Z5,I6]
   refine⟨by omega,by omega,by omega,by omega,h7⟩
theorem Xms {g:Gram} {items:List ItemG} {n:Int} {t:TreeV} {c e:Int} {ok:Bool} (h0:errC g items n=0) (hb:Zj g items n=(t,c,ok,e)):Z5 t∧X5 t≤100000:=by
 have h:=Vx h0
 unfold Zj at hb
 rw[if_neg (fun hn=>hn h0)] at hb
 have h1:=h.n1
 have h2:=h.n16
 have h3:=h.gram.few
 split at hb
 ·cases hb
  exact⟨by unfold Ul;simp only[Z5,Vd,I6];decide,by unfold Ul;simp[X5,Xp]⟩
 ·rename_i x hx
  cases hb
  refine⟨Xij h.gram h.few (Nat.le_refl 1000) _ _ _ _ _ (Nat.zero_le _) (by omega) (Zu hx).1,Nat.le_trans (Xgl h hx).2.2.2 ?_⟩
  exact Nat.le_trans (Nat.mul_le_mul (show 2*n.toNat-1≤31 by omega) h3) (by decide:31*32≤100000)
theorem Xh0 {g:Gram} {items:List ItemG} {n:Int} {d:Nat} {x:ItemG} {t:TreeV} {c e:Int} {ok:Bool} (h0:errC g items n=0) (hd:items[d]? = some x) (hx:x.cat ≠ -1) (hb:Zj g items n=(t,c,ok,e)) (hu:ok=true→Vs d t=false) :
  Zj g (items.eraseIdx d) n=(if ok then Ui d t else Ul,c,ok,0)∧e=0:=by
 have h:=Vx h0
 have h1:errC g (items.eraseIdx d) n=0:=by
  unfold errC
  have e1:=h.n1
  have e2:=h.n16
  have e3:=h.few
  have e4:(items.eraseIdx d).length≤items.length:=(List.eraseIdx_sublist items d).length_le
  rw[if_neg (fun hn=>hn h.check),if_neg (by omega),if_neg (by omega),if_pos (List.all_eq_true.2 fun y hy=>h.right y ((List.eraseIdx_sublist items d).subset hy))]
 have hder:derG g (items.eraseIdx d) g.startNo 0 n.toNat=(derG g items g.startNo 0 n.toNat).filterMap (cutD d):=Xii h.gram hd hx _ _ _ _ h.gram.start.1
 unfold Zj at hb ⊢
 rw[if_neg (fun hn=>hn h0)] at hb
 rw[if_neg (fun hn=>hn h1)]
 unfold Xdi at hb ⊢
 rw[hder]
 split at hb
 ·rename_i hn
  cases hb
  have:=Zv hn
  rw[this]
  exact⟨rfl,rfl⟩
 ·rename_i y hy
  cases hb
  rw[Xe0 d _ y hy (hu rfl)]
  exact⟨rfl,rfl⟩
end Go.Proofs.YthojaplnimoacaaGreatDoor
namespace Go.Proofs.YthojaplnimoacaaGreatDoor
open Go.RowKit Go.Han
attribute [local irreducible] wpStill wpQuiet
set_option maxRecDepth 100000
def Xh8 (n:Nat) (t:TreeV) (w:World) (e:Ending) (w':World):Prop :=
 ∃y:TreeG,e = .returned (.tuple #[.agg #[.int .i64 y.rule,.int .i64 y.item,.int .i64 y.frm,.int .i64 y.unt,.slice y.kids.addr y.kids.len y.kids.cap],.bool (Vs n t)])∧TreeW (fun b=>b<w.heap.size) w' (Ui n t) y∧Below w.heap.size w w'
theorem Xju (n:Nat) (l:List TreeV) (m:Nat) (h:m<l.length):Za n (l.take (m+1))=(Za n (l.take m) || Vs n l[m]):=by
 induction l generalizing m with
 | nil=>simp at h
 | cons t l ih =>
  cases m with
  | zero=>simp[Za]
  | succ m =>
   have:=ih m (by simpa using h)
   simp only[List.take_succ_cons,Za,List.getElem_cons_succ,this,Bool.or_assoc]
theorem Xiy (n:Nat) (l:List TreeV) (m:Nat) (h:m<l.length):Z2 n (l.take (m+1))=Z2 n (l.take m)++[Ui n l[m]]:=by
 induction l generalizing m with
 | nil=>simp at h
 | cons t l ih =>
  cases m with
  | zero=>simp[Z2]
  | succ m =>
   have:=ih m (by simpa using h)
   simp only[List.take_succ_cons,Z2,List.getElem_cons_succ,this,List.cons_append]
theorem Xa4 (n:Nat):∀l:List TreeV,(Z2 n l).length=l.length
 | []=>rfl
 | t :: l=>by rw[Z2,List.length_cons,List.length_cons,Xa4 n l]
theorem Xgy:∀l:List TreeV,l.length≤Xp l
 | []=>Nat.le_refl _
 | t :: l=>by
  have:=Xgy l
  cases t
  rw[Xp,X5,List.length_cons]
  omega
def BoxU (W:World) (b:Nat) (r j i u:Int) (v:Value):Prop:=W.heap[b]? = some (.cells #[.int .i64 r,.int .i64 j,.int .i64 i,.int .i64 u,v] 32 (0,0))
theorem Xaw {n:Nat} {t:TreeV} {xi xu:Int} {l:List TreeV} {w2:World} {b:Nat} {v:Value} {U0:Bool} {R0 J0:Int} (h1:Hid (Vs n t=(U0 || Za n l))) (h2:Hid (Ui n t = .node R0 J0 xi xu (Z2 n l))) (h3:BoxU w2 b R0 J0 xi xu v) :
  ∃(uq:Bool) (jq rq:Int),Hid (U0=uq)∧Hid (Vs n t=(uq || Za n l))∧Hid (Ui n t = .node rq jq xi xu (Z2 n l))∧Hid (BoxU w2 b rq jq xi xu v):=⟨_,_,_,rfl,h1,h2,h3⟩
theorem Vr {w:World} {b o t:Nat} {cs:Array Value} {u:Value} (h:w.heap[b]? = some (.cells cs t (0,0))) (hu:cs[o]? = some u):w.setCell ⟨b,o,none⟩ u=w:=by
 have e:(w.setCell ⟨b,o,none⟩ u).heap=w.heap:=by
  refine Array.ext_getElem? fun k=>?_
  by_cases hk:k=b
  ·subst hk
   rw[Xr h o u,h]
   have hc:cs.setIfInBounds o u=cs:=by
    refine Array.ext_getElem? fun i=>?_
    rw[Array.getElem?_setIfInBounds]
    split
    ·rename_i h1
     subst h1
     split
     ·exact hu.symm
     ·rename_i h2
      rw[Array.getElem?_eq_none (by omega)] at hu
      cases hu
    ·rfl
   rw[hc]
  ·exact Below.heap_setCell w ⟨b,o,none⟩ u k hk
 cases w
 simp only[World.setCell] at e ⊢
 rw[e]
theorem Xmu {w:World} {b:Nat} {r j i u:Int} {v:Value} (h:BoxU w b r j i u v):((((w.setCell ⟨b,0,none⟩ (.int .i64 r)).setCell ⟨b,1,none⟩ (.int .i64 j)).setCell ⟨b,2,none⟩ (.int .i64 i)).setCell ⟨b,3,none⟩ (.int .i64 u)).setCell ⟨b,4,none⟩ v=w:=by
 unfold BoxU at h
 rw[Vr h rfl,Vr h rfl,Vr h rfl,Vr h rfl,Vr h rfl]
theorem Xqx {w w2 w5 w7:World} {xr J xi xu:Int} {Av:Option Addr} {cv g' cap':Nat} {kids:List TreeV} {ks:List TreeG} {tl:TreeV} {y:TreeG} (hS:w.heap.size+1<w2.heap.size)
  (HK:KidsW (fun b=>b<w2.heap.size) w2.heap.size (.slice Av ks.length cv) kids ks w5) (hT:TreeW (fun b=>b<w2.heap.size∨(Value.slice Av ks.length cv).ownBlock=some b) w5 tl y)
  (hbx:BoxU w5 (w.heap.size+1) xr J xi xu (.slice Av ks.length cv)) (hB:Below w.heap.size w w5) (hz:w5.heap[w.heap.size]? = w2.heap[w.heap.size]?) (hsz:w2.heap.size≤w5.heap.size)
  (hgrow:(w5.alloc (.cells #[.int .i64 y.rule,.int .i64 y.item,.int .i64 y.frm,.int .i64 y.unt,.slice y.kids.addr y.kids.len y.kids.cap] 32)).grownBy w7 (Value.slice Av ks.length cv).ownBlock)
  (hown:w7.ownsRow w2.heap.size 32 5 (.slice (some ⟨g',0,none⟩) (ks.length+1) cap') (ks.length+1) (ks.flatMap TreeG.cells++[.int .i64 y.rule,.int .i64 y.item,.int .i64 y.frm,.int .i64 y.unt,.slice y.kids.addr y.kids.len y.kids.cap]))
  (hat:(Value.slice (some ⟨g',0,none⟩) (ks.length+1) cap').ownBlock=(Value.slice Av ks.length cv).ownBlock∨(Value.slice (some ⟨g',0,none⟩) (ks.length+1) cap').ownBlock=some (w5.alloc (.cells #[.int .i64 y.rule,.int .i64 y.item,.int .i64 y.frm,.int .i64 y.unt,.slice y.kids.addr y.kids.len y.kids.cap] 32)).heap.size) :
  Below w.heap.size w (w7.setCell ⟨w.heap.size+1,4,none⟩ (.slice (some ⟨g',0,none⟩) (ks.length+1) cap'))∧Hid (BoxU (w7.setCell ⟨w.heap.size+1,4,none⟩ (.slice (some ⟨g',0,none⟩) (ks.length+1) cap')) (w.heap.size+1) xr J xi xu (.slice (some ⟨g',0,none⟩) (ks.length+1) cap')) ∧
  KidsW (fun b=>b<w2.heap.size) w2.heap.size (.slice (some ⟨g',0,none⟩) (ks.length+1) cap') (kids++[tl]) (ks++[y]) (w7.setCell ⟨w.heap.size+1,4,none⟩ (.slice (some ⟨g',0,none⟩) (ks.length+1) cap'))∧w2.heap.size≤(w7.setCell ⟨w.heap.size+1,4,none⟩ (.slice (some ⟨g',0,none⟩) (ks.length+1) cap')).heap.size∧(w7.setCell ⟨w.heap.size+1,4,none⟩ (.slice (some ⟨g',0,none⟩) (ks.length+1) cap')).heap[w.heap.size]? = w2.heap[w.heap.size]? := by
 have hb6:Below w5.heap.size w5 (w5.alloc (.cells #[.int .i64 y.rule,.int .i64 y.item,.int .i64 y.frm,.int .i64 y.unt,.slice y.kids.addr y.kids.len y.kids.cap] 32)):=Xe (Below.refl _ _) _
 have HK6:=HK.below hb6
 have hv:=fun g hg=>HK6.own.lt g hg
 have hbx7:w7.heap[w.heap.size+1]? = _:=(hgrow.block (w.heap.size+1) (Nat.lt_of_lt_of_le (Xc hbx) hb6.size) (fun e=>by have:=(hv _ e.symm).1;omega)).trans (Xh hb6 hbx)
 have hz7:w7.heap[w.heap.size]? = _:=(hgrow.block w.heap.size (Nat.lt_of_lt_of_le (by omega) hb6.size) (fun e=>by have:=(hv _ e.symm).1;omega)).trans ((hb6.block _ (by omega)).trans hz)
 have hs:w2.heap.size≤w7.heap.size:=Nat.le_trans hsz (Nat.le_trans hb6.size hgrow.size)
 have hB7:=Xgk (Xb hB hb6) HK6.own (by omega) hgrow
 have HK7:=HK6.snoc (hT.ext hb6) (v':=.slice (some ⟨g',0,none⟩) (ks.length+1) cap') (x:=y) (OwnL.snoc (f:=TreeG.cells) y hown) hgrow hat
 refine⟨hB7.setCell (p:=⟨w.heap.size+1,4,none⟩) (by show w.heap.size≤w.heap.size+1;omega) _,Xr hbx7 4 _,HK7.keep (by simp) fun b hb=>Below.heap_setCell w7 ⟨w.heap.size+1,4,none⟩ _ b ?_,by simpa using hs,(Below.heap_setCell w7 ⟨w.heap.size+1,4,none⟩ _ w.heap.size (by show w.heap.size≠w.heap.size+1;omega)).trans hz7⟩
 rcases hb with hb|⟨_,hb⟩
 ·have:=(HK7.own.lt b hb).1
  show b≠w.heap.size+1
  omega
 ·show b≠w.heap.size+1
  intro e
  exact hb (by show b<w2.heap.size;omega)
set_option maxHeartbeats 4000000 in
theorem Xqw (n:Nat):∀(t:TreeV) (x:TreeG) (w:World) (P:Nat→Prop),TreeAt w P t [.int .i64 x.rule,.int .i64 x.item,.int .i64 x.frm,.int .i64 x.unt,.slice x.kids.addr x.kids.len x.kids.cap]→Z5 t→X5 t≤100000→n≤100000 →
  Calls Tryz.prog 29 #[.agg #[.int .i64 x.rule,.int .i64 x.item,.int .i64 x.frm,.int .i64 x.unt,.slice x.kids.addr x.kids.len x.kids.cap],.int .i64 (n:Int)] w (Xh8 n t w) :=
 TreeV.ind fun r j i u l ih x w P ht hfit hnod hn=>by
  unfold TreeAt at ht
  obtain⟨A,cap,css,e,hcap1,hcap2,hA0,hIn,hr,hkids⟩:=ht
  obtain⟨xr,xj,xi,xu,⟨xa,xl,xc⟩⟩:=x
  simp only[List.cons.injEq,Value.int.injEq,Value.slice.injEq,true_and,and_true] at e
  obtain⟨rfl,rfl,rfl,rfl,rfl,rfl,rfl⟩:=e
  unfold Z5 at hfit
  obtain⟨fr,fj,fi,fu,fl⟩:=hfit
  rw[X5] at hnod
  obtain⟨w1,hw1⟩:∃w1,(w.alloc (.cells #[.int .i64 xr,.int .i64 xj,.int .i64 xi,.int .i64 xu,.slice xa l.length xc] 32)).alloc (.cells #[.int .i64 xr,.int .i64 xj,.int .i64 xi,.int .i64 xu,.slice xa l.length xc] 32)=w1:=⟨_,rfl⟩
  have hB1:Below w.heap.size w w1:=by rw[← hw1];exact Xe (Xe (Below.refl _ _) _) _
  have hz1:w1.heap[w.heap.size]? = some (.cells #[.int .i64 xr,.int .i64 xj,.int .i64 xi,.int .i64 xu,.slice xa l.length xc] 32 (0,0)):=by rw[← hw1];exact(Below.heap_alloc _ _ _ (by simp)).trans (World.alloc_heap_new _ _)
  have hx1:w1.heap[w.heap.size+1]? = some (.cells #[.int .i64 xr,.int .i64 xj,.int .i64 xi,.int .i64 xu,.slice xa l.length xc] 32 (0,0)):=by rw[← hw1];exact X0 _ _ _ (by simp)
  have Hr:=Xa hr
  have Hkids:=Xa hkids
  have Hih:=Xa ih
  have Hfl:=Xa fl
  have Hnod:=Xa hnod
  have HB1:=Xa hB1
  have Hz1:=Xa hz1
  have Hx1:=Xa hx1
  have y0:=gblk hz1 0
  have y1:=gblk hz1 1
  have y2:=gblk hz1 2
  have y3:=gblk hz1 3
  have y4:=gblk hz1 4
  have z0:=gblk hx1 0
  have z1:=gblk hx1 1
  have z2:=gblk hx1 2
  have z3:=gblk hx1 3
  have z4:=gblk hx1 4
  have zf:=fun k=>Xf hx1 k
  clear hr hkids hIn ih hA0 fl fr fi fu hnod
  have hbox0:=Xr hx1 4 (.slice none 0 0)
  have hzz0:=(Below.heap_setCell w1 ⟨w.heap.size+1,4,none⟩ (.slice none 0 0) w.heap.size (by show w.heap.size≠w.heap.size+1;omega)).trans hz1
  have hbb0:=hB1.setCell (p:=⟨w.heap.size+1,4,none⟩) (by show w.heap.size≤w.heap.size+1;omega) (.slice none 0 0)
  have HU:∀u0:Bool,(decide (xr = -1) && decide (xj=(n:Int)))=u0→Hid (Vs n (.node xr xj xi xu l)=(u0 || Za n l)):=fun u0 h=>by show _=_;rw[Vs,h]
  have HL:∀j':Int,(if xr = -1∧(n:Int)≤xj then xj-1 else xj)=j'→Hid (Ui n (.node xr xj xi xu l) = .node xr j' xi xu (Z2 n l)):=fun j' h=>by show _=_;rw[Ui,h]
  obtain⟨S,hS⟩:∃S,w.heap.size+1=S:=⟨_,rfl⟩
  have key:(xr = -1∧¬(n:Int)≤xj)∨¬xr = -1∨(xr = -1∧xj=(n:Int))∨(xr = -1∧¬xj=(n:Int)∧(n:Int)≤xj):=by omega
  clear hS
  rcases key with ⟨rfl,c1⟩|c1|⟨rfl,rfl⟩|⟨rfl,c1,c2⟩
  case' inl =>
   obtain⟨w2,hw2⟩:∃v,w1.setCell ⟨w.heap.size+1,4,none⟩ (.slice none 0 0)=v:=⟨_,rfl⟩
   rw[hw2] at hbox0 hzz0 hbb0
   obtain⟨uq,jq,rq,Huq,Hu,Hl,Hbox⟩:=Xaw (HU false (by simp;omega)) (HL xj (if_neg fun h=>c1 h.2)) hbox0
   have Hzz:=Xa hzz0
   have Hbb:=Xa hbb0
   have Hw2:=Xa hw2
   have g3:decide ((n:Int)≤xj)=false:=decide_eq_false c1
  case' inr.inl =>
   obtain⟨w2,hw2⟩:∃v,w1.setCell ⟨w.heap.size+1,4,none⟩ (.slice none 0 0)=v:=⟨_,rfl⟩
   rw[hw2] at hbox0 hzz0 hbb0
   obtain⟨uq,jq,rq,Huq,Hu,Hl,Hbox⟩:=Xaw (HU false (by simp[c1])) (HL xj (if_neg fun h=>c1 h.1)) hbox0
   have Hzz:=Xa hzz0
   have Hbb:=Xa hbb0
   have Hw2:=Xa hw2
   have g3:(xr == -1)=false:=by simpa using c1
  case' inr.inr.inl =>
   have hw1r:IntKind.i64.wrap ((n:Int)-1)=(n:Int)-1:=IntWalk.i64_in _ (by have:=fj.1;have:=fj.2;omega)
   have hbox1:=Xr hbox0 1 (.int .i64 ((n:Int)-1))
   have hzz1:=(Below.heap_setCell (w1.setCell ⟨w.heap.size+1,4,none⟩ (.slice none 0 0)) ⟨w.heap.size+1,1,none⟩ (.int .i64 ((n:Int)-1)) w.heap.size (by show w.heap.size≠w.heap.size+1;omega)).trans hzz0
   have hbb1:=hbb0.setCell (p:=⟨w.heap.size+1,1,none⟩) (by show w.heap.size≤w.heap.size+1;omega) (.int .i64 ((n:Int)-1))
   obtain⟨w2,hw2⟩:∃v,(w1.setCell ⟨w.heap.size+1,4,none⟩ (.slice none 0 0)).setCell ⟨w.heap.size+1,1,none⟩ (.int .i64 ((n:Int)-1))=v:=⟨_,rfl⟩
   rw[hw2] at hbox1 hzz1 hbb1
   clear hbox0 hzz0 hbb0
   have hbox0:=hbox1
   have hzz0:=hzz1
   have hbb0:=hbb1
   obtain⟨uq,jq,rq,Huq,Hu,Hl,Hbox⟩:=Xaw (HU true (by simp)) (HL ((n:Int)-1) (if_pos ⟨rfl,Int.le_refl _⟩)) hbox1
   have Hzz:=Xa hzz1
   have Hbb:=Xa hbb1
   have Hw2:=Xa hw2
   have g3:decide ((n:Int)≤(n:Int))=true:=decide_eq_true (Int.le_refl _)
   clear hbox1 hzz1 hbb1
  case' inr.inr.inr =>
   have hw1r:IntKind.i64.wrap (xj-1)=xj-1:=IntWalk.i64_in _ (by have:=fj.1;have:=fj.2;omega)
   have hbox1:=Xr hbox0 1 (.int .i64 (xj-1))
   have hzz1:=(Below.heap_setCell (w1.setCell ⟨w.heap.size+1,4,none⟩ (.slice none 0 0)) ⟨w.heap.size+1,1,none⟩ (.int .i64 (xj-1)) w.heap.size (by show w.heap.size≠w.heap.size+1;omega)).trans hzz0
   have hbb1:=hbb0.setCell (p:=⟨w.heap.size+1,1,none⟩) (by show w.heap.size≤w.heap.size+1;omega) (.int .i64 (xj-1))
   obtain⟨w2,hw2⟩:∃v,(w1.setCell ⟨w.heap.size+1,4,none⟩ (.slice none 0 0)).setCell ⟨w.heap.size+1,1,none⟩ (.int .i64 (xj-1))=v:=⟨_,rfl⟩
   rw[hw2] at hbox1 hzz1 hbb1
   clear hbox0 hzz0 hbb0
   have hbox0:=hbox1
   have hzz0:=hzz1
   have hbb0:=hbb1
   obtain⟨uq,jq,rq,Huq,Hu,Hl,Hbox⟩:=Xaw (HU false (by simp[c1])) (HL (xj-1) (if_pos ⟨rfl,c2⟩)) hbox1
   have Hzz:=Xa hzz1
   have Hbb:=Xa hbb1
   have Hw2:=Xa hw2
   have g3:decide ((n:Int)≤xj)=true:=decide_eq_true (c2)
   clear hbox1 hzz1 hbb1
   have g4:(xj == (n:Int))=false:=by simpa using c1
  all_goals
   clear hbox0 hzz0 hbb0 HU HL hz1 hx1 hB1 hw2
   try clear c1
   try clear c2
   go_enter Tryz.func29,Tryz.ntmps29
   go_wp2_with fail
   rw[Hw2.out]
   clear HB1 Hz1 Hx1 y0 y1 y2 y3 y4 z0 z1 z2 z3 z4 zf
   have y4:=gblk Hzz.out 4
   have hS2:w.heap.size+1<w2.heap.size:=Xc Hbox.out
   go_loopw [5,32] (fun ub iv wr=>∃(m:Nat) (v:Value) (ks:List TreeG),m≤l.length∧iv = .int .i64 m∧ub = .bool (uq || Za n (l.take m))∧Below w.heap.size w wr∧Hid (BoxU wr (w.heap.size+1) rq jq xi xu v)∧Hid (KidsW (fun b=>b<w2.heap.size) w2.heap.size v (Z2 n (l.take m)) ks wr)∧w2.heap.size≤wr.heap.size∧wr.heap[w.heap.size]? = w2.heap[w.heap.size]?) (fun _ iv _=>l.length-(intOf iv).toNat)
   case atStart=>exact⟨0,.slice none 0 0,[],Nat.zero_le _,rfl,(by rw[← Huq.out];simp[Za]),Hbb.out,Hbox.out,KidsW.nil _ _ _,Nat.le_refl _,rfl⟩
   case round =>
    obtain⟨m,v,ks,hm,rfl,rfl,hB,Hbx,HKs,hsz,hzk⟩:=hrel
    obtain⟨Av,cv,rfl,_⟩:=OwnL.form (by decide) HKs.out.own
    have hkl:=HKs.out.len
    rw[Xa4,List.length_take] at hkl
    have hnl:l.length≤100000:=Nat.le_trans (Xgy l) (by have:=Hnod.out;omega)
    have hkb:ks.length<200000:=by omega
    have Hhzk:=Xa hzk
    have hvb:∀g,(Value.slice Av ks.length cv).ownBlock=some g→w2.heap.size≤g∧g<wr.heap.size:=fun g hg=>HKs.out.own.lt g hg
    have Hvb:=Xa hvb
    clear hkl hzk hvb
    by_cases hlt:m<l.length
    ·obtain⟨b,off,B,cp,rfl,hb,htm,q0,q1,q2,q3,q4⟩:=Ux Hr.out Hkids.out hlt
     have hbl:=hB.block b hb
     have a0:=(World.cell?_of_block (a:=⟨b,off+m*5,none⟩) hbl).trans q0
     have a1:=(World.cell?_of_block (a:=⟨b,off+m*5+1,none⟩) hbl).trans q1
     have a2:=(World.cell?_of_block (a:=⟨b,off+m*5+2,none⟩) hbl).trans q2
     have a3:=(World.cell?_of_block (a:=⟨b,off+m*5+3,none⟩) hbl).trans q3
     have a4:=(World.cell?_of_block (a:=⟨b,off+m*5+4,none⟩) hbl).trans q4
     obtain⟨w3,hw3⟩:∃w3,wr.alloc (.cells #[.int .i64 l[m].rule,.int .i64 l[m].item,.int .i64 l[m].frm,.int .i64 l[m].unt,.slice B l[m].kids.length cp] 32)=w3:=⟨_,rfl⟩
     have hb3:=Yn hw3
     have hz3:=Yv hw3
     have p0:=gblk hz3 0
     have p1:=gblk hz3 1
     have p2:=gblk hz3 2
     have p3:=gblk hz3 3
     have p4:=gblk hz3 4
     have hc:=Hih.out l[m] (List.getElem_mem hlt) ⟨l[m].rule,l[m].item,l[m].frm,l[m].unt,⟨B,l[m].kids.length,cp⟩⟩ w3 P (htm.ext (Xb hB hb3)) (T8 Hfl.out _ (List.getElem_mem hlt)) (by have:=Xbs (List.getElem_mem hlt);have:=Hnod.out;omega) hn
     unfold Xh8 at hc
     have Hut:=Xa (Xju n l m hlt)
     have Hlt:=Xa (Xiy n l m hlt)
     obtain⟨tl,htl⟩:∃t,Ui n l[m]=t:=⟨_,rfl⟩
     obtain⟨ut,hut⟩:∃u,Vs n l[m]=u:=⟨_,rfl⟩
     rw[htl,hut] at hc
     rw[htl] at Hlt
     rw[hut] at Hut
     have Hc:=Xa hc
     have Hb3:=Xa hb3
     have HB:=Xa hB
     clear q0 q1 q2 q3 q4 hbl htm hc hz3 hb3 hB htl hut
     generalize l[m].rule=g0 at *
     generalize l[m].item=g1' at *
     generalize l[m].frm=g2' at *
     generalize l[m].unt=g3' at *
     generalize l[m].kids.length=g4 at *
     obtain⟨ub,hub⟩:∃u,(uq || Za n (l.take m))=u:=⟨_,rfl⟩
     have Hub:=Xa hub
     rw[hub]
     clear hub
     obtain⟨i0,z0,hi0,hz0,hz1',hz2',hzs⟩:=Xfh
     cases ub
     all_goals
      go_wp2_with fail
      clear hw3
      refine Hc.out.mono ?_
      rintro e w4 ⟨y,rfl,hty,hB4⟩
      obtain⟨w5,hw5⟩:∃v,w4.alloc (.cells #[.int .i64 y.rule,.int .i64 y.item,.int .i64 y.frm,.int .i64 y.unt,.slice y.kids.addr y.kids.len y.kids.cap] 32)=v:=⟨_,rfl⟩
      have hb5:=Yn hw5
      have hy5:=Yv hw5
      have e0:=gblk hy5 0
      have e1:=gblk hy5 1
      have e2:=gblk hy5 2
      have e3:=gblk hy5 3
      have e4:=gblk hy5 4
      have hb35:=Xb Hb3.out (Xb hB4 hb5)
      have hbx5:=Xh hb35 Hbx.out
      have x4:=gblk hbx5 4
      have hK5:=HKs.out.below hb35
      have hT5:TreeW (fun b=>b<w2.heap.size∨(Value.slice Av ks.length cv).ownBlock=some b) w5 tl y:=(hty.ext hb5).keep (fun _ _ _=>rfl) (Nat.le_refl _) (fun b _ hnb hx=>hnb (by
       have h3:=Hb3.out.size
       rcases hx with hx|hx
       ·omega
       ·have:=(Hvb.out b hx).2;omega))
      have hw25:w2.heap.size≤w5.heap.size:=Nat.le_trans hsz hb35.size
      have hrow:w5.ownsRow w2.heap.size 32 5 (.slice Av ks.length cv) ks.length (ks.flatMap TreeG.cells):=hK5.own
      have HK5:=Xa hK5
      have HT5:=Xa hT5
      have Hb35:=Xa hb35
      have Hbx5:=Xa hbx5
      clear hK5 hT5 hbx5 hy5 hty hB4 hb5 Hc hb35
      go_wp2_with (at_builtin;refine wpList_append_own_at _ rfl _ _ 30 rfl w2.heap.size 32 i0 z0 5 56 Tryz.underlying30 hi0 hz0 hz1' hz2' hzs (by decide) _ _ _ rfl (hrow.alloc _) ⟨w5.heap.size,0,none⟩ 1 1 [.int .i64 y.rule,.int .i64 y.item,.int .i64 y.frm,.int .i64 y.unt,.slice y.kids.addr y.kids.len y.kids.cap] rfl rfl (Xbi w5 [.int .i64 y.rule,.int .i64 y.item,.int .i64 y.frm,.int .i64 y.unt,.slice y.kids.addr y.kids.len y.kids.cap] 32) (by simp[Value.oneCell']) (by unfold maxLen;omega) (by omega) (by simp;omega) ?_;intro v' w7 hown' hgrow hnil hat;obtain⟨g',cap',rfl⟩:=ownsRow_succ hown';have hbx7:=(hgrow.block (w.heap.size+1) (Nat.lt_of_lt_of_le (Xc Hbx5.out) (by simp)) (fun e=>(by have:=(Hvb.out _ e.symm).1;omega))).trans ((Below.heap_alloc _ _ _ (Xc Hbx5.out)).trans Hbx5.out);have xf:=fun k=>Xf hbx7 k;have xc:=gblk hbx7 4)
      obtain⟨k1,k2,k3,k4,k5⟩:=Xqx hS2 HK5.out HT5.out Hbx5.out (Xb HB.out Hb35.out) ((Hb35.out.block _ (by have:=Xc Hbx.out;omega)).trans Hhzk.out) hw25 hgrow hown' hat
      refine⟨⟨m+1,.slice (some ⟨g',0,none⟩) (ks.length+1) cap',ks++[y],hlt,rfl,?_,k1,k2,?_,k4,k5⟩,by simp[intOf];omega⟩
      ·rw[Hut.out,← Bool.or_assoc,Hub.out];simp
      ·rw[Hlt.out];exact k3
    ·obtain rfl:m=l.length:=by omega
     obtain⟨uu,huu⟩:∃u,(uq || Za n (l.take l.length))=u:=⟨_,rfl⟩
     have Huu:=Xa huu
     rw[huu]
     clear huu
     have hbq:wr.heap[w.heap.size+1]? = some (.cells #[.int .i64 rq,.int .i64 jq,.int .i64 xi,.int .i64 xu,.slice Av ks.length cv] 32 (0,0)):=Hbx.out
     have q0:=gblk hbq 0
     have q1:=gblk hbq 1
     have q2:=gblk hbq 2
     have q3:=gblk hbq 3
     have q4:=gblk hbq 4
     have xf:=fun k=>Xf hbq k
     go_wp2_with fail
     rw[Xmu Hbx.out]
     obtain⟨A5,cap5,e5,htree⟩:=HKs.out.tree (fun b h=>h) rq jq xi xu
     rw[List.take_length] at htree e5
     injection e5 with e51 e52 e53
     rw[← e52,← e51,← e53] at htree
     have hle:=Xc Hbx.out
     refine bodyPost_ret (v:=.tuple #[.agg #[.int .i64 rq,.int .i64 jq,.int .i64 xi,.int .i64 xu,.slice Av ks.length cv],.bool uu]) (by simp[results,Tryz.results29,go_sem,q0,q1,q2,q3,q4]) rfl ⟨⟨rq,jq,xi,xu,⟨Av,ks.length,cv⟩⟩,?_,?_,hB⟩
     ·rw[Hu.out,← Huu.out,List.take_length]
     ·rw[Hl.out]
      exact TreeAt.keep (fun _ _ _=>rfl) (Nat.le_refl _) (fun b hb=>⟨hb.1,fun hx=>hb.2 (by show b<w2.heap.size;omega)⟩) htree
structure CutS (w8 V:World) (v:Value) (l:List ItemG) (bx:Option Nat):Prop where
 below:Below w8.heap.size w8 V
 own:OwnL ItemG.cells 47 6 V w8.heap.size v l
 box:∀b,bx=some b→w8.heap.size≤b∧V.heap[b]? = some (.cells #[.int .i64 0,.int .i64 0,.int .i64 0,.int .i64 0,.slice none 0 0] 32 (0,0))∧v.ownBlock≠some b
theorem CutS.start {w8 V:World} (h:Below w8.heap.size w8 V):CutS w8 (V.alloc (.cells #[] 47)) (.slice (some ⟨V.heap.size,0,none⟩) 0 0) [] none :=
 ⟨Xe h _,Xg1 (World.alloc_heap_new _ _) h.size,fun _ h=>(by cases h)⟩
theorem CutS.start2 {w8 V:World} (h:Below w8.heap.size w8 V):CutS w8 ((V.alloc (.cells #[.int .i64 0,.int .i64 0,.int .i64 0,.int .i64 0,.slice none 0 0] 32)).alloc (.cells #[] 47)) (.slice (some ⟨V.heap.size+1,0,none⟩) 0 0) [] (some V.heap.size):=by
 refine⟨Xe (Xe h _) _,Xg1 (X0 _ _ _ (by simp)) (by have:=h.size;omega),fun b hb=>?_⟩
 cases hb
 exact⟨h.size,(Below.heap_alloc _ _ _ (by simp)).trans (World.alloc_heap_new _ _),by simp[Value.ownBlock]⟩
theorem CutS.boxed {w8 V:World} {v:Value} {l:List ItemG} (h:CutS w8 V v l none):CutS w8 (V.alloc (.cells #[.int .i64 0,.int .i64 0,.int .i64 0,.int .i64 0,.slice none 0 0] 32)) v l (some V.heap.size):=by
 refine⟨Xe h.below _,h.own.ext (Xe (Below.refl _ _) _),fun b hb=>?_⟩
 cases hb
 exact⟨h.below.size,World.alloc_heap_new _ _,fun e=>by have:=(h.own.lt _ e).2;omega⟩
theorem Xkk (l:List ItemG):(l.flatMap ItemG.cells).length=l.length*6:=by
 induction l with
 | nil=>rfl
 | cons x l ih=>rw[List.flatMap_cons,List.length_append,ih,ItemG.size_cells,List.length_cons];omega
theorem Xn4 (l:List ItemG):∀u∈l.flatMap ItemG.cells,u.oneCell'=true:=by
 intro u hu
 obtain⟨x,_,hx⟩:=List.mem_flatMap.1 hu
 simp[ItemG.cells] at hx
 rcases hx with rfl|rfl|rfl|rfl|rfl|rfl<;>rfl
theorem CutS.app {w8 V:World} {v:Value} {l:List ItemG} {bx:Option Nat} (h:CutS w8 V v l bx) {A:Option Addr} {cp k:Nat} {m:List ItemG} (hr:Rd V A (m.flatMap ItemG.cells)) (hk:m.length=k) (hl:l.length+k≤16384) :
  ∃v' V',(Builtin.append_ #[27,27] 27 #[v,.slice A k cp]).run Tryz.prog V = .ok v' V'∧CutS w8 V' v' (l++m) bx:=by
 subst hk
 obtain⟨i0,z0,hi0,hz0,hz1,hz2,hzs⟩:=Xk9
 obtain⟨v',V',hrun,hown,hg,hat⟩:=Xa6 (P:=Tryz.prog) (w:=V) w8.heap.size 27 27 47 i0 z0 6 64 Tryz.underlying27 hi0 hz0 hz1 hz2 hzs (by decide) v l.length (l.flatMap ItemG.cells) h.own A m.length cp (m.flatMap ItemG.cells) (Xkk m) hr (Xn4 m) (by unfold maxLen;omega) (by omega) h.below.size
 refine⟨v',V',hrun,Xgk h.below h.own (Nat.le_refl _) hg,?_,fun b hb=>?_⟩
 ·unfold OwnL
  rw[List.length_append,List.flatMap_append]
  exact hown
 ·obtain⟨h1,h2,h3⟩:=h.box b hb
  refine⟨h1,(hg.block b (Xc h2) (fun e=>h3 e.symm)).trans h2,?_⟩
  rcases hat with e|e
  ·rw[e];exact h3
  ·rw[e];intro e2;injection e2 with e2;have:=Xc h2;omega
theorem CutS.items {w8 V:World} {v:Value} {l:List ItemG} {bx:Option Nat} (h:CutS w8 V v l bx) (ht:∀x∈l,x.tgt.lies w8):∃A c,v = .slice A l.length c∧ItemsAt V ⟨A,c,l⟩:=by
 obtain⟨A,c,rfl,hr,hn⟩:=h.own.form (by decide)
 have hb:l.length≤c∧c≤9223372036854775807:=by
  rcases h.own.2 with ⟨h1,_⟩|⟨g9,c9,cur,h1,h2,h3,h4,h5,_⟩
  ·injection h1 with _ e2 e3
   omega
  ·injection h1 with e1 _ e3
   subst e3
   exact⟨h4,by unfold maxLen at h5;omega⟩
 exact⟨A,c,rfl,⟨hr,hb.1,hb.2,hn⟩,fun x hx=>StrS.lies.ext (ht x hx) h.below⟩
def UnF (w8:World) (t:TreeV) (b:Nat) (v:World):Prop:=∃x:TreeG,v.heap[b]? = some (.cells #[.int .i64 x.rule,.int .i64 x.item,.int .i64 x.frm,.int .i64 x.unt,.slice x.kids.addr x.kids.len x.kids.cap] 32 (0,0))∧TreeW (fun _=>False) v t x∧Below w8.heap.size w8 v
theorem CutS.store {w8 V V3:World} {v:Value} {l:List ItemG} {b:Nat} {t:TreeV} {x:TreeG} (h:CutS w8 V v l (some b)) (hB:Below V.heap.size V V3) (ht:TreeW (fun k=>k<V.heap.size) V3 t x):UnF w8 t b (set5 V3 b x):=by
 obtain⟨h1,h2,_⟩:=h.box b rfl
 have hz:=(hB.block b (Xc h2)).trans h2
 have hs:=U3 V3 b x
 have hlt:=Xc h2
 exact⟨x,Xci (x:=Qp) hz x,ht.keep (fun k ⟨_,_,hk⟩ hn=>hs.block k (Xc hk) fun e=>hn (by show k<V.heap.size;rw[show k=b from e];exact hlt)) hs.size (fun _ _ _ h=>h),Yf (Xb h.below hB) (Xb h.below hB).size hs h1⟩
theorem UnF.new {w8 V3:World} {X:Nat→Prop} {t:TreeV} {x:TreeG} (hB:Below w8.heap.size w8 V3) (ht:TreeW X V3 t x):UnF w8 t V3.heap.size (V3.alloc (.cells #[.int .i64 x.rule,.int .i64 x.item,.int .i64 x.frm,.int .i64 x.unt,.slice x.kids.addr x.kids.len x.kids.cap] 32)) :=
 ⟨x,World.alloc_heap_new _ _,(ht.ext (Xe (Below.refl _ _) _)).keep (fun _ _ _=>rfl) (Nat.le_refl _) (fun _ _ _ h=>h),Xe hB _⟩
theorem Qx {g:Gram} {A:Option Addr} {cap L:Nat} {l:List ItemG} {n:Int} {w:World} {t:TreeV} {c:Int} {ok:Bool} {e:Int} (hL:l.length=L) (hT:TabsG w) (hg:g.lies w) (hs:g.short) (hi:ItemsAt w ⟨A,cap,l⟩) (h:Zj g l n=(t,c,ok,e)) :
  Calls Tryz.prog 17 #[.agg #[.string g.name,.slice g.cats.addr g.cats.xs.length g.cats.cap,.string g.start,.int .i64 g.startNo,.slice g.entries.addr g.entries.xs.length g.entries.cap,.slice g.rules.addr g.rules.xs.length g.rules.cap],.slice A L cap,.int .i64 n] w fun E w'=>∃x:TreeG,E = .returned (.tuple #[.agg #[.int .i64 x.rule,.int .i64 x.item,.int .i64 x.frm,.int .i64 x.unt,.slice x.kids.addr x.kids.len x.kids.cap],.int .i64 c,.bool ok,.int .i64 e])∧TreeW (fun b=>b<w.heap.size) w' t x∧Below w.heap.size w w':=by
 subst hL
 have hb:=Xh5 g ⟨A,cap,l⟩ n w hT hg hs hi
 unfold Xed at hb
 rw[h] at hb
 exact hb
theorem Xjo (A:Option Addr) (cp n k:Nat) (W:World) (h:k≤n) (hc:n≤cp) :
  (Instr.slice 27 (.slice A n cp) none (some (.int .i64 k)) none).run Tryz.prog W = .ok (.slice (subA A cp 0 6) k cp) W:=by
 have e:=run_slice_h (P:=Tryz.prog) (w:=W) 27 A n cp (by rw[Tryz.underlying27];rfl) .i64 (k:Int) (by omega) (by omega)
 rw[e]
 have h2:((k:Int)).toNat=k:=by omega
 rw[h2]
 have h3:(Go.sizeOf (Tryz.prog.elem 27)).run Tryz.prog W = .ok 6 W:=by kernel_rfl
 rw[h3]
 rfl
theorem Xjn (A:Option Addr) (cp n k:Nat) (z:Int) (W:World) (hz:z=(k:Int)) (h:k≤n) :
  (Instr.slice 27 (.slice A n cp) (some (.int .i64 z)) none none).run Tryz.prog W = .ok (.slice (subA A cp k 6) (n-k) (cp-k)) W:=by
 subst hz
 have e:=run_slice_l (P:=Tryz.prog) (w:=W) 27 A n cp (by rw[Tryz.underlying27];rfl) .i64 (k:Int) (by omega) (by omega)
 rw[e]
 have h2:((k:Int)).toNat=k:=by omega
 rw[h2]
 have h3:(Go.sizeOf (Tryz.prog.elem 27)).run Tryz.prog W = .ok 6 W:=by kernel_rfl
 rw[h3]
 rfl
set_option maxHeartbeats 8000000 in
theorem Xd0 (g : Gram) (its : SlS ItemG) (n : Int) (a : Nat) (w : World) (hT : TabsG w) (hg : g.lies w) (hs : g.short) (hi : ItemsAt w its) (ha : a ≤ 255) :
    Calls Tryz.prog 9 #[.agg #[.string g.name, .slice g.cats.addr g.cats.xs.length g.cats.cap, .string g.start, .int .i64 g.startNo, .slice g.entries.addr g.entries.xs.length g.entries.cap, .slice g.rules.addr g.rules.xs.length g.rules.cap], .slice its.addr its.xs.length its.cap, .int .i64 n, .int .u8 (a : Int)] w fun e w' => e = .returned (.bool true) ∧ Below w.heap.size w w' := by
  obtain ⟨W1, hW1⟩ : ∃ W1, w.alloc (.cells #[.string g.name, .slice g.cats.addr g.cats.xs.length g.cats.cap, .string g.start, .int .i64 g.startNo, .slice g.entries.addr g.entries.xs.length g.entries.cap, .slice g.rules.addr g.rules.xs.length g.rules.cap] 26) = W1 := ⟨_, rfl⟩
  have hB1 := Yn hW1
  have hk := Yv hW1
  have HT := Xa (fun V (hV : Below w.heap.size w V) => hT.ext hV)
  have HG := Xa (fun V (hV : Below w.heap.size w V) => hg.ext hV)
  have HI := Xa (fun V (hV : Below w.heap.size w V) => hi.ext hV)
  have Hs := Xa hs
  have HB := Xa hB1
  have Hk := Xa hk
  have hml : its.xs.length ≤ its.cap ∧ its.cap ≤ 9223372036854775807 := ⟨hi.lies.cap, hi.lies.max⟩
  clear hT hg hs hi hk hB1
  go_enter Tryz.func9, Tryz.ntmps9
  go_wp2_with fail
  clear hW1
  refine (Xln W1 (HT.out _ HB.out)).mono ?_
  rintro e w2 ⟨rfl, hb2⟩
  have HB2 := Xa (Xb HB.out hb2)
  have hk2 := Xh hb2 Hk.out
  have Hk2 := Xa hk2
  have c0 := gblk hk2 0
  have c1 := gblk hk2 1
  have c2 := gblk hk2 2
  have c3 := gblk hk2 3
  have c4 := gblk hk2 4
  have c5 := gblk hk2 5
  clear hk2 hb2
  go_wp2_with fail
  refine (Xm2 g its n w2 (HG.out _ HB2.out) (HI.out _ HB2.out)).mono ?_
  rintro e w3 ⟨b1, rfl, hb3, hfew⟩
  have HB3 := Xa (Xb HB2.out hb3)
  have hk3 := Xh hb3 Hk2.out
  have Hk3 := Xa hk3
  clear c0 c1 c2 c3 c4 c5
  have c0 := gblk hk3 0
  have c1 := gblk hk3 1
  have c2 := gblk hk3 2
  have c3 := gblk hk3 3
  have c4 := gblk hk3 4
  have c5 := gblk hk3 5
  clear hk3 hb3 hfew
  cases b1
  · go_wp2_with fail
    go_ret
    exact ⟨rfl, HB3.out⟩
  go_wp2_with fail
  refine (Xil g its n w3 (HG.out _ HB3.out) (HI.out _ HB3.out)).mono ?_
  rintro e w4 ⟨rfl, hb4⟩
  have HB4 := Xa (Xb HB3.out hb4)
  have hk4 := Xh hb4 Hk3.out
  have Hk4 := Xa hk4
  clear c0 c1 c2 c3 c4 c5 hk4 hb4
  by_cases h0 : errC g its.xs n = 0
  rotate_left
  · have q0 : (errC g its.xs n != 0) = true := by simpa using h0
    have q1 : (errC g its.xs n == 0) = false := by simpa using h0
    clear h0
    generalize errC g its.xs n = ee at *
    go_wp2_with fail
    go_ret
    exact ⟨rfl, HB4.out⟩
  have H0 := Xa h0
  rw [h0]
  have hfew := (Vx h0).few
  clear h0
  by_cases hl : its.xs.length = 0
  · have q0 : ((its.xs.length : Int) == 0) = true := by simp [hl]
    go_wp2_with fail
    go_ret
    exact ⟨rfl, HB4.out⟩
  have q0 : ((its.xs.length : Int) == 0) = false := by simp; intro h; rw [h] at hl; exact hl rfl
  have hLp : 0 < its.xs.length := by omega
  have hia : (a : Int) % (its.xs.length : Int) = ((a % its.xs.length : Nat) : Int) := by omega
  have hil : a % its.xs.length < its.xs.length := Nat.mod_lt _ hLp
  generalize a % its.xs.length = i at *
  have hl0 : ¬ (its.xs.length : Int) = 0 := by omega
  have Hia := Xa hia
  have hkc := Hk4.out
  have c0 := gblk hkc 0
  have c1 := gblk hkc 1
  have c2 := gblk hkc 2
  have c3 := gblk hkc 3
  have c4 := gblk hkc 4
  have c5 := gblk hkc 5
  clear hia hl hkc
  go_wp2_with fail
  clear c0 c1 c2 c3 c4 c5
  obtain ⟨⟨t1, c1, o1, e1⟩, hbb⟩ : ∃ x, Zj g its.xs n = x := ⟨_, rfl⟩
  refine (Xb2 (HT.out _ HB4.out) (HG.out _ HB4.out) Hs.out (HI.out _ HB4.out) hbb).mono ?_
  rintro e w5 ⟨x1, rfl, htx, hb⟩
  have HK := Xa (Xh hb Hk4.out)
  have HB := Xa (Xb HB4.out hb)
  obtain ⟨w6, hw⟩ : ∃ v, w5.alloc (.cells #[.int .i64 x1.rule, .int .i64 x1.item, .int .i64 x1.frm, .int .i64 x1.unt, .slice x1.kids.addr x1.kids.len x1.kids.cap] 32) = v := ⟨_, rfl⟩
  replace hb := Yn hw
  replace HK := Xa (Xh hb HK.out)
  replace HB := Xa (Xb HB.out hb)
  have hk1 := Yv hw
  have HX1 := Xa hk1
  have HT1 := Xa (htx.ext hb)
  have Hbb := Xa hbb
  have p0 := gblk hk1 0
  have p1 := gblk hk1 1
  have p2 := gblk hk1 2
  have p3 := gblk hk1 3
  have p4 := gblk hk1 4
  clear hb hk1 htx hbb
  go_wp2_with fail
  clear hw
  rw [Hia.out]
  have hfit := Xms H0.out Hbb.out
  refine (Xqw i t1 x1 w6 _ HT1.out hfit.1 hfit.2 (by omega)).mono ?_
  rintro e w7 ⟨x2, rfl, htx, hb⟩
  have he1 : e1 = 0 := by
    have h := Hbb.out
    unfold Zj at h
    rw [if_neg (by simp [H0.out])] at h
    split at h <;> simp at h <;> exact h.2.2.2.symm
  subst he1
  replace HK := Xa (Xh hb HK.out)
  replace HB := Xa (Xb HB.out hb)
  replace HX1 := Xa (Xh hb HX1.out)
  replace HT1 := Xa (HT1.out.ext hb)
  obtain ⟨w8, hw⟩ : ∃ v, w7.alloc (.cells #[.int .i64 x2.rule, .int .i64 x2.item, .int .i64 x2.frm, .int .i64 x2.unt, .slice x2.kids.addr x2.kids.len x2.kids.cap] 32) = v := ⟨_, rfl⟩
  replace hb := Yn hw
  replace HK := Xa (Xh hb HK.out)
  replace HB := Xa (Xb HB.out hb)
  replace HX1 := Xa (Xh hb HX1.out)
  replace HT1 := Xa (HT1.out.ext hb)
  have hk2 := Yv hw
  have HX2 := Xa hk2
  have HT2 := Xa (htx.ext hb)
  have HI' := HI.out _ HB.out
  obtain ⟨ib, ioff, hA, _, hc⟩ := HI'.lies.at_ ItemG.size_cells (by omega) hil
  have d0 : w8.cell? ⟨ib, ioff + i * 6, none⟩ = some (.int .i64 its.xs[i].cat) := hc i hil w8 (Below.refl _ _) 0 _ rfl
  have hgi : its.xs[i]? = some its.xs[i] := List.getElem?_eq_getElem hil
  generalize its.xs[i] = xi at *
  have Hgi := Xa hgi
  have hAe := hA
  rw [hA]
  clear p0 p1 p2 p3 p4 hk2 htx hfit hA hc HI' hgi hb
  have hili : (i : Int) < (its.xs.length : Int) := by omega
  by_cases g0 : xi.cat = -1
  · have g1 : (xi.cat == -1) = true := by simpa using g0
    go_wp2_with fail
    go_ret
    exact ⟨rfl, HB.out⟩
  have g1 : (xi.cat == -1) = false := by simpa using g0
  obtain ⟨ut, hut⟩ : ∃ u, Vs i t1 = u := ⟨_, rfl⟩
  have Hut := Xa hut
  rw [hut]
  clear hut
  by_cases g2 : o1 = true ∧ ut = true
  · obtain ⟨rfl, rfl⟩ := g2
    go_wp2_with fail
    go_ret
    exact ⟨rfl, HB.out⟩
  have Hun := Xa (Xh0 H0.out Hgi.out g0 Hbb.out (fun h => by
    cases h9 : ut
    · exact Hut.out.trans h9
    · exact absurd ⟨h, h9⟩ g2)).1
  have Hg2 := Xa g2
  clear g2 g0
  have Hd1 : Hid (∀ V, Below w8.heap.size w8 V → Rd V (subA (some ⟨ib, ioff, none⟩) its.cap 0 6) ((its.xs.take i).flatMap ItemG.cells)) := fun V hV => by
    have h := ((HI.out _ (Xb HB.out hV)).lies.rd).cut (by decide) ItemG.size_cells (cp := its.cap) (i := 0) (n := i) (by omega) hml.1
    rw [hAe, List.drop_zero] at h
    exact h
  have Hd2 : Hid (∀ V, Below w8.heap.size w8 V → Rd V (subA (some ⟨ib, ioff, none⟩) its.cap (i + 1) 6) ((its.xs.drop (i + 1)).flatMap ItemG.cells)) := fun V hV => by
    have h := ((HI.out _ (Xb HB.out hV)).lies.rd).cut (by decide) ItemG.size_cells (cp := its.cap) (i := i + 1) (n := its.xs.length - (i + 1)) (by omega) hml.1
    rw [hAe, List.take_of_length_le (by rw [List.length_drop]; omega)] at h
    exact h
  have Hlt1 : Hid ((its.xs.take i).length = i) := by show _ = _; rw [List.length_take]; omega
  have Hlt2 : Hid ((its.xs.drop (i + 1)).length = its.xs.length - (i + 1)) := by show _ = _; rw [List.length_drop]
  have Herase : Hid ([] ++ its.xs.take i ++ its.xs.drop (i + 1) = its.xs.eraseIdx i) := by show _ = _; rw [List.nil_append, List.eraseIdx_eq_take_drop_succ]
  have Htg : Hid (∀ x ∈ its.xs.eraseIdx i, x.tgt.lies w8) := fun x hx => (HI.out _ HB.out).tgt x ((List.eraseIdx_sublist _ _).subset hx)
  have Hle : Hid ((its.xs.eraseIdx i).length ≤ 16384) := Nat.le_trans (List.eraseIdx_sublist _ _).length_le hfew
  have hwi : IntKind.i64.wrap ((i : Int) + 1) = (i : Int) + 1 := IntWalk.i64_in _ (by omega)
  obtain ⟨l5, hl5⟩ : ∃ l, its.xs.eraseIdx i = l := ⟨_, rfl⟩
  rw [hl5] at Hun Herase Htg Hle
  obtain ⟨t5, ht5⟩ : ∃ t, (if o1 = true then Ui i t1 else Ul) = t := ⟨_, rfl⟩
  rw [ht5] at Hun
  have Ht5 := Xa ht5
  have Hl5 := Xa hl5
  obtain ⟨L, hL⟩ : ∃ L, its.xs.length = L := ⟨_, rfl⟩
  rw [hL] at Hlt2 hml hfew hil hili hLp hl0 q0 ⊢
  obtain ⟨cp, hcp⟩ : ∃ c, its.cap = c := ⟨_, rfl⟩
  rw [hcp] at Hd1 Hd2 hml ⊢
  have Hr1 := Xa (fun V => Xjo (some ⟨ib, ioff, none⟩) cp L i V (by omega) hml.1)
  have Hr2 := Xa (fun V => Xjn (some ⟨ib, ioff, none⟩) cp L (i + 1) ((i : Int) + 1) V (by omega) (by omega))
  obtain ⟨o9, ho9⟩ : ∃ o, o1 = o := ⟨_, rfl⟩
  rw [ho9] at Hun
  have Ho9 := Xa ho9
  have hcase : o1 = false ∨ (o1 = true ∧ ut = false) := by
    have h := Hg2.out
    revert h
    cases o1 <;> cases ut <;> simp
  clear ht5 hl5 hAe hL hcp Hgi Hia ho9 Hg2
  rcases hcase with rfl | ⟨rfl, rfl⟩
  all_goals
    go_wp2_with fail
    refine wpIn_wide (n := 0) |>.1 ?_
    refine Tb (fun (y : (Nat → Value) × Nat) a => { a with tmps := ((((((((((((((((((((((a.tmps.setIfInBounds 74 (.agg #[.string g.name, .slice g.cats.addr g.cats.xs.length g.cats.cap, .string g.start, .int .i64 g.startNo, .slice g.entries.addr g.entries.xs.length g.entries.cap, .slice g.rules.addr g.rules.xs.length g.rules.cap])).setIfInBounds 75 (y.1 0)).setIfInBounds 76 (.slice (some ⟨ib, ioff, none⟩) L cp)).setIfInBounds 77 (.int .i64 (i : Int))).setIfInBounds 78 (.slice (subA (some ⟨ib, ioff, none⟩) cp 0 6) i cp)).setIfInBounds 79 (y.1 1)).setIfInBounds 80 (.slice (some ⟨ib, ioff, none⟩) L cp)).setIfInBounds 81 (.int .i64 (i : Int))).setIfInBounds 82 (.int .i64 ((i : Int) + 1))).setIfInBounds 83 (.slice (subA (some ⟨ib, ioff, none⟩) cp (i + 1) 6) (L - (i + 1)) (cp - (i + 1)))).setIfInBounds 84 (y.1 2)).setIfInBounds 85 (.int .i64 n)).setIfInBounds 86 (y.1 3)).setIfInBounds 73 (y.1 3)).setIfInBounds 87 (y.1 4)).setIfInBounds 88 (.int .i64 c1)).setIfInBounds 89 (.bool o9)).setIfInBounds 90 (.int .i64 0)).setIfInBounds 16 (.pointer (some ⟨y.2, 0, none⟩))).setIfInBounds 17 (.int .i64 c1)).setIfInBounds 18 (.bool o9)).setIfInBounds 19 (.int .i64 0)) }) (fun y v => UnF w8 t5 y.2 v) ?_ ?_
    · refine Xo (fun V => Below w8.heap.size w8 V) (by kernel_rfl) ?_
      have hC0 : Below w8.heap.size w8 w8.drew := Xi (Below.refl _ _)
      refine Xd (i := 0) (v := .agg #[.string g.name, .slice g.cats.addr g.cats.xs.length g.cats.cap, .string g.start, .int .i64 g.startNo, .slice g.entries.addr g.entries.xs.length g.entries.cap, .slice g.rules.addr g.rules.xs.length g.rules.cap]) rfl (by kernel_rfl) (fun _ _ _ h => h) (fun V hV => (by have hk := Xh hV HK.out; have c0 := gblk hk 0; have c1' := gblk hk 1; have c2 := gblk hk 2; have c3 := gblk hk 3; have c4 := gblk hk 4; have c5 := gblk hk 5; go_simp)) ?_
      refine Xd (i := 2) rfl (by kernel_rfl) (fun _ _ _ h => h) (fun V hV => (by skip; go_simp <;> rfl)) ?_
      refine Xd (i := 3) rfl (by kernel_rfl) (fun _ _ _ h => h) (fun V hV => (by skip; go_simp <;> rfl)) ?_
      refine Xd (i := 4) (v := .slice (subA (some ⟨ib, ioff, none⟩) cp 0 6) i cp) rfl (by kernel_rfl) (fun _ _ _ h => h) (fun V hV => (by have h := Hr1.out V; go_simp)) ?_
      refine Xd (i := 6) rfl (by kernel_rfl) (fun _ _ _ h => h) (fun V hV => (by skip; go_simp <;> rfl)) ?_
      refine Xd (i := 7) rfl (by kernel_rfl) (fun _ _ _ h => h) (fun V hV => (by skip; go_simp <;> rfl)) ?_
      refine Xd (i := 8) rfl (by kernel_rfl) (fun _ _ _ h => h) (fun V hV => (by skip; go_simp <;> rfl)) ?_
      refine Xd (i := 9) (v := .slice (subA (some ⟨ib, ioff, none⟩) cp (i + 1) 6) (L - (i + 1)) (cp - (i + 1))) rfl (by kernel_rfl) (fun _ _ _ h => h) (fun V hV => (by have h := Hr2.out V; go_simp)) ?_
      refine Xd (i := 11) rfl (by kernel_rfl) (fun _ _ _ h => h) (fun V hV => (by skip; go_simp <;> rfl)) ?_
      refine Xs (rs := [1, 18]) hC0 (by kernel_rfl) (by simp) (AllC.cons rfl (fun K hK => ?_) (AllC.cons rfl (fun K hK => ?_) AllC.nil))
      · skip
        go_simp
        refine hK _ _ ?_
        clear hK K
        have hS1 := CutS.start hC0
        refine Xs (rs := [5, 18]) hS1.below (by kernel_rfl) (by simp) (AllC.cons rfl (fun K hK => ?_) (AllC.cons rfl (fun K hK => ?_) AllC.nil))
        · skip
          obtain ⟨v5, V5, hrun, hS5⟩ := CutS.app hS1 (Hd1.out _ hS1.below) Hlt1.out (by rw [List.length_nil]; omega)
          refine Xy rfl _ _ _ rfl rfl rfl hrun (hK _ _ ?_)
          clear hK K hrun
          refine Xs (rs := [10, 18]) hS5.below (by kernel_rfl) (by simp) (AllC.cons rfl (fun K hK => ?_) (AllC.cons rfl (fun K hK => ?_) AllC.nil))
          · skip
            obtain ⟨v6, V6, hrun, hS6⟩ := CutS.app hS5 (Hd2.out _ hS5.below) Hlt2.out (by rw [List.length_append, Hlt1.out, List.length_nil]; omega)
            refine Xy rfl _ _ _ rfl rfl rfl hrun (hK _ _ ?_)
            clear hK K hrun
            have hS6e := hS6
            refine Xs (rs := [12, 18]) hS6.below (by kernel_rfl) (by simp) (AllC.cons rfl (fun K hK => ?_) (AllC.cons rfl (fun K hK => ?_) AllC.nil))
            · skip
              have hS := hS6
              rw [Herase.out] at hS
              obtain ⟨A5, c5, rfl, hI5⟩ := hS.items Htg.out
              have hbt := Qx rfl (HT.out _ (Xb HB.out hS.below)) (HG.out _ (Xb HB.out hS.below)) Hs.out hI5 Hun.out
              go_simp
              refine ⟨trivial, rfl, callsIn_wide.2 (hbt.mono ?_)⟩
              rintro e V9 ⟨x3, rfl, ht3, hB9⟩
              refine hK _ _ ?_
              clear hK K
              have hB10 := Xb hS.below hB9
              refine Xd (i := 13) rfl (by kernel_rfl) (fun _ _ _ h => h) (fun V hV => (by skip; go_simp <;> rfl)) ?_
              refine Xd (i := 14) rfl (by kernel_rfl) (fun _ _ _ h => h) (fun V hV => (by skip; go_simp <;> rfl)) ?_
              refine Xd (i := 15) rfl (by kernel_rfl) (fun _ _ _ h => h) (fun V hV => (by skip; go_simp <;> rfl)) ?_
              refine Xd (i := 16) rfl (by kernel_rfl) (fun _ _ _ h => h) (fun V hV => (by skip; go_simp <;> rfl)) ?_
              refine Xd (i := 17) rfl (by kernel_rfl) (fun _ _ _ h => h) (fun V hV => (by skip; go_simp <;> rfl)) ?_
              refine Xg (i := 18) hB10 (by kernel_rfl) rfl (fun K hK => ?_)
              go_simp
              refine hK _ _ ?_
              clear hK K
              have hun := UnF.new hB10 ht3
              have hzz : (V9.alloc (.cells #[.int .i64 0, .int .i64 0, .int .i64 0, .int .i64 0, .slice none 0 0] 32)).heap[V9.heap.size]? = some (.cells #[.int .i64 0, .int .i64 0, .int .i64 0, .int .i64 0, .slice none 0 0] 32 (0, 0)) := World.alloc_heap_new _ _
              have zq0 := gblk hzz 0
              have zq1 := gblk hzz 1
              have zq2 := gblk hzz 2
              have zq3 := gblk hzz 3
              have zq4 := gblk hzz 4
              have hzf := fun n => Xf hzz n
              clear hzz
              refine Xg (i := 19) (Xe hB10 _) (by kernel_rfl) rfl (fun K hK => ?_)
              go_simp
              refine hK _ _ ?_
              clear hK K
              refine Xd (i := 20) rfl (by kernel_rfl) (fun _ _ _ h => h) (fun V hV => (by skip; go_simp <;> rfl)) ?_
              refine Xd (i := 21) rfl (by kernel_rfl) (fun _ _ _ h => h) (fun V hV => (by skip; go_simp <;> rfl)) ?_
              refine Xd (i := 22) rfl (by kernel_rfl) (fun _ _ _ h => h) (fun V hV => (by skip; go_simp <;> rfl)) ?_
              refine Xl (hun.choose_spec.2.2) (by kernel_rfl) ?_ _
              refine ⟨((fun k => match k with | 0 => .slice (some ⟨w8.heap.size, 0, none⟩) 0 0 | 1 => v5 | 2 => .slice A5 l5.length c5 | 3 => .tuple #[.agg #[.int .i64 x3.rule, .int .i64 x3.item, .int .i64 x3.frm, .int .i64 x3.unt, .slice x3.kids.addr x3.kids.len x3.kids.cap], .int .i64 c1, .bool o9, .int .i64 0] | _ => .agg #[.int .i64 x3.rule, .int .i64 x3.item, .int .i64 x3.frm, .int .i64 x3.unt, .slice x3.kids.addr x3.kids.len x3.kids.cap]), V9.heap.size), ?_, hun⟩
              kernel_rfl
            · skip
              go_simp
              refine hK _ _ ?_
              clear hK K
              have hSb := hS6.boxed
              have hS := hSb
              rw [Herase.out] at hS
              obtain ⟨A5, c5, rfl, hI5⟩ := hS.items Htg.out
              have hbt := Qx rfl (HT.out _ (Xb HB.out hS.below)) (HG.out _ (Xb HB.out hS.below)) Hs.out hI5 Hun.out
              refine Xg (i := 12) hS.below (by kernel_rfl) rfl (fun K hK => ?_)
              go_simp
              refine ⟨trivial, rfl, callsIn_wide.2 (hbt.mono ?_)⟩
              rintro e V9 ⟨x3, rfl, ht3, hB9⟩
              refine hK _ _ ?_
              clear hK K
              have hB10 := Xb hS.below hB9
              refine Xd (i := 13) rfl (by kernel_rfl) (fun _ _ _ h => h) (fun V hV => (by skip; go_simp <;> rfl)) ?_
              refine Xd (i := 14) rfl (by kernel_rfl) (fun _ _ _ h => h) (fun V hV => (by skip; go_simp <;> rfl)) ?_
              refine Xd (i := 15) rfl (by kernel_rfl) (fun _ _ _ h => h) (fun V hV => (by skip; go_simp <;> rfl)) ?_
              refine Xd (i := 16) rfl (by kernel_rfl) (fun _ _ _ h => h) (fun V hV => (by skip; go_simp <;> rfl)) ?_
              refine Xd (i := 17) rfl (by kernel_rfl) (fun _ _ _ h => h) (fun V hV => (by skip; go_simp <;> rfl)) ?_
              have hz8 : V9.heap[V6.heap.size]? = some (.cells #[.int .i64 0, .int .i64 0, .int .i64 0, .int .i64 0, .slice none 0 0] 32 (0, 0)) := (hB9.block _ (Xc (hS.box _ rfl).2.1)).trans (hS.box _ rfl).2.1
              have zq0 := gblk hz8 0
              have zq1 := gblk hz8 1
              have zq2 := gblk hz8 2
              have zq3 := gblk hz8 3
              have zq4 := gblk hz8 4
              have hzf := fun n => Xf hz8 n
              have hun := hS.store hB9 ht3
              have hzl := Xc hz8
              clear hz8
              refine Xg (i := 19) hB10 (by kernel_rfl) rfl (fun K hK => ?_)
              go_simp
              refine hK _ _ ?_
              clear hK K
              change wpAnyC _ _ _ _ _ _ _ _ (set5 V9 (V6.heap.size) x3)
              have hB11 : Below w8.heap.size w8 (set5 V9 (V6.heap.size) x3) := hun.choose_spec.2.2
              refine Xd (i := 20) rfl (by kernel_rfl) (fun _ _ _ h => h) (fun V hV => (by skip; go_simp <;> rfl)) ?_
              refine Xd (i := 21) rfl (by kernel_rfl) (fun _ _ _ h => h) (fun V hV => (by skip; go_simp <;> rfl)) ?_
              refine Xd (i := 22) rfl (by kernel_rfl) (fun _ _ _ h => h) (fun V hV => (by skip; go_simp <;> rfl)) ?_
              refine Xl (hB11) (by kernel_rfl) ?_ _
              refine ⟨((fun k => match k with | 0 => .slice (some ⟨w8.heap.size, 0, none⟩) 0 0 | 1 => v5 | 2 => .slice A5 l5.length c5 | 3 => .tuple #[.agg #[.int .i64 x3.rule, .int .i64 x3.item, .int .i64 x3.frm, .int .i64 x3.unt, .slice x3.kids.addr x3.kids.len x3.kids.cap], .int .i64 c1, .bool o9, .int .i64 0] | _ => .agg #[.int .i64 x3.rule, .int .i64 x3.item, .int .i64 x3.frm, .int .i64 x3.unt, .slice x3.kids.addr x3.kids.len x3.kids.cap]), V6.heap.size), ?_, hun⟩
              kernel_rfl
          · skip
            go_simp
            refine hK _ _ ?_
            clear hK K
            have hSb := hS5.boxed
            obtain ⟨v6, V6, hrun, hS6⟩ := CutS.app hSb (Hd2.out _ hSb.below) Hlt2.out (by rw [List.length_append, Hlt1.out, List.length_nil]; omega)
            refine Xg (i := 10) hSb.below (by kernel_rfl) rfl (fun K hK => ?_)
            refine Xy rfl _ _ _ rfl rfl rfl hrun (hK _ _ ?_)
            clear hK K hrun
            have hS := hS6
            rw [Herase.out] at hS
            obtain ⟨A5, c5, rfl, hI5⟩ := hS.items Htg.out
            have hbt := Qx rfl (HT.out _ (Xb HB.out hS.below)) (HG.out _ (Xb HB.out hS.below)) Hs.out hI5 Hun.out
            refine Xg (i := 12) hS.below (by kernel_rfl) rfl (fun K hK => ?_)
            go_simp
            refine ⟨trivial, rfl, callsIn_wide.2 (hbt.mono ?_)⟩
            rintro e V9 ⟨x3, rfl, ht3, hB9⟩
            refine hK _ _ ?_
            clear hK K
            have hB10 := Xb hS.below hB9
            refine Xd (i := 13) rfl (by kernel_rfl) (fun _ _ _ h => h) (fun V hV => (by skip; go_simp <;> rfl)) ?_
            refine Xd (i := 14) rfl (by kernel_rfl) (fun _ _ _ h => h) (fun V hV => (by skip; go_simp <;> rfl)) ?_
            refine Xd (i := 15) rfl (by kernel_rfl) (fun _ _ _ h => h) (fun V hV => (by skip; go_simp <;> rfl)) ?_
            refine Xd (i := 16) rfl (by kernel_rfl) (fun _ _ _ h => h) (fun V hV => (by skip; go_simp <;> rfl)) ?_
            refine Xd (i := 17) rfl (by kernel_rfl) (fun _ _ _ h => h) (fun V hV => (by skip; go_simp <;> rfl)) ?_
            have hz8 : V9.heap[V5.heap.size]? = some (.cells #[.int .i64 0, .int .i64 0, .int .i64 0, .int .i64 0, .slice none 0 0] 32 (0, 0)) := (hB9.block _ (Xc (hS.box _ rfl).2.1)).trans (hS.box _ rfl).2.1
            have zq0 := gblk hz8 0
            have zq1 := gblk hz8 1
            have zq2 := gblk hz8 2
            have zq3 := gblk hz8 3
            have zq4 := gblk hz8 4
            have hzf := fun n => Xf hz8 n
            have hun := hS.store hB9 ht3
            have hzl := Xc hz8
            clear hz8
            refine Xg (i := 19) hB10 (by kernel_rfl) rfl (fun K hK => ?_)
            go_simp
            refine hK _ _ ?_
            clear hK K
            change wpAnyC _ _ _ _ _ _ _ _ (set5 V9 (V5.heap.size) x3)
            have hB11 : Below w8.heap.size w8 (set5 V9 (V5.heap.size) x3) := hun.choose_spec.2.2
            refine Xd (i := 20) rfl (by kernel_rfl) (fun _ _ _ h => h) (fun V hV => (by skip; go_simp <;> rfl)) ?_
            refine Xd (i := 21) rfl (by kernel_rfl) (fun _ _ _ h => h) (fun V hV => (by skip; go_simp <;> rfl)) ?_
            refine Xd (i := 22) rfl (by kernel_rfl) (fun _ _ _ h => h) (fun V hV => (by skip; go_simp <;> rfl)) ?_
            refine Xl (hB11) (by kernel_rfl) ?_ _
            refine ⟨((fun k => match k with | 0 => .slice (some ⟨w8.heap.size, 0, none⟩) 0 0 | 1 => v5 | 2 => .slice A5 l5.length c5 | 3 => .tuple #[.agg #[.int .i64 x3.rule, .int .i64 x3.item, .int .i64 x3.frm, .int .i64 x3.unt, .slice x3.kids.addr x3.kids.len x3.kids.cap], .int .i64 c1, .bool o9, .int .i64 0] | _ => .agg #[.int .i64 x3.rule, .int .i64 x3.item, .int .i64 x3.frm, .int .i64 x3.unt, .slice x3.kids.addr x3.kids.len x3.kids.cap]), V5.heap.size), ?_, hun⟩
            kernel_rfl
        · skip
          go_simp
          refine hK _ _ ?_
          clear hK K
          have hSb := hS1.boxed
          have e1 : (w8.drew.alloc (.cells #[] 47)).heap.size = w8.heap.size + 1 := World.size_alloc _ _
          rw [e1] at hSb
          clear e1
          obtain ⟨v5, V5, hrun, hS5⟩ := CutS.app hSb (Hd1.out _ hSb.below) Hlt1.out (by rw [List.length_nil]; omega)
          refine Xg (i := 5) hSb.below (by kernel_rfl) rfl (fun K hK => ?_)
          refine Xy rfl _ _ _ rfl rfl rfl hrun (hK _ _ ?_)
          clear hK K hrun
          obtain ⟨v6, V6, hrun, hS6⟩ := CutS.app hS5 (Hd2.out _ hS5.below) Hlt2.out (by rw [List.length_append, Hlt1.out, List.length_nil]; omega)
          refine Xg (i := 10) hS5.below (by kernel_rfl) rfl (fun K hK => ?_)
          refine Xy rfl _ _ _ rfl rfl rfl hrun (hK _ _ ?_)
          clear hK K hrun
          have hS := hS6
          rw [Herase.out] at hS
          obtain ⟨A5, c5, rfl, hI5⟩ := hS.items Htg.out
          have hbt := Qx rfl (HT.out _ (Xb HB.out hS.below)) (HG.out _ (Xb HB.out hS.below)) Hs.out hI5 Hun.out
          refine Xg (i := 12) hS.below (by kernel_rfl) rfl (fun K hK => ?_)
          go_simp
          refine ⟨trivial, rfl, callsIn_wide.2 (hbt.mono ?_)⟩
          rintro e V9 ⟨x3, rfl, ht3, hB9⟩
          refine hK _ _ ?_
          clear hK K
          have hB10 := Xb hS.below hB9
          refine Xd (i := 13) rfl (by kernel_rfl) (fun _ _ _ h => h) (fun V hV => (by skip; go_simp <;> rfl)) ?_
          refine Xd (i := 14) rfl (by kernel_rfl) (fun _ _ _ h => h) (fun V hV => (by skip; go_simp <;> rfl)) ?_
          refine Xd (i := 15) rfl (by kernel_rfl) (fun _ _ _ h => h) (fun V hV => (by skip; go_simp <;> rfl)) ?_
          refine Xd (i := 16) rfl (by kernel_rfl) (fun _ _ _ h => h) (fun V hV => (by skip; go_simp <;> rfl)) ?_
          refine Xd (i := 17) rfl (by kernel_rfl) (fun _ _ _ h => h) (fun V hV => (by skip; go_simp <;> rfl)) ?_
          have hz8 : V9.heap[(w8.heap.size + 1)]? = some (.cells #[.int .i64 0, .int .i64 0, .int .i64 0, .int .i64 0, .slice none 0 0] 32 (0, 0)) := (hB9.block _ (Xc (hS.box _ rfl).2.1)).trans (hS.box _ rfl).2.1
          have zq0 := gblk hz8 0
          have zq1 := gblk hz8 1
          have zq2 := gblk hz8 2
          have zq3 := gblk hz8 3
          have zq4 := gblk hz8 4
          have hzf := fun n => Xf hz8 n
          have hun := hS.store hB9 ht3
          have hzl := Xc hz8
          clear hz8
          refine Xg (i := 19) hB10 (by kernel_rfl) rfl (fun K hK => ?_)
          go_simp
          refine hK _ _ ?_
          clear hK K
          change wpAnyC _ _ _ _ _ _ _ _ (set5 V9 ((w8.heap.size + 1)) x3)
          have hB11 : Below w8.heap.size w8 (set5 V9 ((w8.heap.size + 1)) x3) := hun.choose_spec.2.2
          refine Xd (i := 20) rfl (by kernel_rfl) (fun _ _ _ h => h) (fun V hV => (by skip; go_simp <;> rfl)) ?_
          refine Xd (i := 21) rfl (by kernel_rfl) (fun _ _ _ h => h) (fun V hV => (by skip; go_simp <;> rfl)) ?_
          refine Xd (i := 22) rfl (by kernel_rfl) (fun _ _ _ h => h) (fun V hV => (by skip; go_simp <;> rfl)) ?_
          refine Xl (hB11) (by kernel_rfl) ?_ _
          refine ⟨((fun k => match k with | 0 => .slice (some ⟨w8.heap.size, 0, none⟩) 0 0 | 1 => v5 | 2 => .slice A5 l5.length c5 | 3 => .tuple #[.agg #[.int .i64 x3.rule, .int .i64 x3.item, .int .i64 x3.frm, .int .i64 x3.unt, .slice x3.kids.addr x3.kids.len x3.kids.cap], .int .i64 c1, .bool o9, .int .i64 0] | _ => .agg #[.int .i64 x3.rule, .int .i64 x3.item, .int .i64 x3.frm, .int .i64 x3.unt, .slice x3.kids.addr x3.kids.len x3.kids.cap]), (w8.heap.size + 1)), ?_, hun⟩
          kernel_rfl
      · skip
        go_simp
        refine hK _ _ ?_
        clear hK K
        refine Xg (i := 1) (Xe hC0 _) (by kernel_rfl) rfl (fun K hK => ?_)
        go_simp
        refine hK _ _ ?_
        clear hK K
        have hSb := CutS.start2 hC0
        change CutS w8 _ _ _ (some w8.heap.size) at hSb
        obtain ⟨v5, V5, hrun, hS5⟩ := CutS.app hSb (Hd1.out _ hSb.below) Hlt1.out (by rw [List.length_nil]; omega)
        refine Xg (i := 5) hSb.below (by kernel_rfl) rfl (fun K hK => ?_)
        refine Xy rfl _ _ _ rfl rfl rfl hrun (hK _ _ ?_)
        clear hK K hrun
        obtain ⟨v6, V6, hrun, hS6⟩ := CutS.app hS5 (Hd2.out _ hS5.below) Hlt2.out (by rw [List.length_append, Hlt1.out, List.length_nil]; omega)
        refine Xg (i := 10) hS5.below (by kernel_rfl) rfl (fun K hK => ?_)
        refine Xy rfl _ _ _ rfl rfl rfl hrun (hK _ _ ?_)
        clear hK K hrun
        have hS := hS6
        rw [Herase.out] at hS
        obtain ⟨A5, c5, rfl, hI5⟩ := hS.items Htg.out
        have hbt := Qx rfl (HT.out _ (Xb HB.out hS.below)) (HG.out _ (Xb HB.out hS.below)) Hs.out hI5 Hun.out
        refine Xg (i := 12) hS.below (by kernel_rfl) rfl (fun K hK => ?_)
        go_simp
        refine ⟨trivial, rfl, callsIn_wide.2 (hbt.mono ?_)⟩
        rintro e V9 ⟨x3, rfl, ht3, hB9⟩
        refine hK _ _ ?_
        clear hK K
        have hB10 := Xb hS.below hB9
        refine Xd (i := 13) rfl (by kernel_rfl) (fun _ _ _ h => h) (fun V hV => (by skip; go_simp <;> rfl)) ?_
        refine Xd (i := 14) rfl (by kernel_rfl) (fun _ _ _ h => h) (fun V hV => (by skip; go_simp <;> rfl)) ?_
        refine Xd (i := 15) rfl (by kernel_rfl) (fun _ _ _ h => h) (fun V hV => (by skip; go_simp <;> rfl)) ?_
        refine Xd (i := 16) rfl (by kernel_rfl) (fun _ _ _ h => h) (fun V hV => (by skip; go_simp <;> rfl)) ?_
        refine Xd (i := 17) rfl (by kernel_rfl) (fun _ _ _ h => h) (fun V hV => (by skip; go_simp <;> rfl)) ?_
        have hz8 : V9.heap[w8.heap.size]? = some (.cells #[.int .i64 0, .int .i64 0, .int .i64 0, .int .i64 0, .slice none 0 0] 32 (0, 0)) := (hB9.block _ (Xc (hS.box _ rfl).2.1)).trans (hS.box _ rfl).2.1
        have zq0 := gblk hz8 0
        have zq1 := gblk hz8 1
        have zq2 := gblk hz8 2
        have zq3 := gblk hz8 3
        have zq4 := gblk hz8 4
        have hzf := fun n => Xf hz8 n
        have hun := hS.store hB9 ht3
        have hzl := Xc hz8
        clear hz8
        refine Xg (i := 19) hB10 (by kernel_rfl) rfl (fun K hK => ?_)
        go_simp
        refine hK _ _ ?_
        clear hK K
        change wpAnyC _ _ _ _ _ _ _ _ (set5 V9 (w8.heap.size) x3)
        have hB11 : Below w8.heap.size w8 (set5 V9 (w8.heap.size) x3) := hun.choose_spec.2.2
        refine Xd (i := 20) rfl (by kernel_rfl) (fun _ _ _ h => h) (fun V hV => (by skip; go_simp <;> rfl)) ?_
        refine Xd (i := 21) rfl (by kernel_rfl) (fun _ _ _ h => h) (fun V hV => (by skip; go_simp <;> rfl)) ?_
        refine Xd (i := 22) rfl (by kernel_rfl) (fun _ _ _ h => h) (fun V hV => (by skip; go_simp <;> rfl)) ?_
        refine Xl (hB11) (by kernel_rfl) ?_ _
        refine ⟨((fun k => match k with | 0 => .slice (some ⟨(w8.heap.size + 1), 0, none⟩) 0 0 | 1 => v5 | 2 => .slice A5 l5.length c5 | 3 => .tuple #[.agg #[.int .i64 x3.rule, .int .i64 x3.item, .int .i64 x3.frm, .int .i64 x3.unt, .slice x3.kids.addr x3.kids.len x3.kids.cap], .int .i64 c1, .bool o9, .int .i64 0] | _ => .agg #[.int .i64 x3.rule, .int .i64 x3.item, .int .i64 x3.frm, .int .i64 x3.unt, .slice x3.kids.addr x3.kids.len x3.kids.cap]), w8.heap.size), ?_, hun⟩
        kernel_rfl
    · rintro ⟨yv, bx⟩ v ⟨x3, hbx, ht3, hb⟩
      have h9 := Ho9.out
      subst h9
      have hx2 := Xh hb HX2.out
      have ht2 := HT2.out.ext hb
      have HBv := Xa (Xb HB.out hb)
      have HT3 := Xa ht3
      have HT2v := Xa ht2
      have p0 := gblk hbx 0
      have p1 := gblk hbx 1
      have p2 := gblk hbx 2
      have p3 := gblk hbx 3
      have p4 := gblk hbx 4
      have q0 := gblk hx2 0
      have q1 := gblk hx2 1
      have q2 := gblk hx2 2
      have q3 := gblk hx2 3
      have q4 := gblk hx2 4
      have q9 : (c1 == c1) = true := by simp
      clear hbx hx2 ht2 ht3 hb
      go_wp2_with fail
      first
      | (go_ret; exact ⟨rfl, HBv.out⟩)
      | (refine (Qj _ _ t5 x3 (Ui i t1) x2 v HT3.out HT2v.out).mono ?_
         rintro e v2 ⟨bq, rfl, hbq, hb2⟩
         have hbt : bq = true := hbq.2 (Ht5.out.symm.trans (by simp))
         subst hbt
         have HB2 := Xa (Xb HBv.out hb2)
         clear hbq hb2 p0 p1 p2 p3 p4 q0 q1 q2 q3 q4
         go_wp2_with fail
         go_ret
         exact ⟨rfl, HB2.out⟩)
end Go.Proofs.YthojaplnimoacaaGreatDoor
