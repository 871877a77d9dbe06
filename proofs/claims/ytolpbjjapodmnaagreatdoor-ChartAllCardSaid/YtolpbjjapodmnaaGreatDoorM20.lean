/- Texts of this claim, one after the other: TraQ, TraS, Law29s, TagU, Chwm. -/
import Derived.Test.YtolpbjjapodmnaaGreatDoorM19
import Derived.Test.YtolpbjjapodmnaaGreatDoorM10
import Derived.Test.YtolpbjjapodmnaaGreatDoorM12
import Derived.Test.YtolpbjjapodmnaaGreatDoorM11
import Derived.Test.YtolpbjjapodmnaaGreatDoorM14
namespace Go.Proofs.YtolpbjjapodmnaaGreatDoor
open Go.RowKit Go.Han
set_option maxRecDepth 100000
/-! ### what rules give -/
/-! ### the Kids of a rule -/
/-! ### each word counts -/
structure TransOk (i k:Int) (ab:List Int) (l:List TgP):Prop where
 some_:l≠[]
 cover:∀n,i≤n→n<k→∃x∈l,n∈x.deps
 above:∀x∈l,∀n∈ab,n∈x.deps
 inside:∀x∈l,IncI x.deps∧x.deps≠[]∧∀n∈x.deps,n∈ab∨(i≤n∧n<k)
 text:∀x∈l,x.text.size≠0
/-! ### word by word -/
def WideAt (l:List ItemG) (i:Int):Option ItemG→Prop
 | none=>∀x∈l,¬(0≤x.cat∧x.frm=i)
 | some b=>∃pre post,l=pre++b :: post∧0≤b.cat∧b.frm=i∧(∀x∈pre,0≤x.cat→x.frm=i→x.unt<b.unt)∧∀x∈post,0≤x.cat→x.frm=i→x.unt≤b.unt
theorem TransOk.append {i j k:Int} {ab:List Int} {a b:List TgP} (ha:TransOk i j ab a) (hb:TransOk j k ab b) (h1:i≤j) (h2:j≤k):TransOk i k ab (a++b):=by
 refine⟨fun h=>ha.some_ (List.append_eq_nil_iff.1 h).1,fun n hn hk=>?_,fun x hx=>?_,fun x hx=>?_,fun x hx=>?_⟩
 ·by_cases h:n<j
  ·obtain⟨x,hx,h⟩:=ha.cover n hn h
   exact⟨x,List.mem_append_left _ hx,h⟩
  ·obtain⟨x,hx,h⟩:=hb.cover n (by omega) hk
   exact⟨x,List.mem_append_right _ hx,h⟩
 ·rcases List.mem_append.1 hx with hx|hx
  ·exact ha.above x hx
  ·exact hb.above x hx
 ·rcases List.mem_append.1 hx with hx|hx
  ·obtain⟨e1,e2,e3⟩:=ha.inside x hx
   exact⟨e1,e2,fun n hn=>by rcases e3 n hn with h|h;exact .inl h;exact .inr (by omega)⟩
  ·obtain⟨e1,e2,e3⟩:=hb.inside x hx
   exact⟨e1,e2,fun n hn=>by rcases e3 n hn with h|h;exact .inl h;exact .inr (by omega)⟩
 ·rcases List.mem_append.1 hx with hx|hx
  ·exact ha.text x hx
  ·exact hb.text x hx
/-! ### a word that is replaced -/
end Go.Proofs.YtolpbjjapodmnaaGreatDoor
/- The examples with which the statements about charts begin, in plain Lean. -/
namespace Go.Proofs.YtolpbjjapodmnaaGreatDoor
open Go.RowKit Go.Han
set_option maxRecDepth 100000
def nS:ByteArray:=⟨#[115]⟩
def nNp:ByteArray:=⟨#[110,112]⟩
def nV:ByteArray:=⟨#[118]⟩
def nUnd:ByteArray:=⟨#[117,110,100]⟩
def nAnd:ByteArray:=⟨#[97,110,100]⟩
def nG:ByteArray:=⟨#[103]⟩
def nX:ByteArray:=⟨#[120]⟩
def noS:ByteArray:=⟨#[]⟩
def Z4 (A:Nat→Option Addr):Gram:=⟨nG,⟨A 0,3,[nS,nNp,nV]⟩,nS,0,⟨none,0,[]⟩,⟨A 1,3,[
 ⟨nS,0,⟨A 2,2,[⟨nNp,1,noS⟩,⟨nV,2,noS⟩]⟩,⟨A 3,2,[⟨0,noS⟩,⟨1,noS⟩]⟩,1⟩,
 ⟨nS,0,⟨A 4,1,[⟨nNp,1,noS⟩]⟩,⟨A 5,1,[⟨0,noS⟩]⟩,0⟩,
 ⟨nNp,1,⟨A 6,3,[⟨nNp,1,noS⟩,⟨noS,0,nUnd⟩,⟨nNp,1,noS⟩]⟩,⟨A 7,3,[⟨0,noS⟩,⟨0,nAnd⟩,⟨2,noS⟩]⟩,2⟩]⟩⟩
def Vp (a:Option Addr) (c i k:Int):ItemG:=⟨c,i,i+1,k,⟨a,1,[nX]⟩, -1⟩
def undI (a:Option Addr) (i:Int):ItemG:=⟨-1,i,i+1,0,⟨a,1,[nUnd]⟩, -1⟩
def Xby:TreeV:=.node 0 (-1) 0 2 [Zt 2 0 1,Zt 1 1 2]
def Xj9:TreeV:=.node 2 (-1) 2 5 [Zt 2 2 3,Zt 4 4 5]
def Xab:TreeV:=.node 1 (-1) 0 5 [.node 2 (-1) 0 5 [Zt 0 0 1,Xj9]]
variable (A:Nat→Option Addr) (a b c d e:Option Addr)
end Go.Proofs.YtolpbjjapodmnaaGreatDoor
namespace Go.Proofs.YtolpbjjapodmnaaGreatDoor
open Go.RowKit Go.Han
attribute [local irreducible] wpStill wpQuiet
attribute [local go_sem] Oper.semAt_some
set_option maxRecDepth 100000
end Go.Proofs.YtolpbjjapodmnaaGreatDoor
namespace Go.Proofs.YtolpbjjapodmnaaGreatDoor
open Go.RowKit Go.Han
attribute [local irreducible] wpStill wpQuiet
set_option maxRecDepth 100000
def I6 (n:Int):Prop := -9223372036854775808≤n∧n≤9223372036854775807
mutual
def Z6:TreeV→Prop
 | .node r j i k l=>I6 r∧I6 j∧I6 i∧I6 k∧Ve l
def Ve:List TreeV→Prop
 | []=>True
 | t :: l=>Z6 t∧Ve l
end
theorem Qb:∀ {l:List TreeV},Ve l→∀t∈l,Z6 t
 | [],_,t,ht=>by cases ht
 | x :: l,h,t,ht=>by
  unfold Ve at h
  rcases List.mem_cons.1 ht with rfl|ht
  ·exact h.1
  ·exact Qb h.2 t ht
theorem Xnd {t:TreeV} (h:Z6 t):I6 t.frm∧I6 t.unt:=by
 cases t
 unfold Z6 at h
 exact⟨h.2.2.1,h.2.2.2.1⟩
theorem Xdp {g:Gram} {items:List ItemG} {n m:Nat} (hg:Yu g) (hi:Zr n m items) {t:TreeV} {c cost:Int} (h:X6 g items t c=(cost,true)):0≤cost∧cost≤1000*X5 t:=by
 obtain⟨i,k,_,_,_,_,hm⟩:=Xgx hg hi t c cost h
 have:=Xe2 hg hi _ _ _ _ _ hm
 exact this
structure LiesSt (g:Gram) (items:List ItemG) (R:Int×Bool) (ps:List PartG) (l:List TreeV) (k:Int) (p:Nat) (ks:List TreeV) (at_ cost:Int):Prop where
 eq:Z9 (Xm items) (ps.drop p) (Yl g items ks) at_ k cost=R
 sub:∀t∈ks,t∈l
 fit:I6 at_
 lo:0≤cost
 hi:cost+1000*Xp ks≤1000*(1+Xp l)
section
variable {g:Gram} {items:List ItemG} {R:Int×Bool} {ps:List PartG} {l:List TreeV} {k:Int} {p:Nat} {ks:List TreeV} {at_ cost:Int}
theorem LiesSt.start {c:Int} (h0:0≤c) (h1:c≤1000) {i:Int} (hi:I6 i):LiesSt g items (Z9 (Xm items) ps (Yl g items l) i k c) ps l k 0 l i c :=
 ⟨rfl,fun _ h=>h,hi,h0,by omega⟩
theorem LiesSt.done (h:LiesSt g items R ps l k ps.length ks at_ cost):R=(cost,decide (ks=[]) && decide (at_=k)):=by
 have:=h.eq
 rw[List.drop_length] at this
 rw[← this]
 unfold Z9
 congr 2
 cases ks<;>simp[Yl]
theorem LiesSt.text_no (h:LiesSt g items R ps l k p ks at_ cost) (hp:p<ps.length) (ht:ps[p].text.size≠0) (hn:¬(at_<k∧Xm items at_ ps[p].text=true)):R=(0,false):=by
 have:=h.eq
 rw[List.drop_eq_getElem_cons hp,U9 ht,if_neg hn] at this
 exact this.symm
theorem LiesSt.text (h:LiesSt g items R ps l k p ks at_ cost) (hp:p<ps.length) (ht:ps[p].text.size≠0) (hn:at_<k) (hw:Xm items at_ ps[p].text=true) (hk:I6 k):LiesSt g items R ps l k (p+1) ks (at_+1) cost:=by
 have:=h.eq
 rw[List.drop_eq_getElem_cons hp,U9 ht,if_pos ⟨hn,hw⟩] at this
 exact⟨this,h.sub,by have:=h.fit;unfold I6 at *;omega,h.lo,h.hi⟩
theorem LiesSt.none (h:LiesSt g items R ps l k p [] at_ cost) (hp:p<ps.length) (ht:¬ps[p].text.size≠0):R=(0,false):=by
 have:=h.eq
 rw[List.drop_eq_getElem_cons hp,Yl,Xbt ht] at this
 exact this.symm
theorem LiesSt.cat_frm {t:TreeV} {ks':List TreeV} (h:LiesSt g items R ps l k p (t :: ks') at_ cost) (hp:p<ps.length) (ht:¬ps[p].text.size≠0) (hn:t.frm≠at_):R=(0,false):=by
 have:=h.eq
 rw[List.drop_eq_getElem_cons hp,Yl,U3 ht] at this
 simp only at this
 rw[if_neg hn] at this
 exact this.symm
theorem LiesSt.cat_no {t:TreeV} {ks':List TreeV} (h:LiesSt g items R ps l k p (t :: ks') at_ cost) (hp:p<ps.length) (ht:¬ps[p].text.size≠0) (hf:t.frm=at_) (hn:(X6 g items t ps[p].no).2=false):R=(0,false):=by
 have:=h.eq
 rw[List.drop_eq_getElem_cons hp,Yl,U3 ht] at this
 simp only at this
 rw[if_pos hf,if_neg (by rw[hn];simp)] at this
 exact this.symm
theorem LiesSt.cat {n m:Nat} (hg:Yu g) (hi:Zr n m items) (hfit:∀t∈l,Z6 t) {t:TreeV} {ks':List TreeV} (h:LiesSt g items R ps l k p (t :: ks') at_ cost) (hp:p<ps.length) (ht:¬ps[p].text.size≠0) (hf:t.frm=at_) {c:Int} (hn:X6 g items t ps[p].no=(c,true)):LiesSt g items R ps l k (p+1) ks' t.unt (cost+c):=by
 have:=h.eq
 rw[List.drop_eq_getElem_cons hp,Yl,U3 ht] at this
 simp only at this
 rw[if_pos hf,hn] at this
 simp only[if_true] at this
 have hb:=Xdp hg hi hn
 have h1:=h.hi
 have h2:=h.lo
 rw[Xp] at h1
 exact⟨this,fun x hx=>h.sub x (List.mem_cons_of_mem _ hx),(Xnd (hfit t (h.sub t (List.mem_cons_self ..)))).2,by omega,by push_cast at h1;omega⟩
end
theorem i6_wf {x:Int} (h:I6 x):(Lit.int .i64 x).wf=true:=by
 unfold I6 at h
 simp[Lit.wf,IntKind.min,IntKind.max,IntKind.signed,IntKind.bits]
 omega
theorem WordsM.lookW {Q:Nat→Prop} {W:World} {wb:Nat} {items:List ItemG} (h:WordsM Q W wb items) {i:Int} (h1:I6 i) :
  ∃(A:Option Addr) (cp:Nat) (xs:List ByteArray),(∀W',W'.heap[wb]? = W.heap[wb]? → (Instr.lookup 181 (.map (some wb)) (.int .i64 i) false).run Tryz.prog W' = .ok (.slice A xs.length cp) W')∧(∀W',(∀b,Q b→W'.heap[b]? = W.heap[b]?)→W.heap.size≤W'.heap.size→StrS.lies W' ⟨A,cp,xs⟩)∧∀s,(xs.any fun y=>decide (y=s))=Xm items i s:=by
 obtain⟨n,f,hm,hf⟩:=h
 have hrun:=fun (W':World) (hw:W'.heap[wb]? = W.heap[wb]?)=>Uw U8 T1 intW slcShape ⟨none,0,0⟩ (Xaz W') (hm.of_block hw) i (i6_wf h1)
 have hi:=hf i
 cases hfi:f i with
 | none =>
  rw[hfi] at hrun hi
  have hl:∀V:World,StrS.lies V ⟨none,0,[]⟩:=fun V=>⟨.inl rfl,Nat.le_refl _,by show (0:Nat)≤_;omega,fun _=>rfl⟩
  exact⟨none,0,[],hrun,fun V _ _=>hl V,fun s=>by rw[hi s];rfl⟩
 | some v =>
  rw[hfi] at hrun hi
  obtain⟨xs,e1,e2,⟨b,off,e3,e4⟩,e5⟩:=hi
  refine⟨v.addr,v.cap,xs,?_,fun V hV hz=>Xhy e2 e3 (hV b e4) hz,e5⟩
  rw[← e1];exact hrun
theorem Xoh (A:Option Addr) (cp n:Nat) (W:World) (h:1≤n) :
  (Instr.slice 30 (.slice A n cp) (some (.int .i64 1)) none none).run Tryz.prog W = .ok (.slice (subA A cp 1 5) (n-1) (cp-1)) W:=by
 have e:=run_slice_l (P:=Tryz.prog) (w:=W) 30 A n cp (by rw[Tryz.underlying30];rfl) .i64 (1:Int) (by omega) (by omega)
 rw[e]
 have h3:(Go.sizeOf (Tryz.prog.elem 30)).run Tryz.prog W = .ok 5 W:=by kernel_rfl
 rw[h3]
 rfl
theorem Xqn {w:World} {P:Nat→Prop} {t:TreeV} {l:List TreeV} {css:List (List Value)} {A:Option Addr} {cp:Nat} (hr:Rd w A css.flatten) (hk:KidsAt w P (t :: l) css) (hc:l.length+1≤cp) :
  ∃css',KidsAt w P l css'∧Rd w (subA A cp 1 5) css'.flatten:=by
 unfold KidsAt at hk
 obtain⟨cs,css',rfl,h1,h2⟩:=hk
 refine⟨css',h2,?_⟩
 have h5:=Xbv h1
 unfold subA
 rw[List.flatten_cons] at hr
 rcases hr with h0|⟨b,off,rfl,hb,hcl⟩
 ·have:=congrArg List.length h0
  rw[List.length_append,h5] at this
  simp at this
 ·split
  ·rename_i hcp
   have:l=[]:=List.eq_nil_of_length_eq_zero (by omega)
   subst this
   unfold KidsAt at h2
   rw[h2]
   exact .inl rfl
  ·refine .inr ⟨b,off+5,rfl,hb,fun j u hu=>?_⟩
   rw[Nat.add_assoc]
   refine hcl (5+j) u ?_
   rw[List.getElem?_append_right (by omega),h5,Nat.add_sub_cancel_left]
   exact hu
def T5 (g:Gram) (items:List ItemG) (t:TreeV) (c:Int) (w:World) (e:Ending) (w':World):Prop :=
 e = .returned (.tuple #[.int .i64 (X6 g items t c).1,.bool (X6 g items t c).2])∧Below w.heap.size w w'
set_option maxHeartbeats 4000000 in
theorem Xpr {g:Gram} {its:SlS ItemG} {N:Nat} {e0:World} (hil:ItemsAt e0 its) (_hfew:its.xs.length≤16384) (cb kb wb top:Nat) (xj xi xu:Int) (l:List TreeV) (xa:Option Addr) (xc:Nat) (c:Int) (w:World) (hE:ChEnv e0 cb kb wb top g its N w) :
  Calls Tryz.prog 69 #[.pointer (some ⟨cb,0,none⟩),.agg #[.int .i64 (-1),.int .i64 xj,.int .i64 xi,.int .i64 xu,.slice xa l.length xc],.int .i64 c] w (T5 g its.xs (.node (-1) xj xi xu l) c w):=by
 obtain⟨w1,hw1⟩:∃w1,w.alloc (.cells #[.int .i64 (-1),.int .i64 xj,.int .i64 xi,.int .i64 xu,.slice xa l.length xc] 37)=w1:=⟨_,rfl⟩
 have hB1:=Yn hw1
 have hz1:=Yv hw1
 obtain⟨y0,y1,y2,y3,y4⟩:=gb5 hz1
 have hE1:=hE.ext hB1
 have hch:=hE1.chart
 obtain⟨c0,c1,c2,c3,c4,c5,c6,c7,c8⟩:=gb9 hch
 have c9:=gblk hch 9
 have HE1:=Xa hE1
 have HB1:=Xa hB1
 have Hz1:=Xa hz1
 have hlz:=Xc hz1
 clear hz1 hB1 hch hE
 have HD:=Xa (show X6 g its.xs (.node (-1) xj xi xu l) c=(if xj<0∨(its.xs.length:Int)≤xj∨0<l.length then (0,false) else match its.xs[xj.toNat]? with|some x=>(x.cost,decide (x.cat=c) && decide (x.frm=xi) && decide (x.unt=xu))|none=>(0,false)) by rw[X6,if_pos rfl];rfl)
 by_cases h1:xj<0
 ·have q1:decide (xj<0)=true:=decide_eq_true h1
  have HR:=Xa (HD.out.trans (if_pos (.inl h1)))
  clear HD
  go_enter Tryz.func69,Tryz.ntmps69
  go_wp2_with fail
  go_still (by kernel_rfl)
  go_wp2_with fail
  exact bodyPost_ret (v:=.tuple #[.int .i64 0,.bool false]) (by simp[results,Tryz.results69,go_sem]) rfl ⟨by rw[HR.out],Xb HB1.out (Xi (Below.refl _ _))⟩
 have q1:decide (xj<0)=false:=decide_eq_false h1
 by_cases h2:(its.xs.length:Int)≤xj
 ·have q2:decide ((its.xs.length:Int)≤xj)=true:=decide_eq_true h2
  have HR:=Xa (HD.out.trans (if_pos (.inr (.inl h2))))
  clear HD
  go_enter Tryz.func69,Tryz.ntmps69
  go_wp2_with fail
  go_still (by kernel_rfl)
  go_wp2_with fail
  exact bodyPost_ret (v:=.tuple #[.int .i64 0,.bool false]) (by simp[results,Tryz.results69,go_sem]) rfl ⟨by rw[HR.out],Xb HB1.out (Xi (Below.refl _ _))⟩
 have q2:decide ((its.xs.length:Int)≤xj)=false:=decide_eq_false h2
 by_cases h3:0<l.length
 ·have q3:decide ((0:Int)<(l.length:Int))=true:=decide_eq_true (by omega)
  have HR:=Xa (HD.out.trans (if_pos (.inr (.inr h3))))
  clear HD
  go_enter Tryz.func69,Tryz.ntmps69
  go_wp2_with fail
  go_still (by kernel_rfl)
  go_wp2_with fail
  exact bodyPost_ret (v:=.tuple #[.int .i64 0,.bool false]) (by simp[results,Tryz.results69,go_sem]) rfl ⟨by rw[HR.out],Xb HB1.out (Xi (Below.refl _ _))⟩
 have q3:decide ((0:Int)<(l.length:Int))=false:=decide_eq_false (by omega)
 obtain⟨jn,rfl⟩:∃jn:Nat,xj=(jn:Int):=⟨xj.toNat,by omega⟩
 have hlt:jn<its.xs.length:=by omega
 have HR0:=Xa (HD.out.trans (if_neg (by omega)))
 rw[show ((jn:Int)).toNat=jn by omega,List.getElem?_eq_getElem hlt] at HR0
 obtain⟨bi,oi,hAi,hbi,hci⟩:=hil.lies.at_ ItemG.size_cells (by omega) hlt
 have HC:Hid (∀V,Below w1.heap.size w1 V→V.cell? ⟨cb,6,none⟩=some (.slice (some ⟨bi,oi,none⟩) its.xs.length its.cap)∧(V.cell? ⟨w.heap.size,1,none⟩=some (.int .i64 (jn:Int))∧V.cell? ⟨w.heap.size,2,none⟩=some (.int .i64 xi)∧V.cell? ⟨w.heap.size,3,none⟩=some (.int .i64 xu))∧V.cell? ⟨bi,oi+jn*6,none⟩=some (.int .i64 its.xs[jn].cat)∧V.cell? ⟨bi,oi+jn*6+1,none⟩=some (.int .i64 its.xs[jn].frm)∧V.cell? ⟨bi,oi+jn*6+2,none⟩=some (.int .i64 its.xs[jn].unt)∧V.cell? ⟨bi,oi+jn*6+3,none⟩=some (.int .i64 its.xs[jn].cost)∧V.cell? ⟨bi,oi+jn*6+4,none⟩=some (.slice its.xs[jn].tgt.addr its.xs[jn].tgt.xs.length its.xs[jn].tgt.cap)∧V.cell? ⟨bi,oi+jn*6+5,none⟩=some (.int .i64 its.xs[jn].term)):=fun V hV=>by
  have hh:=(HE1.out.ext hV).chart
  have hz:=Xh hV Hz1.out
  have hW:=(HE1.out.ext hV).low
  refine⟨by rw[← hAi];exact gblk hh 6,⟨gblk hz 1,gblk hz 2,gblk hz 3⟩,hci jn hlt V hW 0 _ rfl,hci jn hlt V hW 1 _ rfl,hci jn hlt V hW 2 _ rfl,hci jn hlt V hW 3 _ rfl,hci jn hlt V hW 4 _ rfl,hci jn hlt V hW 5 _ rfl⟩
 rw[hAi] at c6
 clear hci hAi HD
 generalize its.xs[jn]=z at *
 have hlw:=Xa (Xi (Xi (Below.refl w1.heap.size w1)))
 go_enter Tryz.func69,Tryz.ntmps69
 go_wp2_with fail
 go_still (by kernel_rfl)
 go_wp2_with fail
 refine wpIn_wide (n:=0) |>.1 ?_
 refine Y4 _ ?_ (fun _ _ h=>h)
 refine Xo (fun V=>Below w1.heap.size w1 V) (by kernel_rfl) ?_
 refine Xd (i:=0) rfl (by kernel_rfl) (fun _ _ _ h=>h) (fun V hV=>(by obtain⟨m0,⟨m1,m2,m3⟩,r0,r1,r2,r3,r4,r5⟩:=HC.out V hV;go_simp<;>rfl)) ?_
 refine Xd (i:=1) rfl (by kernel_rfl) (fun _ _ _ h=>h) (fun V hV=>(by obtain⟨m0,⟨m1,m2,m3⟩,r0,r1,r2,r3,r4,r5⟩:=HC.out V hV;go_simp<;>rfl)) ?_
 refine Xd (i:=2) rfl (by kernel_rfl) (fun _ _ _ h=>h) (fun V hV=>(by obtain⟨m0,⟨m1,m2,m3⟩,r0,r1,r2,r3,r4,r5⟩:=HC.out V hV;go_simp<;>rfl)) ?_
 refine Xd (i:=3) rfl (by kernel_rfl) (fun _ _ _ h=>h) (fun V hV=>(by obtain⟨m0,⟨m1,m2,m3⟩,r0,r1,r2,r3,r4,r5⟩:=HC.out V hV;go_simp<;>rfl)) ?_
 refine Xd (i:=4) rfl (by kernel_rfl) (fun _ _ _ h=>h) (fun V hV=>(by obtain⟨m0,⟨m1,m2,m3⟩,r0,r1,r2,r3,r4,r5⟩:=HC.out V hV;go_simp<;>rfl)) ?_
 refine Xd (i:=5) rfl (by kernel_rfl) (fun _ _ _ h=>h) (fun V hV=>(by obtain⟨m0,⟨m1,m2,m3⟩,r0,r1,r2,r3,r4,r5⟩:=HC.out V hV;go_simp<;>rfl)) ?_
 refine Xd (i:=6) rfl (by kernel_rfl) (fun _ _ _ h=>h) (fun V hV=>(by obtain⟨m0,⟨m1,m2,m3⟩,r0,r1,r2,r3,r4,r5⟩:=HC.out V hV;go_simp<;>rfl)) ?_
 refine Xd (i:=7) (v:=.agg #[.int .i64 z.cat,.int .i64 z.frm,.int .i64 z.unt,.int .i64 z.cost,.slice z.tgt.addr z.tgt.xs.length z.tgt.cap,.int .i64 z.term]) rfl (by kernel_rfl) (fun _ _ _ h=>h) (fun V hV=>(by obtain⟨m0,⟨m1,m2,m3⟩,r0,r1,r2,r3,r4,r5⟩:=HC.out V hV;go_simp)) ?_
 refine Xg (i:=8) hlw.out (by kernel_rfl) rfl (fun K hK=>?_)
 go_simp
 refine hK _ _ ?_
 clear hK K
 have hB8:=Xe hlw.out (.cells #[.int .i64 0,.int .i64 0,.int .i64 0,.int .i64 0,.slice none 0 0,.int .i64 0] 53)
 refine Xg (i:=9) hB8 (by kernel_rfl) rfl (fun K hK=>?_)
 go_simp
 refine hK _ _ ?_
 clear hK K
 obtain⟨w2,hw2⟩:∃w2,(w1.alloc (.cells #[.int .i64 z.cat,.int .i64 z.frm,.int .i64 z.unt,.int .i64 z.cost,.slice z.tgt.addr z.tgt.xs.length z.tgt.cap,.int .i64 z.term] 53)).drew.drew=w2:=⟨_,rfl⟩
 have hb2:Below w1.heap.size w1 w2:=by rw[← hw2];exact Xi (Xi (Xe (Below.refl _ _) _))
 have hz2:w2.heap[w1.heap.size]? = some (.cells #[.int .i64 z.cat,.int .i64 z.frm,.int .i64 z.unt,.int .i64 z.cost,.slice z.tgt.addr z.tgt.xs.length z.tgt.cap,.int .i64 z.term] 53 (0,0)):=by rw[← hw2];exact World.alloc_heap_new _ _
 rw[hw2]
 refine Xl hb2 (by kernel_rfl) ?_ _
 obtain⟨m0,⟨m1,m2,m3⟩,r0,r1,r2,r3,r4,r5⟩:=HC.out w2 hb2
 obtain⟨e0,e1,e2,e3,e4,e5⟩:=gb6 hz2
 have Hb2:=Xa (Xb HB1.out hb2)
 replace HR0:Hid (X6 g its.xs (.node (-1) (jn:Int) xi xu l) c=(z.cost,decide (z.cat=c) && decide (z.frm=xi) && decide (z.unt=xu))):=HR0.out
 clear hz2 hb2 hw2 hB8 hlw r0 r1 r2 r3 r4 r5 m0 c0 c1 c2 c3 c4 c5 c6 c7 c8 c9 y0 y1 y2 y3 y4
 by_cases h1:z.cat=c
 rotate_left
 ·have k1:(z.cat == c)=false:=by simpa using h1
  have HR:=Xa (show X6 g its.xs (.node (-1) (jn:Int) xi xu l) c=(z.cost,false) by rw[HR0.out,decide_eq_false h1];rfl)
  clear HR0 h1
  go_wp2_with fail
  go_still (by kernel_rfl)
  go_wp2_with fail
  exact bodyPost_ret (v:=.tuple #[.int .i64 z.cost,.bool false]) (by simp[results,Tryz.results69,go_sem]) rfl ⟨by rw[HR.out],Xb Hb2.out (Xi (Below.refl _ _))⟩
 have k1:(z.cat == c)=true:=by simpa using h1
 replace HR0:Hid (X6 g its.xs (.node (-1) (jn:Int) xi xu l) c=(z.cost,decide (z.frm=xi) && decide (z.unt=xu))):=by have h:=HR0.out;rw[decide_eq_true h1] at h;exact h
 by_cases h2:z.frm=xi
 rotate_left
 ·have k2:(z.frm == xi)=false:=by simpa using h2
  have HR:=Xa (show X6 g its.xs (.node (-1) (jn:Int) xi xu l) c=(z.cost,false) by rw[HR0.out,decide_eq_false h2];rfl)
  clear HR0 h2
  go_wp2_with fail
  go_still (by kernel_rfl)
  go_wp2_with fail
  exact bodyPost_ret (v:=.tuple #[.int .i64 z.cost,.bool false]) (by simp[results,Tryz.results69,go_sem]) rfl ⟨by rw[HR.out],Xb Hb2.out (Xi (Below.refl _ _))⟩
 have k2:(z.frm == xi)=true:=by simpa using h2
 replace HR0:Hid (X6 g its.xs (.node (-1) (jn:Int) xi xu l) c=(z.cost,decide (z.unt=xu))):=by have h:=HR0.out;rw[decide_eq_true h2] at h;exact h
 by_cases h3:z.unt=xu
 rotate_left
 ·have k3:(z.unt == xu)=false:=by simpa using h3
  have HR:=Xa (show X6 g its.xs (.node (-1) (jn:Int) xi xu l) c=(z.cost,false) by rw[HR0.out,decide_eq_false h3])
  clear HR0 h3
  go_wp2_with fail
  go_still (by kernel_rfl)
  go_wp2_with fail
  exact bodyPost_ret (v:=.tuple #[.int .i64 z.cost,.bool false]) (by simp[results,Tryz.results69,go_sem]) rfl ⟨by rw[HR.out],Xb Hb2.out (Xi (Below.refl _ _))⟩
 have k3:(z.unt == xu)=true:=by simpa using h3
 have HR:=Xa (show X6 g its.xs (.node (-1) (jn:Int) xi xu l) c=(z.cost,true) by rw[HR0.out,decide_eq_true h3])
 clear HR0 h1 h2 h3
 go_wp2_with fail
 go_still (by kernel_rfl)
 go_wp2_with fail
 exact bodyPost_ret (v:=.tuple #[.int .i64 z.cost,.bool true]) (by simp[results,Tryz.results69,go_sem]) rfl ⟨by rw[HR.out],Xb Hb2.out (Xi (Below.refl _ _))⟩
set_option maxHeartbeats 8000000 in
theorem Xre {g:Gram} {its:SlS ItemG} {N:Nat} {e0:World} (hgl:g.lies e0) (cb kb wb top:Nat) (xr xj xi xu:Int) (l:List TreeV) (xa:Option Addr) (xc:Nat) (c:Int) (w:World) (hE:ChEnv e0 cb kb wb top g its N w)
  (hr1:xr ≠ -1) (hbad:∀(rn:Nat) (h:rn<g.rules.xs.length),xj = -1→xr=(rn:Int)→g.rules.xs[rn].no≠c) :
  Calls Tryz.prog 69 #[.pointer (some ⟨cb,0,none⟩),.agg #[.int .i64 xr,.int .i64 xj,.int .i64 xi,.int .i64 xu,.slice xa l.length xc],.int .i64 c] w (T5 g its.xs (.node xr xj xi xu l) c w):=by
 obtain⟨w1,hw1⟩:∃w1,w.alloc (.cells #[.int .i64 xr,.int .i64 xj,.int .i64 xi,.int .i64 xu,.slice xa l.length xc] 37)=w1:=⟨_,rfl⟩
 have hB1:=Yn hw1
 have hz1:=Yv hw1
 obtain⟨y0,y1,y2,y3,y4⟩:=gb5 hz1
 have hE1:=hE.ext hB1
 have hch:=hE1.chart
 obtain⟨c0,c1,c2,c3,c4,c5,c6,c7,c8⟩:=gb9 hch
 have c9:=gblk hch 9
 have HE1:=Xa hE1
 have HB1:=Xa hB1
 have Hz1:=Xa hz1
 have hlz:=Xc hz1
 clear hz1 hB1 hch hE
 have k0:(xr == -1)=false:=by simpa using hr1
 have HD:=Xa (show X6 g its.xs (.node xr xj xi xu l) c=(if xj ≠ -1∨xr<0∨(g.rules.xs.length:Int)≤xr then (0,false) else match g.rules.xs[xr.toNat]? with|none=>(0,false)|some x=>if x.no=c then Z9 (Xm its.xs) x.parts.xs (Yl g its.xs l) xi xu x.cost else (0,false)) by rw[X6,if_neg hr1];rfl)
 by_cases h1:xj ≠ -1
 ·have q1:(xj != -1)=true:=by simpa using h1
  have HR:=Xa (HD.out.trans (if_pos (.inl h1)))
  clear hbad
  clear HD
  go_enter Tryz.func69,Tryz.ntmps69
  go_wp2_with fail
  go_still (by kernel_rfl)
  go_wp2_with fail
  exact bodyPost_ret (v:=.tuple #[.int .i64 0,.bool false]) (by simp[results,Tryz.results69,go_sem]) rfl ⟨by rw[HR.out],Xb HB1.out (Xi (Below.refl _ _))⟩
 have hj1:xj = -1:=by simpa using h1
 subst hj1
 by_cases h2:xr<0
 ·have q2:decide (xr<0)=true:=decide_eq_true h2
  have HR:=Xa (HD.out.trans (if_pos (.inr (.inl h2))))
  clear HD
  go_enter Tryz.func69,Tryz.ntmps69
  go_wp2_with fail
  go_still (by kernel_rfl)
  go_wp2_with fail
  exact bodyPost_ret (v:=.tuple #[.int .i64 0,.bool false]) (by simp[results,Tryz.results69,go_sem]) rfl ⟨by rw[HR.out],Xb HB1.out (Xi (Below.refl _ _))⟩
 have q2:decide (xr<0)=false:=decide_eq_false h2
 by_cases h3:(g.rules.xs.length:Int)≤xr
 ·have q3:decide ((g.rules.xs.length:Int)≤xr)=true:=decide_eq_true h3
  have HR:=Xa (HD.out.trans (if_pos (.inr (.inr h3))))
  clear HD
  go_enter Tryz.func69,Tryz.ntmps69
  go_wp2_with fail
  go_still (by kernel_rfl)
  go_wp2_with fail
  exact bodyPost_ret (v:=.tuple #[.int .i64 0,.bool false]) (by simp[results,Tryz.results69,go_sem]) rfl ⟨by rw[HR.out],Xb HB1.out (Xi (Below.refl _ _))⟩
 have q3:decide ((g.rules.xs.length:Int)≤xr)=false:=decide_eq_false h3
 obtain⟨rn,rfl⟩:∃rn:Nat,xr=(rn:Int):=⟨xr.toNat,by omega⟩
 have hlt:rn<g.rules.xs.length:=by omega
 have HR0:=HD.out.trans (if_neg (by omega))
 rw[show ((rn:Int)).toNat=rn by omega,List.getElem?_eq_getElem hlt] at HR0
 obtain⟨bR,oR,hRa,hbR,hRc⟩:=hgl.rules.at_ RuleG.size_cells (by omega) hlt
 have d0:w1.cell? ⟨bR,oR+rn*5,none⟩=some (.string g.rules.xs[rn].cat):=hRc rn hlt w1 HE1.out.low 0 _ rfl
 have d1:w1.cell? ⟨bR,oR+rn*5+1,none⟩=some (.int .i64 g.rules.xs[rn].no):=hRc rn hlt w1 HE1.out.low 1 _ rfl
 have d2:w1.cell? ⟨bR,oR+rn*5+2,none⟩=some (.slice g.rules.xs[rn].parts.addr g.rules.xs[rn].parts.xs.length g.rules.xs[rn].parts.cap):=hRc rn hlt w1 HE1.out.low 2 _ rfl
 have d3:w1.cell? ⟨bR,oR+rn*5+3,none⟩=some (.slice g.rules.xs[rn].gives.addr g.rules.xs[rn].gives.xs.length g.rules.xs[rn].gives.cap):=hRc rn hlt w1 HE1.out.low 3 _ rfl
 have d4:w1.cell? ⟨bR,oR+rn*5+4,none⟩=some (.int .i64 g.rules.xs[rn].cost):=hRc rn hlt w1 HE1.out.low 4 _ rfl
 have hno:=hbad rn hlt rfl rfl
 have hbR1:bR<w1.heap.size:=Nat.lt_of_lt_of_le hbR HE1.out.low.size
 rw[hRa] at c5
 clear hRc HD hr1
 generalize g.rules.xs[rn]=ru at *
 simp only at HR0
 have k1:(ru.no != c)=true:=by simpa using hno
 have k1b:(ru.no == c)=false:=by simpa using hno
 have HR:=Xa (HR0.trans (if_neg hno))
 clear HR0
 go_enter Tryz.func69,Tryz.ntmps69
 go_wp2_with fail
 go_still (by kernel_rfl)
 go_wp2_with fail
 exact bodyPost_ret (v:=.tuple #[.int .i64 0,.bool false]) (by simp[results,Tryz.results69,go_sem]) rfl ⟨by rw[HR.out],Xb HB1.out (Xi (Below.refl _ _))⟩
end Go.Proofs.YtolpbjjapodmnaaGreatDoor
