/- Texts of this claim, one after the other: MorP, WgtP, Law29m. -/
import Derived.Test.YthojaplnimoacaaGreatDoorM10
import Derived.Test.YthojaplnimoacaaGreatDoorM13
import Derived.Test.YthojaplnimoacaaGreatDoorM24
import Derived.Test.YthojaplnimoacaaGreatDoorM15
namespace Go.Proofs.YthojaplnimoacaaGreatDoor
open Go.RowKit Go.Han
set_option maxRecDepth 100000
theorem Xsj {g:Gram} {items:List ItemG} {n:Int} {t:TreeV} {c e:Int} {ok:Bool} (h0:errC g items n=0) (hb:Zj g items n=(t,c,ok,e)):e=0∧(ok=true↔0<(derG g items g.startNo 0 n.toNat).length)∧(ok=true→∃x,Xv (derG g items g.startNo 0 n.toNat)=some x∧x.1=c)∧(∀x,Xv (derG g items g.startNo 0 n.toNat)=some x→x.1=c):=by
 unfold Zj at hb
 rw[if_neg (fun hn=>hn h0)] at hb
 unfold Xdi at hb
 split at hb
 ·rename_i hn
  cases hb
  have h1:=Zv hn
  refine⟨rfl,by rw[h1];simp,(fun h=>by cases h),fun x hx=>by rw[hn] at hx;cases hx⟩
 ·rename_i y hy
  cases hb
  refine⟨rfl,⟨fun _=>List.length_pos_of_mem (Zu hy).1,fun _=>rfl⟩,fun _=>⟨y,hy,rfl⟩,fun x hx=>by rw[hy] at hx;cases hx;rfl⟩
theorem U0 {g:Gram} {items:List ItemG} {n:Int} {c e:Int} (h0:errC g items n=0) (hb:Vw g items n=(c,e)):(e=2∧c=0∧bigN<(derG g items g.startNo 0 n.toNat).length)∨(e=0∧c=((derG g items g.startNo 0 n.toNat).length:Int)∧(derG g items g.startNo 0 n.toNat).length≤bigN):=by
 unfold Vw at hb
 rw[if_neg (fun hn=>hn h0)] at hb
 unfold Xp6 capN at hb
 generalize (derG g items g.startNo 0 n.toNat).length=m at *
 by_cases hm:bigN<m
 ·rw[if_pos (by omega)] at hb
  cases hb
  exact .inl ⟨rfl,rfl,hm⟩
 ·rw[if_neg (by omega)] at hb
  cases hb
  exact .inr ⟨rfl,by omega,by omega⟩
def Xst (a e b f:Int) (ok is:Bool):Bool :=
 if e≠0∨f≠0 then decide (f=2) else decide (a≤b) && (is == decide (0<b)) && (ok == decide (0<a))
theorem Xss {g:Gram} {items:List ItemG} {x:ItemG} {n:Int} {a e b f:Int} {t u:TreeV} {c d i j:Int} {ok is:Bool} (h1:errC g (items++[x]) n=0)
  (ha:Vw g items n=(a,e)) (hb:Vw g (items++[x]) n=(b,f)) (hc:Zj g items n=(t,c,ok,i)) (hd:Zj g (items++[x]) n=(u,d,is,j)) :
  i=0∧j=0∧(ok=true→is=true∧d≤c)∧Xst a e b f ok is=true:=by
 have h:=Vx h1
 have h0:errC g items n=0:=by
  unfold errC
  have e1:=h.n1
  have e2:=h.n16
  have e3:=h.few
  rw[List.length_append] at e3
  rw[if_neg (fun hn=>hn h.check),if_neg (by omega),if_neg (by omega),if_pos (List.all_eq_true.2 fun y hy=>h.right y (List.mem_append_left _ hy))]
 obtain⟨rfl,k1,k2,k3⟩:=Xsj h0 hc
 obtain⟨rfl,m1,m2,m3⟩:=Xsj h1 hd
 have hs:(derG g items g.startNo 0 n.toNat).Sublist (derG g (items++[x]) g.startNo 0 n.toNat):=Xmz g items x _ _ _ _
 have hl:=hs.length_le
 refine⟨rfl,rfl,fun hok=>?_,?_⟩
 ·obtain⟨y,hy,rfl⟩:=k2 hok
  obtain⟨z,hz,hle⟩:=Xsr hs hy
  exact⟨m1.2 (List.length_pos_of_mem (Zu hz).1),by rw[← m3 z hz];exact hle⟩
 ·have p1:=U0 h0 ha
  have p2:=U0 h1 hb
  generalize (derG g items g.startNo 0 n.toNat).length=l1 at *
  generalize (derG g (items++[x]) g.startNo 0 n.toNat).length=l2 at *
  unfold Xst
  rcases p1 with ⟨rfl,rfl,p3⟩|⟨rfl,rfl,p3⟩<;>rcases p2 with ⟨rfl,rfl,p4⟩|⟨rfl,rfl,p4⟩
  ·rfl
  ·omega
  ·rfl
  ·rw[if_neg (by omega)]
   have q1:ok=decide (0<(l1:Int)):=by
    rw[Bool.eq_iff_iff,k1,decide_eq_true_eq];omega
   have q2:is=decide (0<(l2:Int)):=by
    rw[Bool.eq_iff_iff,m1,decide_eq_true_eq];omega
   rw[← q1,← q2]
   simp
   omega
end Go.Proofs.YthojaplnimoacaaGreatDoor
namespace Go.Proofs.YthojaplnimoacaaGreatDoor
open Go.RowKit Go.Han Go.ChangeShapes Go.WideShapes Go.ChangeAt Go.Deep
set_option maxRecDepth 100000
section
variable {H:Type} {enc:TypeId×Value→H} {w:World} {spare:Nat→Bool} {held:Bool}
theorem Xsg {P:Program} {q:Nat→Bool}:∀(ts:List TypeId) (ds:List (DataW H)) (j:Nat) (t:TypeId) (d:DataW H),(DataW.weightsEach P ts ds).all q=true→ts[j]? = some t→ds[j]? = some d→(d.weights P t).all q=true
 | [],_,j,t,d,_,h,_=>by simp at h
 | _ :: _,[],j,t,d,_,_,h=>by simp at h
 | t0 :: ts,d0 :: ds,0,t,d,hw,ht,hd=>by
  simp only[List.getElem?_cons_zero,Option.some.injEq] at ht hd
  subst ht hd
  unfold DataW.weightsEach at hw
  rw[List.all_append,Bool.and_eq_true] at hw
  exact hw.1
 | t0 :: ts,d0 :: ds,j+1,t,d,hw,ht,hd=>by
  rw[List.getElem?_cons_succ] at ht hd
  unfold DataW.weightsEach at hw
  rw[List.all_append,Bool.and_eq_true] at hw
  exact Xsg ts ds j t d hw.2 ht hd
theorem Xsq {fuel:Nat} {A:Option Addr} {n c:Nat} {x:DataW H×List MemPlace} (h:DataW.trod enc Tryz.prog w 0 spare held fuel 27 [.slice A n c]=some x) (hw:(x.1.weights Tryz.prog 27).all (fun k=>decide (k≤reachBytes))=true):n*64≤140737488351232:=by
 rcases open_slice Tryz.underlying27 h with ⟨e,_⟩|⟨a,len,cap,m,n',D,Pl,e,_,hl,_,hmm,rfl,_⟩
 ·injection e with e _
  injection e with _ e _
  omega
 ·injection e with e _
  injection e with _ e _
  subst e
  simp only[DataW.weights] at hw
  rw[Tryz.underlying27] at hw
  simp only[List.all_cons,Bool.and_eq_true,decide_eq_true_eq,List.length_map,List.length_range] at hw
  have h1:=hw.1
  rw[show Program.bytesOf Tryz.prog 47=64 by kernel_rfl] at h1
  unfold reachBytes at h1
  have:n≤n+(m-n):=Nat.le_add_right _ _
  have h2:=Nat.mul_le_mul_right 64 this
  exact Nat.le_trans h2 h1
end
end Go.Proofs.YthojaplnimoacaaGreatDoor
namespace Go.Proofs.YthojaplnimoacaaGreatDoor
open Go.RowKit Go.Han
attribute [local irreducible] wpStill wpQuiet
set_option maxRecDepth 100000
structure MoreS (w8 V:World) (v:Value) (l:List ItemG) (bx:Option Nat) (x:ItemG):Prop where
 below:Below w8.heap.size w8 V
 own:OwnL ItemG.cells 47 6 V w8.heap.size v l
 box:∀b,bx=some b→V.heap[b]? = some (.cells #[.int .i64 x.cat,.int .i64 x.frm,.int .i64 x.unt,.int .i64 x.cost,.slice x.tgt.addr x.tgt.xs.length x.tgt.cap,.int .i64 x.term] 47 (0,0))∧v.ownBlock≠some b
theorem MoreS.start {w8 V:World} {x:ItemG} (h:Below w8.heap.size w8 V):MoreS w8 (V.alloc (.cells #[] 47)) (.slice (some ⟨V.heap.size,0,none⟩) 0 0) [] none x :=
 ⟨Xe h _,Xg1 (World.alloc_heap_new _ _) h.size,fun _ h=>(by cases h)⟩
theorem MoreS.start2 {w8 V:World} {x:ItemG} (h:Below w8.heap.size w8 V):MoreS w8 ((V.alloc (.cells #[.int .i64 x.cat,.int .i64 x.frm,.int .i64 x.unt,.int .i64 x.cost,.slice x.tgt.addr x.tgt.xs.length x.tgt.cap,.int .i64 x.term] 47)).alloc (.cells #[] 47)) (.slice (some ⟨V.heap.size+1,0,none⟩) 0 0) [] (some V.heap.size) x:=by
 refine⟨Xe (Xe h _) _,Xg1 (X0 _ _ _ (by simp)) (by have:=h.size;omega),fun b hb=>?_⟩
 cases hb
 exact⟨(Below.heap_alloc _ _ _ (by simp)).trans (World.alloc_heap_new _ _),by simp[Value.ownBlock]⟩
theorem MoreS.boxed {w8 V:World} {v:Value} {l:List ItemG} {x:ItemG} (h:MoreS w8 V v l none x):MoreS w8 (V.alloc (.cells #[.int .i64 x.cat,.int .i64 x.frm,.int .i64 x.unt,.int .i64 x.cost,.slice x.tgt.addr x.tgt.xs.length x.tgt.cap,.int .i64 x.term] 47)) v l (some V.heap.size) x:=by
 refine⟨Xe h.below _,h.own.ext (Xe (Below.refl _ _) _),fun b hb=>?_⟩
 cases hb
 exact⟨World.alloc_heap_new _ _,fun e=>by have:=(h.own.lt _ e).2;omega⟩
theorem MoreS.app {w8 V:World} {v:Value} {l:List ItemG} {bx:Option Nat} {x:ItemG} (h:MoreS w8 V v l bx x) {A:Option Addr} {cp k:Nat} {m:List ItemG} (hr:Rd V A (m.flatMap ItemG.cells)) (hk:m.length=k) (hl:(l.length+k)*64≤140737488355328) :
  ∃v' V',(Builtin.append_ #[27,27] 27 #[v,.slice A k cp]).run Tryz.prog V = .ok v' V'∧MoreS w8 V' v' (l++m) bx x:=by
 subst hk
 obtain⟨i0,z0,hi0,hz0,hz1,hz2,hzs⟩:=Xk9
 have hfl:∀l:List ItemG,(l.flatMap ItemG.cells).length=l.length*6:=fun l=>by
  induction l with
  | nil=>rfl
  | cons x l ih=>rw[List.flatMap_cons,List.length_append,ih,ItemG.size_cells,List.length_cons];omega
 have hone:∀u∈m.flatMap ItemG.cells,u.oneCell'=true:=by
  intro u hu
  obtain⟨y,_,hy⟩:=List.mem_flatMap.1 hu
  simp[ItemG.cells] at hy
  rcases hy with rfl|rfl|rfl|rfl|rfl|rfl<;>rfl
 obtain⟨v',V',hrun,hown,hg,hat⟩:=Xa6 (P:=Tryz.prog) (w:=V) w8.heap.size 27 27 47 i0 z0 6 64 Tryz.underlying27 hi0 hz0 hz1 hz2 hzs (by decide) v l.length (l.flatMap ItemG.cells) h.own A m.length cp (m.flatMap ItemG.cells) (hfl m) hr hone (by unfold maxLen;omega) (by omega) h.below.size
 refine⟨v',V',hrun,Xgk h.below h.own (Nat.le_refl _) hg,?_,fun b hb=>?_⟩
 ·unfold OwnL
  rw[List.length_append,List.flatMap_append]
  exact hown
 ·obtain⟨h2,h3⟩:=h.box b hb
  refine⟨(hg.block b (Xc h2) (fun e=>h3 e.symm)).trans h2,?_⟩
  rcases hat with e|e
  ·rw[e];exact h3
  ·rw[e];intro e2;injection e2 with e2;have:=Xc h2;omega
theorem MoreS.one {w8 V:World} {v:Value} {l:List ItemG} {b:Nat} {x:ItemG} (h:MoreS w8 V v l (some b) x) (hl:(l.length+1)*64≤140737488355328) :
  ∃v' V',(Builtin.append_ #[27,27] 27 #[v,.slice (some ⟨b,0,none⟩) 1 1]).run Tryz.prog V = .ok v' V'∧MoreS w8 V' v' (l++[x]) (some b) x :=
 h.app (m:=[x]) (Yw (h.box b rfl).1 (by simp[ItemG.cells])) rfl hl
def MoreF (w8:World) (l:List ItemG) (v:Value) (V:World):Prop:=∃A c,v = .slice A l.length c∧ItemsAt V ⟨A,c,l⟩∧Below w8.heap.size w8 V
theorem MoreS.done {w8 V:World} {v:Value} {l:List ItemG} {bx:Option Nat} {x:ItemG} (h:MoreS w8 V v l bx x) (ht:∀x∈l,x.tgt.lies w8):MoreF w8 l v V:=by
 obtain⟨A,c,rfl,hr,hn⟩:=h.own.form (by decide)
 have hb:l.length≤c∧c≤9223372036854775807:=by
  rcases h.own.2 with ⟨h1,_⟩|⟨g9,c9,cur,h1,h2,h3,h4,h5,_⟩
  ·injection h1 with _ e2 e3
   omega
  ·injection h1 with e1 _ e3
   subst e3
   exact⟨h4,by unfold maxLen at h5;omega⟩
 exact⟨A,c,rfl,⟨⟨hr,hb.1,hb.2,hn⟩,fun x hx=>StrS.lies.ext (ht x hx) h.below⟩,h.below⟩
set_option maxHeartbeats 8000000 in
theorem Xsh (g:Gram) (its:SlS ItemG) (n:Int) (x:ItemG) (w:World) (hT:TabsG w) (hg:g.lies w) (hs:g.short) (hi:ItemsAt w its) (hx:x.tgt.lies w) (hwt:its.xs.length*64≤140737488351232) :
  Calls Tryz.prog 7 #[.agg #[.string g.name,.slice g.cats.addr g.cats.xs.length g.cats.cap,.string g.start,.int .i64 g.startNo,.slice g.entries.addr g.entries.xs.length g.entries.cap,.slice g.rules.addr g.rules.xs.length g.rules.cap],.slice its.addr its.xs.length its.cap,.int .i64 n,.agg #[.int .i64 x.cat,.int .i64 x.frm,.int .i64 x.unt,.int .i64 x.cost,.slice x.tgt.addr x.tgt.xs.length x.tgt.cap,.int .i64 x.term]] w fun e w'=>e = .returned (.bool true)∧Below w.heap.size w w':=by
 obtain⟨W1,hW1⟩:∃v,(w.alloc (.cells #[.string g.name,.slice g.cats.addr g.cats.xs.length g.cats.cap,.string g.start,.int .i64 g.startNo,.slice g.entries.addr g.entries.xs.length g.entries.cap,.slice g.rules.addr g.rules.xs.length g.rules.cap] 26)).alloc (.cells #[.int .i64 x.cat,.int .i64 x.frm,.int .i64 x.unt,.int .i64 x.cost,.slice x.tgt.addr x.tgt.xs.length x.tgt.cap,.int .i64 x.term] 47)=v:=⟨_,rfl⟩
 have hB1:Below w.heap.size w W1:=by rw[← hW1];exact Xe (Xe (Below.refl _ _) _) _
 have hk0:W1.heap[w.heap.size]? = some (.cells #[.string g.name,.slice g.cats.addr g.cats.xs.length g.cats.cap,.string g.start,.int .i64 g.startNo,.slice g.entries.addr g.entries.xs.length g.entries.cap,.slice g.rules.addr g.rules.xs.length g.rules.cap] 26 (0,0)):=by rw[← hW1];exact(Below.heap_alloc _ _ _ (by simp)).trans (World.alloc_heap_new _ _)
 have hk1:W1.heap[w.heap.size+1]? = some (.cells #[.int .i64 x.cat,.int .i64 x.frm,.int .i64 x.unt,.int .i64 x.cost,.slice x.tgt.addr x.tgt.xs.length x.tgt.cap,.int .i64 x.term] 47 (0,0)):=by rw[← hW1];exact X0 _ _ _ (by simp)
 have HT:=Xa (fun V (hV:Below w.heap.size w V)=>hT.ext hV)
 have HG:=Xa (fun V (hV:Below w.heap.size w V)=>hg.ext hV)
 have HI:=Xa (fun V (hV:Below w.heap.size w V)=>hi.ext hV)
 have HX:=Xa (fun V (hV:Below w.heap.size w V)=>StrS.lies.ext hx hV)
 have Hs:=Xa hs
 have HB:=Xa hB1
 have HK:=Xa hk0
 have HY:=Xa hk1
 have Hwt:=Xa hwt
 clear hT hg hs hi hx hk0 hk1 hB1 hwt
 go_enter Tryz.func7,Tryz.ntmps7
 go_wp2_with fail
 clear hW1
 refine(Xln W1 (HT.out _ HB.out)).mono ?_
 rintro e w2 ⟨rfl,hb⟩
 replace HB:=Xa (Xb HB.out hb)
 replace HK:=Xa (Xh hb HK.out)
 replace HY:=Xa (Xh hb HY.out)
 clear hb
 obtain⟨l',hl'⟩:∃l,its.xs++[x]=l:=⟨_,rfl⟩
 have Hl':=Xa hl'
 have Htg:Hid (∀y∈l',y.tgt.lies w2):=fun y hy=>by
  rw[← hl'] at hy
  rcases List.mem_append.1 hy with hy|hy
  ·exact(HI.out _ HB.out).tgt y hy
  ·rw[List.mem_singleton.1 hy];exact HX.out _ HB.out
 have Hrd:Hid (∀V,Below w2.heap.size w2 V→Rd V its.addr (its.xs.flatMap ItemG.cells)):=fun V hV=>(HI.out _ (Xb HB.out hV)).lies.rd
 have Hlen:Hid (l'.length=its.xs.length+1):=by show _=_;rw[← hl',List.length_append];rfl
 clear hl'
 obtain⟨L,hL⟩:∃L,its.xs.length=L:=⟨_,rfl⟩
 have HL:=Xa hL
 rw[hL]
 clear hL
 go_wp2_with fail
 refine wpIn_wide (n:=0) |>.1 ?_
 refine Tb (fun (y:Nat→Value) a=>{a with tmps:=((((((a.tmps.setIfInBounds 24 (y 0)).setIfInBounds 25 (.slice its.addr L its.cap)).setIfInBounds 26 (y 1)).setIfInBounds 27 (.agg #[.int .i64 x.cat,.int .i64 x.frm,.int .i64 x.unt,.int .i64 x.cost,.slice x.tgt.addr x.tgt.xs.length x.tgt.cap,.int .i64 x.term])).setIfInBounds 28 (y 2)).setIfInBounds 29 (y 3)).setIfInBounds 9 (y 3)}) (fun y v=>MoreF w2 l' (y 3) v) ?_ ?_
 ·refine Xo (fun V=>Below w2.heap.size w2 V) (by kernel_rfl) ?_
  have hC0:Below w2.heap.size w2 w2.drew:=Xi (Below.refl _ _)
  refine Xd (i:=1) rfl (by kernel_rfl) (fun _ _ _ h=>h) (fun V hV=>(by skip;go_simp<;>rfl)) ?_
  refine Xd (i:=3) (v:=.agg #[.int .i64 x.cat,.int .i64 x.frm,.int .i64 x.unt,.int .i64 x.cost,.slice x.tgt.addr x.tgt.xs.length x.tgt.cap,.int .i64 x.term]) rfl (by kernel_rfl) (fun _ _ _ h=>h) (fun V hV=>(by have hk:=Xh hV HY.out;have c0:=gblk hk 0;have c1':=gblk hk 1;have c2:=gblk hk 2;have c3:=gblk hk 3;have c4:=gblk hk 4;have c5:=gblk hk 5;go_simp)) ?_
  refine Xs (rs:=[0,4]) hC0 (by kernel_rfl) (by simp) (AllC.cons rfl (fun K hK=>?_) (AllC.cons rfl (fun K hK=>?_) AllC.nil))
  ·skip
   go_simp
   refine hK _ _ ?_
   clear hK K
   have hS1:=MoreS.start (x:=x) hC0
   obtain⟨V1,hV1⟩:∃v,(w2.alloc (.cells #[] 47)).drew=v:=⟨_,rfl⟩
   replace hS1:MoreS w2 V1 (.slice (some ⟨w2.heap.size,0,none⟩) 0 0) [] none x:=by rw[← hV1];exact hS1
   rw[hV1]
   clear hV1
   refine Xs (rs:=[2,4]) hS1.below (by kernel_rfl) (by simp) (AllC.cons rfl (fun K hK=>?_) (AllC.cons rfl (fun K hK=>?_) AllC.nil))
   ·skip
    obtain⟨v5,V5,hrun,hS5⟩:=MoreS.app hS1 (Hrd.out _ hS1.below) HL.out (by rw[List.length_nil];have:=Hwt.out;have:=HL.out;omega)
    refine Xy rfl _ _ _ rfl rfl rfl hrun (hK _ _ ?_)
    clear hK K hrun
    refine Xg (i:=4) hS5.below (by kernel_rfl) rfl (fun K hK=>?_)
    go_simp
    refine hK _ _ ?_
    clear hK K
    obtain⟨v6,V6,hrun,hS6⟩:=hS5.boxed.one (by rw[List.nil_append];have:=Hwt.out;omega)
    refine Xg (i:=5) hS5.boxed.below (by kernel_rfl) rfl (fun K hK=>?_)
    refine Xy rfl _ _ _ rfl rfl rfl hrun (hK _ _ ?_)
    clear hK K hrun
    refine Xd (i:=6) rfl (by kernel_rfl) (fun _ _ _ h=>h) (fun V hV=>(by skip;go_simp<;>rfl)) ?_
    refine Xl hS6.below (by kernel_rfl) ?_ _
    rw[List.nil_append,Hl'.out] at hS6
    refine⟨(fun k=>match k with|0 => .slice (some ⟨w2.heap.size,0,none⟩) 0 0|1=>v5|2 => .slice (some ⟨V5.heap.size,0,none⟩) 1 1|_=>v6),?_,hS6.done Htg.out⟩
    kernel_rfl
   ·skip
    go_simp
    refine hK _ _ ?_
    clear hK K
    have hSb:=hS1.boxed
    obtain⟨v5,V5,hrun,hS5⟩:=MoreS.app hSb (Hrd.out _ hSb.below) HL.out (by rw[List.length_nil];have:=Hwt.out;have:=HL.out;omega)
    refine Xg (i:=2) hSb.below (by kernel_rfl) rfl (fun K hK=>?_)
    refine Xy rfl _ _ _ rfl rfl rfl hrun (hK _ _ ?_)
    clear hK K hrun
    obtain⟨v6,V6,hrun,hS6⟩:=hS5.one (by rw[List.nil_append];have:=Hwt.out;omega)
    refine Xg (i:=5) hS5.below (by kernel_rfl) rfl (fun K hK=>?_)
    refine Xy rfl _ _ _ rfl rfl rfl hrun (hK _ _ ?_)
    clear hK K hrun
    refine Xd (i:=6) rfl (by kernel_rfl) (fun _ _ _ h=>h) (fun V hV=>(by skip;go_simp<;>rfl)) ?_
    refine Xl hS6.below (by kernel_rfl) ?_ _
    rw[List.nil_append,Hl'.out] at hS6
    refine⟨(fun k=>match k with|0 => .slice (some ⟨w2.heap.size,0,none⟩) 0 0|1=>v5|2 => .slice (some ⟨V1.heap.size,0,none⟩) 1 1|_=>v6),?_,hS6.done Htg.out⟩
    kernel_rfl
  ·skip
   go_simp
   refine hK _ _ ?_
   clear hK K
   have hS1:=MoreS.start2 (x:=x) hC0
   refine Xg (i:=0) (Xe hC0 _) (by kernel_rfl) rfl (fun K hK=>?_)
   go_simp
   refine hK _ _ ?_
   clear hK K
   obtain⟨v5,V5,hrun,hS5⟩:=MoreS.app hS1 (Hrd.out _ hS1.below) HL.out (by rw[List.length_nil];have:=Hwt.out;have:=HL.out;omega)
   refine Xg (i:=2) hS1.below (by kernel_rfl) rfl (fun K hK=>?_)
   refine Xy rfl _ _ _ rfl rfl rfl hrun (hK _ _ ?_)
   clear hK K hrun
   obtain⟨v6,V6,hrun,hS6⟩:=hS5.one (by rw[List.nil_append];have:=Hwt.out;omega)
   refine Xg (i:=5) hS5.below (by kernel_rfl) rfl (fun K hK=>?_)
   refine Xy rfl _ _ _ rfl rfl rfl hrun (hK _ _ ?_)
   clear hK K hrun
   refine Xd (i:=6) rfl (by kernel_rfl) (fun _ _ _ h=>h) (fun V hV=>(by skip;go_simp<;>rfl)) ?_
   refine Xl hS6.below (by kernel_rfl) ?_ _
   rw[List.nil_append,Hl'.out] at hS6
   refine⟨(fun k=>match k with|0 => .slice (some ⟨w2.heap.size+1,0,none⟩) 0 0|1=>v5|2 => .slice (some ⟨w2.heap.size,0,none⟩) 1 1|_=>v6),?_,hS6.done Htg.out⟩
   kernel_rfl
 rintro y w3 ⟨A,cp,hy,hI,hb⟩
 generalize y 0=y0
 generalize y 1=y1
 generalize y 2=y2
 rw[hy]
 clear hy y
 obtain⟨W3,hW3⟩:∃v,w3=v:=⟨_,rfl⟩
 replace HB:=Xa (Xb HB.out hb)
 replace HK:=Xa (Xh hb HK.out)
 have HJ:=Xa hI
 rw[← HL.out]
 obtain⟨L',hL'⟩:∃L,l'.length=L:=⟨_,rfl⟩
 clear hb hI Hlen hW3 W3 HY
 have hkc:=HK.out
 have c0:=gblk hkc 0
 have c1:=gblk hkc 1
 have c2:=gblk hkc 2
 have c3:=gblk hkc 3
 have c4:=gblk hkc 4
 have c5:=gblk hkc 5
 clear hkc hL' L'
 gi_wp2_with fail
 go_wp2_with fail
 refine(Xm2 g ⟨A,cp,l'⟩ n w3 (HG.out _ HB.out) HJ.out).mono ?_
 rintro e w4 ⟨b1,rfl,hb,hfew⟩
 replace HB:=Xa (Xb HB.out hb)
 replace HK:=Xa (Xh hb HK.out)
 replace HJ:=Xa (HJ.out.ext hb)
 clear c0 c1 c2 c3 c4 c5 hb hfew
 have hkc:=HK.out
 have c0:=gblk hkc 0
 have c1:=gblk hkc 1
 have c2:=gblk hkc 2
 have c3:=gblk hkc 3
 have c4:=gblk hkc 4
 have c5:=gblk hkc 5
 clear hkc
 cases b1
 ·go_wp2_with fail
  go_ret
  exact⟨rfl,HB.out⟩
 go_wp2_with fail
 refine(Xil g ⟨A,cp,l'⟩ n w4 (HG.out _ HB.out) HJ.out).mono ?_
 rintro e w5 ⟨rfl,hb⟩
 replace HB:=Xa (Xb HB.out hb)
 replace HK:=Xa (Xh hb HK.out)
 replace HJ:=Xa (HJ.out.ext hb)
 clear c0 c1 c2 c3 c4 c5 hb
 by_cases h0:errC g l' n=0
 rotate_left
 ·have q0:(errC g l' n != 0)=true:=by simpa using h0
  have q1:(errC g l' n == 0)=false:=by simpa using h0
  clear h0
  generalize errC g l' n=ee at *
  go_wp2_with fail
  go_ret
  exact⟨rfl,HB.out⟩
 have H0:=Xa h0
 rw[h0]
 clear h0
 obtain⟨⟨c1,e1⟩,hc1⟩:∃x,Vw g its.xs n=x:=⟨_,rfl⟩
 obtain⟨⟨c2,e2⟩,hc2⟩:∃x,Vw g l' n=x:=⟨_,rfl⟩
 obtain⟨⟨t1,k1,o1,f1⟩,hb1⟩:∃x,Zj g its.xs n=x:=⟨_,rfl⟩
 obtain⟨⟨t2,k2,o2,f2⟩,hb2⟩:∃x,Zj g l' n=x:=⟨_,rfl⟩
 have h0':=H0.out
 have hc2':=hc2
 have hb2':=hb2
 rw[← Hl'.out] at h0' hc2' hb2'
 obtain⟨rfl,rfl,hok,hmo⟩:=Xss h0' hc1 hc2' hb1 hb2'
 clear h0' hc2' hb2'
 have Hc1:=Xa hc1
 have Hc2:=Xa hc2
 have Hb1:=Xa hb1
 have Hb2:=Xa hb2
 have Hok:=Xa hok
 have Hmo:=Xa hmo
 clear hc1 hc2 hb1 hb2 hok hmo
 have hkc:=HK.out
 have c0:=gblk hkc 0
 have c1:=gblk hkc 1
 have c2:=gblk hkc 2
 have c3:=gblk hkc 3
 have c4:=gblk hkc 4
 have c5:=gblk hkc 5
 clear hkc
 go_wp2_with fail
 clear c0 c1 c2 c3 c4 c5
 refine(Xb3 (HT.out _ HB.out) (HG.out _ HB.out) Hs.out (HI.out _ HB.out) Hc1.out).mono ?_
 rintro e w6 ⟨rfl,hb⟩
 replace HB:=Xa (Xb HB.out hb)
 replace HK:=Xa (Xh hb HK.out)
 replace HJ:=Xa (HJ.out.ext hb)
 clear hb
 have hkc:=HK.out
 have c0:=gblk hkc 0
 have c1:=gblk hkc 1
 have c2:=gblk hkc 2
 have c3:=gblk hkc 3
 have c4:=gblk hkc 4
 have c5:=gblk hkc 5
 clear hkc
 go_wp2_with fail
 clear c0 c1 c2 c3 c4 c5
 refine(Xb3 (its:=⟨A,cp,l'⟩) (HT.out _ HB.out) (HG.out _ HB.out) Hs.out HJ.out Hc2.out).mono ?_
 rintro e w7 ⟨rfl,hb⟩
 replace HB:=Xa (Xb HB.out hb)
 replace HK:=Xa (Xh hb HK.out)
 replace HJ:=Xa (HJ.out.ext hb)
 clear hb
 have hkc:=HK.out
 have c0:=gblk hkc 0
 have c1:=gblk hkc 1
 have c2:=gblk hkc 2
 have c3:=gblk hkc 3
 have c4:=gblk hkc 4
 have c5:=gblk hkc 5
 clear hkc
 go_wp2_with fail
 clear c0 c1 c2 c3 c4 c5
 refine(Xb2 (HT.out _ HB.out) (HG.out _ HB.out) Hs.out (HI.out _ HB.out) Hb1.out).mono ?_
 rintro e w8 ⟨x1,rfl,_,hb⟩
 replace HB:=Xa (Xb HB.out hb)
 replace HK:=Xa (Xh hb HK.out)
 replace HJ:=Xa (HJ.out.ext hb)
 obtain⟨w9,hw⟩:∃v,w8.alloc (.cells #[.int .i64 x1.rule,.int .i64 x1.item,.int .i64 x1.frm,.int .i64 x1.unt,.slice x1.kids.addr x1.kids.len x1.kids.cap] 32)=v:=⟨_,rfl⟩
 replace hb:=Yn hw
 replace HB:=Xa (Xb HB.out hb)
 replace HK:=Xa (Xh hb HK.out)
 replace HJ:=Xa (HJ.out.ext hb)
 clear hb
 have hkc:=HK.out
 have c0:=gblk hkc 0
 have c1:=gblk hkc 1
 have c2:=gblk hkc 2
 have c3:=gblk hkc 3
 have c4:=gblk hkc 4
 have c5:=gblk hkc 5
 clear hkc
 go_wp2_with fail
 clear c0 c1 c2 c3 c4 c5 hw
 refine(Xb2 (its:=⟨A,cp,l'⟩) (HT.out _ HB.out) (HG.out _ HB.out) Hs.out HJ.out Hb2.out).mono ?_
 rintro e w10 ⟨x2,rfl,_,hb⟩
 replace HB:=Xa (Xb HB.out hb)
 clear hb HK HJ
 have hcase:(o1=false∧o2=false)∨(o1=false∧o2=true)∨(o1=true∧o2=true∧¬k1<k2):=by
  have h:=Hok.out
  revert h
  cases o1<;>cases o2<;>simp
 have hm:=Hmo.out
 unfold Xst at hm
 by_cases g1:e1=0
 ·by_cases g2:e2=0
  ·subst g1 g2
   rw[if_neg (by simp)] at hm
   simp only[Bool.and_eq_true,decide_eq_true_eq,beq_iff_eq] at hm
   obtain⟨⟨m1,m2⟩,m3⟩:=hm
   have q1:decide (c1≤c2)=true:=by simpa using m1
   obtain⟨z1,hz1⟩:∃b,decide (0<c1)=b:=⟨_,rfl⟩
   obtain⟨z2,hz2⟩:∃b,decide (0<c2)=b:=⟨_,rfl⟩
   rw[hz2] at m2
   rw[hz1] at m3
   subst m2 m3
   rcases hcase with ⟨rfl,rfl⟩|⟨rfl,rfl⟩|⟨rfl,rfl,hk⟩
   all_goals
    simp only[decide_eq_true_eq,decide_eq_false_iff_not] at hz1 hz2
    go_wp2_with fail
    go_ret
    exact⟨by first|(simp;done)|(simp;omega),Xe HB.out _⟩
  ·rw[if_pos (.inr g2)] at hm
   have hm2:e2=2:=by simpa using hm
   subst hm2 g1
   clear hm
   rcases hcase with ⟨rfl,rfl⟩|⟨rfl,rfl⟩|⟨rfl,rfl,hk⟩
   all_goals
    go_wp2_with fail
    go_ret
    exact⟨rfl,Xe HB.out _⟩
 ·rw[if_pos (.inl g1)] at hm
  have hm2:e2=2:=by simpa using hm
  subst hm2
  clear hm
  have q1:(e1 != 0)=true:=by simpa using g1
  rcases hcase with ⟨rfl,rfl⟩|⟨rfl,rfl⟩|⟨rfl,rfl,hk⟩
  all_goals
   go_wp2_with fail
   go_ret
   exact⟨rfl,Xe HB.out _⟩
end Go.Proofs.YthojaplnimoacaaGreatDoor
