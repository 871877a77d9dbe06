/- Texts of this claim, one after the other: Chwf, GrmC, GrmD, GrmE, GrmF, GrmG, GrmH. -/
import Derived.Test.YtolpbjjapodmnaaGreatDoorM14
import Derived.Test.YtolpbjjapodmnaaGreatDoorM11
import Derived.Test.YtolpbjjapodmnaaGreatDoorM4
import Derived.Test.YtolpbjjapodmnaaGreatDoorM2
import Derived.Test.YtolpbjjapodmnaaGreatDoorM5
import Derived.BigQuiet
import Derived.Laws.EntriesVeiled
import Derived.Maps.RangeWalk
namespace Go.Proofs.YtolpbjjapodmnaaGreatDoor
open Go.RowKit Go.Han
attribute [local irreducible] wpStill wpQuiet
set_option maxRecDepth 100000
section
variable {e0:World} {cb kb wb top:Nat} {g:Gram} {its:SlS ItemG} {N:Nat} {X:Nat→Prop} {f0:X8→Option FoundG} {c:Int} {i k:Nat}
theorem Xko (fd:FoundG) (W:World) (hE:ChEnv e0 cb kb wb top g its N W) (hK:KnownF X g its.xs N kb f0 W) (hc:0≤c∧c≤32) (hik:i≤16) (hkk:k≤16) (hf:f0 ⟨c,i,k⟩=some fd) :
  Calls Tryz.prog 67 #[.pointer (some ⟨cb,0,none⟩),.agg #[.int .i64 c,.int .i64 (i:Int),.int .i64 (k:Int)]] W (Qw X g its.xs N kb f0 c i k (muG g c i k+1) W):=by
 obtain⟨W1,hW1⟩:∃W1,(W.alloc (.cells #[.int .i64 c,.int .i64 (i:Int),.int .i64 (k:Int)] 119)).alloc (.cells #[.bool false,.int .i64 0,.int .i64 0,.int .i64 0,.int .i64 0,.int .i64 0,.slice none 0 0,.int .i64 0] 114)=W1:=⟨_,rfl⟩
 have hB1:Below W.heap.size W W1:=by rw[← hW1];exact Xe (Xe (Below.refl _ _) _) _
 have hx1:W1.heap[W.heap.size]? = some (.cells #[.int .i64 c,.int .i64 (i:Int),.int .i64 (k:Int)] 119 (0,0)):=by
  rw[← hW1];exact(Below.heap_alloc _ _ _ (by simp)).trans (World.alloc_heap_new _ _)
 have hr1:W1.heap[W.heap.size+1]? = some (.cells #[.bool false,.int .i64 0,.int .i64 0,.int .i64 0,.int .i64 0,.int .i64 0,.slice none 0 0,.int .i64 0] 114 (0,0)):=by
  rw[← hW1];exact X0 _ _ _ (by simp)
 have hch:=(hE.ext hB1).chart
 have hK1:=hK.ext hB1
 have hok:∃i' k':Nat,(i:Int)=i'∧(k:Int)=k'∧FoundOk X W1 fd (Fd.of bigN (derG g its.xs c i' k')):=hK1.ok _ _ hf
 obtain⟨i',k',e1,e2,hok⟩:=hok
 obtain rfl:i=i':=by omega
 obtain rfl:k=k':=by omega
 have hgood:Zx ⟨c,i,k⟩:=Xcy ⟨by omega,by omega⟩ ⟨by omega,by omega⟩ ⟨by omega,by omega⟩
 have hlook:∀V:World,V.heap[kb]? = W1.heap[kb]? → (Instr.lookup 180 (.map (some kb)) (.agg #[.int .i64 c,.int .i64 (i:Int),.int .i64 (k:Int)]) true).run Tryz.prog V = .ok (.tuple #[.agg #[.bool fd.ok,.int .i64 fd.cost,.int .i64 fd.rule,.int .i64 fd.item,.int .i64 fd.frm,.int .i64 fd.unt,.slice fd.kids.addr fd.kids.len fd.kids.cap,.int .i64 fd.many],.bool true]) V:=fun V hV=>by
  have h:=Uv V Qf Xat Uy foundShape Xf2 (Xam V) (hK1.map.of_block hV) ⟨c,i,k⟩ hgood
  rw[hf] at h
  exact h
 have hkl:=hK1.map.lt
 have hcl:=Xc hch
 have hzz:W.heap.size+2=W1.heap.size:=by rw[← hW1];simp
 have c8:=gblk hch 8
 obtain⟨x0,x1,x2⟩:=gb3 hx1
 have HC:Hid (∀V:World,Below W1.heap.size W1 V→V.cell? ⟨cb,8,none⟩=some (.map (some kb))∧V.cell? ⟨W.heap.size,0,none⟩=some (.int .i64 c)∧V.cell? ⟨W.heap.size,1,none⟩=some (.int .i64 (i:Int))∧V.cell? ⟨W.heap.size,2,none⟩=some (.int .i64 (k:Int))∧(Instr.lookup 180 (.map (some kb)) (.agg #[.int .i64 c,.int .i64 (i:Int),.int .i64 (k:Int)]) true).run Tryz.prog V = .ok (.tuple #[.agg #[.bool fd.ok,.int .i64 fd.cost,.int .i64 fd.rule,.int .i64 fd.item,.int .i64 fd.frm,.int .i64 fd.unt,.slice fd.kids.addr fd.kids.len fd.kids.cap,.int .i64 fd.many],.bool true]) V):=fun V hV =>
  ⟨(hV.cell (p:=⟨cb,8,none⟩) hcl).trans c8,(hV.cell (p:=⟨W.heap.size,0,none⟩) (Xc hx1)).trans x0,(hV.cell (p:=⟨W.heap.size,1,none⟩) (Xc hx1)).trans x1,(hV.cell (p:=⟨W.heap.size,2,none⟩) (Xc hx1)).trans x2,hlook V (hV.block _ hkl)⟩
 obtain⟨w5,hw5⟩:∃w5,(W1.alloc (.cells #[.bool fd.ok,.int .i64 fd.cost,.int .i64 fd.rule,.int .i64 fd.item,.int .i64 fd.frm,.int .i64 fd.unt,.slice fd.kids.addr fd.kids.len fd.kids.cap,.int .i64 fd.many] 114)).drew=w5:=⟨_,rfl⟩
 have hb5:Below W1.heap.size W1 w5:=by rw[← hw5];exact Xi (Xe (Below.refl _ _) _)
 have hf5:w5.heap[W1.heap.size]? = some (.cells #[.bool fd.ok,.int .i64 fd.cost,.int .i64 fd.rule,.int .i64 fd.item,.int .i64 fd.frm,.int .i64 fd.unt,.slice fd.kids.addr fd.kids.len fd.kids.cap,.int .i64 fd.many] 114 (0,0)):=by rw[← hw5];exact World.alloc_heap_new W1 _
 have hr5:=Xh hb5 hr1
 have hs8:=Qn (f:=⟨false,0,0,0,0,0,⟨none,0,0⟩,0⟩) hr5 fd
 have hO8:=Ud w5 (W.heap.size+1) fd
 have hfin:Qw X g its.xs N kb f0 c i k (muG g c i k+1) W (.returned (.agg #[.bool fd.ok,.int .i64 fd.cost,.int .i64 fd.rule,.int .i64 fd.item,.int .i64 fd.frm,.int .i64 fd.unt,.slice fd.kids.addr fd.kids.len fd.kids.cap,.int .i64 fd.many])) (set8 w5 (W.heap.size+1) fd):=by
  have hkt:=hE.hk
  have htw:=hE.top
  have ht:∀t x,TreeW X W1 t x→TreeW X (set8 w5 (W.heap.size+1) fd) t x:=fun t x ht=>(ht.ext hb5).only hO8 fun b hb h=>(Ym hr5) (by rw[show b=W.heap.size+1 from hb] at h;exact h.1)
  refine⟨fd,f0,rfl,hok.keep ht,hK1.keep ((hO8.block _ (by have:=hb5.size;omega) (by show kb≠W.heap.size+1;omega)).trans (hb5.block _ hkl)) ht,Grew.refl _ _ _,?_⟩
  exact⟨hO8.os.trans (hb5.os.trans hB1.os),hO8.tape.trans (hb5.tape.trans hB1.tape),hO8.output.trans (hb5.output.trans hB1.output),by have:=hO8.size;have:=hb5.size;have:=hB1.size;omega,fun b hb _=>(hO8.block b (by have:=hb5.size;omega) (by show b≠W.heap.size+1;omega)).trans ((hb5.block b (by omega)).trans (hB1.block b hb))⟩
 have HF:=Xa hfin
 have HS8:=Xa hs8
 obtain⟨y0,y1,y2,y3,y4,y5,y6,y7⟩:=gb8 hf5
 obtain⟨z0,z1,z2,z3,z4,z5,z6,z7⟩:=gb8 hr5
 have fz:=fun n=>Xf hr5 n
 have HB5:=Xa hb5
 have HZ:=Xa hzz
 have n1:W.heap.size+1≠W1.heap.size:=by omega
 have hrl5:=Xc hr5
 clear hE hK hK1 hok hlook hgood hch hx1 hr1 hs8 hO8 hfin hf5 hr5 hb5 hzz c8 x0 x1 x2 hf
 go_enter Tryz.func67,Tryz.ntmps67
 go_wp2_with fail
 refine wpIn_wide (n:=0) |>.1 ?_
 refine Y4 _ ?_ (fun _ _ h=>h)
 refine Xo (fun V=>Below W1.heap.size W1 V) (by kernel_rfl) ?_
 refine Xd (i:=0) rfl (by kernel_rfl) (fun _ _ _ h=>h) (fun V hV=>(by obtain⟨r1,r2,r3,r4,r5⟩:=HC.out V hV;go_simp<;>rfl)) ?_
 refine Xd (i:=1) rfl (by kernel_rfl) (fun _ _ _ h=>h) (fun V hV=>(by obtain⟨r1,r2,r3,r4,r5⟩:=HC.out V hV;go_simp<;>rfl)) ?_
 refine Xd (i:=2) rfl (by kernel_rfl) (fun _ _ _ h=>h) (fun V hV=>(by obtain⟨r1,r2,r3,r4,r5⟩:=HC.out V hV;go_simp<;>rfl)) ?_
 refine Xd (i:=3) rfl (by kernel_rfl) (fun _ _ _ h=>h) (fun V hV=>(by obtain⟨r1,r2,r3,r4,r5⟩:=HC.out V hV;go_simp<;>rfl)) ?_
 refine Xd (i:=4) rfl (by kernel_rfl) (fun _ _ _ h=>h) (fun V hV=>(by obtain⟨r1,r2,r3,r4,r5⟩:=HC.out V hV;go_simp<;>rfl)) ?_
 refine Xd (i:=5) rfl (by kernel_rfl) (fun _ _ _ h=>h) (fun V hV=>(by obtain⟨r1,r2,r3,r4,r5⟩:=HC.out V hV;go_simp<;>rfl)) ?_
 refine Xd (i:=6) rfl (by kernel_rfl) (fun _ _ _ h=>h) (fun V hV=>(by obtain⟨r1,r2,r3,r4,r5⟩:=HC.out V hV;go_simp<;>rfl)) ?_
 refine Xd (i:=7) rfl (by kernel_rfl) (fun _ _ _ h=>h) (fun V hV=>(by obtain⟨r1,r2,r3,r4,r5⟩:=HC.out V hV;go_simp<;>rfl)) ?_
 refine Xd (i:=8) rfl (by kernel_rfl) (fun _ _ _ h=>h) (fun V hV=>(by obtain⟨r1,r2,r3,r4,r5⟩:=HC.out V hV;go_simp<;>rfl)) ?_
 refine Xg (i:=9) (Xi (Below.refl _ _)) (by kernel_rfl) rfl (fun K hK=>?_)
 go_simp
 refine hK _ _ ?_
 clear hK K
 refine Xg (i:=10) (Xe (Xi (Below.refl _ _)) _) (by kernel_rfl) rfl (fun K hK=>?_)
 go_simp
 refine hK _ _ ?_
 clear hK K
 refine Xg (i:=11) HB5.out (by kernel_rfl) rfl (fun K hK=>?_)
 go_simp
 refine hK _ _ ?_
 clear hK K
 refine Xl HB5.out (by kernel_rfl) ?_ _
 go_wp2_with fail
 change bodyPost _ _ _ _ _ (set8 w5 (W.heap.size+1) fd)
 have hs:=HS8.out
 generalize set8 w5 (W.heap.size+1) fd=w9 at *
 obtain⟨s0,s1,s2,s3,s4,s5,s6,s7⟩:=gb8 hs
 exact bodyPost_ret (v:=.agg #[.bool fd.ok,.int .i64 fd.cost,.int .i64 fd.rule,.int .i64 fd.item,.int .i64 fd.frm,.int .i64 fd.unt,.slice fd.kids.addr fd.kids.len fd.kids.cap,.int .i64 fd.many]) (by simp[results,Tryz.results67,go_sem,s0,s1,s2,s3,s4,s5,s6,s7]) rfl HF.out
def FiSt (X:Nat→Prop) (g:Gram) (items:List ItemG) (N kb fb:Nat) (f0:X8→Option FoundG) (c:Int) (i k:Nat) (w7:World) (j:Nat) (V:World):Prop :=
 (j=0∧V=w7)∨(j=1∧∃f,V.heap[fb]? = some (.cells #[.bool f.ok,.int .i64 f.cost,.int .i64 f.rule,.int .i64 f.item,.int .i64 f.frm,.int .i64 f.unt,.slice f.kids.addr f.kids.len f.kids.cap,.int .i64 f.many] 114 (0,0))∧FoundOk X V f (Fd.of bigN (Xq c i k 0 items))∧Only (fun j=>j=fb) w7 V) ∨
  (j=2∧∃fd f',V.heap[fb]? = some (.cells #[.bool fd.ok,.int .i64 fd.cost,.int .i64 fd.rule,.int .i64 fd.item,.int .i64 fd.frm,.int .i64 fd.unt,.slice fd.kids.addr fd.kids.len fd.kids.cap,.int .i64 fd.many] 114 (0,0))∧FoundOk X V fd (Fd.of bigN (derG g items c i k))∧KnownF X g items N kb f' V∧Grew g (muG g c i k) f0 f'∧Only (fun j=>j=kb∨j=fb) w7 V)
set_option maxHeartbeats 2000000 in
theorem Xpw (hg:Yu g) (hI:Zr N g.cats.xs.length its.xs) (hgl:g.lies e0) (hil:ItemsAt e0 its) (hfew:its.xs.length≤16384) (h16:N≤16) (hik:i<k) (hkN:k≤N) (c':Nat) (hc':c=c') (hcC:c'<g.cats.xs.length)
  (hsub:∀(c':Int) (i' k':Nat),0≤c'→c'<g.cats.xs.length→i'<k'→k'≤N→muG g c' i' k'<muG g c i k→Xl8 e0 cb kb wb top g its N c' i' k')
  (W:World) (hX:∀b,X b→b<W.heap.size) (hE:ChEnv e0 cb kb wb top g its N W) (hK:KnownF X g its.xs N kb f0 W) (hf:f0 ⟨c,i,k⟩=none) :
  Calls Tryz.prog 67 #[.pointer (some ⟨cb,0,none⟩),.agg #[.int .i64 c,.int .i64 (i:Int),.int .i64 (k:Int)]] W (Qw X g its.xs N kb f0 c i k (muG g c i k+1) W):=by
 obtain⟨W1,hW1⟩:∃W1,(W.alloc (.cells #[.int .i64 c,.int .i64 (i:Int),.int .i64 (k:Int)] 119)).alloc (.cells #[.bool false,.int .i64 0,.int .i64 0,.int .i64 0,.int .i64 0,.int .i64 0,.slice none 0 0,.int .i64 0] 114)=W1:=⟨_,rfl⟩
 have hB1:Below W.heap.size W W1:=by rw[← hW1];exact Xe (Xe (Below.refl _ _) _) _
 have hx1:W1.heap[W.heap.size]? = some (.cells #[.int .i64 c,.int .i64 (i:Int),.int .i64 (k:Int)] 119 (0,0)):=by
  rw[← hW1];exact(Below.heap_alloc _ _ _ (by simp)).trans (World.alloc_heap_new _ _)
 have hr1:W1.heap[W.heap.size+1]? = some (.cells #[.bool false,.int .i64 0,.int .i64 0,.int .i64 0,.int .i64 0,.int .i64 0,.slice none 0 0,.int .i64 0] 114 (0,0)):=by
  rw[← hW1];exact X0 _ _ _ (by simp)
 have hch:=(hE.ext hB1).chart
 have hK1:=hK.ext hB1
 have hfew32:=hg.few
 have hgood:Zx ⟨c,i,k⟩:=Xcy ⟨by omega,by omega⟩ ⟨by omega,by omega⟩ ⟨by omega,by omega⟩
 have hlook:∀V:World,V.heap[kb]? = W1.heap[kb]? → (Instr.lookup 180 (.map (some kb)) (.agg #[.int .i64 c,.int .i64 (i:Int),.int .i64 (k:Int)]) true).run Tryz.prog V = .ok (.tuple #[.agg #[.bool false,.int .i64 0,.int .i64 0,.int .i64 0,.int .i64 0,.int .i64 0,.slice none 0 0,.int .i64 0],.bool false]) V:=fun V hV=>by
  have h:=Uv V Qf Xat Uy foundShape Xf2 (Xam V) (hK1.map.of_block hV) ⟨c,i,k⟩ hgood
  rw[hf] at h
  exact h
 have hkl:=hK1.map.lt
 have hcl:=Xc hch
 have hzz:W.heap.size+2=W1.heap.size:=by rw[← hW1];simp
 have c8:=gblk hch 8
 obtain⟨x0,x1,x2⟩:=gb3 hx1
 have HC:Hid (∀V:World,Below W1.heap.size W1 V→V.cell? ⟨cb,8,none⟩=some (.map (some kb))∧V.cell? ⟨W.heap.size,0,none⟩=some (.int .i64 c)∧V.cell? ⟨W.heap.size,1,none⟩=some (.int .i64 (i:Int))∧V.cell? ⟨W.heap.size,2,none⟩=some (.int .i64 (k:Int))∧(Instr.lookup 180 (.map (some kb)) (.agg #[.int .i64 c,.int .i64 (i:Int),.int .i64 (k:Int)]) true).run Tryz.prog V = .ok (.tuple #[.agg #[.bool false,.int .i64 0,.int .i64 0,.int .i64 0,.int .i64 0,.int .i64 0,.slice none 0 0,.int .i64 0],.bool false]) V):=fun V hV =>
  ⟨(hV.cell (p:=⟨cb,8,none⟩) hcl).trans c8,(hV.cell (p:=⟨W.heap.size,0,none⟩) (Xc hx1)).trans x0,(hV.cell (p:=⟨W.heap.size,1,none⟩) (Xc hx1)).trans x1,(hV.cell (p:=⟨W.heap.size,2,none⟩) (Xc hx1)).trans x2,hlook V (hV.block _ hkl)⟩
 obtain⟨w5,hw5⟩:∃w5,(W1.alloc (.cells #[.bool false,.int .i64 0,.int .i64 0,.int .i64 0,.int .i64 0,.int .i64 0,.slice none 0 0,.int .i64 0] 114)).drew=w5:=⟨_,rfl⟩
 have hb5:Below W1.heap.size W1 w5:=by rw[← hw5];exact Xi (Xe (Below.refl _ _) _)
 obtain⟨w6,hw6⟩:∃w6,w5.alloc (.cells #[.bool false,.int .i64 0,.int .i64 0,.int .i64 0,.int .i64 0,.int .i64 0,.slice none 0 0,.int .i64 0] 114)=w6:=⟨_,rfl⟩
 have hb6:=Yn hw6
 have hf6:=Yv hw6
 obtain⟨w7,hw7⟩:∃w7,w6.alloc (.cells #[.func (.func 126) #[.pointer (some ⟨cb,0,none⟩)] #[],.func (.func 127) #[.pointer (some ⟨cb,0,none⟩)] #[]] 185)=w7:=⟨_,rfl⟩
 have hb7:=Yn hw7
 have hs7:=Yv hw7
 have hB5:=Xb hB1 hb5
 have hB6:=Xb hB5 hb6
 have hB7:=Xb hB6 hb7
 have hf7:=Xh hb7 hf6
 have hx7:=((Xb hb5 (Xb hb6 hb7)).block _ (Xc hx1)).trans hx1
 have hr7:=((Xb hb5 (Xb hb6 hb7)).block _ (Xc hr1)).trans hr1
 have HE7:=Xa (hE.ext hB7)
 have HK7:=Xa (hK.ext hB7)
 have hkt:=hE.hk
 have htW:=hE.top
 have h51:=hb5.size
 have h65:w5.heap.size<w6.heap.size:=Xc hf6
 have h76:w6.heap.size<w7.heap.size:=Xc hs7
 have HB7:=Xa hB7
 have HW5:=Xa hw5
 have HB5:=Xa hb5
 have Hf7:=Xa hf7
 have Hx7:=Xa hx7
 have Hr7:=Xa hr7
 have Hs7:=Xa hs7
 have HX:=Xa hX
 have Hsub:=Xa hsub
 have Hf:=Xa hf
 have HZ:=Xa hzz
 have hW1z:W.heap.size+2≤W1.heap.size:=by omega
 have Hcc:=Xa hc'
 have hmf:∀(fn:Fn) (first cap:Array Value) (w:World),(Instr.makeFunc fn first cap).run Tryz.prog w = .ok (.func fn first cap) w:=fun _ _ _ _=>rfl
 clear hE hK hK1 hlook hgood hch hx1 hr1 c8 x0 x1 x2 hf hc' hX hsub hB1 hB5 hB6 hB7 hb5 hb6 hb7 hf6 hf7 hx7 hr7 hs7 hzz hw5
 go_enter Tryz.func67,Tryz.ntmps67
 go_wp2_with fail
 refine wpIn_wide (n:=0) |>.1 ?_
 refine Y4 _ ?_ (fun _ _ h=>h)
 refine Xo (fun V=>Below W1.heap.size W1 V) (by kernel_rfl) ?_
 refine Xd (i:=0) rfl (by kernel_rfl) (fun _ _ _ h=>h) (fun V hV=>(by obtain⟨r1,r2,r3,r4,r5⟩:=HC.out V hV;go_simp<;>rfl)) ?_
 refine Xd (i:=1) rfl (by kernel_rfl) (fun _ _ _ h=>h) (fun V hV=>(by obtain⟨r1,r2,r3,r4,r5⟩:=HC.out V hV;go_simp<;>rfl)) ?_
 refine Xd (i:=2) rfl (by kernel_rfl) (fun _ _ _ h=>h) (fun V hV=>(by obtain⟨r1,r2,r3,r4,r5⟩:=HC.out V hV;go_simp<;>rfl)) ?_
 refine Xd (i:=3) rfl (by kernel_rfl) (fun _ _ _ h=>h) (fun V hV=>(by obtain⟨r1,r2,r3,r4,r5⟩:=HC.out V hV;go_simp<;>rfl)) ?_
 refine Xd (i:=4) rfl (by kernel_rfl) (fun _ _ _ h=>h) (fun V hV=>(by obtain⟨r1,r2,r3,r4,r5⟩:=HC.out V hV;go_simp<;>rfl)) ?_
 refine Xd (i:=5) rfl (by kernel_rfl) (fun _ _ _ h=>h) (fun V hV=>(by obtain⟨r1,r2,r3,r4,r5⟩:=HC.out V hV;go_simp<;>rfl)) ?_
 refine Xd (i:=6) rfl (by kernel_rfl) (fun _ _ _ h=>h) (fun V hV=>(by obtain⟨r1,r2,r3,r4,r5⟩:=HC.out V hV;go_simp<;>rfl)) ?_
 refine Xd (i:=7) rfl (by kernel_rfl) (fun _ _ _ h=>h) (fun V hV=>(by obtain⟨r1,r2,r3,r4,r5⟩:=HC.out V hV;go_simp<;>rfl)) ?_
 refine Xd (i:=8) rfl (by kernel_rfl) (fun _ _ _ h=>h) (fun V hV=>(by obtain⟨r1,r2,r3,r4,r5⟩:=HC.out V hV;go_simp<;>rfl)) ?_
 refine Xg (i:=9) (Xi (Below.refl _ _)) (by kernel_rfl) rfl (fun K hK=>?_)
 go_simp
 refine hK _ _ ?_
 clear hK K
 refine Xg (i:=10) (Xi (Xe (Below.refl _ _) _)) (by kernel_rfl) rfl (fun K hK=>?_)
 go_simp
 refine hK _ _ ?_
 clear hK K
 refine Xg (i:=11) (Xi (Xe (Below.refl _ _) _)) (by kernel_rfl) rfl (fun K hK=>?_)
 go_simp
 refine hK _ _ ?_
 clear hK K
 refine Xl (Xi (Xe (Below.refl _ _) _)) (by kernel_rfl) ?_ _
 rw[HW5.out]
 go_wp2_with fail
 have hfbt:top≤w5.heap.size:=by omega
 have hnk7:=Ym Hf7.out
 go_loopw [27] (fun vj wr=>∃j:Nat,j≤2∧vj = .int .i64 (j:Nat)∧FiSt X g its.xs N kb w5.heap.size f0 c i k w7 j wr) (fun vj _=>2-(intOf vj).toNat)
 case atStart=>exact⟨0,by omega,rfl,.inl ⟨rfl,rfl⟩⟩
 case round =>
  obtain⟨j,hj,rfl,hS⟩:=hrel
  have hsl:w6.heap.size≠w5.heap.size:=by omega
  have hxl:W.heap.size≠w5.heap.size:=by omega
  have hbk:∀ {V:World},Only (fun j=>j=kb∨j=w5.heap.size) w7 V→V.heap[w6.heap.size]? = some (.cells #[.func (.func 126) #[.pointer (some ⟨cb,0,none⟩)] #[],.func (.func 127) #[.pointer (some ⟨cb,0,none⟩)] #[]] 185 (0,0))∧V.heap[W.heap.size]? = some (.cells #[.int .i64 c,.int .i64 (i:Int),.int .i64 (k:Int)] 119 (0,0)):=fun {V} hO =>
   ⟨(hO.block _ (Xc Hs7.out) (by show ¬(w6.heap.size=kb∨w6.heap.size=w5.heap.size);omega)).trans Hs7.out,(hO.block _ (Xc Hx7.out) (by show ¬(W.heap.size=kb∨W.heap.size=w5.heap.size);omega)).trans Hx7.out⟩
  rcases hS with ⟨rfl,hw⟩|⟨rfl,f,h1,h2,h3⟩|⟨rfl,fd,f',h1,h2,h3,h4,h5⟩
  ·have hO0:Only (fun j=>j=kb∨j=w5.heap.size) w7 wr:=by rw[hw];exact Only.refl _ _
   obtain⟨hb1,hb2⟩:=hbk hO0
   have cP:=Xjh X cb w5.heap.size g its (N:Int) kb wb c i k wr (by rw[hw];exact HE7.out.chart) (by rw[hw];exact hil.ext HE7.out.low) (by rw[hw];exact Hf7.out) hfew (fun V hV=>by
    rw[hw] at hV
    exact hil.ext (HE7.out.only hV (fun b hb => .inr (by rw[show b=w5.heap.size from hb];exact hfbt)) (by obtain⟨es,cl,hk⟩:=HE7.out.kmap;exact⟨es,cl,(hV.block _ (Xc hk) (by show kb≠w5.heap.size;omega)).trans hk⟩)).low)
   have HP:=Xa cP
   have Hw:=Xa hw
   have y0:=gblk hb1 0
   obtain⟨x0,x1,x2⟩:=gb3 hb2
   clear cP hbk hO0 hb1 hb2 hw
   go_wp2_with fail
   refine HP.out.mono ?_
   rintro e w9 ⟨rfl,f,h1,h2,h3⟩
   rw[Hw.out] at h3
   have HS:Hid (FiSt X g its.xs N kb w5.heap.size f0 c i k w7 1 w9):=.inr (.inl ⟨rfl,f,h1,h2,h3⟩)
   clear h1 h2 h3 HP y0 x0 x1 x2
   go_wp2_with fail
   go_roundw
   case rel=>exact⟨1,by omega,rfl,HS.out⟩
   case measure=>simp[intOf]
  ·have hO1:Only (fun j=>j=kb∨j=w5.heap.size) w7 wr:=Xav h3 fun b hb => .inr hb
   obtain⟨hb1,hb2⟩:=hbk hO1
   obtain⟨es,cl,hkm⟩:=HE7.out.kmap
   have hkr:=(h3.block _ (Xc hkm) (by show kb≠w5.heap.size;omega))
   have hEr:=HE7.out.only h3 (fun b hb => .inr (by rw[show b=w5.heap.size from hb];exact hfbt)) ⟨es,cl,hkr.trans hkm⟩
   have hKr:=HK7.out.keep hkr (fun t y ht=>ht.only h3 fun b hb h=>hnk7 (by rw[show b=w5.heap.size from hb] at h;exact h.1))
   have cR:=Xog (fb:=w5.heap.size) hg hI hgl h16 hik hkN Hsub.out f wr (fun b hb=>by have:=HX.out b hb;have:=HB7.out.size;have:=h3.size;omega) hEr hKr hfbt h1 h2
   have HR:=Xa cR
   have HO1:=Xa hO1
   have y1:=gblk hb1 1
   obtain⟨x0,x1,x2⟩:=gb3 hb2
   clear cR hbk hO1 hb1 hb2 h1 h2 h3 hkm hkr hEr hKr
   go_wp2_with fail
   refine HR.out.mono ?_
   rintro e w9 ⟨rfl,fd,f',h1,h2,h3,h4,h5⟩
   have HS:Hid (FiSt X g its.xs N kb w5.heap.size f0 c i k w7 2 w9):=.inr (.inr ⟨rfl,fd,f',h1,h2,h3,h4,HO1.out.trans h5⟩)
   clear h1 h2 h3 h4 h5 HR y1 x0 x1 x2
   go_wp2_with fail
   go_roundw
   case rel=>exact⟨2,by omega,rfl,HS.out⟩
   case measure=>simp[intOf]
  ·have hcc:=Hcc.out
   clear Hcc
   subst hcc
   obtain⟨hb1,hb2⟩:=hbk h5
   have hnone:f' ⟨c',i,k⟩=none:=by
    cases hk:f' ⟨c',i,k⟩ with
    | none=>rfl
    | some y =>
     rcases h4 ⟨c',i,k⟩ (by rw[hk];simp) with h|h
     ·exact absurd Hf.out h
     ·exact absurd h (Nat.lt_irrefl _)
   have hbd:Below wr.heap.size wr wr.drew:=Xi (Below.refl _ _)
   obtain⟨w9,hrun,hK9,hok9,hO9,hz9⟩:=(h3.ext hbd).store (c:=c') (i:=i) (k:=k) hcC (by omega) hkN hfew32 h16 hnone (h2.keep fun _ _ ht=>ht.ext hbd)
   obtain⟨es,cl,hkm⟩:=HE7.out.kmap
   have hch:=(h5.block _ (Xc HE7.out.chart) (by show ¬(cb=kb∨cb=w5.heap.size);have:=HE7.out.kc;have:=HE7.out.hc;omega)).trans HE7.out.chart
   have hr:=(h5.block _ (Xc Hr7.out) (by show ¬(W.heap.size+1=kb∨W.heap.size+1=w5.heap.size);omega)).trans Hr7.out
   have hckb:=HE7.out.kc
   have hch9:=(hO9.block _ (Xc hch) hckb).trans hch
   have hx9:=(hO9.block _ (Xc hb2) (by show W.heap.size≠kb;omega)).trans hb2
   have hf9:=(hO9.block _ (Xc h1) (by show w5.heap.size≠kb;omega)).trans h1
   have hr9:=(hO9.block _ (Xc hr) (by show W.heap.size+1≠kb;omega)).trans hr
   have hCof:∀V:World,V.heap[cb]? = w9.heap[cb]? → V.heap[W.heap.size]? = w9.heap[W.heap.size]? → V.heap[w5.heap.size]? = w9.heap[w5.heap.size]? → (V.cell? ⟨cb,8,none⟩=some (.map (some kb))∧V.cell? ⟨W.heap.size,0,none⟩=some (.int .i64 (c':Int))∧V.cell? ⟨W.heap.size,1,none⟩=some (.int .i64 (i:Int))∧V.cell? ⟨W.heap.size,2,none⟩=some (.int .i64 (k:Int))∧V.cell? ⟨w5.heap.size,0,none⟩=some (.bool fd.ok)∧V.cell? ⟨w5.heap.size,1,none⟩=some (.int .i64 fd.cost)∧V.cell? ⟨w5.heap.size,2,none⟩=some (.int .i64 fd.rule)∧V.cell? ⟨w5.heap.size,3,none⟩=some (.int .i64 fd.item)∧V.cell? ⟨w5.heap.size,4,none⟩=some (.int .i64 fd.frm)∧V.cell? ⟨w5.heap.size,5,none⟩=some (.int .i64 fd.unt)∧V.cell? ⟨w5.heap.size,6,none⟩=some (.slice fd.kids.addr fd.kids.len fd.kids.cap)∧V.cell? ⟨w5.heap.size,7,none⟩=some (.int .i64 fd.many)):=fun V e1 e2 e3=>by
    have q1:=e1.trans hch9
    have q2:=e2.trans hx9
    have q3:=e3.trans hf9
    exact⟨gblk q1 8,gblk q2 0,gblk q2 1,gblk q2 2,gblk q3 0,gblk q3 1,gblk q3 2,gblk q3 3,gblk q3 4,gblk q3 5,gblk q3 6,gblk q3 7⟩
   have HCr:=Xa (hCof wr.drew (hch.trans hch9.symm) (hb2.trans hx9.symm) (h1.trans hf9.symm))
   have HC9:=Xa (hCof w9 rfl rfl rfl)
   have hs8:=Qn (f:=⟨false,0,0,0,0,0,⟨none,0,0⟩,0⟩) hr9 fd
   have hO8:=Ud w9 (W.heap.size+1) fd
   have hfin:Qw X g its.xs N kb f0 c' i k (muG g c' i k+1) W (.returned (.agg #[.bool fd.ok,.int .i64 fd.cost,.int .i64 fd.rule,.int .i64 fd.item,.int .i64 fd.frm,.int .i64 fd.unt,.slice fd.kids.addr fd.kids.len fd.kids.cap,.int .i64 fd.many])) (set8 w9 (W.heap.size+1) fd):=by
    have ht:∀t x,TreeW X w9 t x→TreeW X (set8 w9 (W.heap.size+1) fd) t x:=fun t x ht=>ht.only hO8 fun b hb h=>(Ym hr9) (by rw[show b=W.heap.size+1 from hb] at h;exact h.1)
    refine⟨fd,updF f' ⟨c',i,k⟩ fd,rfl,hok9.keep ht,hK9.keep (hO8.block _ hK9.map.lt (by show kb≠W.heap.size+1;omega)) ht,fun x hx=>?_,?_⟩
    ·unfold updF at hx
     split at hx
     ·rename_i e
      subst e
      exact .inr (Nat.lt_succ_self _)
     ·rcases h4 x hx with h|h
      ·exact .inl h
      ·exact .inr (by omega)
    ·have hs7:=HB7.out.size
     have hs5:=h5.size
     have hs9:wr.heap.size≤w9.heap.size:=hO9.size
     exact⟨hO8.os.trans (hO9.os.trans (h5.os.trans HB7.out.os)),hO8.tape.trans (hO9.tape.trans (h5.tape.trans HB7.out.tape)),hO8.output.trans (hO9.output.trans (h5.output.trans HB7.out.output)),by have:=hO8.size;omega,fun b hb hn=>(hO8.block b (by omega) (by show b≠W.heap.size+1;omega)).trans ((hO9.block b (by show b<wr.heap.size;omega) hn).trans ((h5.block b (by omega) (by show ¬(b=kb∨b=w5.heap.size);intro h;rcases h with h|h;exact hn h;omega)).trans (HB7.out.block b hb)))⟩
   have HF:=Xa hfin
   have HS8:=Xa hs8
   obtain⟨y0,y1,y2,y3,y4,y5,y6,y7⟩:=gb8 hf9
   obtain⟨z0,z1,z2,z3,z4,z5,z6,z7⟩:=gb8 hr9
   have fz:=fun n=>Xf hr9 n
   have hrl9:=Xc hr9
   clear hbk hnone hbd hK9 hok9 hO9 hz9 hkm hch hr hch9 hx9 hf9 hr9 hCof hs8 hO8 hfin h1 h2 h3 h4 h5 hb1 hb2
   go_wp2_with fail
   refine wpIn_wide (n:=0) |>.1 ?_
   refine Y4 _ ?_ (fun _ _ h=>h)
   refine Xo (fun V=>V.cell? ⟨cb,8,none⟩=some (.map (some kb))∧V.cell? ⟨W.heap.size,0,none⟩=some (.int .i64 (c':Int))∧V.cell? ⟨W.heap.size,1,none⟩=some (.int .i64 (i:Int))∧V.cell? ⟨W.heap.size,2,none⟩=some (.int .i64 (k:Int))∧V.cell? ⟨w5.heap.size,0,none⟩=some (.bool fd.ok)∧V.cell? ⟨w5.heap.size,1,none⟩=some (.int .i64 fd.cost)∧V.cell? ⟨w5.heap.size,2,none⟩=some (.int .i64 fd.rule)∧V.cell? ⟨w5.heap.size,3,none⟩=some (.int .i64 fd.item)∧V.cell? ⟨w5.heap.size,4,none⟩=some (.int .i64 fd.frm)∧V.cell? ⟨w5.heap.size,5,none⟩=some (.int .i64 fd.unt)∧V.cell? ⟨w5.heap.size,6,none⟩=some (.slice fd.kids.addr fd.kids.len fd.kids.cap)∧V.cell? ⟨w5.heap.size,7,none⟩=some (.int .i64 fd.many)) (by kernel_rfl) ?_
   refine Xd (i:=0) rfl (by kernel_rfl) (fun _ _ _ h=>h) (fun V hV=>(by obtain⟨r1,r2,r3,r4,r5,r6,r7,r8,r9,r10,r11,r12⟩:=hV;go_simp<;>rfl)) ?_
   refine Xd (i:=1) rfl (by kernel_rfl) (fun _ _ _ h=>h) (fun V hV=>(by obtain⟨r1,r2,r3,r4,r5,r6,r7,r8,r9,r10,r11,r12⟩:=hV;go_simp<;>rfl)) ?_
   refine Xd (i:=2) rfl (by kernel_rfl) (fun _ _ _ h=>h) (fun V hV=>(by obtain⟨r1,r2,r3,r4,r5,r6,r7,r8,r9,r10,r11,r12⟩:=hV;go_simp<;>rfl)) ?_
   refine Xd (i:=3) rfl (by kernel_rfl) (fun _ _ _ h=>h) (fun V hV=>(by obtain⟨r1,r2,r3,r4,r5,r6,r7,r8,r9,r10,r11,r12⟩:=hV;go_simp<;>rfl)) ?_
   refine Xd (i:=4) rfl (by kernel_rfl) (fun _ _ _ h=>h) (fun V hV=>(by obtain⟨r1,r2,r3,r4,r5,r6,r7,r8,r9,r10,r11,r12⟩:=hV;go_simp<;>rfl)) ?_
   refine Xd (i:=5) rfl (by kernel_rfl) (fun _ _ _ h=>h) (fun V hV=>(by obtain⟨r1,r2,r3,r4,r5,r6,r7,r8,r9,r10,r11,r12⟩:=hV;go_simp<;>rfl)) ?_
   refine Xg (i:=6) HCr.out (by kernel_rfl) rfl (fun K hK=>?_)
   go_simp
   refine hK _ _ ?_
   clear hK K
   refine Xl HC9.out (by kernel_rfl) ?_ _
   go_wp2_with fail
   change bodyPost _ _ _ _ _ (set8 w9 (W.heap.size+1) fd)
   have hs:=HS8.out
   generalize set8 w9 (W.heap.size+1) fd=wf at *
   obtain⟨s0,s1,s2,s3,s4,s5,s6,s7⟩:=gb8 hs
   exact bodyPost_ret (v:=.agg #[.bool fd.ok,.int .i64 fd.cost,.int .i64 fd.rule,.int .i64 fd.item,.int .i64 fd.frm,.int .i64 fd.unt,.slice fd.kids.addr fd.kids.len fd.kids.cap,.int .i64 fd.many]) (by simp[results,Tryz.results67,go_sem,s0,s1,s2,s3,s4,s5,s6,s7]) rfl HF.out
theorem Xe3 (hg:Yu g) (hI:Zr N g.cats.xs.length its.xs) (hgl:g.lies e0) (hil:ItemsAt e0 its) (hfew:its.xs.length≤16384) (h16:N≤16):∀(m:Nat) (c:Int) (i k:Nat),muG g c i k<m→0≤c→c<g.cats.xs.length→i<k→k≤N→Xl8 e0 cb kb wb top g its N c i k
 | 0,_,_,_,hm,_,_,_,_=>absurd hm (Nat.not_lt_zero _)
 | m+1,c,i,k,hm,h0,h1,h2,h3=>by
  intro X f0 W hX hE hK
  have hf32:=hg.few
  cases hf:f0 ⟨c,i,k⟩ with
  | none=>exact Xpw hg hI hgl hil hfew h16 h2 h3 c.toNat (by omega) (by omega) (fun c' i' k' q0 q1 q2 q3 q4=>Xe3 hg hI hgl hil hfew h16 m c' i' k' (by omega) q0 q1 q2 q3) W hX hE hK hf
  | some fd=>exact Xko fd W hE hK ⟨h0,by omega⟩ (by omega) (by omega) hf
end
noncomputable def strK:X2 Tryz.prog 9 ByteArray:=Xqw Tryz.underlying9
theorem Xq4 (x y:Int) (h:Value.int .i64 x=Value.int .i64 y):x=y:=by cases h;rfl
def intE:ElemShape Int:=⟨Value.int .i64,Xq4⟩
theorem To:Maps.Keyed Tryz.prog 9:=Maps.string_keyed Tryz.underlying9
theorem zeroI (w:World):(zeroValue 3).run Tryz.prog w = .ok (.int .i64 0) w:=by kernel_rfl
structure IdxMap (w:World) (bi bm:Nat) (cats:List ByteArray):Prop where
 box:w.heap[bi]? = some (.cells #[.map (some bm)] 253 (0,0))
 map:∃n,MapF w strK intE bm n (Y6 0 cats)
theorem IdxMap.ext {w w':World} {bi bm:Nat} {cats:List ByteArray} (h:IdxMap w bi bm cats) (hb:Below w.heap.size w w'):IdxMap w' bi bm cats:=by
 obtain⟨h1,n,h2⟩:=h
 exact⟨Xh hb h1,n,h2.of_block (hb.block _ h2.lt)⟩
theorem IdxMap.look {w:World} {bi bm:Nat} {cats:List ByteArray} (h:IdxMap w bi bm cats) {s:ByteArray} (hs:s.size≤maxLen):(Instr.lookup 253 (.map (some bm)) (.string s) true).run Tryz.prog w = .ok (.tuple #[.int .i64 ((Y6 0 cats s).getD 0),.bool (Y6 0 cats s).isSome]) w:=by
 obtain⟨_,n,hm⟩:=h
 exact Uv w To Tryz.underlying253 strK intE 0 (zeroI w) hm s hs
theorem IdxMap.look1 {w:World} {bi bm:Nat} {cats:List ByteArray} (h:IdxMap w bi bm cats) {s:ByteArray} (hs:s.size≤maxLen):(Instr.lookup 253 (.map (some bm)) (.string s) false).run Tryz.prog w = .ok (.int .i64 ((Y6 0 cats s).getD 0)) w:=by
 obtain⟨_,n,hm⟩:=h
 exact Xfq To Tryz.underlying253 strK intE 0 (zeroI w) hm s hs
theorem Xkn (bi bm:Nat) (cats:List ByteArray) (s:ByteArray) (w:World) (hm:IdxMap w bi bm cats) (hs:s.size≤maxLen) :
  Calls Tryz.prog 191 #[.string s,.pointer (some ⟨bi,0,none⟩)] w fun e w'=>e = .returned (.tuple #[.int .i64 ((Y6 0 cats s).getD 0),.bool (Y6 0 cats s).isSome])∧w=w':=by
 have c0:=Xj hm.box
 have hl:=hm.look hs
 generalize (Y6 0 cats s).getD 0=n at *
 generalize (Y6 0 cats s).isSome=b at *
 clear hm
 go_enter Tryz.func191,Tryz.ntmps191
 go_wp2_with fail
 go_ret2
 exact⟨rfl,rfl⟩
theorem Xnu (cats:List ByteArray) (s:ByteArray):(Y6 0 cats s).isSome=catB cats s:=by
 rw[Bool.eq_iff_iff,Ts,Xbr]
def CatBox (w:World) (bc bf bi bm:Nat) (cats:List ByteArray):Prop :=
 FnBox w bc 50 227 #[.pointer (some ⟨bf,0,none⟩)]∧w.heap[bf]? = some (.cells #[.func (.func 191) #[] #[.pointer (some ⟨bi,0,none⟩)]] 254 (0,0))∧IdxMap w bi bm cats
theorem CatBox.ext {w w':World} {bc bf bi bm:Nat} {cats:List ByteArray} (h:CatBox w bc bf bi bm cats) (hb:Below w.heap.size w w'):CatBox w' bc bf bi bm cats :=
 ⟨h.1.ext hb,(hb.block _ (Xc h.2.1)).trans h.2.1,h.2.2.ext hb⟩
theorem Xao (bf bi bm:Nat) (cats:List ByteArray) (s:ByteArray) (w:World) (hf:w.heap[bf]? = some (.cells #[.func (.func 191) #[] #[.pointer (some ⟨bi,0,none⟩)]] 254 (0,0))) (hm:IdxMap w bi bm cats) (hs:s.size≤maxLen) :
  Calls Tryz.prog 227 #[.string s,.pointer (some ⟨bf,0,none⟩)] w fun e w'=>e = .returned (.bool (catB cats s))∧w=w':=by
 have c0:=Xj hf
 have eg:=enters_of Tryz.func191 (by kernel_rfl) rfl
 have cF:=Xa (Xkn bi bm cats s w hm hs)
 have HC:=Xa (Xnu cats s)
 clear hf hm
 go_enter Tryz.func227,Tryz.ntmps227
 go_wp2_with fail
 refine cF.out.mono ?_
 rintro e w' ⟨rfl,rfl⟩
 rw[HC.out]
 go_wp2_with fail
 go_ret
 exact⟨rfl,rfl⟩
theorem Xgr (a b n:Int) (W:World):Calls Tryz.prog 230 #[.int .i64 a,.int .i64 b,.slice (some ⟨W.heap.size,0,none⟩) 1 1] (W.alloc (.cells #[.int .i64 n] 3)) fun e w'=>e = .returned (.bool (decide (a≤n) && decide (n≤b)))∧Below W.heap.size W w' :=
 (Xpm a b n W.heap.size _ (World.alloc_heap_new _ _)).mono fun _ _ ⟨h1,h2⟩=>⟨h1,Xb (Xe (Below.refl _ _) _) h2⟩
theorem Xmd (s:StrS) (W:World) (hT:TabsG W) (hs:s.lies W):Calls Tryz.prog 231 #[.func (.func 229) #[] #[],.slice (some ⟨W.heap.size,0,none⟩) 1 1] (W.alloc (.cells #[.slice s.addr s.xs.length s.cap] 22)) fun e w'=>e = .returned (.bool (s.xs.all Xw))∧Below W.heap.size W w':=by
 have hB:Below W.heap.size W (W.alloc (.cells #[.slice s.addr s.xs.length s.cap] 22)):=Xe (Below.refl _ _) _
 refine(Xpl W.heap.size s.addr s.cap s.xs 229 #[] Xw _ (World.alloc_heap_new _ _) ?_ (Nat.le_trans hs.cap hs.max) (enters_of Tryz.func229 (by kernel_rfl) rfl) ?_).mono fun _ _ ⟨h1,h2⟩=>⟨h1,Xb hB h2⟩
 ·have:=(hs.ext hB).rd
  rw[show strs s.xs=s.xs.flatMap (fun b:ByteArray=>[Value.string b]) from by unfold strs;rw[List.map_eq_flatMap]] at this
  exact this
 ·intro V hV x _
  exact Q3 x V (hT.ext (Xb hB hV))
set_option maxHeartbeats 1000000 in
theorem Xht (bc bf bi bm:Nat) (cats:List ByteArray) (x:EntryG) (w:World) (hT:TabsG w) (hc:CatBox w bc bf bi bm cats) (hx:x.lies w) (hs:x.cat.size≤maxLen) :
  Calls Tryz.prog 228 #[.agg #[.string x.text,.string x.cat,.int .i64 x.no,.slice x.gives.addr x.gives.xs.length x.gives.cap,.int .i64 x.cost],.pointer (some ⟨bc,0,none⟩)] w fun e w'=>e = .returned (.bool (Yt cats x))∧Below w.heap.size w w':=by
 obtain⟨W1,hW1⟩:∃W1,w.alloc (.cells #[.string x.text,.string x.cat,.int .i64 x.no,.slice x.gives.addr x.gives.xs.length x.gives.cap,.int .i64 x.cost] 60)=W1:=⟨_,rfl⟩
 have hB1:Below w.heap.size w W1:=by subst hW1;exact Xe (Below.refl _ _) _
 have hk:W1.heap[w.heap.size]? = some (.cells #[.string x.text,.string x.cat,.int .i64 x.no,.slice x.gives.addr x.gives.xs.length x.gives.cap,.int .i64 x.cost] 60 (0,0)):=by subst hW1;exact World.alloc_heap_new _ _
 have eg:=enters_of Tryz.func227 (by kernel_rfl) rfl
 have HE:Hid (Yt cats x=(Xw x.text && catB cats x.cat && (decide (1≤x.gives.xs.length) && decide (x.gives.xs.length≤4)) && x.gives.xs.all Xw && Vn x.cost)):=rfl
 have cF:=Xa (fun W (hW:Below W1.heap.size W1 W)=>Q3 x.text W (hT.ext (Xb hB1 hW)))
 have cC:=Xa (fun W (hW:Below W1.heap.size W1 W)=>Xao bf bi bm cats x.cat W ((hc.ext (Xb hB1 hW)).2.1) ((hc.ext (Xb hB1 hW)).2.2) hs)
 have cA:=Xa (fun W (hW:Below W1.heap.size W1 W)=>Xmd x.gives W (hT.ext (Xb hB1 hW)) (StrS.lies.ext hx (Xb hB1 hW)))
 have hcb:W1.heap[bc]? = some (.cells #[.func (.func 227) #[] #[.pointer (some ⟨bf,0,none⟩)]] 50 (0,0)):=(hc.ext hB1).1
 have HW1:=Xa hW1
 clear hT hc hx hW1
 generalize Xw x.text=f1 at *
 generalize catB cats x.cat=f2 at *
 generalize x.gives.xs.all Xw=f4 at *
 go_enter Tryz.func228,Tryz.ntmps228
 go_wp2_with fail
 rw[HW1.out]
 obtain⟨a0,a1,a2,a3,a4⟩:=gb5 hk
 clear HW1
 refine(cF.out W1 (Below.refl _ _)).mono ?_
 rintro e w2 ⟨rfl,hb2⟩
 have hB2:=Xb hB1 hb2
 cases f1
 ·go_wp2_with fail
  go_ret
  exact⟨by rw[HE.out];rfl,hB2⟩
 have hk2:=Xh hb2 hk
 have hc2:=Xj (Xh hb2 hcb)
 obtain⟨b0,b1,b2,b3,b4⟩:=gb5 hk2
 go_wp2_with fail
 refine(cC.out w2 hb2).mono ?_
 rintro e w' ⟨rfl,rfl⟩
 cases f2
 ·go_wp2_with fail
  go_ret
  exact⟨by rw[HE.out];rfl,hB2⟩
 have cB:=Xa (fun W=>Xgr 1 4 (x.gives.xs.length:Int) W)
 have HE4:Hid ((decide ((1:Int)≤(x.gives.xs.length:Int)) && decide ((x.gives.xs.length:Int)≤4))=(decide (1≤x.gives.xs.length) && decide (x.gives.xs.length≤4))):=by
  show _=_
  congr 1<;>(apply decide_eq_decide.2;omega)
 rw[HE4.out] at cB
 have cD:=Xa (fun W=>Xgr 0 1000 x.cost W)
 have HE5:Hid (Vn x.cost=(decide (0≤x.cost) && decide (x.cost≤1000))):=rfl
 rw[← HE5.out] at cD
 generalize (decide (1≤x.gives.xs.length) && decide (x.gives.xs.length≤4))=f3 at *
 generalize Vn x.cost=f5 at *
 clear HE4 HE5
 go_wp2_with fail
 refine(cB.out w2).mono ?_
 rintro e w3 ⟨rfl,hb3⟩
 have hB3:=Xb hB2 hb3
 have hk3:=Xh hb3 hk2
 have hb13:=Xb hb2 hb3
 cases f3
 ·go_wp2_with fail
  go_ret
  exact⟨by rw[HE.out];rfl,hB3⟩
 obtain⟨d0,d1,d2,d3,d4⟩:=gb5 hk3
 clear b0 b1 b2 b3 b4 a0 a1 a2 a3 a4 hc2
 go_wp2_with fail
 refine(cA.out w3 hb13).mono ?_
 rintro e w4 ⟨rfl,hb4⟩
 have hB4:=Xb hB3 hb4
 have hk4:=Xh hb4 hk3
 cases f4
 ·go_wp2_with fail
  go_ret
  exact⟨by rw[HE.out];rfl,hB4⟩
 obtain⟨g0,g1,g2,g3,g4⟩:=gb5 hk4
 clear d0 d1 d2 d3 d4
 go_wp2_with fail
 refine(cD.out w4).mono ?_
 rintro e w5 ⟨rfl,hb5⟩
 go_wp2_with fail
 go_ret
 exact⟨by rw[HE.out];simp,Xb hB4 hb5⟩
set_option maxHeartbeats 1000000 in
theorem Xjf (bc bf bi bm:Nat) (cats:List ByteArray) (x:PartG) (w:World) (hT:TabsG w) (hc:CatBox w bc bf bi bm cats) (hs:x.cat.size≤maxLen) :
  Calls Tryz.prog 232 #[.agg #[.string x.cat,.int .i64 x.no,.string x.text],.pointer (some ⟨bc,0,none⟩)] w fun e w'=>e = .returned (.bool (Yj cats x))∧Below w.heap.size w w':=by
 obtain⟨W1,hW1⟩:∃W1,w.alloc (.cells #[.string x.cat,.int .i64 x.no,.string x.text] 81)=W1:=⟨_,rfl⟩
 have hB1:Below w.heap.size w W1:=by subst hW1;exact Xe (Below.refl _ _) _
 have hk:W1.heap[w.heap.size]? = some (.cells #[.string x.cat,.int .i64 x.no,.string x.text] 81 (0,0)):=by subst hW1;exact World.alloc_heap_new _ _
 have eg:=enters_of Tryz.func227 (by kernel_rfl) rfl
 have cF:=Xa (Q3 x.text W1 (hT.ext hB1))
 have cC:=Xa (Xao bf bi bm cats x.cat W1 ((hc.ext hB1).2.1) ((hc.ext hB1).2.2) hs)
 have hc0:=Xj (hc.ext hB1).1
 have HE:Hid (Yj cats x=if x.text.size=0 then catB cats x.cat else decide (x.cat.size=0) && Xw x.text):=rfl
 clear hT hc
 obtain⟨a0,a1,a2⟩:=gb3 hk
 clear hk
 by_cases h0:x.text.size=0
 ·have HE2:Hid (Yj cats x=catB cats x.cat):=by show _=_;rw[HE.out,if_pos h0]
  have n0:=Zq (s:=x.text) (by omega)
  clear HE cF h0
  generalize catB cats x.cat=f2 at *
  go_enter Tryz.func232,Tryz.ntmps232
  go_wp2_with fail
  refine cC.out.mono ?_
  rintro e w' ⟨rfl,rfl⟩
  cases f2
  ·go_wp2_with fail
   go_ret
   exact⟨by rw[HE2.out];rfl,hB1⟩
  ·go_wp2_with fail
   go_ret
   exact⟨by rw[HE2.out];rfl,hB1⟩
 ·have n0:=Zp (s:=x.text) (by omega)
  by_cases h1:x.cat.size=0
  ·have HE2:Hid (Yj cats x=Xw x.text):=by show _=_;rw[HE.out,if_neg h0,decide_eq_true h1];rfl
   have n1:=Zq (s:=x.cat) (by omega)
   clear HE cC h0 h1
   generalize Xw x.text=f2 at *
   go_enter Tryz.func232,Tryz.ntmps232
   go_wp2_with fail
   refine cF.out.mono ?_
   rintro e w' ⟨rfl,hb⟩
   go_wp2_with fail
   go_ret
   exact⟨by rw[HE2.out];rfl,Xb hB1 hb⟩
  ·have HE2:Hid (Yj cats x=false):=by show _=_;rw[HE.out,if_neg h0,decide_eq_false h1];rfl
   have n1:=Zp (s:=x.cat) (by omega)
   clear HE cC cF h0 h1
   go_enter Tryz.func232,Tryz.ntmps232
   go_wp2_with fail
   go_ret
   exact⟨by rw[HE2.out];rfl,hB1⟩
theorem Xnj {w:World} {g j e:Nat} {u:Value} {c:Array Value} {fr:Nat×Nat} (h:w.heap[g]? = some (.cells c e fr)):(w.setCell ⟨g,j,none⟩ u).heap[g]? = some (.cells (c.setIfInBounds j u) e fr):=by
 obtain⟨hlt,hk⟩:=Array.getElem?_eq_some_iff.1 h
 show (w.heap.modify g _)[g]? = _
 rw[Array.getElem?_eq_getElem (by rw[Array.size_modify];exact hlt),Array.getElem_modify_self,hk]
 rfl
theorem Xn0 (z:Value) (n:Nat):madeCells #[z] n=Array.replicate n z:=by
 apply Array.ext
 ·simp[madeCells]
 ·intro i h1 h2
  simp[madeCells,Nat.mod_one]
theorem Xkz:(Tryz.prog.info? 3).map (fun i=>(i.zero,i.size,i.bytes))=some (some (.int .i64 0),1,8):=by kernel_rfl
theorem Xqg (n:Nat) (h:n≤1000) (w:World):(Instr.makeSlice 49 (.int .i64 (n:Int)) (.int .i64 (n:Int))).run Tryz.prog w = .ok (.slice (some ⟨w.heap.size,0,none⟩) n n) (w.alloc (.cells (Array.replicate n (.int .i64 0)) 3)):=by
 rw[← Xn0]
 exact run_make_row' (P:=Tryz.prog) 49 3 (.int .i64 0) 8 Tryz.underlying49 Xkz rfl .i64 .i64 n (by omega) (by omega) w
def Ul (l:List GiveG) (n:Nat):Array Value:=((List.range n).map fun i=>Value.int .i64 (Ya l i:Nat)).toArray
theorem Xn1 (n:Nat):Ul [] n=Array.replicate n (.int .i64 0):=by
 unfold Ul
 apply Array.ext
 ·simp
 ·intro i h1 h2
  simp[Ya]
theorem Xc9 (l:List GiveG) {n i:Nat} (h:i<n):(Ul l n)[i]? = some (.int .i64 (Ya l i:Nat)):=by
 unfold Ul
 simp[h]
theorem Xk5 (l:List GiveG) (n:Nat) (y:GiveG) (h:¬y.text.size=0):Ul (l++[y]) n=Ul l n:=by
 unfold Ul
 congr 1
 refine List.map_congr_left fun i _=>?_
 rw[Xbm,if_neg (fun hh=>h hh.1)];rfl
theorem Xk4 (l:List GiveG) (n p:Nat) (y:GiveG) (h:y.text.size=0) (hp:y.part=(p:Int)):(Ul l n).setIfInBounds p (.int .i64 ((Ya l p:Nat)+1:Int))=Ul (l++[y]) n:=by
 unfold Ul
 apply Array.ext
 ·simp
 ·intro i h1 h2
  simp only[List.size_toArray,List.length_map,List.length_range,Array.size_setIfInBounds] at h1 h2
  rw[Array.getElem_setIfInBounds (by simpa using h1)]
  simp only[List.getElem_toArray,List.getElem_map,List.getElem_range]
  rw[Xbm]
  by_cases e:p=i
  ·subst e
   rw[if_pos rfl,if_pos ⟨h,hp⟩];simp
  ·rw[if_neg e,if_neg (fun hh=>e (by have:=hh.2;omega))];rfl
theorem Xpi (bc bf bi bm:Nat) (cats:List ByteArray) (ps:SlS PartG) (W:World) (hT:TabsG W) (hc:CatBox W bc bf bi bm cats) (hs:ps.lies PartG.cells W) (hl:∀p∈ps.xs,p.cat.size≤maxLen) :
  Calls Tryz.prog 234 #[.func (.func 232) #[] #[.pointer (some ⟨bc,0,none⟩)],.slice (some ⟨W.heap.size,0,none⟩) 1 1] (W.alloc (.cells #[.slice ps.addr ps.xs.length ps.cap] 76)) fun e w'=>e = .returned (.bool (ps.xs.all (Yj cats)))∧Below W.heap.size W w':=by
 have hB:Below W.heap.size W (W.alloc (.cells #[.slice ps.addr ps.xs.length ps.cap] 76)):=Xe (Below.refl _ _) _
 refine(Xph W.heap.size ps.addr ps.cap ps.xs 232 #[.pointer (some ⟨bc,0,none⟩)] (Yj cats) _ (World.alloc_heap_new _ _) (hs.ext hB).rd (Nat.le_trans hs.cap hs.max) (enters_of Tryz.func232 (by kernel_rfl) rfl) ?_).mono fun _ _ ⟨h1,h2⟩=>⟨h1,Xb hB h2⟩
 intro V hV x hx
 exact Xjf bc bf bi bm cats x V (hT.ext (Xb hB hV)) (hc.ext (Xb hB hV)) (hl x hx)
def Xp1 (cats:List ByteArray) (x:RuleG):Bool:=catB cats x.cat && (decide (1≤x.parts.xs.length) && decide (x.parts.xs.length≤4)) && (decide (1≤x.gives.xs.length) && decide (x.gives.xs.length≤8)) && Vn x.cost && x.parts.xs.all (Yj cats)
theorem Xll (cats:List ByteArray) (x:RuleG):Yh cats x=(Xp1 cats x && (x.gives.xs.all (Ui x.parts.xs.length) && Q7 x.gives.xs 0 x.parts.xs)):=by
 unfold Yh Xp1
 rw[Bool.and_assoc,Xkv]
theorem Xmi (a b n:Nat):(decide ((a:Int)≤(n:Int)) && decide ((n:Int)≤(b:Int)))=(decide (a≤n) && decide (n≤b)):=by
 congr 1<;>(apply decide_eq_decide.2;omega)
set_option maxHeartbeats 4000000 in
theorem Xjq (bp bc bf bi bm:Nat) (cats:List ByteArray) (x:RuleG) (w:World) (hT:TabsG w) (hc:CatBox w bc bf bi bm cats) (hx:x.lies w) (hp:FnBox w bp 288 232 #[.pointer (some ⟨bc,0,none⟩)])
  (hs:x.cat.size≤maxLen) (hl:∀p∈x.parts.xs,p.cat.size≤maxLen) :
  Calls Tryz.prog 233 #[.agg #[.string x.cat,.int .i64 x.no,.slice x.parts.addr x.parts.xs.length x.parts.cap,.slice x.gives.addr x.gives.xs.length x.gives.cap,.int .i64 x.cost],.pointer (some ⟨bc,0,none⟩),.pointer (some ⟨bp,0,none⟩)] w fun e w'=>e = .returned (.bool (Yh cats x))∧Below w.heap.size w w':=by
 obtain⟨W1,hW1⟩:∃W1,w.alloc (.cells #[.string x.cat,.int .i64 x.no,.slice x.parts.addr x.parts.xs.length x.parts.cap,.slice x.gives.addr x.gives.xs.length x.gives.cap,.int .i64 x.cost] 79)=W1:=⟨_,rfl⟩
 have hB1:Below w.heap.size w W1:=by subst hW1;exact Xe (Below.refl _ _) _
 have hk:W1.heap[w.heap.size]? = some (.cells #[.string x.cat,.int .i64 x.no,.slice x.parts.addr x.parts.xs.length x.parts.cap,.slice x.gives.addr x.gives.xs.length x.gives.cap,.int .i64 x.cost] 79 (0,0)):=by subst hW1;exact World.alloc_heap_new _ _
 have eg:=enters_of Tryz.func227 (by kernel_rfl) rfl
 have HR:=Xa (Xll cats x)
 have HE:Hid (Xp1 cats x=(catB cats x.cat && (decide (1≤x.parts.xs.length) && decide (x.parts.xs.length≤4)) && (decide (1≤x.gives.xs.length) && decide (x.gives.xs.length≤8)) && Vn x.cost && x.parts.xs.all (Yj cats))):=rfl
 have HT:=Xa (hT.ext hB1)
 have HC:=Xa (hc.ext hB1)
 have HX:=Xa (RuleG.lies.ext hx hB1)
 have cC:=Xa (Xao bf bi bm cats x.cat W1 HC.out.2.1 HC.out.2.2 hs)
 have cB:=Xa (fun W=>Xgr 1 4 (x.parts.xs.length:Int) W)
 have cG:=Xa (fun W=>Xgr 1 8 (x.gives.xs.length:Int) W)
 have cD:=Xa (fun W=>Xgr 0 1000 x.cost W)
 have cA:=Xa (fun W (hW:Below W1.heap.size W1 W)=>Xpi bc bf bi bm cats x.parts W (HT.out.ext hW) (HC.out.ext hW) (HX.out.1.ext hW) hl)
 have hcb:=HC.out.1
 have hpb:=hp.ext hB1
 rw[show (decide ((1:Int)≤(x.parts.xs.length:Int)) && decide ((x.parts.xs.length:Int)≤4))=(decide (1≤x.parts.xs.length) && decide (x.parts.xs.length≤4)) from Xmi 1 4 _] at cB
 rw[show (decide ((1:Int)≤(x.gives.xs.length:Int)) && decide ((x.gives.xs.length:Int)≤8))=(decide (1≤x.gives.xs.length) && decide (x.gives.xs.length≤8)) from Xmi 1 8 _] at cG
 have HE5:Hid (Vn x.cost=(decide (0≤x.cost) && decide (x.cost≤1000))):=rfl
 rw[← HE5.out] at cD
 have Hpl:Hid ((decide (1≤x.parts.xs.length) && decide (x.parts.xs.length≤4))=true→x.parts.xs.length≤4):=by intro h;simp at h;exact h.2
 have Hgl:Hid ((decide (1≤x.gives.xs.length) && decide (x.gives.xs.length≤8))=true→x.gives.xs.length≤8):=by intro h;simp at h;exact h.2
 generalize catB cats x.cat=f1 at *
 generalize (decide (1≤x.parts.xs.length) && decide (x.parts.xs.length≤4))=f2 at *
 generalize (decide (1≤x.gives.xs.length) && decide (x.gives.xs.length≤8))=f3 at *
 generalize Vn x.cost=f4 at *
 generalize x.parts.xs.all (Yj cats)=f5 at *
 clear hT hc hx hp hl HE5
 obtain⟨a0,a1,a2,a3,a4⟩:=gb5 hk
 have c0:=Xj hcb
 go_enter Tryz.func233,Tryz.ntmps233
 go_wp2_with fail
 refine cC.out.mono ?_
 rintro e w' ⟨rfl,rfl⟩
 clear hW1
 cases f1
 ·go_wp2_with fail
  go_ret
  exact⟨by rw[HR.out,HE.out];rfl,hB1⟩
 go_wp2_with fail
 refine(cB.out W1).mono ?_
 rintro e w2 ⟨rfl,hb2⟩
 have hB2:=Xb hB1 hb2
 have hk2:=Xh hb2 hk
 cases f2
 ·go_wp2_with fail
  go_ret
  exact⟨by rw[HR.out,HE.out];rfl,hB2⟩
 obtain⟨b0,b1,b2,b3,b4⟩:=gb5 hk2
 clear a0 a1 a2 a3 a4 c0
 go_wp2_with fail
 refine(cG.out w2).mono ?_
 rintro e w3 ⟨rfl,hb3⟩
 have hB3:=Xb hB2 hb3
 have hk3:=Xh hb3 hk2
 cases f3
 ·go_wp2_with fail
  go_ret
  exact⟨by rw[HR.out,HE.out];rfl,hB3⟩
 obtain⟨d0,d1,d2,d3,d4⟩:=gb5 hk3
 clear b0 b1 b2 b3 b4
 go_wp2_with fail
 refine(cD.out w3).mono ?_
 rintro e w4 ⟨rfl,hb4⟩
 have hB4:=Xb hB3 hb4
 have hk4:=Xh hb4 hk3
 cases f4
 ·go_wp2_with fail
  go_ret
  exact⟨by rw[HR.out,HE.out];rfl,hB4⟩
 obtain⟨g0,g1,g2,g3,g4⟩:=gb5 hk4
 have hb14:=Xb hb2 (Xb hb3 hb4)
 have hp4:=Xj (hpb.ext hb14)
 clear d0 d1 d2 d3 d4
 go_wp2_with fail
 refine(cA.out w4 hb14).mono ?_
 rintro e w5 ⟨rfl,hb5⟩
 have hB5:=Xb hB4 hb5
 have hk5:=Xh hb5 hk4
 cases f5
 ·go_wp2_with fail
  go_ret
  exact⟨by rw[HR.out,HE.out];rfl,hB5⟩
 have hpl:=Hpl.out trivial
 have hgl:=Hgl.out trivial
 have HF:Hid (Yh cats x=(x.gives.xs.all (Ui x.parts.xs.length) && Q7 x.gives.xs 0 x.parts.xs)):=by show _=_;rw[HR.out,HE.out];rfl
 have HT5:=Xa (HT.out.ext (Xb hb14 hb5))
 have HX5:=Xa (HX.out.ext (Xb hb14 hb5))
 have Hk5:=Xa hk5
 obtain⟨k0,k1,k2,k3,k4⟩:=gb5 hk5
 clear g0 g1 g2 g3 g4 hp4 cA cB cC cD cG hb2 hb3 hb4 hb14 hb5 hB1 hB2 hB3 hB4 hk hk2 hk3 hk4 hk5 hcb hpb HR HE HT HC HX Hpl Hgl eg
 have hmk:=fun w=>Xqg x.parts.xs.length (by omega) w
 have hnil:=Xa (Xn1 x.parts.xs.length)
 obtain⟨n,hn⟩:∃n,x.parts.xs.length=n:=⟨_,rfl⟩
 obtain⟨w6,hw6⟩:∃w6,w5.alloc (.cells (Array.replicate n (.int .i64 0)) 3)=w6:=⟨_,rfl⟩
 rw[hn] at hnil HF hmk hpl
 have hB6:Below w5.heap.size w5 w6:=by subst hw6;exact Xe (Below.refl _ _) _
 have hm6:w6.heap[w5.heap.size]? = some (.cells (Ul [] n) 3 (0,0)):=by subst hw6;rw[hnil.out];exact World.alloc_heap_new _ _
 have hk6:=Xh hB6 Hk5.out
 have HK6:=Xa hk6
 have k6:w6.cell? ⟨w.heap.size,3,none⟩=some (.slice x.gives.addr x.gives.xs.length x.gives.cap):=gblk hk6 3
 clear hk6
 go_wp2_with fail
 clear k0 k1 k2 k3 k4 k6 hmk hnil hw6
 go_loopw [53] (fun i wr=>∃k:Nat,k≤x.gives.xs.length∧i = .int .i64 k∧Below w5.heap.size w5 wr∧wr.heap[w5.heap.size]? = some (.cells (Ul (x.gives.xs.take k) n) 3 (0,0))∧Hid ((x.gives.xs.take k).all (Ui n)=true)) (fun i _=>x.gives.xs.length-(intOf i).toNat)
 case atStart=>exact⟨0,Nat.zero_le _,rfl,hB6,hm6,rfl⟩
 case round =>
  obtain⟨k,hk,rfl,hB,hm,HR⟩:=hrel
  have hBw:=Xb hB5 hB
  by_cases hlt:k<x.gives.xs.length
  ·obtain⟨b,off,hA,hb,hc⟩:=HX5.out.2.at_ GiveG.size_cells (by omega) hlt
   rw[hA]
   have d0:wr.cell? ⟨b,off+k*2,none⟩=some (.int .i64 x.gives.xs[k].part):=hc k hlt wr hB 0 _ rfl
   have d1:wr.cell? ⟨b,off+k*2+1,none⟩=some (.string x.gives.xs[k].text):=hc k hlt wr hB 1 _ rfl
   have hmem:=List.getElem_mem hlt
   have htk:x.gives.xs.take (k+1)=x.gives.xs.take k++[x.gives.xs[k]]:=List.take_succ_eq_append_getElem hlt
   have Htk:=Xa htk
   have Hmem:=Xa hmem
   clear hc hmem htk hA
   obtain⟨y,hy⟩:∃y,x.gives.xs[k]=y:=⟨_,rfl⟩
   rw[hy] at Htk Hmem d0 d1
   clear hy
   obtain⟨W2,hW2⟩:∃W2,wr.alloc (.cells #[.int .i64 y.part,.string y.text] 176)=W2:=⟨_,rfl⟩
   have hb2:Below wr.heap.size wr W2:=by subst hW2;exact Xe (Below.refl _ _) _
   have hy2:W2.heap[wr.heap.size]? = some (.cells #[.int .i64 y.part,.string y.text] 176 (0,0)):=by subst hW2;exact World.alloc_heap_new _ _
   have hm2:=Xh hb2 hm
   have hB2:=Xb hB hb2
   have HFf:Hid (Ui n y=false→Yh cats x=false):=by
    intro h
    rw[HF.out]
    have:x.gives.xs.all (Ui n)=false:=by rw[List.all_eq_false];exact⟨y,Hmem.out,by simp[h]⟩
    rw[this];rfl
   have HFt:Hid (Ui n y=true→(x.gives.xs.take (k+1)).all (Ui n)=true):=by
    intro h
    rw[Htk.out,List.all_append,HR.out]
    simp[h]
   obtain⟨e0,e1⟩:=gb2 hy2
   by_cases ht:y.text.size=0
   ·have n0:=Zq (s:=y.text) (by omega)
    have n1:(y.text.toList != [])=false:=by have:=List.isEmpty_iff.1 n0;simp[this]
    have HG:Hid (Ui n y=(decide (0≤y.part) && decide (y.part≤(n:Int)-1))):=by
     show _=_
     unfold Ui
     rw[if_pos ht]
     congr 1
     exact decide_eq_decide.2 (by omega)
    have cB:=Xa (Xgr 0 ((n:Int)-1) y.part W2)
    have z2:Hid (W2.heap.size=wr.heap.size+1):=by show _=_;rw[← hW2];simp
    have HN:Hid (∀p:Nat,y.part=(p:Int)→(Ul (x.gives.xs.take k) n).setIfInBounds p (.int .i64 ((Ya (x.gives.xs.take k) p:Nat)+1:Int))=Ul (x.gives.xs.take (k+1)) n):=by
     intro p hp
     rw[Htk.out];exact Xk4 _ n p y ht hp
    rw[← HG.out] at cB
    clear ht
    have w1:IntKind.i64.wrap ((n:Int)-1)=(n:Int)-1:=IntWalk.i64_in _ (by omega)
    cases hg:Ui n y
    ·have HR2:=Xa (HFf.out hg)
     rw[hg] at cB
     clear hg HFf HFt HG HN
     go_wp2_with fail
     refine cB.out.mono ?_
     rintro e w7 ⟨rfl,hb7⟩
     go_wp2_with fail
     go_ret
     exact⟨by rw[HR2.out];rfl,Xb hB5 (Xb hB2 hb7)⟩
    ·have HR2:=Xa (HFt.out hg)
     have hpr:=HG.out
     rw[hg] at cB hpr
     have hpr2:=hpr.symm
     simp only[Bool.and_eq_true,decide_eq_true_eq] at hpr2
     obtain⟨p,hp⟩:∃p:Nat,y.part=(p:Int):=⟨y.part.toNat,by omega⟩
     have hpn:p<n:=by omega
     have HN2:=Xa (HN.out p hp)
     have hcl:Ya (x.gives.xs.take k) p≤8:=by have:=Xe8 (x.gives.xs.take k) p;have:=List.length_take_le k x.gives.xs;omega
     have HGet:=Xa (Xc9 (x.gives.xs.take k) hpn)
     obtain⟨yp,yt⟩:=y
     have hp:yp=(p:Int):=hp
     subst hp
     dsimp only at e0 e1 d0 d1 hW2 hy2 cB n0 n1 HN2 HR2
     generalize (Ya (x.gives.xs.take k) p:Nat)=c at *
     have w2:IntKind.i64.wrap ((c:Int)+1)=(c:Int)+1:=IntWalk.i64_in _ (by omega)
     generalize Ul (x.gives.xs.take k) n=M at *
     clear hg hpr hpr2 HFf HFt HG HN
     go_wp2_with fail
     refine cB.out.mono ?_
     rintro e w7 ⟨rfl,hb7⟩
     have hm7:=Xh hb7 hm2
     have hy7:=Xh hb7 hy2
     have q0:w7.cell? ⟨w5.heap.size,0+p,none⟩=some (.int .i64 (c:Int)):=by rw[Nat.zero_add];exact(gblk hm7 p).trans HGet.out
     have q1:w7.cell? ⟨w5.heap.size,p,none⟩=some (.int .i64 (c:Int)):=(gblk hm7 p).trans HGet.out
     have q2:=Xf hm7 p
     have q3:w7.cell? ⟨wr.heap.size,0,none⟩=some (.int .i64 (p:Int)):=gblk hy7 0
     have hB7:=Xb hB2 hb7
     have hs7:=hB7.setCell (p:=⟨w5.heap.size,p,none⟩) (Nat.le_refl _) (.int .i64 ((c:Int)+1))
     have hm8:=Xnj (j:=p) (u:=.int .i64 ((c:Int)+1)) hm7
     rw[HN2.out] at hm8
     have Hm8:=Xa hm8
     have Hs7:=Xa hs7
     clear hm7 hy7 hm8 hs7 hm2 hy2 e0 e1 hW2 cB z2 hb2 hm HN2 HGet d0 d1
     go_wp2_with fail
     go_roundw
     case rel=>exact⟨k+1,by omega,by go_num,Hs7.out,Hm8.out,HR2⟩
     case measure=>simp[intOf];omega
   ·have n0:=Zp (s:=y.text) (by omega)
    have HG:Hid (Ui n y=(decide (y.part=0) && Xw y.text)):=by show _=_;unfold Ui;rw[if_neg ht]
    have HN:Hid (Ul (x.gives.xs.take (k+1)) n=Ul (x.gives.xs.take k) n):=by show _=_;rw[Htk.out];exact Xk5 _ n y ht
    have cF:=Xa (fun W (hW:Below w5.heap.size w5 W)=>Q3 y.text W (HT5.out.ext hW))
    clear ht
    by_cases hz:y.part=0
    ·have g1:(y.part != 0)=false:=by simp[hz]
     have HG2:Hid (Ui n y=Xw y.text):=by show _=_;rw[HG.out,decide_eq_true hz];rfl
     clear HG hz
     generalize Xw y.text=f at *
     go_wp2_with fail
     refine(cF.out W2 hB2).mono ?_
     rintro e w7 ⟨rfl,hb7⟩
     have hB7:=Xb hB2 hb7
     cases f
     ·have HR2:=Xa (HFf.out HG2.out)
      clear HFf HFt HG2 cF
      go_wp2_with fail
      go_ret
      exact⟨by rw[HR2.out];rfl,Xb hB5 hB7⟩
     ·have HR2:=Xa (HFt.out HG2.out)
      have hm7:=Xh hb7 hm2
      rw[← HN.out] at hm7
      clear HFf HFt HG2 cF HN
      go_wp2_with fail
      go_roundw
      case rel=>exact⟨k+1,by omega,by go_num,hB7,hm7,HR2⟩
      case measure=>simp[intOf];omega
    ·have g1:(y.part != 0)=true:=by simpa using hz
     have HR2:=Xa (HFf.out (by rw[HG.out,decide_eq_false hz];rfl))
     clear HG hz HFf HFt HN cF
     go_wp2_with fail
     go_ret
     exact⟨by rw[HR2.out];rfl,Xb hB5 hB2⟩
  ·obtain rfl:k=x.gives.xs.length:=by omega
   rw[List.take_length] at hm HR
   have HF2:Hid (Yh cats x=Q7 x.gives.xs 0 x.parts.xs):=by show _=_;rw[HF.out,HR.out];rfl
   have Hm:=Xa hm
   have HGl:=Xa (fun k=>Xe8 x.gives.xs k)
   have hkr:=Xh hB Hk5.out
   have k2:wr.cell? ⟨w.heap.size,2,none⟩=some (.slice x.parts.addr x.parts.xs.length x.parts.cap):=gblk hkr 2
   rw[hn] at k2
   obtain⟨w9,hw9⟩:∃w9,w9=wr:=⟨_,rfl⟩
   subst hw9
   clear HF HR hkr hm HK6
   go_wp2_with fail
   clear k2
   go_loopw [90] (fun i wr=>∃k:Nat,k≤n∧i = .int .i64 k∧Below w9.heap.size w9 wr∧Hid (∀(j:Nat) (p:PartG),x.parts.xs[j]? = some p→j<k→(Ya x.gives.xs (0+j)=1↔p.text.size=0)∧Ya x.gives.xs (0+j)≤1)) (fun i _=>n-(intOf i).toNat)
   case atStart=>exact⟨0,Nat.zero_le _,rfl,Below.refl _ _,fun j p _ h=>by omega⟩
   case round =>
    obtain⟨k,hk,rfl,hB9,HR⟩:=hrel
    have hBr:=Xb hB hB9
    by_cases hlt:k<n
    ·have hlt':k<x.parts.xs.length:=by omega
     obtain⟨b,off,hA,hb,hc⟩:=HX5.out.1.at_ PartG.size_cells (by omega) hlt'
     rw[hA]
     have d0:wr.cell? ⟨b,off+k*3,none⟩=some (.string x.parts.xs[k].cat):=hc k hlt' wr hBr 0 _ rfl
     have d1:wr.cell? ⟨b,off+k*3+1,none⟩=some (.int .i64 x.parts.xs[k].no):=hc k hlt' wr hBr 1 _ rfl
     have d2:wr.cell? ⟨b,off+k*3+2,none⟩=some (.string x.parts.xs[k].text):=hc k hlt' wr hBr 2 _ rfl
     have hget:x.parts.xs[k]? = some x.parts.xs[k]:=List.getElem?_eq_getElem hlt'
     obtain⟨y,hy⟩:∃y,x.parts.xs[k]=y:=⟨_,rfl⟩
     rw[hy] at hget d0 d1 d2
     have HFf:Hid (¬((Ya x.gives.xs k=1↔y.text.size=0)∧Ya x.gives.xs k≤1)→Yh cats x=false):=by
      intro h
      rw[HF2.out,Bool.eq_false_iff]
      intro hm
      have:=(Qh _ _ _).1 hm k y hget
      rw[Nat.zero_add] at this
      exact h this
     have HFt:Hid ((Ya x.gives.xs k=1↔y.text.size=0)→Ya x.gives.xs k≤1→∀(j:Nat) (p:PartG),x.parts.xs[j]? = some p→j<k+1→(Ya x.gives.xs (0+j)=1↔p.text.size=0)∧Ya x.gives.xs (0+j)≤1):=by
      intro h1 h2 j p hj hlt
      by_cases e:j<k
      ·exact HR.out j p hj e
      ·obtain rfl:j=k:=by omega
       rw[hget] at hj
       cases hj
       rw[Nat.zero_add]
       exact⟨h1,h2⟩
     clear hc hA hy HR HF2
     obtain⟨W2,hW2⟩:∃W2,wr.alloc (.cells #[.string y.cat,.int .i64 y.no,.string y.text] 81)=W2:=⟨_,rfl⟩
     have hb2:Below wr.heap.size wr W2:=by subst hW2;exact Xe (Below.refl _ _) _
     have hy2:W2.heap[wr.heap.size]? = some (.cells #[.string y.cat,.int .i64 y.no,.string y.text] 81 (0,0)):=by subst hW2;exact World.alloc_heap_new _ _
     have e2:W2.cell? ⟨wr.heap.size,2,none⟩=some (.string y.text):=gblk hy2 2
     have hm2:=((Xb hB9 hb2).block _ (Xc Hm.out)).trans Hm.out
     have q0:W2.cell? ⟨w5.heap.size,0+k,none⟩=some (.int .i64 (Ya x.gives.xs k:Nat)):=by rw[Nat.zero_add];exact(gblk hm2 k).trans (Xc9 _ hlt)
     have q1:W2.cell? ⟨w5.heap.size,k,none⟩=some (.int .i64 (Ya x.gives.xs k:Nat)):=(gblk hm2 k).trans (Xc9 _ hlt)
     have hB29:=Xb hB9 hb2
     have hcl:=HGl.out k
     generalize Ya x.gives.xs k=c at *
     clear hm2 hy2 hb2 hget
     by_cases ht:y.text.size=0
     ·have n0:=Zq (s:=y.text) (by omega)
      by_cases hc1:c=1
      ·subst hc1
       have HR2:=Xa (HFt.out (by simp[ht]) (by omega))
       clear HFt HFf ht
       go_wp2_with fail
       go_still (by kernel_rfl)
       go_wp2
       go_roundw
       case rel=>exact⟨k+1,by omega,by go_num,hB29.drew,HR2⟩
       case measure=>simp[intOf];omega
      ·have HR2:=Xa (HFf.out (fun h=>hc1 (h.1.2 ht)))
       have g1:((c:Int) == 1)=false:=by simp;omega
       clear HFt HFf ht hc1
       go_wp2_with fail
       go_still (by kernel_rfl)
       go_wp2
       go_ret
       exact⟨by rw[HR2.out];rfl,Xb hBw (hB29.drew)⟩
     ·have n0:=Zp (s:=y.text) (by omega)
      by_cases hc1:c=0
      ·subst hc1
       have HR2:=Xa (HFt.out (by simp[ht]) (by omega))
       clear HFt HFf ht
       go_wp2_with fail
       go_still (by kernel_rfl)
       go_wp2
       go_roundw
       case rel=>exact⟨k+1,by omega,by go_num,hB29.drew,HR2⟩
       case measure=>simp[intOf];omega
      ·have HR2:=Xa (HFf.out (fun h=>by
        have h1:c=1:=by omega
        exact ht (h.1.1 h1)))
       have g2:∃g,((c:Int) == 1)=g:=⟨_,rfl⟩
       obtain⟨g,g1⟩:=g2
       have g3:g=false→(1:Int)<c:=by intro h;rw[h] at g1;simp at g1;omega
       clear HFt HFf ht hc1
       cases g
       ·have g4:=g3 rfl
        clear g3
        go_wp2_with fail
        go_still (by kernel_rfl)
        go_wp2
        go_ret
        exact⟨by rw[HR2.out];rfl,Xb hBw (hB29.drew)⟩
       ·clear g3
        go_wp2_with fail
        go_still (by kernel_rfl)
        go_wp2
        go_ret
        exact⟨by rw[HR2.out];rfl,Xb hBw (hB29.drew)⟩
    ·have HE:Hid (Yh cats x=true):=by
      show _=_
      rw[HF2.out]
      refine(Qh _ _ _).2 fun j p hj=>HR.out j p hj ?_
      have:=(List.getElem?_eq_some_iff.1 hj).1
      omega
     clear HR HF2
     go_wp2_with fail
     go_ret
     exact⟨by rw[HE.out];rfl,Xb hBw hB9⟩
structure Gram.short (g:Gram):Prop where
 cats:∀s∈g.cats.xs,s.size≤maxLen
 start:g.start.size≤maxLen
 entry:∀x∈g.entries.xs,x.cat.size≤maxLen
 rule:∀x∈g.rules.xs,x.cat.size≤maxLen
 part:∀x∈g.rules.xs,∀p∈x.parts.xs,p.cat.size≤maxLen
theorem Xj8 (bc bf bi bm:Nat) (cats:List ByteArray) (es:SlS EntryG) (W:World) (hT:TabsG W) (hc:CatBox W bc bf bi bm cats) (hs:es.lies EntryG.cells W) (hx:∀x∈es.xs,x.lies W) (hl:∀x∈es.xs,x.cat.size≤maxLen) :
  Calls Tryz.prog 235 #[.func (.func 228) #[] #[.pointer (some ⟨bc,0,none⟩)],.slice (some ⟨W.heap.size,0,none⟩) 1 1] (W.alloc (.cells #[.slice es.addr es.xs.length es.cap] 23)) fun e w'=>e = .returned (.bool (es.xs.all (Yt cats)))∧Below W.heap.size W w':=by
 have hB:Below W.heap.size W (W.alloc (.cells #[.slice es.addr es.xs.length es.cap] 23)):=Xe (Below.refl _ _) _
 refine(Xpf W.heap.size es.addr es.cap es.xs 228 #[.pointer (some ⟨bc,0,none⟩)] (Yt cats) _ (World.alloc_heap_new _ _) (hs.ext hB).rd (Nat.le_trans hs.cap hs.max) (enters_of Tryz.func228 (by kernel_rfl) rfl) ?_).mono fun _ _ ⟨h1,h2⟩=>⟨h1,Xb hB h2⟩
 intro V hV x hm
 exact Xht bc bf bi bm cats x V (hT.ext (Xb hB hV)) (hc.ext (Xb hB hV)) ((hx x hm).ext (Xb hB hV)) (hl x hm)
theorem Xpk (bp bc bf bi bm:Nat) (cats:List ByteArray) (rs:SlS RuleG) (W:World) (hT:TabsG W) (hc:CatBox W bc bf bi bm cats) (hp:FnBox W bp 288 232 #[.pointer (some ⟨bc,0,none⟩)]) (hs:rs.lies RuleG.cells W) (hx:∀x∈rs.xs,x.lies W) (hl:∀x∈rs.xs,x.cat.size≤maxLen) (hlp:∀x∈rs.xs,∀p∈x.parts.xs,p.cat.size≤maxLen) :
  Calls Tryz.prog 236 #[.func (.func 233) #[] #[.pointer (some ⟨bc,0,none⟩),.pointer (some ⟨bp,0,none⟩)],.slice (some ⟨W.heap.size,0,none⟩) 1 1] (W.alloc (.cells #[.slice rs.addr rs.xs.length rs.cap] 24)) fun e w'=>e = .returned (.bool (rs.xs.all (Yh cats)))∧Below W.heap.size W w':=by
 have hB:Below W.heap.size W (W.alloc (.cells #[.slice rs.addr rs.xs.length rs.cap] 24)):=Xe (Below.refl _ _) _
 refine(Xpj W.heap.size rs.addr rs.cap rs.xs 233 #[.pointer (some ⟨bc,0,none⟩),.pointer (some ⟨bp,0,none⟩)] (Yh cats) _ (World.alloc_heap_new _ _) (hs.ext hB).rd (Nat.le_trans hs.cap hs.max) (enters_of Tryz.func233 (by kernel_rfl) rfl) ?_).mono fun _ _ ⟨h1,h2⟩=>⟨h1,Xb hB h2⟩
 intro V hV x hm
 exact Xjq bp bc bf bi bm cats x V (hT.ext (Xb hB hV)) (hc.ext (Xb hB hV)) ((hx x hm).ext (Xb hB hV)) (hp.ext (Xb hB hV)) (hl x hm) (hlp x hm)
def Xbx (g:Gram):Bool:=Xw g.name && decide (0<g.cats.xs.length) && g.cats.xs.all Xw && catB g.cats.xs g.start && g.entries.xs.all (Yt g.cats.xs) && g.rules.xs.all (Yh g.cats.xs)
theorem Xq0 (g:Gram):Xz g=(decide g.cats.xs.Nodup && Xbx g):=by
 unfold Xz Xbx
 rw[show decide (1≤g.cats.xs.length)=decide (0<g.cats.xs.length) from rfl]
 cases Xw g.name<;>cases decide (0<g.cats.xs.length)<;>cases catB g.cats.xs g.start<;>cases g.cats.xs.all Xw<;>cases decide g.cats.xs.Nodup<;>cases g.entries.xs.all (Yt g.cats.xs)<;>rfl
set_option maxHeartbeats 2000000 in
theorem Xh3 (bi bm:Nat) (g:Gram) (w:World) (hT:TabsG w) (hg:g.lies w) (hs:g.short) (hm:IdxMap w bi bm g.cats.xs) :
  Calls Tryz.prog 192 #[.agg #[.string g.name,.slice g.cats.addr g.cats.xs.length g.cats.cap,.string g.start,.int .i64 g.startNo,.slice g.entries.addr g.entries.xs.length g.entries.cap,.slice g.rules.addr g.rules.xs.length g.rules.cap],.func (.func 191) #[] #[.pointer (some ⟨bi,0,none⟩)]] w fun e w'=>e = .returned (.bool (Xbx g))∧Below w.heap.size w w':=by
 obtain⟨W1,hW1⟩:∃W1,w.alloc (.cells #[.string g.name,.slice g.cats.addr g.cats.xs.length g.cats.cap,.string g.start,.int .i64 g.startNo,.slice g.entries.addr g.entries.xs.length g.entries.cap,.slice g.rules.addr g.rules.xs.length g.rules.cap] 26)=W1:=⟨_,rfl⟩
 obtain⟨W2,hW2⟩:∃W2,W1.alloc (.cells #[.func (.func 191) #[] #[.pointer (some ⟨bi,0,none⟩)]] 254)=W2:=⟨_,rfl⟩
 obtain⟨W3,hW3⟩:∃W3,W2.alloc (.cells #[.func (.func 227) #[] #[.pointer (some ⟨w.heap.size+1,0,none⟩)]] 50)=W3:=⟨_,rfl⟩
 obtain⟨W4,hW4⟩:∃W4,W3.alloc (.cells #[.func (.func 232) #[] #[.pointer (some ⟨W2.heap.size,0,none⟩)]] 288)=W4:=⟨_,rfl⟩
 have z1:W1.heap.size=w.heap.size+1:=by subst hW1;simp
 have b1:Below w.heap.size w W1:=by subst hW1;exact Xe (Below.refl _ _) _
 have b2:Below W1.heap.size W1 W2:=by subst hW2;exact Xe (Below.refl _ _) _
 have b3:Below W2.heap.size W2 W3:=by subst hW3;exact Xe (Below.refl _ _) _
 have b4:Below W3.heap.size W3 W4:=by subst hW4;exact Xe (Below.refl _ _) _
 have k1:W1.heap[w.heap.size]? = some (.cells #[.string g.name,.slice g.cats.addr g.cats.xs.length g.cats.cap,.string g.start,.int .i64 g.startNo,.slice g.entries.addr g.entries.xs.length g.entries.cap,.slice g.rules.addr g.rules.xs.length g.rules.cap] 26 (0,0)):=by subst hW1;exact World.alloc_heap_new _ _
 have k2:W2.heap[w.heap.size+1]? = some (.cells #[.func (.func 191) #[] #[.pointer (some ⟨bi,0,none⟩)]] 254 (0,0)):=by subst hW2;rw[← z1];exact World.alloc_heap_new _ _
 have k3:W3.heap[W2.heap.size]? = some (.cells #[.func (.func 227) #[] #[.pointer (some ⟨w.heap.size+1,0,none⟩)]] 50 (0,0)):=by subst hW3;exact World.alloc_heap_new _ _
 have k4:FnBox W4 W3.heap.size 288 232 #[.pointer (some ⟨W2.heap.size,0,none⟩)]:=by subst hW4;exact World.alloc_heap_new _ _
 have hB:Below w.heap.size w W4:=Xb (Xb (Xb b1 b2) b3) b4
 have hk:=((Xb (Xb b2 b3) b4).block _ (Xc k1)).trans k1
 have hC:CatBox W4 W2.heap.size (w.heap.size+1) bi bm g.cats.xs:=⟨Xh b4 k3,((Xb b3 b4).block _ (Xc k2)).trans k2,hm.ext hB⟩
 have HT:=Xa (hT.ext hB)
 have HC:=Xa hC
 have HG:=Xa (hg.ext hB)
 have HP:=Xa k4
 have eg:=enters_of Tryz.func227 (by kernel_rfl) rfl
 have hmf:∀(fn:Fn) (first cap:Array Value) (w:World),(Instr.makeFunc fn first cap).run Tryz.prog w = .ok (.func fn first cap) w:=fun _ _ _ _=>rfl
 have cF:=Xa (fun W (hW:Below W4.heap.size W4 W)=>Q3 g.name W (HT.out.ext hW))
 have cS:=Xa (fun W (hW:Below W4.heap.size W4 W)=>Xmd g.cats W (HT.out.ext hW) (HG.out.cats.ext hW))
 have cC:=Xa (fun W (hW:Below W4.heap.size W4 W)=>Xao (w.heap.size+1) bi bm g.cats.xs g.start W ((HC.out.ext hW).2.1) ((HC.out.ext hW).2.2) hs.start)
 have cE:=Xa (fun W (hW:Below W4.heap.size W4 W)=>Xj8 W2.heap.size (w.heap.size+1) bi bm g.cats.xs g.entries W (HT.out.ext hW) (HC.out.ext hW) (HG.out.entries.ext hW) (fun x hx=>(HG.out.entry x hx).ext hW) hs.entry)
 have cR:=Xa (fun W (hW:Below W4.heap.size W4 W)=>Xpk W3.heap.size W2.heap.size (w.heap.size+1) bi bm g.cats.xs g.rules W (HT.out.ext hW) (HC.out.ext hW) (HP.out.ext hW) (HG.out.rules.ext hW) (fun x hx=>(HG.out.rule x hx).ext hW) hs.rule hs.part)
 have HE:Hid (Xbx g=(Xw g.name && decide (0<g.cats.xs.length) && g.cats.xs.all Xw && catB g.cats.xs g.start && g.entries.xs.all (Yt g.cats.xs) && g.rules.xs.all (Yh g.cats.xs))):=rfl
 have Hkc:=Xa hC.1
 have HW2:(w.alloc (.cells #[.string g.name,.slice g.cats.addr g.cats.xs.length g.cats.cap,.string g.start,.int .i64 g.startNo,.slice g.entries.addr g.entries.xs.length g.entries.cap,.slice g.rules.addr g.rules.xs.length g.rules.cap] 26)).alloc (.cells #[.func (.func 191) #[] #[.pointer (some ⟨bi,0,none⟩)]] 254)=W2:=by rw[hW1,hW2]
 generalize Xw g.name=f1 at *
 generalize hl0:g.cats.xs.length=n0 at *
 generalize g.cats.xs.all Xw=f3 at *
 generalize catB g.cats.xs g.start=f4 at *
 generalize g.entries.xs.all (Yt g.cats.xs)=f5 at *
 generalize g.rules.xs.all (Yh g.cats.xs)=f6 at *
 have Hk:=Xa hk
 obtain⟨a0,a1,a2,a3,a4,a5⟩:=gb6 hk
 clear hT hg hs hm k1 k2 k3 k4 b1 b2 b3 b4 z1 hW1 hW2 hk hC hl0
 go_enter Tryz.func192,Tryz.ntmps192
 go_wp2_with fail
 clear HW2 hW3 hW4
 refine(cF.out W4 (Below.refl _ _)).mono ?_
 rintro e w5 ⟨rfl,hb5⟩
 have hB5:=Xb hB hb5
 cases f1
 ·go_wp2_with fail
  go_ret
  exact⟨by rw[HE.out];rfl,hB5⟩
 by_cases hn:0<n0
 rotate_left
 ·have HF:Hid (Xbx g=false):=by show _=_;rw[HE.out,decide_eq_false hn];rfl
  have q1:¬(0:Int)<(n0:Int):=by omega
  have hk5:=Xh hb5 Hk.out
  obtain⟨b0,b1,b2,b3,b4,b5⟩:=gb6 hk5
  clear hn HE a0 a1 a2 a3 a4 a5
  go_wp2_with fail
  go_ret
  exact⟨by rw[HF.out];rfl,hB5⟩
 have HE2:Hid (Xbx g=(f3 && f4 && f5 && f6)):=by show _=_;rw[HE.out,decide_eq_true hn];rfl
 have q1:(0:Int)<(n0:Int):=by omega
 have hk5:=Xh hb5 Hk.out
 have Hk5:=Xa hk5
 obtain⟨b0,b1,b2,b3,b4,b5⟩:=gb6 hk5
 clear hn HE a0 a1 a2 a3 a4 a5 hk5 cF
 go_wp2_with fail
 refine(cS.out w5 hb5).mono ?_
 rintro e w6 ⟨rfl,hb6⟩
 have hB6:=Xb hB5 hb6
 have hb46:=Xb hb5 hb6
 cases f3
 ·go_wp2_with fail
  go_ret
  exact⟨by rw[HE2.out];rfl,hB6⟩
 have hk6:=Xh hb6 Hk5.out
 have Hk6:=Xa hk6
 have c6:=Xj (Xh hb46 Hkc.out)
 clear b0 b1 b2 b3 b4 b5
 obtain⟨b0,b1,b2,b3,b4,b5⟩:=gb6 hk6
 clear hk6 cS
 go_wp2_with fail
 refine(cC.out w6 hb46).mono ?_
 rintro e w' ⟨rfl,rfl⟩
 cases f4
 ·go_wp2_with fail
  go_ret
  exact⟨by rw[HE2.out];rfl,hB6⟩
 clear cC c6
 go_wp2_with fail
 refine(cE.out w6 hb46).mono ?_
 rintro e w7 ⟨rfl,hb7⟩
 have hB7:=Xb hB6 hb7
 have hb47:=Xb hb46 hb7
 cases f5
 ·go_wp2_with fail
  go_ret
  exact⟨by rw[HE2.out];rfl,hB7⟩
 have hk7:=Xh hb7 Hk6.out
 clear b0 b1 b2 b3 b4 b5
 obtain⟨b0,b1,b2,b3,b4,b5⟩:=gb6 hk7
 clear hk7 cE
 go_wp2_with fail
 refine(cR.out w7 hb47).mono ?_
 rintro e w8 ⟨rfl,hb8⟩
 go_wp2_with fail
 go_ret
 exact⟨by rw[HE2.out];simp,Xb hB7 hb8⟩
theorem Xox (x y:Bool) (h:Value.bool x=Value.bool y):x=y:=by cases h;rfl
def Xo4:Type:=Bool
def Xeq:ElemShape Xo4:=⟨Value.bool,Xox⟩
theorem zeroB (w:World):(zeroValue 4).run Tryz.prog w = .ok (.bool false) w:=by kernel_rfl
def Xd8 (w:World) (bm n:Nat) (f:ByteArray→Option Bool):Prop:=MapF w (k:=9) (P:=Tryz.prog) (β:=Xo4) strK Xeq bm n f
set_option maxHeartbeats 1000000 in
theorem Xi2 (x:RuleG) (bc bl bm n:Nat) (c:ByteArray) (f:ByteArray→Option Bool) (w:World) (hx:x.lies w) (hc:w.heap[bc]? = some (.cells #[.string c] 9 (0,0))) (hl:w.heap[bl]? = some (.cells #[.map (some bm)] 293 (0,0))) (hm:Xd8 w bm n f)
  (hf:∀y,(f y).isSome→f y=some true) (hs:∀p∈x.parts.xs,p.cat.size≤maxLen) :
  Calls Tryz.prog 237 #[.agg #[.string x.cat,.int .i64 x.no,.slice x.parts.addr x.parts.xs.length x.parts.cap,.slice x.gives.addr x.gives.xs.length x.gives.cap,.int .i64 x.cost],.pointer (some ⟨bc,0,none⟩),.pointer (some ⟨bl,0,none⟩)] w fun e w'=>e = .returned (.bool (Ze f c x))∧Below w.heap.size w w':=by
 obtain⟨W1,hW1⟩:∃W1,w.alloc (.cells #[.string x.cat,.int .i64 x.no,.slice x.parts.addr x.parts.xs.length x.parts.cap,.slice x.gives.addr x.gives.xs.length x.gives.cap,.int .i64 x.cost] 79)=W1:=⟨_,rfl⟩
 have hB1:Below w.heap.size w W1:=by subst hW1;exact Xe (Below.refl _ _) _
 have hk:W1.heap[w.heap.size]? = some (.cells #[.string x.cat,.int .i64 x.no,.slice x.parts.addr x.parts.xs.length x.parts.cap,.slice x.gives.addr x.gives.xs.length x.gives.cap,.int .i64 x.cost] 79 (0,0)):=by subst hW1;exact World.alloc_heap_new _ _
 have hc1:=Xh hB1 hc
 have hl1:=Xh hB1 hl
 have c0:∀p:Xn W1,p.wt.cell? ⟨bc,0,none⟩=some (.string c):=fun p=>Xu (Xc hc1) (gblk hc1 0) p
 have l0:∀p:Xn W1,p.wt.cell? ⟨bl,0,none⟩=some (.map (some bm)):=fun p=>Xu (Xc hl1) (gblk hl1 0) p
 have a0:∀p:Xn W1,p.wt.cell? ⟨w.heap.size,0,none⟩=some (.string x.cat):=fun p=>Xu (Xc hk) (gblk hk 0) p
 have a2:∀p:Xn W1,p.wt.cell? ⟨w.heap.size,2,none⟩=some (.slice x.parts.addr x.parts.xs.length x.parts.cap):=fun p=>Xu (Xc hk) (gblk hk 2) p
 have hX:=hx.ext hB1
 have HW1:=Xa hW1
 by_cases h1:x.cat=c
 rotate_left
 ·have HF:Hid (Ze f c x=false):=by
   show _=_
   unfold Ze
   split
   ·rw[decide_eq_false h1];rfl
   ·rfl
  have g1:(x.cat.toList == c.toList)=false:=by simpa using fun h=>h1 (Xcm h)
  clear h1 hx hc hl hm hf hs hk hc1 hl1 hX hW1
  go_enter Tryz.func237,Tryz.ntmps237
  go_wp2_with fail
  rw[HW1.out]
  refine X7 (by kernel_rfl) (by kernel_rfl) ?_
  repeat (go_big_quiet_step (fail))
  refine wpQuiet_nil ?_
  intro _ hw'
  obtain⟨p,rfl⟩:=hw'
  go_wp2_with fail
  go_ret
  exact⟨by rw[HF.out];rfl,Xb hB1 p.ext⟩
 have g1:(x.cat.toList == c.toList)=true:=by simp[h1]
 by_cases h2:x.parts.xs.length=1
 rotate_left
 ·have HF:Hid (Ze f c x=false):=by
   show _=_
   unfold Ze
   split
   ·rename_i h;rw[h] at h2;simp at h2
   ·rfl
  have g2:((x.parts.xs.length:Int) == 1)=false:=by simp;omega
  clear h1 h2 hx hc hl hm hf hs hk hc1 hl1 hX hW1
  go_enter Tryz.func237,Tryz.ntmps237
  go_wp2_with fail
  rw[HW1.out]
  refine X7 (by kernel_rfl) (by kernel_rfl) ?_
  repeat (go_big_quiet_step (fail))
  refine wpQuiet_nil ?_
  intro _ hw'
  obtain⟨p,rfl⟩:=hw'
  go_wp2_with fail
  go_ret
  exact⟨by rw[HF.out];rfl,Xb hB1 p.ext⟩
 obtain⟨q,hq⟩:=List.length_eq_one_iff.1 h2
 obtain⟨b,off,hA,hb,hcl⟩:=hX.1.at_ PartG.size_cells (by omega) (k:=0) (by omega)
 have hq0:x.parts.xs[0]'(by omega)=q:=by simp[hq]
 have d0:∀p:Xn W1,p.wt.cell? ⟨b,off,none⟩=some (.string q.cat):=fun p=>by
  have:=hcl 0 (by omega) p.wt p.ext 0 _ rfl
  rw[hq0] at this
  simpa using this
 have d2:∀p:Xn W1,p.wt.cell? ⟨b,off+2,none⟩=some (.string q.text):=fun p=>by
  have:=hcl 0 (by omega) p.wt p.ext 2 _ rfl
  rw[hq0] at this
  simpa using this
 have g2:((1:Nat):Int) == 1:=rfl
 rw[hA,h2] at a2
 have HE:Hid (Ze f c x=(decide (q.text.size=0) && (f q.cat).isSome)):=by show _=_;unfold Ze;rw[hq];simp[h1]
 have hqs:=hs q (by rw[hq];simp)
 by_cases h3:q.text.size=0
 rotate_left
 ·have HF:Hid (Ze f c x=false):=by show _=_;rw[HE.out,decide_eq_false h3];rfl
  have n0:=Zp (s:=q.text) (by omega)
  clear h1 h2 h3 hx hc hl hm hf hs hk hc1 hl1 hX hW1 hA hq hq0 hcl HE
  go_enter Tryz.func237,Tryz.ntmps237
  go_wp2_with fail
  rw[HW1.out]
  refine X7 (by kernel_rfl) (by kernel_rfl) ?_
  repeat (go_big_quiet_step (fail))
  refine wpQuiet_nil ?_
  intro _ hw'
  obtain⟨p,rfl⟩:=hw'
  go_wp2_with fail
  go_ret
  exact⟨by rw[HF.out];rfl,Xb hB1 p.ext⟩
 have n0:=Zq (s:=q.text) (by omega)
 have hlk:∀p:Xn W1,(Instr.lookup 293 (.map (some bm)) (.string q.cat) false).run Tryz.prog p.wt = .ok (.bool ((f q.cat).isSome)) p.wt:=fun p=>by
  have hmp:Xd8 p.wt bm n f:=MapF.of_block hm ((Xb hB1 p.ext).block _ (MapF.lt hm))
  have:=Xfq To Tryz.underlying293 strK Xeq false (zeroB p.wt) hmp q.cat hqs
  have e:(f q.cat).getD false=(f q.cat).isSome:=by
   cases h:f q.cat with
   | none=>rfl
   | some v=>have:=hf q.cat (by rw[h];rfl);rw[h] at this;cases this;rfl
  change _=Result.ok (Value.bool (Option.getD (α:=Bool) (f q.cat) false)) _ at this
  rw[e] at this
  exact this
 have HF:Hid (Ze f c x=(f q.cat).isSome):=by show _=_;rw[HE.out,decide_eq_true h3];rfl
 generalize (f q.cat).isSome=r at *
 clear h1 h2 h3 hx hc hl hm hf hs hk hc1 hl1 hX hW1 hA hq hq0 hcl HE
 go_enter Tryz.func237,Tryz.ntmps237
 go_wp2_with fail
 rw[HW1.out]
 refine X7 (by kernel_rfl) (by kernel_rfl) ?_
 repeat (go_big_quiet_step (fail))
 refine wpQuiet_nil ?_
 intro _ hw'
 obtain⟨p,rfl⟩:=hw'
 go_wp2_with fail
 go_ret
 exact⟨by rw[HF.out];rfl,Xb hB1 p.ext⟩
end Go.Proofs.YtolpbjjapodmnaaGreatDoor
