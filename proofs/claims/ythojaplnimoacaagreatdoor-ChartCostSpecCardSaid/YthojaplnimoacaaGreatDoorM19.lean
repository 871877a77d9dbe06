/- Texts of this claim, one after the other: Chwf, GrmH, GrmL. -/
import Derived.Test.YthojaplnimoacaaGreatDoorM18
import Derived.Test.YthojaplnimoacaaGreatDoorM15
import Derived.Test.YthojaplnimoacaaGreatDoorM5
import Derived.Test.YthojaplnimoacaaGreatDoorM7
import Derived.Test.YthojaplnimoacaaGreatDoorM6
import Derived.Test.YthojaplnimoacaaGreatDoorM8
import Derived.Maps.RangeWalk
namespace Go.Proofs.YthojaplnimoacaaGreatDoor
open Go.RowKit Go.Han
attribute [local irreducible] wpStill wpQuiet
set_option maxRecDepth 100000
section
variable {e0:World} {cb kb wb top:Nat} {g:Gram} {its:SlS ItemG} {N:Nat} {X:Nat→Prop} {f0:X8→Option FoundG} {c:Int} {i k:Nat}
theorem Xko (fd:FoundG) (W:World) (hE:ChEnv e0 cb kb wb top g its N W) (hK:KnownF X g its.xs N kb f0 W) (hc:0≤c∧c≤32) (hik:i≤16) (hkk:k≤16) (hf:f0 ⟨c,i,k⟩=some fd) :
  Calls Tryz.prog 54 #[.pointer (some ⟨cb,0,none⟩),.agg #[.int .i64 c,.int .i64 (i:Int),.int .i64 (k:Int)]] W (Qw X g its.xs N kb f0 c i k (muG g c i k+1) W):=by
 obtain⟨W1,hW1⟩:∃W1,(W.alloc (.cells #[.int .i64 c,.int .i64 (i:Int),.int .i64 (k:Int)] 91)).alloc (.cells #[.bool false,.int .i64 0,.int .i64 0,.int .i64 0,.int .i64 0,.int .i64 0,.slice none 0 0,.int .i64 0] 86)=W1:=⟨_,rfl⟩
 have hB1:Below W.heap.size W W1:=by rw[← hW1];exact Xe (Xe (Below.refl _ _) _) _
 have hx1:W1.heap[W.heap.size]? = some (.cells #[.int .i64 c,.int .i64 (i:Int),.int .i64 (k:Int)] 91 (0,0)):=by
  rw[← hW1];exact(Below.heap_alloc _ _ _ (by simp)).trans (World.alloc_heap_new _ _)
 have hr1:W1.heap[W.heap.size+1]? = some (.cells #[.bool false,.int .i64 0,.int .i64 0,.int .i64 0,.int .i64 0,.int .i64 0,.slice none 0 0,.int .i64 0] 86 (0,0)):=by
  rw[← hW1];exact X0 _ _ _ (by simp)
 have hch:=(hE.ext hB1).chart
 have hK1:=hK.ext hB1
 have hok:∃i' k':Nat,(i:Int)=i'∧(k:Int)=k'∧FoundOk X W1 fd (Fd.of bigN (derG g its.xs c i' k')):=hK1.ok _ _ hf
 obtain⟨i',k',e1,e2,hok⟩:=hok
 obtain rfl:i=i':=by omega
 obtain rfl:k=k':=by omega
 have hgood:Zx ⟨c,i,k⟩:=Xcy ⟨by omega,by omega⟩ ⟨by omega,by omega⟩ ⟨by omega,by omega⟩
 have hlook:∀V:World,V.heap[kb]? = W1.heap[kb]? → (Instr.lookup 155 (.map (some kb)) (.agg #[.int .i64 c,.int .i64 (i:Int),.int .i64 (k:Int)]) true).run Tryz.prog V = .ok (.tuple #[.agg #[.bool fd.ok,.int .i64 fd.cost,.int .i64 fd.rule,.int .i64 fd.item,.int .i64 fd.frm,.int .i64 fd.unt,.slice fd.kids.addr fd.kids.len fd.kids.cap,.int .i64 fd.many],.bool true]) V:=fun V hV=>by
  have h:=Uv V Qf Xat Uy foundShape Xf2 (Xam V) (hK1.map.of_block hV) ⟨c,i,k⟩ hgood
  rw[hf] at h
  exact h
 have hkl:=hK1.map.lt
 have hcl:=Xc hch
 have hzz:W.heap.size+2=W1.heap.size:=by rw[← hW1];simp
 have c8:=gblk hch 8
 have x0:=gblk hx1 0
 have x1:=gblk hx1 1
 have x2:=gblk hx1 2
 have HC:Hid (∀V:World,Below W1.heap.size W1 V→V.cell? ⟨cb,8,none⟩=some (.map (some kb))∧V.cell? ⟨W.heap.size,0,none⟩=some (.int .i64 c)∧V.cell? ⟨W.heap.size,1,none⟩=some (.int .i64 (i:Int))∧V.cell? ⟨W.heap.size,2,none⟩=some (.int .i64 (k:Int))∧(Instr.lookup 155 (.map (some kb)) (.agg #[.int .i64 c,.int .i64 (i:Int),.int .i64 (k:Int)]) true).run Tryz.prog V = .ok (.tuple #[.agg #[.bool fd.ok,.int .i64 fd.cost,.int .i64 fd.rule,.int .i64 fd.item,.int .i64 fd.frm,.int .i64 fd.unt,.slice fd.kids.addr fd.kids.len fd.kids.cap,.int .i64 fd.many],.bool true]) V):=fun V hV =>
  ⟨(hV.cell (p:=⟨cb,8,none⟩) hcl).trans c8,(hV.cell (p:=⟨W.heap.size,0,none⟩) (Xc hx1)).trans x0,(hV.cell (p:=⟨W.heap.size,1,none⟩) (Xc hx1)).trans x1,(hV.cell (p:=⟨W.heap.size,2,none⟩) (Xc hx1)).trans x2,hlook V (hV.block _ hkl)⟩
 obtain⟨w5,hw5⟩:∃w5,(W1.alloc (.cells #[.bool fd.ok,.int .i64 fd.cost,.int .i64 fd.rule,.int .i64 fd.item,.int .i64 fd.frm,.int .i64 fd.unt,.slice fd.kids.addr fd.kids.len fd.kids.cap,.int .i64 fd.many] 86)).drew=w5:=⟨_,rfl⟩
 have hb5:Below W1.heap.size W1 w5:=by rw[← hw5];exact Xi (Xe (Below.refl _ _) _)
 have hf5:w5.heap[W1.heap.size]? = some (.cells #[.bool fd.ok,.int .i64 fd.cost,.int .i64 fd.rule,.int .i64 fd.item,.int .i64 fd.frm,.int .i64 fd.unt,.slice fd.kids.addr fd.kids.len fd.kids.cap,.int .i64 fd.many] 86 (0,0)):=by rw[← hw5];exact World.alloc_heap_new W1 _
 have hr5:=Xh hb5 hr1
 have hs8:=Qn (f:=⟨false,0,0,0,0,0,⟨none,0,0⟩,0⟩) hr5 fd
 have hO8:=Ud w5 (W.heap.size+1) fd
 have hfin:Qw X g its.xs N kb f0 c i k (muG g c i k+1) W (.returned (.agg #[.bool fd.ok,.int .i64 fd.cost,.int .i64 fd.rule,.int .i64 fd.item,.int .i64 fd.frm,.int .i64 fd.unt,.slice fd.kids.addr fd.kids.len fd.kids.cap,.int .i64 fd.many])) (set8 w5 (W.heap.size+1) fd):=by
  have hkt:=hE.hk
  have htw:=hE.top
  have ht:∀t x,TreeW X W1 t x→TreeW X (set8 w5 (W.heap.size+1) fd) t x:=fun t x ht=>(ht.ext hb5).only hO8 fun b hb h=>(Ym hr5) (by rw[show b=W.heap.size+1 from hb] at h;exact h.1)
  refine⟨fd,f0,rfl,hok.keep ht,hK1.keep ((hO8.block _ (by have:=hb5.size;omega) (by show kb≠W.heap.size+1;omega)).trans (hb5.block _ hkl)) ht,Grew.refl _ _ _,?_⟩
  exact⟨hO8.os.trans (hb5.os.trans hB1.os),hO8.tape.trans (hb5.tape.trans hB1.tape),hO8.output.trans (hb5.output.trans hB1.output),by have:=hO8.size;have:=hb5.size;have:=hB1.size;omega,fun b hb _=>(hO8.block b (by have:=hb5.size;omega) (by show b≠W.heap.size+1;omega)).trans ((hb5.block b (by omega)).trans (hB1.block b hb))⟩
 have HF:=Xa hfin
 have HS8:=Xa hs8
 have y0:=gblk hf5 0
 have y1:=gblk hf5 1
 have y2:=gblk hf5 2
 have y3:=gblk hf5 3
 have y4:=gblk hf5 4
 have y5:=gblk hf5 5
 have y6:=gblk hf5 6
 have y7:=gblk hf5 7
 have z0:=gblk hr5 0
 have z1:=gblk hr5 1
 have z2:=gblk hr5 2
 have z3:=gblk hr5 3
 have z4:=gblk hr5 4
 have z5:=gblk hr5 5
 have z6:=gblk hr5 6
 have z7:=gblk hr5 7
 have fz:=fun n=>Xf hr5 n
 have HB5:=Xa hb5
 have HZ:=Xa hzz
 have n1:W.heap.size+1≠W1.heap.size:=by omega
 have hrl5:=Xc hr5
 clear hE hK hK1 hok hlook hgood hch hx1 hr1 hs8 hO8 hfin hf5 hr5 hb5 hzz c8 x0 x1 x2 hf
 go_enter Tryz.func54,Tryz.ntmps54
 go_wp2_with fail
 refine wpIn_wide (n:=0) |>.1 ?_
 refine Y4 _ ?_ (fun _ _ h=>h)
 refine Xo (fun V=>Below W1.heap.size W1 V) (by kernel_rfl) ?_
 refine Xd (i:=0) rfl (by kernel_rfl) (fun _ _ _ h=>h) (fun V hV=>(by obtain⟨r1,r2,r3,r4,r5⟩:=HC.out V hV;go_simp<;>rfl)) ?_
 refine Xd (i:=1) rfl (by kernel_rfl) (fun _ _ _ h=>h) (fun V hV=>(by obtain⟨r1,r2,r3,r4,r5⟩:=HC.out V hV;go_simp<;>rfl)) ?_
 refine Xd (i:=2) rfl (by kernel_rfl) (fun _ _ _ h=>h) (fun V hV=>(by obtain⟨r1,r2,r3,r4,r5⟩:=HC.out V hV;go_simp<;>rfl)) ?_
 refine Xd (i:=3) rfl (by kernel_rfl) (fun _ _ _ h=>h) (fun V hV=>(by obtain⟨r1,r2,r3,r4,r5⟩:=HC.out V hV;go_simp<;>rfl)) ?_
 refine Xd (i:=4) rfl (by kernel_rfl) (fun _ _ _ h=>h) (fun V hV=>(by obtain⟨r1,r2,r3,r4,r5⟩:=HC.out V hV;go_simp<;>rfl)) ?_
 refine Xd (i:=5) rfl (by kernel_rfl) (fun _ _ _ h=>h) (fun V hV=>(by obtain⟨r1,r2,r3,r4,r5⟩:=HC.out V hV;go_simp<;>rfl)) ?_
 refine Xd (i:=6) rfl (by kernel_rfl) (fun _ _ _ h=>h) (fun V hV=>(by obtain⟨r1,r2,r3,r4,r5⟩:=HC.out V hV;go_simp<;>rfl)) ?_
 refine Xd (i:=7) rfl (by kernel_rfl) (fun _ _ _ h=>h) (fun V hV=>(by obtain⟨r1,r2,r3,r4,r5⟩:=HC.out V hV;go_simp<;>rfl)) ?_
 refine Xd (i:=8) rfl (by kernel_rfl) (fun _ _ _ h=>h) (fun V hV=>(by obtain⟨r1,r2,r3,r4,r5⟩:=HC.out V hV;go_simp<;>rfl)) ?_
 refine Xg (i:=9) (Xi (Below.refl _ _)) (by kernel_rfl) rfl (fun K hK=>?_)
 go_simp
 refine hK _ _ ?_
 clear hK K
 refine Xg (i:=10) (Xe (Xi (Below.refl _ _)) _) (by kernel_rfl) rfl (fun K hK=>?_)
 go_simp
 refine hK _ _ ?_
 clear hK K
 refine Xg (i:=11) HB5.out (by kernel_rfl) rfl (fun K hK=>?_)
 go_simp
 refine hK _ _ ?_
 clear hK K
 refine Xl HB5.out (by kernel_rfl) ?_ _
 go_wp2_with fail
 change bodyPost _ _ _ _ _ (set8 w5 (W.heap.size+1) fd)
 have hs:=HS8.out
 generalize set8 w5 (W.heap.size+1) fd=w9 at *
 have s0:=gblk hs 0
 have s1:=gblk hs 1
 have s2:=gblk hs 2
 have s3:=gblk hs 3
 have s4:=gblk hs 4
 have s5:=gblk hs 5
 have s6:=gblk hs 6
 have s7:=gblk hs 7
 exact bodyPost_ret (v:=.agg #[.bool fd.ok,.int .i64 fd.cost,.int .i64 fd.rule,.int .i64 fd.item,.int .i64 fd.frm,.int .i64 fd.unt,.slice fd.kids.addr fd.kids.len fd.kids.cap,.int .i64 fd.many]) (by simp[results,Tryz.results54,go_sem,s0,s1,s2,s3,s4,s5,s6,s7]) rfl HF.out
def FiSt (X:Nat→Prop) (g:Gram) (items:List ItemG) (N kb fb:Nat) (f0:X8→Option FoundG) (c:Int) (i k:Nat) (w7:World) (j:Nat) (V:World):Prop :=
 (j=0∧V=w7)∨(j=1∧∃f,V.heap[fb]? = some (.cells #[.bool f.ok,.int .i64 f.cost,.int .i64 f.rule,.int .i64 f.item,.int .i64 f.frm,.int .i64 f.unt,.slice f.kids.addr f.kids.len f.kids.cap,.int .i64 f.many] 86 (0,0))∧FoundOk X V f (Fd.of bigN (Xq c i k 0 items))∧Only (fun j=>j=fb) w7 V) ∨
  (j=2∧∃fd f',V.heap[fb]? = some (.cells #[.bool fd.ok,.int .i64 fd.cost,.int .i64 fd.rule,.int .i64 fd.item,.int .i64 fd.frm,.int .i64 fd.unt,.slice fd.kids.addr fd.kids.len fd.kids.cap,.int .i64 fd.many] 86 (0,0))∧FoundOk X V fd (Fd.of bigN (derG g items c i k))∧KnownF X g items N kb f' V∧Grew g (muG g c i k) f0 f'∧Only (fun j=>j=kb∨j=fb) w7 V)
set_option maxHeartbeats 2000000 in
theorem Xpw (hg:Yu g) (hI:Zr N g.cats.xs.length its.xs) (hgl:g.lies e0) (hil:ItemsAt e0 its) (hfew:its.xs.length≤16384) (h16:N≤16) (hik:i<k) (hkN:k≤N) (c':Nat) (hc':c=c') (hcC:c'<g.cats.xs.length)
  (hsub:∀(c':Int) (i' k':Nat),0≤c'→c'<g.cats.xs.length→i'<k'→k'≤N→muG g c' i' k'<muG g c i k→Xl8 e0 cb kb wb top g its N c' i' k')
  (W:World) (hX:∀b,X b→b<W.heap.size) (hE:ChEnv e0 cb kb wb top g its N W) (hK:KnownF X g its.xs N kb f0 W) (hf:f0 ⟨c,i,k⟩=none) :
  Calls Tryz.prog 54 #[.pointer (some ⟨cb,0,none⟩),.agg #[.int .i64 c,.int .i64 (i:Int),.int .i64 (k:Int)]] W (Qw X g its.xs N kb f0 c i k (muG g c i k+1) W):=by
 obtain⟨W1,hW1⟩:∃W1,(W.alloc (.cells #[.int .i64 c,.int .i64 (i:Int),.int .i64 (k:Int)] 91)).alloc (.cells #[.bool false,.int .i64 0,.int .i64 0,.int .i64 0,.int .i64 0,.int .i64 0,.slice none 0 0,.int .i64 0] 86)=W1:=⟨_,rfl⟩
 have hB1:Below W.heap.size W W1:=by rw[← hW1];exact Xe (Xe (Below.refl _ _) _) _
 have hx1:W1.heap[W.heap.size]? = some (.cells #[.int .i64 c,.int .i64 (i:Int),.int .i64 (k:Int)] 91 (0,0)):=by
  rw[← hW1];exact(Below.heap_alloc _ _ _ (by simp)).trans (World.alloc_heap_new _ _)
 have hr1:W1.heap[W.heap.size+1]? = some (.cells #[.bool false,.int .i64 0,.int .i64 0,.int .i64 0,.int .i64 0,.int .i64 0,.slice none 0 0,.int .i64 0] 86 (0,0)):=by
  rw[← hW1];exact X0 _ _ _ (by simp)
 have hch:=(hE.ext hB1).chart
 have hK1:=hK.ext hB1
 have hfew32:=hg.few
 have hgood:Zx ⟨c,i,k⟩:=Xcy ⟨by omega,by omega⟩ ⟨by omega,by omega⟩ ⟨by omega,by omega⟩
 have hlook:∀V:World,V.heap[kb]? = W1.heap[kb]? → (Instr.lookup 155 (.map (some kb)) (.agg #[.int .i64 c,.int .i64 (i:Int),.int .i64 (k:Int)]) true).run Tryz.prog V = .ok (.tuple #[.agg #[.bool false,.int .i64 0,.int .i64 0,.int .i64 0,.int .i64 0,.int .i64 0,.slice none 0 0,.int .i64 0],.bool false]) V:=fun V hV=>by
  have h:=Uv V Qf Xat Uy foundShape Xf2 (Xam V) (hK1.map.of_block hV) ⟨c,i,k⟩ hgood
  rw[hf] at h
  exact h
 have hkl:=hK1.map.lt
 have hcl:=Xc hch
 have hzz:W.heap.size+2=W1.heap.size:=by rw[← hW1];simp
 have c8:=gblk hch 8
 have x0:=gblk hx1 0
 have x1:=gblk hx1 1
 have x2:=gblk hx1 2
 have HC:Hid (∀V:World,Below W1.heap.size W1 V→V.cell? ⟨cb,8,none⟩=some (.map (some kb))∧V.cell? ⟨W.heap.size,0,none⟩=some (.int .i64 c)∧V.cell? ⟨W.heap.size,1,none⟩=some (.int .i64 (i:Int))∧V.cell? ⟨W.heap.size,2,none⟩=some (.int .i64 (k:Int))∧(Instr.lookup 155 (.map (some kb)) (.agg #[.int .i64 c,.int .i64 (i:Int),.int .i64 (k:Int)]) true).run Tryz.prog V = .ok (.tuple #[.agg #[.bool false,.int .i64 0,.int .i64 0,.int .i64 0,.int .i64 0,.int .i64 0,.slice none 0 0,.int .i64 0],.bool false]) V):=fun V hV =>
  ⟨(hV.cell (p:=⟨cb,8,none⟩) hcl).trans c8,(hV.cell (p:=⟨W.heap.size,0,none⟩) (Xc hx1)).trans x0,(hV.cell (p:=⟨W.heap.size,1,none⟩) (Xc hx1)).trans x1,(hV.cell (p:=⟨W.heap.size,2,none⟩) (Xc hx1)).trans x2,hlook V (hV.block _ hkl)⟩
 obtain⟨w5,hw5⟩:∃w5,(W1.alloc (.cells #[.bool false,.int .i64 0,.int .i64 0,.int .i64 0,.int .i64 0,.int .i64 0,.slice none 0 0,.int .i64 0] 86)).drew=w5:=⟨_,rfl⟩
 have hb5:Below W1.heap.size W1 w5:=by rw[← hw5];exact Xi (Xe (Below.refl _ _) _)
 obtain⟨w6,hw6⟩:∃w6,w5.alloc (.cells #[.bool false,.int .i64 0,.int .i64 0,.int .i64 0,.int .i64 0,.int .i64 0,.slice none 0 0,.int .i64 0] 86)=w6:=⟨_,rfl⟩
 have hb6:=Yn hw6
 have hf6:=Yv hw6
 obtain⟨w7,hw7⟩:∃w7,w6.alloc (.cells #[.func (.func 101) #[.pointer (some ⟨cb,0,none⟩)] #[],.func (.func 102) #[.pointer (some ⟨cb,0,none⟩)] #[]] 161)=w7:=⟨_,rfl⟩
 have hb7:=Yn hw7
 have hs7:=Yv hw7
 have hB5:=Xb hB1 hb5
 have hB6:=Xb hB5 hb6
 have hB7:=Xb hB6 hb7
 have hf7:=Xh hb7 hf6
 have hx7:=((Xb hb5 (Xb hb6 hb7)).block _ (Xc hx1)).trans hx1
 have hr7:=((Xb hb5 (Xb hb6 hb7)).block _ (Xc hr1)).trans hr1
 have HE7:=Xa (hE.ext hB7)
 have HK7:=Xa (hK.ext hB7)
 have hkt:=hE.hk
 have htW:=hE.top
 have h51:=hb5.size
 have h65:w5.heap.size<w6.heap.size:=Xc hf6
 have h76:w6.heap.size<w7.heap.size:=Xc hs7
 have HB7:=Xa hB7
 have HW5:=Xa hw5
 have HB5:=Xa hb5
 have Hf7:=Xa hf7
 have Hx7:=Xa hx7
 have Hr7:=Xa hr7
 have Hs7:=Xa hs7
 have HX:=Xa hX
 have Hsub:=Xa hsub
 have Hf:=Xa hf
 have HZ:=Xa hzz
 have hW1z:W.heap.size+2≤W1.heap.size:=by omega
 have Hcc:=Xa hc'
 have hmf:∀(fn:Fn) (first cap:Array Value) (w:World),(Instr.makeFunc fn first cap).run Tryz.prog w = .ok (.func fn first cap) w:=fun _ _ _ _=>rfl
 clear hE hK hK1 hlook hgood hch hx1 hr1 c8 x0 x1 x2 hf hc' hX hsub hB1 hB5 hB6 hB7 hb5 hb6 hb7 hf6 hf7 hx7 hr7 hs7 hzz hw5
 go_enter Tryz.func54,Tryz.ntmps54
 go_wp2_with fail
 refine wpIn_wide (n:=0) |>.1 ?_
 refine Y4 _ ?_ (fun _ _ h=>h)
 refine Xo (fun V=>Below W1.heap.size W1 V) (by kernel_rfl) ?_
 refine Xd (i:=0) rfl (by kernel_rfl) (fun _ _ _ h=>h) (fun V hV=>(by obtain⟨r1,r2,r3,r4,r5⟩:=HC.out V hV;go_simp<;>rfl)) ?_
 refine Xd (i:=1) rfl (by kernel_rfl) (fun _ _ _ h=>h) (fun V hV=>(by obtain⟨r1,r2,r3,r4,r5⟩:=HC.out V hV;go_simp<;>rfl)) ?_
 refine Xd (i:=2) rfl (by kernel_rfl) (fun _ _ _ h=>h) (fun V hV=>(by obtain⟨r1,r2,r3,r4,r5⟩:=HC.out V hV;go_simp<;>rfl)) ?_
 refine Xd (i:=3) rfl (by kernel_rfl) (fun _ _ _ h=>h) (fun V hV=>(by obtain⟨r1,r2,r3,r4,r5⟩:=HC.out V hV;go_simp<;>rfl)) ?_
 refine Xd (i:=4) rfl (by kernel_rfl) (fun _ _ _ h=>h) (fun V hV=>(by obtain⟨r1,r2,r3,r4,r5⟩:=HC.out V hV;go_simp<;>rfl)) ?_
 refine Xd (i:=5) rfl (by kernel_rfl) (fun _ _ _ h=>h) (fun V hV=>(by obtain⟨r1,r2,r3,r4,r5⟩:=HC.out V hV;go_simp<;>rfl)) ?_
 refine Xd (i:=6) rfl (by kernel_rfl) (fun _ _ _ h=>h) (fun V hV=>(by obtain⟨r1,r2,r3,r4,r5⟩:=HC.out V hV;go_simp<;>rfl)) ?_
 refine Xd (i:=7) rfl (by kernel_rfl) (fun _ _ _ h=>h) (fun V hV=>(by obtain⟨r1,r2,r3,r4,r5⟩:=HC.out V hV;go_simp<;>rfl)) ?_
 refine Xd (i:=8) rfl (by kernel_rfl) (fun _ _ _ h=>h) (fun V hV=>(by obtain⟨r1,r2,r3,r4,r5⟩:=HC.out V hV;go_simp<;>rfl)) ?_
 refine Xg (i:=9) (Xi (Below.refl _ _)) (by kernel_rfl) rfl (fun K hK=>?_)
 go_simp
 refine hK _ _ ?_
 clear hK K
 refine Xg (i:=10) (Xi (Xe (Below.refl _ _) _)) (by kernel_rfl) rfl (fun K hK=>?_)
 go_simp
 refine hK _ _ ?_
 clear hK K
 refine Xg (i:=11) (Xi (Xe (Below.refl _ _) _)) (by kernel_rfl) rfl (fun K hK=>?_)
 go_simp
 refine hK _ _ ?_
 clear hK K
 refine Xl (Xi (Xe (Below.refl _ _) _)) (by kernel_rfl) ?_ _
 rw[HW5.out]
 go_wp2_with fail
 have hfbt:top≤w5.heap.size:=by omega
 have hnk7:=Ym Hf7.out
 go_loopw [27] (fun vj wr=>∃j:Nat,j≤2∧vj = .int .i64 (j:Nat)∧FiSt X g its.xs N kb w5.heap.size f0 c i k w7 j wr) (fun vj _=>2-(intOf vj).toNat)
 case atStart=>exact⟨0,by omega,rfl,.inl ⟨rfl,rfl⟩⟩
 case round =>
  obtain⟨j,hj,rfl,hS⟩:=hrel
  have hsl:w6.heap.size≠w5.heap.size:=by omega
  have hxl:W.heap.size≠w5.heap.size:=by omega
  have hbk:∀ {V:World},Only (fun j=>j=kb∨j=w5.heap.size) w7 V→V.heap[w6.heap.size]? = some (.cells #[.func (.func 101) #[.pointer (some ⟨cb,0,none⟩)] #[],.func (.func 102) #[.pointer (some ⟨cb,0,none⟩)] #[]] 161 (0,0))∧V.heap[W.heap.size]? = some (.cells #[.int .i64 c,.int .i64 (i:Int),.int .i64 (k:Int)] 91 (0,0)):=fun {V} hO =>
   ⟨(hO.block _ (Xc Hs7.out) (by show ¬(w6.heap.size=kb∨w6.heap.size=w5.heap.size);omega)).trans Hs7.out,(hO.block _ (Xc Hx7.out) (by show ¬(W.heap.size=kb∨W.heap.size=w5.heap.size);omega)).trans Hx7.out⟩
  rcases hS with ⟨rfl,hw⟩|⟨rfl,f,h1,h2,h3⟩|⟨rfl,fd,f',h1,h2,h3,h4,h5⟩
  ·have hO0:Only (fun j=>j=kb∨j=w5.heap.size) w7 wr:=by rw[hw];exact Only.refl _ _
   obtain⟨hb1,hb2⟩:=hbk hO0
   have cP:=Xjh X cb w5.heap.size g its (N:Int) kb wb c i k wr (by rw[hw];exact HE7.out.chart) (by rw[hw];exact hil.ext HE7.out.low) (by rw[hw];exact Hf7.out) hfew (fun V hV=>by
    rw[hw] at hV
    exact hil.ext (HE7.out.only hV (fun b hb => .inr (by rw[show b=w5.heap.size from hb];exact hfbt)) (by obtain⟨es,cl,hk⟩:=HE7.out.kmap;exact⟨es,cl,(hV.block _ (Xc hk) (by show kb≠w5.heap.size;omega)).trans hk⟩)).low)
   have HP:=Xa cP
   have Hw:=Xa hw
   have y0:=gblk hb1 0
   have x0:=gblk hb2 0
   have x1:=gblk hb2 1
   have x2:=gblk hb2 2
   clear cP hbk hO0 hb1 hb2 hw
   go_wp2_with fail
   refine HP.out.mono ?_
   rintro e w9 ⟨rfl,f,h1,h2,h3⟩
   rw[Hw.out] at h3
   have HS:Hid (FiSt X g its.xs N kb w5.heap.size f0 c i k w7 1 w9):=.inr (.inl ⟨rfl,f,h1,h2,h3⟩)
   clear h1 h2 h3 HP y0 x0 x1 x2
   go_wp2_with fail
   go_roundw
   case rel=>exact⟨1,by omega,rfl,HS.out⟩
   case measure=>simp[intOf]
  ·have hO1:Only (fun j=>j=kb∨j=w5.heap.size) w7 wr:=Xav h3 fun b hb => .inr hb
   obtain⟨hb1,hb2⟩:=hbk hO1
   obtain⟨es,cl,hkm⟩:=HE7.out.kmap
   have hkr:=(h3.block _ (Xc hkm) (by show kb≠w5.heap.size;omega))
   have hEr:=HE7.out.only h3 (fun b hb => .inr (by rw[show b=w5.heap.size from hb];exact hfbt)) ⟨es,cl,hkr.trans hkm⟩
   have hKr:=HK7.out.keep hkr (fun t y ht=>ht.only h3 fun b hb h=>hnk7 (by rw[show b=w5.heap.size from hb] at h;exact h.1))
   have cR:=Xog (fb:=w5.heap.size) hg hI hgl h16 hik hkN Hsub.out f wr (fun b hb=>by have:=HX.out b hb;have:=HB7.out.size;have:=h3.size;omega) hEr hKr hfbt h1 h2
   have HR:=Xa cR
   have HO1:=Xa hO1
   have y1:=gblk hb1 1
   have x0:=gblk hb2 0
   have x1:=gblk hb2 1
   have x2:=gblk hb2 2
   clear cR hbk hO1 hb1 hb2 h1 h2 h3 hkm hkr hEr hKr
   go_wp2_with fail
   refine HR.out.mono ?_
   rintro e w9 ⟨rfl,fd,f',h1,h2,h3,h4,h5⟩
   have HS:Hid (FiSt X g its.xs N kb w5.heap.size f0 c i k w7 2 w9):=.inr (.inr ⟨rfl,fd,f',h1,h2,h3,h4,HO1.out.trans h5⟩)
   clear h1 h2 h3 h4 h5 HR y1 x0 x1 x2
   go_wp2_with fail
   go_roundw
   case rel=>exact⟨2,by omega,rfl,HS.out⟩
   case measure=>simp[intOf]
  ·have hcc:=Hcc.out
   clear Hcc
   subst hcc
   obtain⟨hb1,hb2⟩:=hbk h5
   have hnone:f' ⟨c',i,k⟩=none:=by
    cases hk:f' ⟨c',i,k⟩ with
    | none=>rfl
    | some y =>
     rcases h4 ⟨c',i,k⟩ (by rw[hk];simp) with h|h
     ·exact absurd Hf.out h
     ·exact absurd h (Nat.lt_irrefl _)
   have hbd:Below wr.heap.size wr wr.drew:=Xi (Below.refl _ _)
   obtain⟨w9,hrun,hK9,hok9,hO9,hz9⟩:=(h3.ext hbd).store (c:=c') (i:=i) (k:=k) hcC (by omega) hkN hfew32 h16 hnone (h2.keep fun _ _ ht=>ht.ext hbd)
   obtain⟨es,cl,hkm⟩:=HE7.out.kmap
   have hch:=(h5.block _ (Xc HE7.out.chart) (by show ¬(cb=kb∨cb=w5.heap.size);have:=HE7.out.kc;have:=HE7.out.hc;omega)).trans HE7.out.chart
   have hr:=(h5.block _ (Xc Hr7.out) (by show ¬(W.heap.size+1=kb∨W.heap.size+1=w5.heap.size);omega)).trans Hr7.out
   have hckb:=HE7.out.kc
   have hch9:=(hO9.block _ (Xc hch) hckb).trans hch
   have hx9:=(hO9.block _ (Xc hb2) (by show W.heap.size≠kb;omega)).trans hb2
   have hf9:=(hO9.block _ (Xc h1) (by show w5.heap.size≠kb;omega)).trans h1
   have hr9:=(hO9.block _ (Xc hr) (by show W.heap.size+1≠kb;omega)).trans hr
   have hCof:∀V:World,V.heap[cb]? = w9.heap[cb]? → V.heap[W.heap.size]? = w9.heap[W.heap.size]? → V.heap[w5.heap.size]? = w9.heap[w5.heap.size]? → (V.cell? ⟨cb,8,none⟩=some (.map (some kb))∧V.cell? ⟨W.heap.size,0,none⟩=some (.int .i64 (c':Int))∧V.cell? ⟨W.heap.size,1,none⟩=some (.int .i64 (i:Int))∧V.cell? ⟨W.heap.size,2,none⟩=some (.int .i64 (k:Int))∧V.cell? ⟨w5.heap.size,0,none⟩=some (.bool fd.ok)∧V.cell? ⟨w5.heap.size,1,none⟩=some (.int .i64 fd.cost)∧V.cell? ⟨w5.heap.size,2,none⟩=some (.int .i64 fd.rule)∧V.cell? ⟨w5.heap.size,3,none⟩=some (.int .i64 fd.item)∧V.cell? ⟨w5.heap.size,4,none⟩=some (.int .i64 fd.frm)∧V.cell? ⟨w5.heap.size,5,none⟩=some (.int .i64 fd.unt)∧V.cell? ⟨w5.heap.size,6,none⟩=some (.slice fd.kids.addr fd.kids.len fd.kids.cap)∧V.cell? ⟨w5.heap.size,7,none⟩=some (.int .i64 fd.many)):=fun V e1 e2 e3=>by
    have q1:=e1.trans hch9
    have q2:=e2.trans hx9
    have q3:=e3.trans hf9
    exact⟨gblk q1 8,gblk q2 0,gblk q2 1,gblk q2 2,gblk q3 0,gblk q3 1,gblk q3 2,gblk q3 3,gblk q3 4,gblk q3 5,gblk q3 6,gblk q3 7⟩
   have HCr:=Xa (hCof wr.drew (hch.trans hch9.symm) (hb2.trans hx9.symm) (h1.trans hf9.symm))
   have HC9:=Xa (hCof w9 rfl rfl rfl)
   have hs8:=Qn (f:=⟨false,0,0,0,0,0,⟨none,0,0⟩,0⟩) hr9 fd
   have hO8:=Ud w9 (W.heap.size+1) fd
   have hfin:Qw X g its.xs N kb f0 c' i k (muG g c' i k+1) W (.returned (.agg #[.bool fd.ok,.int .i64 fd.cost,.int .i64 fd.rule,.int .i64 fd.item,.int .i64 fd.frm,.int .i64 fd.unt,.slice fd.kids.addr fd.kids.len fd.kids.cap,.int .i64 fd.many])) (set8 w9 (W.heap.size+1) fd):=by
    have ht:∀t x,TreeW X w9 t x→TreeW X (set8 w9 (W.heap.size+1) fd) t x:=fun t x ht=>ht.only hO8 fun b hb h=>(Ym hr9) (by rw[show b=W.heap.size+1 from hb] at h;exact h.1)
    refine⟨fd,updF f' ⟨c',i,k⟩ fd,rfl,hok9.keep ht,hK9.keep (hO8.block _ hK9.map.lt (by show kb≠W.heap.size+1;omega)) ht,fun x hx=>?_,?_⟩
    ·unfold updF at hx
     split at hx
     ·rename_i e
      subst e
      exact .inr (Nat.lt_succ_self _)
     ·rcases h4 x hx with h|h
      ·exact .inl h
      ·exact .inr (by omega)
    ·have hs7:=HB7.out.size
     have hs5:=h5.size
     have hs9:wr.heap.size≤w9.heap.size:=hO9.size
     exact⟨hO8.os.trans (hO9.os.trans (h5.os.trans HB7.out.os)),hO8.tape.trans (hO9.tape.trans (h5.tape.trans HB7.out.tape)),hO8.output.trans (hO9.output.trans (h5.output.trans HB7.out.output)),by have:=hO8.size;omega,fun b hb hn=>(hO8.block b (by omega) (by show b≠W.heap.size+1;omega)).trans ((hO9.block b (by show b<wr.heap.size;omega) hn).trans ((h5.block b (by omega) (by show ¬(b=kb∨b=w5.heap.size);intro h;rcases h with h|h;exact hn h;omega)).trans (HB7.out.block b hb)))⟩
   have HF:=Xa hfin
   have HS8:=Xa hs8
   have y0:=gblk hf9 0
   have y1:=gblk hf9 1
   have y2:=gblk hf9 2
   have y3:=gblk hf9 3
   have y4:=gblk hf9 4
   have y5:=gblk hf9 5
   have y6:=gblk hf9 6
   have y7:=gblk hf9 7
   have z0:=gblk hr9 0
   have z1:=gblk hr9 1
   have z2:=gblk hr9 2
   have z3:=gblk hr9 3
   have z4:=gblk hr9 4
   have z5:=gblk hr9 5
   have z6:=gblk hr9 6
   have z7:=gblk hr9 7
   have fz:=fun n=>Xf hr9 n
   have hrl9:=Xc hr9
   clear hbk hnone hbd hK9 hok9 hO9 hz9 hkm hch hr hch9 hx9 hf9 hr9 hCof hs8 hO8 hfin h1 h2 h3 h4 h5 hb1 hb2
   go_wp2_with fail
   refine wpIn_wide (n:=0) |>.1 ?_
   refine Y4 _ ?_ (fun _ _ h=>h)
   refine Xo (fun V=>V.cell? ⟨cb,8,none⟩=some (.map (some kb))∧V.cell? ⟨W.heap.size,0,none⟩=some (.int .i64 (c':Int))∧V.cell? ⟨W.heap.size,1,none⟩=some (.int .i64 (i:Int))∧V.cell? ⟨W.heap.size,2,none⟩=some (.int .i64 (k:Int))∧V.cell? ⟨w5.heap.size,0,none⟩=some (.bool fd.ok)∧V.cell? ⟨w5.heap.size,1,none⟩=some (.int .i64 fd.cost)∧V.cell? ⟨w5.heap.size,2,none⟩=some (.int .i64 fd.rule)∧V.cell? ⟨w5.heap.size,3,none⟩=some (.int .i64 fd.item)∧V.cell? ⟨w5.heap.size,4,none⟩=some (.int .i64 fd.frm)∧V.cell? ⟨w5.heap.size,5,none⟩=some (.int .i64 fd.unt)∧V.cell? ⟨w5.heap.size,6,none⟩=some (.slice fd.kids.addr fd.kids.len fd.kids.cap)∧V.cell? ⟨w5.heap.size,7,none⟩=some (.int .i64 fd.many)) (by kernel_rfl) ?_
   refine Xd (i:=0) rfl (by kernel_rfl) (fun _ _ _ h=>h) (fun V hV=>(by obtain⟨r1,r2,r3,r4,r5,r6,r7,r8,r9,r10,r11,r12⟩:=hV;go_simp<;>rfl)) ?_
   refine Xd (i:=1) rfl (by kernel_rfl) (fun _ _ _ h=>h) (fun V hV=>(by obtain⟨r1,r2,r3,r4,r5,r6,r7,r8,r9,r10,r11,r12⟩:=hV;go_simp<;>rfl)) ?_
   refine Xd (i:=2) rfl (by kernel_rfl) (fun _ _ _ h=>h) (fun V hV=>(by obtain⟨r1,r2,r3,r4,r5,r6,r7,r8,r9,r10,r11,r12⟩:=hV;go_simp<;>rfl)) ?_
   refine Xd (i:=3) rfl (by kernel_rfl) (fun _ _ _ h=>h) (fun V hV=>(by obtain⟨r1,r2,r3,r4,r5,r6,r7,r8,r9,r10,r11,r12⟩:=hV;go_simp<;>rfl)) ?_
   refine Xd (i:=4) rfl (by kernel_rfl) (fun _ _ _ h=>h) (fun V hV=>(by obtain⟨r1,r2,r3,r4,r5,r6,r7,r8,r9,r10,r11,r12⟩:=hV;go_simp<;>rfl)) ?_
   refine Xd (i:=5) rfl (by kernel_rfl) (fun _ _ _ h=>h) (fun V hV=>(by obtain⟨r1,r2,r3,r4,r5,r6,r7,r8,r9,r10,r11,r12⟩:=hV;go_simp<;>rfl)) ?_
   refine Xg (i:=6) HCr.out (by kernel_rfl) rfl (fun K hK=>?_)
   go_simp
   refine hK _ _ ?_
   clear hK K
   refine Xl HC9.out (by kernel_rfl) ?_ _
   go_wp2_with fail
   change bodyPost _ _ _ _ _ (set8 w9 (W.heap.size+1) fd)
   have hs:=HS8.out
   generalize set8 w9 (W.heap.size+1) fd=wf at *
   have s0:=gblk hs 0
   have s1:=gblk hs 1
   have s2:=gblk hs 2
   have s3:=gblk hs 3
   have s4:=gblk hs 4
   have s5:=gblk hs 5
   have s6:=gblk hs 6
   have s7:=gblk hs 7
   exact bodyPost_ret (v:=.agg #[.bool fd.ok,.int .i64 fd.cost,.int .i64 fd.rule,.int .i64 fd.item,.int .i64 fd.frm,.int .i64 fd.unt,.slice fd.kids.addr fd.kids.len fd.kids.cap,.int .i64 fd.many]) (by simp[results,Tryz.results54,go_sem,s0,s1,s2,s3,s4,s5,s6,s7]) rfl HF.out
theorem Xe3 (hg:Yu g) (hI:Zr N g.cats.xs.length its.xs) (hgl:g.lies e0) (hil:ItemsAt e0 its) (hfew:its.xs.length≤16384) (h16:N≤16):∀(m:Nat) (c:Int) (i k:Nat),muG g c i k<m→0≤c→c<g.cats.xs.length→i<k→k≤N→Xl8 e0 cb kb wb top g its N c i k
 | 0,_,_,_,hm,_,_,_,_=>absurd hm (Nat.not_lt_zero _)
 | m+1,c,i,k,hm,h0,h1,h2,h3=>by
  intro X f0 W hX hE hK
  have hf32:=hg.few
  cases hf:f0 ⟨c,i,k⟩ with
  | none=>exact Xpw hg hI hgl hil hfew h16 h2 h3 c.toNat (by omega) (by omega) (fun c' i' k' q0 q1 q2 q3 q4=>Xe3 hg hI hgl hil hfew h16 m c' i' k' (by omega) q0 q1 q2 q3) W hX hE hK hf
  | some fd=>exact Xko fd W hE hK ⟨h0,by omega⟩ (by omega) (by omega) hf
end
theorem Xox (x y:Bool) (h:Value.bool x=Value.bool y):x=y:=by cases h;rfl
def Xo4:Type:=Bool
def Xeq:ElemShape Xo4:=⟨Value.bool,Xox⟩
theorem zeroB (w:World):(zeroValue 4).run Tryz.prog w = .ok (.bool false) w:=by kernel_rfl
def Xd8 (w:World) (bm n:Nat) (f:ByteArray→Option Bool):Prop:=MapF w (k:=9) (P:=Tryz.prog) (β:=Xo4) strK Xeq bm n f
set_option maxHeartbeats 1000000 in
theorem Xi2 (x:RuleG) (bc bl bm n:Nat) (c:ByteArray) (f:ByteArray→Option Bool) (w:World) (hx:x.lies w) (hc:w.heap[bc]? = some (.cells #[.string c] 9 (0,0))) (hl:w.heap[bl]? = some (.cells #[.map (some bm)] 251 (0,0))) (hm:Xd8 w bm n f)
  (hf:∀y,(f y).isSome→f y=some true) (hs:∀p∈x.parts.xs,p.cat.size≤maxLen) :
  Calls Tryz.prog 200 #[.agg #[.string x.cat,.int .i64 x.no,.slice x.parts.addr x.parts.xs.length x.parts.cap,.slice x.gives.addr x.gives.xs.length x.gives.cap,.int .i64 x.cost],.pointer (some ⟨bc,0,none⟩),.pointer (some ⟨bl,0,none⟩)] w fun e w'=>e = .returned (.bool (Ze f c x))∧Below w.heap.size w w':=by
 obtain⟨W1,hW1⟩:∃W1,w.alloc (.cells #[.string x.cat,.int .i64 x.no,.slice x.parts.addr x.parts.xs.length x.parts.cap,.slice x.gives.addr x.gives.xs.length x.gives.cap,.int .i64 x.cost] 104)=W1:=⟨_,rfl⟩
 have hB1:Below w.heap.size w W1:=by subst hW1;exact Xe (Below.refl _ _) _
 have hk:W1.heap[w.heap.size]? = some (.cells #[.string x.cat,.int .i64 x.no,.slice x.parts.addr x.parts.xs.length x.parts.cap,.slice x.gives.addr x.gives.xs.length x.gives.cap,.int .i64 x.cost] 104 (0,0)):=by subst hW1;exact World.alloc_heap_new _ _
 have hc1:=Xh hB1 hc
 have hl1:=Xh hB1 hl
 have c0:∀p:Xn W1,p.wt.cell? ⟨bc,0,none⟩=some (.string c):=fun p=>Xu (Xc hc1) (gblk hc1 0) p
 have l0:∀p:Xn W1,p.wt.cell? ⟨bl,0,none⟩=some (.map (some bm)):=fun p=>Xu (Xc hl1) (gblk hl1 0) p
 have a0:∀p:Xn W1,p.wt.cell? ⟨w.heap.size,0,none⟩=some (.string x.cat):=fun p=>Xu (Xc hk) (gblk hk 0) p
 have a2:∀p:Xn W1,p.wt.cell? ⟨w.heap.size,2,none⟩=some (.slice x.parts.addr x.parts.xs.length x.parts.cap):=fun p=>Xu (Xc hk) (gblk hk 2) p
 have hX:=hx.ext hB1
 have HW1:=Xa hW1
 by_cases h1:x.cat=c
 rotate_left
 ·have HF:Hid (Ze f c x=false):=by
   show _=_
   unfold Ze
   split
   ·rw[decide_eq_false h1];rfl
   ·rfl
  have g1:(x.cat.toList == c.toList)=false:=by simpa using fun h=>h1 (Xcm h)
  clear h1 hx hc hl hm hf hs hk hc1 hl1 hX hW1
  go_enter Tryz.func200,Tryz.ntmps200
  go_wp2_with fail
  rw[HW1.out]
  refine X7 (by kernel_rfl) (by kernel_rfl) ?_
  repeat (go_big_quiet_step (fail))
  refine wpQuiet_nil ?_
  intro _ hw'
  obtain⟨p,rfl⟩:=hw'
  go_wp2_with fail
  go_ret
  exact⟨by rw[HF.out];rfl,Xb hB1 p.ext⟩
 have g1:(x.cat.toList == c.toList)=true:=by simp[h1]
 by_cases h2:x.parts.xs.length=1
 rotate_left
 ·have HF:Hid (Ze f c x=false):=by
   show _=_
   unfold Ze
   split
   ·rename_i h;rw[h] at h2;simp at h2
   ·rfl
  have g2:((x.parts.xs.length:Int) == 1)=false:=by simp;omega
  clear h1 h2 hx hc hl hm hf hs hk hc1 hl1 hX hW1
  go_enter Tryz.func200,Tryz.ntmps200
  go_wp2_with fail
  rw[HW1.out]
  refine X7 (by kernel_rfl) (by kernel_rfl) ?_
  repeat (go_big_quiet_step (fail))
  refine wpQuiet_nil ?_
  intro _ hw'
  obtain⟨p,rfl⟩:=hw'
  go_wp2_with fail
  go_ret
  exact⟨by rw[HF.out];rfl,Xb hB1 p.ext⟩
 obtain⟨q,hq⟩:=List.length_eq_one_iff.1 h2
 obtain⟨b,off,hA,hb,hcl⟩:=hX.1.at_ PartG.size_cells (by omega) (k:=0) (by omega)
 have hq0:x.parts.xs[0]'(by omega)=q:=by simp[hq]
 have d0:∀p:Xn W1,p.wt.cell? ⟨b,off,none⟩=some (.string q.cat):=fun p=>by
  have:=hcl 0 (by omega) p.wt p.ext 0 _ rfl
  rw[hq0] at this
  simpa using this
 have d2:∀p:Xn W1,p.wt.cell? ⟨b,off+2,none⟩=some (.string q.text):=fun p=>by
  have:=hcl 0 (by omega) p.wt p.ext 2 _ rfl
  rw[hq0] at this
  simpa using this
 have g2:((1:Nat):Int) == 1:=rfl
 rw[hA,h2] at a2
 have HE:Hid (Ze f c x=(decide (q.text.size=0) && (f q.cat).isSome)):=by show _=_;unfold Ze;rw[hq];simp[h1]
 have hqs:=hs q (by rw[hq];simp)
 by_cases h3:q.text.size=0
 rotate_left
 ·have HF:Hid (Ze f c x=false):=by show _=_;rw[HE.out,decide_eq_false h3];rfl
  have n0:=Zp (s:=q.text) (by omega)
  clear h1 h2 h3 hx hc hl hm hf hs hk hc1 hl1 hX hW1 hA hq hq0 hcl HE
  go_enter Tryz.func200,Tryz.ntmps200
  go_wp2_with fail
  rw[HW1.out]
  refine X7 (by kernel_rfl) (by kernel_rfl) ?_
  repeat (go_big_quiet_step (fail))
  refine wpQuiet_nil ?_
  intro _ hw'
  obtain⟨p,rfl⟩:=hw'
  go_wp2_with fail
  go_ret
  exact⟨by rw[HF.out];rfl,Xb hB1 p.ext⟩
 have n0:=Zq (s:=q.text) (by omega)
 have hlk:∀p:Xn W1,(Instr.lookup 251 (.map (some bm)) (.string q.cat) false).run Tryz.prog p.wt = .ok (.bool ((f q.cat).isSome)) p.wt:=fun p=>by
  have hmp:Xd8 p.wt bm n f:=MapF.of_block hm ((Xb hB1 p.ext).block _ (MapF.lt hm))
  have:=Xfq To Tryz.underlying251 strK Xeq false (zeroB p.wt) hmp q.cat hqs
  have e:(f q.cat).getD false=(f q.cat).isSome:=by
   cases h:f q.cat with
   | none=>rfl
   | some v=>have:=hf q.cat (by rw[h];rfl);rw[h] at this;cases this;rfl
  change _=Result.ok (Value.bool (Option.getD (α:=Bool) (f q.cat) false)) _ at this
  rw[e] at this
  exact this
 have HF:Hid (Ze f c x=(f q.cat).isSome):=by show _=_;rw[HE.out,decide_eq_true h3];rfl
 generalize (f q.cat).isSome=r at *
 clear h1 h2 h3 hx hc hl hm hf hs hk hc1 hl1 hX hW1 hA hq hq0 hcl HE
 go_enter Tryz.func200,Tryz.ntmps200
 go_wp2_with fail
 rw[HW1.out]
 refine X7 (by kernel_rfl) (by kernel_rfl) ?_
 repeat (go_big_quiet_step (fail))
 refine wpQuiet_nil ?_
 intro _ hw'
 obtain⟨p,rfl⟩:=hw'
 go_wp2_with fail
 go_ret
 exact⟨by rw[HF.out];rfl,Xb hB1 p.ext⟩
def Qt (cats:List ByteArray) (y:ByteArray):Option Bool:=if (cats.any fun z=>decide (z=y))=true then some true else none
theorem Xk2 (l:List ByteArray) (x y:ByteArray):Qt (l++[x]) y=if y=x then some true else Qt l y:=by
 unfold Qt
 rw[List.any_append]
 by_cases h:y=x
 ·subst h;simp
 ·have h2:¬x=y:=fun e=>h e.symm
  have h3:([x].any fun z=>decide (z=y))=false:=by simp[h2]
  rw[h3,Bool.or_false,if_neg h]
theorem Xny (cats:List ByteArray) (x:ByteArray):(x∈cats→Qt cats x=some true)∧(x∉cats→Qt cats x=none):=by
 unfold Qt
 exact⟨fun h=>if_pos ((T6 x cats).2 h),fun h=>if_neg (fun h'=>h ((T6 x cats).1 h'))⟩
structure Xgh (W:World) (bl bm n:Nat) (f:ByteArray→Option Bool) (wr:World):Prop where
 map:Xd8 wr bm n f
 box:wr.heap[bl]? = some (.cells #[.map (some bm)] 251 (0,0))
 below:Below W.heap.size W wr
set_option maxHeartbeats 4000000 in
theorem Xez (g:Gram) (w:World) (hg:g.lies w) (hs:g.short) (ht:Xz g=true) (hfew:g.cats.xs.length≤32):Calls Tryz.prog 159 #[.agg #[.string g.name,.slice g.cats.addr g.cats.xs.length g.cats.cap,.string g.start,.int .i64 g.startNo,.slice g.entries.addr g.entries.xs.length g.entries.cap,.slice g.rules.addr g.rules.xs.length g.rules.cap]] w fun e w'=>e = .returned (.bool (Vm g))∧Below w.heap.size w w':=by
 obtain⟨W1,hW1⟩:∃W1,w.alloc (.cells #[.string g.name,.slice g.cats.addr g.cats.xs.length g.cats.cap,.string g.start,.int .i64 g.startNo,.slice g.entries.addr g.entries.xs.length g.entries.cap,.slice g.rules.addr g.rules.xs.length g.rules.cap] 26)=W1:=⟨_,rfl⟩
 have hB1:Below w.heap.size w W1:=by subst hW1;exact Xe (Below.refl _ _) _
 have hk:W1.heap[w.heap.size]? = some (.cells #[.string g.name,.slice g.cats.addr g.cats.xs.length g.cats.cap,.string g.start,.int .i64 g.startNo,.slice g.entries.addr g.entries.xs.length g.entries.cap,.slice g.rules.addr g.rules.xs.length g.rules.cap] 26 (0,0)):=by subst hW1;exact World.alloc_heap_new _ _
 obtain⟨W2,hW2⟩:∃W2,(W1.alloc (.map #[] 0)).alloc (.cells #[.map (some W1.heap.size)] 251)=W2:=⟨_,rfl⟩
 have hb2:Below W1.heap.size W1 W2:=by subst hW2;exact Xe (Xe (Below.refl _ _) _) _
 have hM0:Xd8 W2 W1.heap.size 0 (fun _=>none):=by subst hW2;exact MapF.of_block (MapF.made _ _ _) (Below.heap_alloc _ _ _ (by simp))
 have hbx:W2.heap[W1.heap.size+1]? = some (.cells #[.map (some W1.heap.size)] 251 (0,0)):=by subst hW2;exact X0 _ _ _ (by simp)
 have hmm:=@run_makeMap Tryz.prog
 have hmf:∀(fn:Fn) (first cap:Array Value) (w:World),(Instr.makeFunc fn first cap).run Tryz.prog w = .ok (.func fn first cap) w:=fun _ _ _ _=>rfl
 have HG:=Xa (hg.ext hB1)
 have Hk:=Xa hk
 have HB1:=Xa hB1
 have Hs:=Xa hs
 have Htn:=Xa (Xai ht)
 have H0:Hid (Xgh W1 (W1.heap.size+1) W1.heap.size 0 (Qt []) W2):=⟨MapF.congr hM0 (fun x _=>by simp[Qt];rfl),hbx,hb2⟩
 have hm1:g.cats.xs.length≤9223372036854775807:=by omega
 have c1:=(hb2.cell (p:=⟨w.heap.size,1,none⟩) (Xc hk)).trans (gblk hk 1)
 have c1:W2.cell? ⟨w.heap.size,1,none⟩=some (.slice g.cats.addr g.cats.xs.length g.cats.cap):=c1
 clear hg hs ht hk hb2 hM0 hbx hB1
 go_enter Tryz.func159,Tryz.ntmps159
 go_wp2_with fail
 clear hmm hW1 hW2
 clear c1
 go_loopw [12] (fun i wr=>∃k:Nat,k≤g.cats.xs.length∧i = .int .i64 k∧Xgh W1 (W1.heap.size+1) W1.heap.size k (Qt (g.cats.xs.take k)) wr) (fun i _=>g.cats.xs.length-(intOf i).toNat)
 case atStart=>exact⟨0,Nat.zero_le _,rfl,H0.out⟩
 case round =>
  obtain⟨k,hk,rfl,hM,hbx,hB⟩:=hrel
  by_cases hlt:k<g.cats.xs.length
  ·obtain⟨b,off,hA,hb,hc⟩:=StrS.at_ HG.out.cats (k:=k) hlt
   have e0:wr.cell? ⟨b,off+k,none⟩=some (.string g.cats.xs[k]):=(hB.cell (p:=⟨b,off+k,none⟩) hb).trans (hc k hlt)
   have htk:g.cats.xs.take (k+1)=g.cats.xs.take k++[g.cats.xs[k]]:=List.take_succ_eq_append_getElem hlt
   have hgood:g.cats.xs[k].size≤maxLen:=Hs.out.cats _ (List.getElem_mem hlt)
   have hbc:=Xj hbx
   have hkm:k<maxLen:=by unfold maxLen;omega
   rw[hA]
   have Htk:=Xa htk
   have Hbx:=Xa hbx
   have HB:=Xa hB
   clear hc hA htk hbx hB
   generalize g.cats.xs[k]=y at *
   generalize g.cats.xs.take k=l at *
   go_wp2_with (at_mapUpdate;refine Tf _ rfl _ _ _ 251 rfl 4 To Tryz.underlying251 strK Xeq W1.heap.size k _ rfl hM hkm y true rfl rfl hgood ?_;intro w9 hm9 hg9 hs9)
   have HF:Hid (Xgh W1 (W1.heap.size+1) W1.heap.size (k+1) (Qt (g.cats.xs.take (k+1))) w9):=by
    refine⟨?_,(hg9.block _ (Xc Hbx.out) (by simp)).trans Hbx.out,HB.out.grown hg9 HB.out.size (fun j hj=>by cases hj;exact Nat.le_refl _)⟩
    rw[Htk.out]
    exact MapF.congr hm9 (fun z _=>by rw[Xk2];rfl)
   clear hm9 hg9 hs9 hM e0 hbc
   go_wp2_with fail
   go_roundw
   case rel=>exact⟨k+1,by omega,by go_num,HF.out⟩
   case measure=>simp[intOf];omega
  ·obtain rfl:k=g.cats.xs.length:=by omega
   rw[List.take_length] at hM
   have hLI:LeftInv g.rules.xs g.cats.xs 0 (Qt g.cats.xs) (fun x=>(Qt g.cats.xs x).isSome):=LeftInv.start _ _ (Xny g.cats.xs)
   have H1:Hid (∃n f,Xgh W1 (W1.heap.size+1) W1.heap.size n f wr∧LeftInv g.rules.xs g.cats.xs 0 f (fun x=>(f x).isSome)):=⟨_,_,⟨hM,hbx,hB⟩,hLI⟩
   have c1:wr.cell? ⟨w.heap.size,1,none⟩=some (.slice g.cats.addr g.cats.xs.length g.cats.cap):=(hB.cell (p:=⟨w.heap.size,1,none⟩) (Xc Hk.out)).trans (gblk Hk.out 1)
   clear hM hbx hB hLI
   go_wp2_with fail
   clear c1 hk hlt
   go_loopw [22] (fun i wr=>∃k:Nat,k≤g.cats.xs.length∧i = .int .i64 k∧∃n f,Xgh W1 (W1.heap.size+1) W1.heap.size n f wr∧LeftInv g.rules.xs g.cats.xs k f (fun x=>(f x).isSome)) (fun i _=>g.cats.xs.length-(intOf i).toNat)
   case atStart=>exact⟨0,Nat.zero_le _,rfl,H1.out⟩
   case round =>
    clear H1
    obtain⟨k,hk,rfl,n,f,⟨hM,hbx,hB⟩,hLI⟩:=hrel
    rename World=>wr
    by_cases hlt:k<g.cats.xs.length
    ·have hbc:=Xj hbx
     have hz:=hM.lt
     have hbl:=Xc hbx
     have hzB:=hB.size
     obtain⟨w3,hw3⟩:∃w3,w3=wr:=⟨_,rfl⟩
     subst hw3
     go_wp2_with (at_range;refine Xf1 _ rfl _ 251 rfl 4 To Tryz.underlying251 strK Xeq W1.heap.size n _ rfl hM ?_;intro w7 cnt0 hrg0 hg0 hs0)
     go_frame
     go_loopw [26] (fun _ wr=>∃left cnt f,RangeF wr strK Xeq W1.heap.size w3.heap.size n f left cnt∧LeftInv g.rules.xs g.cats.xs k f left∧wr.heap[W1.heap.size+1]? = some (.cells #[.map (some W1.heap.size)] 251 (0,0))∧Below W1.heap.size W1 wr) (fun _ wr=>wr.rangeLeft W1.heap.size w3.heap.size)
     case atStart =>
      exact⟨_,_,_,hrg0,hLI,(hg0.block _ (Xc hbx) (by simp)).trans hbx,hB.grown hg0 hB.size (fun j hj=>by cases hj)⟩
     case round =>
      clear hLI hbx hB hbc hrg0 hg0 hs0 hM
      obtain⟨left,cnt,f,hrg,hLI,hbx,hB⟩:=hrel
      rename World=>wr
      go_wp2_with (at_next;refine Xgf _ rfl _ rfl To strK Xeq W1.heap.size w3.heap.size n _ left cnt (fun x => .string x) (fun c:Xo4=>Value.bool c) (fun _=>rfl) (fun _=>rfl) rfl hrg ?_ ?_)
      ·intro hl0
       have HF:Hid (∃n f,Xgh W1 (W1.heap.size+1) W1.heap.size n f wr∧LeftInv g.rules.xs g.cats.xs (k+1) f (fun x=>(f x).isSome)) :=
        ⟨n,f,⟨hrg.owns,hbx,hB⟩,hLI.next fun x hx=>hl0 x (Hs.out.cats x hx)⟩
       clear hl0 hrg hLI hbx hB
       go_wp2_with fail
       go_roundw
       case rel=>exact⟨k+1,by omega,by go_num,HF.out⟩
       case measure=>simp[intOf];omega
      ·intro x c w8 cnt1 hgx hlx hfx hrg1 hlt1 hg1 hs1 hen
       have hrlt:=hrg.lt
       have hB8:Below W1.heap.size W1 w8:=hB.grown hg1 hB.size (fun j hj=>by cases hj;omega)
       have hbx8:=(hg1.block _ (Xc hbx) (by simp;omega)).trans hbx
       obtain⟨w9,hw9⟩:∃w9,w8.alloc (.cells #[.string x] 9)=w9:=⟨_,rfl⟩
       have hb9:Below w8.heap.size w8 w9:=by subst hw9;exact Xe (Below.refl _ _) _
       have hc9:w9.heap[w8.heap.size]? = some (.cells #[.string x] 9 (0,0)):=by subst hw9;exact World.alloc_heap_new _ _
       have hbx9:=Xh hb9 hbx8
       have hB9:=Xb hB8 hb9
       have hrg9:=hrg1.kept (Qc hb9 none) (by simp) (by simp)
       have hkg9:=Xh hB9 Hk.out
       have cC:=Xa (Xgu g.rules.addr g.rules.cap g.rules.xs 200 #[.pointer (some ⟨w8.heap.size,0,none⟩),.pointer (some ⟨W1.heap.size+1,0,none⟩)] (Ze f x) w9 (HG.out.rules.ext hB9).rd (Nat.le_trans HG.out.rules.cap HG.out.rules.max) (enters_of Tryz.func200 (by kernel_rfl) rfl)
        (fun V hV y hy=>Xi2 y w8.heap.size (W1.heap.size+1) W1.heap.size n x f V ((HG.out.rule y hy).ext (Xb hB9 hV)) (Xh hV hc9) (Xh hV hbx9) (MapF.of_block hrg9.owns (hV.block _ hrg9.owns.lt)) (fun z hz=>(hLI.sub z hz).2) (Hs.out.part y hy)))
       have d5:w9.cell? ⟨w.heap.size,5,none⟩=some (.slice g.rules.addr g.rules.xs.length g.rules.cap):=gblk hkg9 5
       have Hc9:=Xa hc9
       have Hbx9:=Xa hbx9
       have HB9:=Xa hB9
       have Hrg9:=Xa hrg9
       have HLI:=Xa hLI
       have Hlt1:=Xa hlt1
       have Hrl:=Xa hrg.left_eq
       have Hgx:=Xa hgx
       clear hrg hrg1 hlt1 hg1 hs1 hlx hfx hgx hLI hbx hB hB8 hbx8 hb9 hc9 hbx9 hB9 hrg9 hkg9
       go_wp2_with fail
       clear hw9
       refine cC.out.mono ?_
       rintro e w10 ⟨rfl,hb10⟩
       have hc10:=Xh hb10 Hc9.out
       have hbx10:=Xh hb10 Hbx9.out
       have hB10:=Xb HB9.out hb10
       have hrg10:=Hrg9.out.kept (Qc hb10 none) (by simp) (by simp)
       cases hany:g.rules.xs.any (Ze f x)
       ·have hst:=HLI.out.strike (c:=x) (fun y z ⟨r,hr,hc⟩=>by
         obtain⟨hgc,hcy,p,hp,rfl⟩:=Q0.1 hc
         unfold Uo at hgc
         split at hgc
         ·rename_i p' hp'
          rw[hp'] at hp
          simp at hp
          subst hp
          exact Htn.out.1 r hr p' hp' (of_decide_eq_true hgc)
         ·cases hgc) hany
        have Hst:=Xa hst
        have x0:=Xj hbx10
        have y0:=Xj hc10
        have Hbx10:=Xa hbx10
        have HB10:=Xa hB10
        clear hst hany hc10 hbx10 hB10 hb10
        go_wp2_with (at_delete;refine Xd7 rfl _ _ 251 rfl 4 To Tryz.underlying251 strK Xeq W1.heap.size w3.heap.size n _ _ _ rfl hrg10 x rfl Hgx.out ?_;intro w11 cnt2 hrg11 hle11 hturn)
        have hgr:=hturn.grown
        have hf2:(fun y=>(left y && !decide (y=x)) && !decide (y=x))=(fun y=>left y && !decide (y=x)):=by
         funext y
         cases left y<;>cases decide (y=x)<;>rfl
        rw[hf2] at hrg11
        have HF:Hid (LeftInv g.rules.xs g.cats.xs k (fun y=>if y=x then none else f y) (fun y=>left y && !decide (y=x))∧w11.heap[W1.heap.size+1]? = some (.cells #[.map (some W1.heap.size)] 251 (0,0))∧Below W1.heap.size W1 w11) :=
         ⟨Hst.out,(hgr.block _ (Xc Hbx10.out) (by simp)).trans Hbx10.out,HB10.out.grown hgr HB10.out.size (fun j hj=>by cases hj;exact Nat.le_refl _)⟩
        go_frame
        go_roundw
        case rel=>exact⟨_,cnt2,_,hrg11,HF.out⟩
        case measure=>rw[hrg11.left_eq,Hrl.out];have:=Hlt1.out;omega
       ·have hst:=HLI.out.stay hany
        have HF:Hid (LeftInv g.rules.xs g.cats.xs k f (fun y=>left y && !decide (y=x))∧w10.heap[W1.heap.size+1]? = some (.cells #[.map (some W1.heap.size)] 251 (0,0))∧Below W1.heap.size W1 w10):=⟨hst,hbx10,hB10⟩
        clear hst hany hc10 hbx10 hB10 hb10
        go_wp2_with fail
        go_roundw
        case rel=>exact⟨_,cnt1,f,hrg10,HF.out⟩
        case measure=>rw[hrg10.left_eq,Hrl.out];exact Hlt1.out
    ·obtain rfl:k=g.cats.xs.length:=by omega
     have hbc:=Xj hbx
     have hsz:=hM.size To (U2 f g.cats.xs) (Tj _) (fun x hx=>Hs.out.cats x (hLI.sub x ((Uf (fun y hy=>(hLI.sub y hy).1) x).2 hx)).1) (fun x _=>Uf (fun y hy=>(hLI.sub y hy).1) x) Tryz.underlying251 3
     have HF:Hid (decide (0<(U2 f g.cats.xs).length)=Vm g):=by
      show _=_
      rw[Bool.eq_iff_iff,Xgc (fun y hy=>(hLI.sub y hy).1),hLI.last Htn.out.1 Htn.out.2]
     have HB:=Xa hB
     generalize (U2 f g.cats.xs).length=m at *
     clear hM hbx hB hLI
     go_wp2_with fail
     go_ret
     exact⟨by rw[← HF.out];simp,Xb HB1.out HB.out⟩
end Go.Proofs.YthojaplnimoacaaGreatDoor
