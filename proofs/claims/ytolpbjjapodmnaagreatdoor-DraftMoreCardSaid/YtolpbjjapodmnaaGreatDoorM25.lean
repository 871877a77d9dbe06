/- Texts of this claim, one after the other: Chwf, R29b, R29c, Chwg, Chwh. -/
import Derived.Test.YtolpbjjapodmnaaGreatDoorM24
import Derived.Test.YtolpbjjapodmnaaGreatDoorM13
import Derived.Test.YtolpbjjapodmnaaGreatDoorM8
import Derived.Test.YtolpbjjapodmnaaGreatDoorM3
import Derived.Test.YtolpbjjapodmnaaGreatDoorM21
import Derived.BigQuiet
import Derived.Defers
namespace Go.Proofs.YtolpbjjapodmnaaGreatDoor
open Go.RowKit Go.Han
set_option maxRecDepth 100000
attribute [local irreducible] wpStill wpQuiet
set_option maxHeartbeats 8000000
section
variable {e0:World} {cb kb wb top:Nat} {g:Gram} {its:SlS ItemG} {N:Nat} {X:Nat->Prop} {f0:X9->Option FoundG} {c:Int} {i k:Nat}
theorem Xq9 (fd:FoundG) (W:World) (hE:ChEnv e0 cb kb wb top g its N W) (hK:KnownF X g its.xs N kb f0 W) (hc:0<=c/\c<=32) (hik:i<=16) (hkk:k<=16) (hf:f0 ⟨c,i,k⟩=some fd) :
  Calls Tryz.prog 67 #[.pointer (some ⟨cb,0,none⟩),.agg #[.int .i64 c,.int .i64 (i:Int),.int .i64 (k:Int)]] W (Xbl X g its.xs N kb f0 c i k (muG g c i k+1) W):=by
 obtain⟨W1,hW1⟩:∃W1,(W.alloc (.cells #[.int .i64 c,.int .i64 (i:Int),.int .i64 (k:Int)] 119)).alloc (.cells #[.bool false,.int .i64 0,.int .i64 0,.int .i64 0,.int .i64 0,.int .i64 0,.slice none 0 0,.int .i64 0] 114)=W1:=⟨_,rfl⟩
 have hB1:Below W.heap.size W W1:=by rw[<- hW1];exact Xg ba_q _
 have hx1:W1.heap[W.heap.size]? = some (.cells #[.int .i64 c,.int .i64 (i:Int),.int .i64 (k:Int)] 119 (0,0)):=by
  rw[<- hW1];exact(Below.heap_alloc _ _ _ (by simp)).trans (World.alloc_heap_new _ _)
 have hr1:W1.heap[W.heap.size+1]? = some (.cells #[.bool false,.int .i64 0,.int .i64 0,.int .i64 0,.int .i64 0,.int .i64 0,.slice none 0 0,.int .i64 0] 114 (0,0)):=by
  rw[<- hW1];exact Xo _ _ _ (by simp)
 have hch:=(hE.ext hB1).chart;have hK1:=hK.ext hB1;have hok:∃i' k':Nat,(i:Int)=i'/\(k:Int)=k'/\FoundOk X W1 fd (Fd.of bigN (derG g its.xs c i' k')):=hK1.ok _ _ hf;obtain⟨i',k',e1,e2,hok⟩:=hok;obtain rfl:i=i':=by omega
 obtain rfl:k=k':=by omega
 have hgood:Z8 ⟨c,i,k⟩:=Xfb ⟨by omega,by omega⟩ ⟨by omega,by omega⟩ ⟨by omega,by omega⟩
 have hlook:∀V:World,V.heap[kb]? = W1.heap[kb]? -> (Instr.lookup 180 (.map (some kb)) (.agg #[.int .i64 c,.int .i64 (i:Int),.int .i64 (k:Int)]) true).run Tryz.prog V = .ok (.tuple #[fd.vl,.bool true]) V:=fun V hV=>by
  have h:=Vf V Xay Xcn T3 foundShape Xjp (Xcd V) (hK1.map.of_block hV) ⟨c,i,k⟩ hgood;rw[hf] at h;exact h
 have hkl:=hK1.map.lt;have hcl:=Xd hch;have hzz:W.heap.size+2=W1.heap.size:=by rw[<- hW1];simp
 have c8:=gblk hch 8;obtain⟨x0,x1,x2⟩:=gb3 hx1
 have HC:Hid (∀V:World,Below W1.heap.size W1 V->V.cell? ⟨cb,8,none⟩=some (.map (some kb))/\V.cell? ⟨W.heap.size,0,none⟩=some (.int .i64 c)/\V.cell? ⟨W.heap.size,1,none⟩=some (.int .i64 (i:Int))/\V.cell? ⟨W.heap.size,2,none⟩=some (.int .i64 (k:Int))/\(Instr.lookup 180 (.map (some kb)) (.agg #[.int .i64 c,.int .i64 (i:Int),.int .i64 (k:Int)]) true).run Tryz.prog V = .ok (.tuple #[fd.vl,.bool true]) V):=fun V hV =>
  ⟨(hV.cell (p:=⟨cb,8,none⟩) hcl).trans c8,(hV.cell (p:=⟨W.heap.size,0,none⟩) (Xd hx1)).trans x0,(hV.cell (p:=⟨W.heap.size,1,none⟩) (Xd hx1)).trans x1,(hV.cell (p:=⟨W.heap.size,2,none⟩) (Xd hx1)).trans x2,hlook V (hV.block _ hkl)⟩
 obtain⟨w5,hw5⟩:∃w5,(W1.alloc fd.ob).drew=w5:=⟨_,rfl⟩
 have hb5:Below W1.heap.size W1 w5:=by rw[<- hw5];exact Xr ba_q
 have hf5:w5.heap[W1.heap.size]? = some fd.ob:=by rw[<- hw5];exact World.alloc_heap_new W1 _
 have hr5:=Xi hb5 hr1;have hs8:=Xer (f:=⟨false,0,0,0,0,0,⟨none,0,0⟩,0⟩) hr5 fd;have hO8:=Xah w5 (W.heap.size+1) fd
 have hfin:Xbl X g its.xs N kb f0 c i k (muG g c i k+1) W (.returned (fd.vl)) (set8 w5 (W.heap.size+1) fd):=by
  have hkt:=hE.hk;have htw:=hE.top;have ht:∀t x,TreeW X W1 t x->TreeW X (set8 w5 (W.heap.size+1) fd) t x:=fun t x ht=>(ht.ext hb5).only hO8 fun b hb h=>(Zf hr5) (by rw[show b=W.heap.size+1 from hb] at h;exact h.1);refine⟨fd,f0,rfl,hok.keep ht,hK1.keep ((hO8.block _ (by have:=hb5.size;omega) (by show kb≠W.heap.size+1;omega)).trans (hb5.block _ hkl)) ht,Grew.refl _ _ _,?_⟩;exact⟨hO8.os.trans (hb5.os.trans hB1.os),hO8.tape.trans (hb5.tape.trans hB1.tape),hO8.output.trans (hb5.output.trans hB1.output),by have:=hO8.size;have:=hb5.size;have:=hB1.size;omega,fun b hb _=>(hO8.block b (by have:=hb5.size;omega) (by show b≠W.heap.size+1;omega)).trans ((hb5.block b (by omega)).trans (hB1.block b hb))⟩
 have HF:=Xa hfin;have HS8:=Xa hs8;obtain⟨y0,y1,y2,y3,y4,y5,y6,y7⟩:=gb8 hf5;obtain⟨z0,z1,z2,z3,z4,z5,z6,z7⟩:=gb8 hr5;have fz:=fun n=>Xf hr5 n;have HB5:=Xa hb5;have HZ:=Xa hzz;have n1:W.heap.size+1≠W1.heap.size:=by omega
 have hrl5:=Xd hr5;clear hE hK hK1 hok hlook hgood hch hx1 hr1 hs8 hO8 hfin hf5 hr5 hb5 hzz c8 x0 x1 x2 hf;go_enter Tryz.func67,Tryz.ntmps67
 go_wp2_with fail
 refine wpIn_wide (n:=0) |>.1 ?_
 refine Yz _ ?_ (fun _ _ h=>h);refine Xn (fun V=>Below W1.heap.size W1 V) (by kernel_rfl) ?_;refine Xc (i:=0) (hy:=fun V hV=>(by obtain⟨r1,r2,r3,r4,r5⟩:=HC.out V hV;go_simp<;>rfl)) ?_;refine Xc (i:=1) (hy:=fun V hV=>(by obtain⟨r1,r2,r3,r4,r5⟩:=HC.out V hV;go_simp<;>rfl)) ?_;refine Xc (i:=2) (hy:=fun V hV=>(by obtain⟨r1,r2,r3,r4,r5⟩:=HC.out V hV;go_simp<;>rfl)) ?_;refine Xc (i:=3) (hy:=fun V hV=>(by obtain⟨r1,r2,r3,r4,r5⟩:=HC.out V hV;go_simp<;>rfl)) ?_;refine Xc (i:=4) (hy:=fun V hV=>(by obtain⟨r1,r2,r3,r4,r5⟩:=HC.out V hV;go_simp<;>rfl)) ?_;refine Xc (i:=5) (hy:=fun V hV=>(by obtain⟨r1,r2,r3,r4,r5⟩:=HC.out V hV;go_simp<;>rfl)) ?_;refine Xc (i:=6) (hy:=fun V hV=>(by obtain⟨r1,r2,r3,r4,r5⟩:=HC.out V hV;go_simp<;>rfl)) ?_;refine Xc (i:=7) (hy:=fun V hV=>(by obtain⟨r1,r2,r3,r4,r5⟩:=HC.out V hV;go_simp<;>rfl)) ?_;refine Xc (i:=8) (hy:=fun V hV=>(by obtain⟨r1,r2,r3,r4,r5⟩:=HC.out V hV;go_simp<;>rfl)) ?_;refine Xh (i:=9) bd_q fun K hK=>?_;go_simp
 refine hK _ _ ?_;clear hK K;refine Xh (i:=10) (Xg bd_q _) fun K hK=>?_;go_simp
 refine hK _ _ ?_;clear hK K;refine Xh (i:=11) HB5.out fun K hK=>?_;go_simp
 refine hK _ _ ?_;clear hK K;refine Xk HB5.out (by kernel_rfl) ?_ _;go_wp2_with fail
 change bodyPost _ _ _ _ _ (set8 w5 (W.heap.size+1) fd);have hs:=HS8.out;generalize set8 w5 (W.heap.size+1) fd=w9 at *;obtain⟨s0,s1,s2,s3,s4,s5,s6,s7⟩:=gb8 hs;exact bodyPost_ret (v:=fd.vl) (by simp[results,Tryz.results67,go_sem,s0,s1,s2,s3,s4,s5,s6,s7]) rfl HF.out
def FiSt (X:Nat->Prop) (g:Gram) (items:List ItemG) (N kb fb:Nat) (f0:X9->Option FoundG) (c:Int) (i k:Nat) (w7:World) (j:Nat) (V:World):Prop :=
 (j=0/\V=w7)\/(j=1/\∃f,V.heap[fb]? = some f.ob/\FoundOk X V f (Fd.of bigN (X3 c i k 0 items))/\Only (fun j=>j=fb) w7 V) \/
  (j=2/\∃fd f',V.heap[fb]? = some fd.ob/\FoundOk X V fd (Fd.of bigN (derG g items c i k))/\KnownF X g items N kb f' V/\Grew g (muG g c i k) f0 f'/\Only (fun j=>j=kb\/j=fb) w7 V)
theorem Xza (hg:Y5 g) (hI:Ve N g.cats.xs.length its.xs) (hgl:g.lies e0) (hil:ItemsAt e0 its) (hfew:its.xs.length<=16384) (h16:N<=16) (hik:i<k) (hkN:k<=N) (c':Nat) (hc':c=c') (hcC:c'<g.cats.xs.length)
  (hsub:∀(c':Int) (i' k':Nat),0<=c'->c'<g.cats.xs.length->i'<k'->k'<=N->muG g c' i' k'<muG g c i k->Xyb e0 cb kb wb top g its N c' i' k')
  (W:World) (hX:∀b,X b->b<W.heap.size) (hE:ChEnv e0 cb kb wb top g its N W) (hK:KnownF X g its.xs N kb f0 W) (hf:f0 ⟨c,i,k⟩=none) :
  Calls Tryz.prog 67 #[.pointer (some ⟨cb,0,none⟩),.agg #[.int .i64 c,.int .i64 (i:Int),.int .i64 (k:Int)]] W (Xbl X g its.xs N kb f0 c i k (muG g c i k+1) W):=by
 obtain⟨W1,hW1⟩:∃W1,(W.alloc (.cells #[.int .i64 c,.int .i64 (i:Int),.int .i64 (k:Int)] 119)).alloc (.cells #[.bool false,.int .i64 0,.int .i64 0,.int .i64 0,.int .i64 0,.int .i64 0,.slice none 0 0,.int .i64 0] 114)=W1:=⟨_,rfl⟩
 have hB1:Below W.heap.size W W1:=by rw[<- hW1];exact Xg ba_q _
 have hx1:W1.heap[W.heap.size]? = some (.cells #[.int .i64 c,.int .i64 (i:Int),.int .i64 (k:Int)] 119 (0,0)):=by
  rw[<- hW1];exact(Below.heap_alloc _ _ _ (by simp)).trans (World.alloc_heap_new _ _)
 have hr1:W1.heap[W.heap.size+1]? = some (.cells #[.bool false,.int .i64 0,.int .i64 0,.int .i64 0,.int .i64 0,.int .i64 0,.slice none 0 0,.int .i64 0] 114 (0,0)):=by
  rw[<- hW1];exact Xo _ _ _ (by simp)
 have hch:=(hE.ext hB1).chart;have hK1:=hK.ext hB1;have hfew32:=hg.few;have hgood:Z8 ⟨c,i,k⟩:=Xfb ⟨by omega,by omega⟩ ⟨by omega,by omega⟩ ⟨by omega,by omega⟩
 have hlook:∀V:World,V.heap[kb]? = W1.heap[kb]? -> (Instr.lookup 180 (.map (some kb)) (.agg #[.int .i64 c,.int .i64 (i:Int),.int .i64 (k:Int)]) true).run Tryz.prog V = .ok (.tuple #[.agg #[.bool false,.int .i64 0,.int .i64 0,.int .i64 0,.int .i64 0,.int .i64 0,.slice none 0 0,.int .i64 0],.bool false]) V:=fun V hV=>by
  have h:=Vf V Xay Xcn T3 foundShape Xjp (Xcd V) (hK1.map.of_block hV) ⟨c,i,k⟩ hgood;rw[hf] at h;exact h
 have hkl:=hK1.map.lt;have hcl:=Xd hch;have hzz:W.heap.size+2=W1.heap.size:=by rw[<- hW1];simp
 have c8:=gblk hch 8;obtain⟨x0,x1,x2⟩:=gb3 hx1
 have HC:Hid (∀V:World,Below W1.heap.size W1 V->V.cell? ⟨cb,8,none⟩=some (.map (some kb))/\V.cell? ⟨W.heap.size,0,none⟩=some (.int .i64 c)/\V.cell? ⟨W.heap.size,1,none⟩=some (.int .i64 (i:Int))/\V.cell? ⟨W.heap.size,2,none⟩=some (.int .i64 (k:Int))/\(Instr.lookup 180 (.map (some kb)) (.agg #[.int .i64 c,.int .i64 (i:Int),.int .i64 (k:Int)]) true).run Tryz.prog V = .ok (.tuple #[.agg #[.bool false,.int .i64 0,.int .i64 0,.int .i64 0,.int .i64 0,.int .i64 0,.slice none 0 0,.int .i64 0],.bool false]) V):=fun V hV =>
  ⟨(hV.cell (p:=⟨cb,8,none⟩) hcl).trans c8,(hV.cell (p:=⟨W.heap.size,0,none⟩) (Xd hx1)).trans x0,(hV.cell (p:=⟨W.heap.size,1,none⟩) (Xd hx1)).trans x1,(hV.cell (p:=⟨W.heap.size,2,none⟩) (Xd hx1)).trans x2,hlook V (hV.block _ hkl)⟩
 obtain⟨w5,hw5⟩:∃w5,(W1.alloc (.cells #[.bool false,.int .i64 0,.int .i64 0,.int .i64 0,.int .i64 0,.int .i64 0,.slice none 0 0,.int .i64 0] 114)).drew=w5:=⟨_,rfl⟩
 have hb5:Below W1.heap.size W1 w5:=by rw[<- hw5];exact Xr ba_q
 obtain⟨w6,hw6⟩:∃w6,w5.alloc (.cells #[.bool false,.int .i64 0,.int .i64 0,.int .i64 0,.int .i64 0,.int .i64 0,.slice none 0 0,.int .i64 0] 114)=w6:=⟨_,rfl⟩
 have hb6:=X5 hw6;have hf6:=Yg hw6;obtain⟨w7,hw7⟩:∃w7,w6.alloc (.cells #[.func (.func 126) #[.pointer (some ⟨cb,0,none⟩)] #[],.func (.func 127) #[.pointer (some ⟨cb,0,none⟩)] #[]] 185)=w7:=⟨_,rfl⟩
 have hb7:=X5 hw7;have hs7:=Yg hw7;have hB5:=Xb hB1 hb5;have hB6:=Xb hB5 hb6;have hB7:=Xb hB6 hb7;have hf7:=Xi hb7 hf6;have hx7:=((Xb hb5 (Xb hb6 hb7)).block _ (Xd hx1)).trans hx1;have hr7:=((Xb hb5 (Xb hb6 hb7)).block _ (Xd hr1)).trans hr1;have HE7:=Xa (hE.ext hB7);have HK7:=Xa (hK.ext hB7);have hkt:=hE.hk;have htW:=hE.top;have h51:=hb5.size;have h65:w5.heap.size<w6.heap.size:=Xd hf6;have h76:w6.heap.size<w7.heap.size:=Xd hs7;have HB7:=Xa hB7;have HW5:=Xa hw5;have HB5:=Xa hb5;have Hf7:=Xa hf7;have Hx7:=Xa hx7;have Hr7:=Xa hr7;have Hs7:=Xa hs7;have HX:=Xa hX;have Hsub:=Xa hsub;have Hf:=Xa hf;have HZ:=Xa hzz;have hW1z:W.heap.size+2<=W1.heap.size:=by omega
 have Hcc:=Xa hc';have hmf:∀(fn:Fn) (first cap:Array Value) (w:World),(Instr.makeFunc fn first cap).run Tryz.prog w = .ok (.func fn first cap) w:=fun _ _ _ _=>rfl;clear hE hK hK1 hlook hgood hch hx1 hr1 c8 x0 x1 x2 hf hc' hX hsub hB1 hB5 hB6 hB7 hb5 hb6 hb7 hf6 hf7 hx7 hr7 hs7 hzz hw5;go_enter Tryz.func67,Tryz.ntmps67
 go_wp2_with fail
 refine wpIn_wide (n:=0) |>.1 ?_
 refine Yz _ ?_ (fun _ _ h=>h);refine Xn (fun V=>Below W1.heap.size W1 V) (by kernel_rfl) ?_;refine Xc (i:=0) (hy:=fun V hV=>(by obtain⟨r1,r2,r3,r4,r5⟩:=HC.out V hV;go_simp<;>rfl)) ?_;refine Xc (i:=1) (hy:=fun V hV=>(by obtain⟨r1,r2,r3,r4,r5⟩:=HC.out V hV;go_simp<;>rfl)) ?_;refine Xc (i:=2) (hy:=fun V hV=>(by obtain⟨r1,r2,r3,r4,r5⟩:=HC.out V hV;go_simp<;>rfl)) ?_;refine Xc (i:=3) (hy:=fun V hV=>(by obtain⟨r1,r2,r3,r4,r5⟩:=HC.out V hV;go_simp<;>rfl)) ?_;refine Xc (i:=4) (hy:=fun V hV=>(by obtain⟨r1,r2,r3,r4,r5⟩:=HC.out V hV;go_simp<;>rfl)) ?_;refine Xc (i:=5) (hy:=fun V hV=>(by obtain⟨r1,r2,r3,r4,r5⟩:=HC.out V hV;go_simp<;>rfl)) ?_;refine Xc (i:=6) (hy:=fun V hV=>(by obtain⟨r1,r2,r3,r4,r5⟩:=HC.out V hV;go_simp<;>rfl)) ?_;refine Xc (i:=7) (hy:=fun V hV=>(by obtain⟨r1,r2,r3,r4,r5⟩:=HC.out V hV;go_simp<;>rfl)) ?_;refine Xc (i:=8) (hy:=fun V hV=>(by obtain⟨r1,r2,r3,r4,r5⟩:=HC.out V hV;go_simp<;>rfl)) ?_;refine Xh (i:=9) bd_q fun K hK=>?_;go_simp
 refine hK _ _ ?_;clear hK K;refine Xh (i:=10) (Xr ba_q) fun K hK=>?_;go_simp
 refine hK _ _ ?_;clear hK K;refine Xh (i:=11) (Xr ba_q) fun K hK=>?_;go_simp
 refine hK _ _ ?_;clear hK K;refine Xk (Xr ba_q) (by kernel_rfl) ?_ _;rw[HW5.out];go_wp2_with fail
 have hfbt:top<=w5.heap.size:=by omega
 have hnk7:=Zf Hf7.out;go_loopw [27] (fun vj wr=>∃j:Nat,j<=2/\vj = .int .i64 (j:Nat)/\FiSt X g its.xs N kb w5.heap.size f0 c i k w7 j wr) (fun vj _=>2-(intOf vj).toNat)
 case atStart=>exact⟨0,by omega,rfl,.inl ⟨rfl,rfl⟩⟩
 case round =>
  obtain⟨j,hj,rfl,hS⟩:=hrel;have hsl:w6.heap.size≠w5.heap.size:=by omega
  have hxl:W.heap.size≠w5.heap.size:=by omega
  have hbk:∀ {V:World},Only (fun j=>j=kb\/j=w5.heap.size) w7 V->V.heap[w6.heap.size]? = some (.cells #[.func (.func 126) #[.pointer (some ⟨cb,0,none⟩)] #[],.func (.func 127) #[.pointer (some ⟨cb,0,none⟩)] #[]] 185 (0,0))/\V.heap[W.heap.size]? = some (.cells #[.int .i64 c,.int .i64 (i:Int),.int .i64 (k:Int)] 119 (0,0)):=fun {V} hO =>
   ⟨(hO.block _ (Xd Hs7.out) (by show ¬(w6.heap.size=kb\/w6.heap.size=w5.heap.size);omega)).trans Hs7.out,(hO.block _ (Xd Hx7.out) (by show ¬(W.heap.size=kb\/W.heap.size=w5.heap.size);omega)).trans Hx7.out⟩
  rcases hS with ⟨rfl,hw⟩|⟨rfl,f,h1,h2,h3⟩|⟨rfl,fd,f',h1,h2,h3,h4,h5⟩
  ·have hO0:Only (fun j=>j=kb\/j=w5.heap.size) w7 wr:=by rw[hw];exact Only.refl _ _
   obtain⟨hb1,hb2⟩:=hbk hO0
   have cP:=Xpc X cb w5.heap.size g its (N:Int) kb wb c i k wr (by rw[hw];exact HE7.out.chart) (by rw[hw];exact hil.ext HE7.out.low) (by rw[hw];exact Hf7.out) hfew (fun V hV=>by
    rw[hw] at hV;exact hil.ext (HE7.out.only hV (fun b hb => .inr (by rw[show b=w5.heap.size from hb];exact hfbt)) (by obtain⟨es,cl,hk⟩:=HE7.out.kmap;exact⟨es,cl,(hV.block _ (Xd hk) (by show kb≠w5.heap.size;omega)).trans hk⟩)).low)
   have HP:=Xa cP;have Hw:=Xa hw;have y0:=gblk hb1 0;obtain⟨x0,x1,x2⟩:=gb3 hb2;clear cP hbk hO0 hb1 hb2 hw;go_wp2_with fail
   refine HP.out.mono ?_;rintro e w9 ⟨rfl,f,h1,h2,h3⟩;rw[Hw.out] at h3;have HS:Hid (FiSt X g its.xs N kb w5.heap.size f0 c i k w7 1 w9):=.inr (.inl ⟨rfl,f,h1,h2,h3⟩);clear h1 h2 h3 HP y0 x0 x1 x2;go_wp2_with fail
   go_roundw
   case rel=>exact⟨1,by omega,rfl,HS.out⟩
   case measure=>simp[intOf]
  ·have hO1:Only (fun j=>j=kb\/j=w5.heap.size) w7 wr:=Xcp h3 fun b hb => .inr hb
   obtain⟨hb1,hb2⟩:=hbk hO1;obtain⟨es,cl,hkm⟩:=HE7.out.kmap;have hkr:=(h3.block _ (Xd hkm) (by show kb≠w5.heap.size;omega))
   have hEr:=HE7.out.only h3 (fun b hb => .inr (by rw[show b=w5.heap.size from hb];exact hfbt)) ⟨es,cl,hkr.trans hkm⟩;have hKr:=HK7.out.keep hkr (fun t y ht=>ht.only h3 fun b hb h=>hnk7 (by rw[show b=w5.heap.size from hb] at h;exact h.1));have cR:=Xw0 (fb:=w5.heap.size) hg hI hgl h16 hik hkN Hsub.out f wr (fun b hb=>by have:=HX.out b hb;have:=HB7.out.size;have:=h3.size;omega) hEr hKr hfbt h1 h2;have HR:=Xa cR;have HO1:=Xa hO1;have y1:=gblk hb1 1;obtain⟨x0,x1,x2⟩:=gb3 hb2;clear cR hbk hO1 hb1 hb2 h1 h2 h3 hkm hkr hEr hKr;go_wp2_with fail
   refine HR.out.mono ?_;rintro e w9 ⟨rfl,fd,f',h1,h2,h3,h4,h5⟩;have HS:Hid (FiSt X g its.xs N kb w5.heap.size f0 c i k w7 2 w9):=.inr (.inr ⟨rfl,fd,f',h1,h2,h3,h4,HO1.out.trans h5⟩);clear h1 h2 h3 h4 h5 HR y1 x0 x1 x2;go_wp2_with fail
   go_roundw
   case rel=>exact⟨2,by omega,rfl,HS.out⟩
   case measure=>simp[intOf]
  ·have hcc:=Hcc.out
   clear Hcc;subst hcc;obtain⟨hb1,hb2⟩:=hbk h5
   have hnone:f' ⟨c',i,k⟩=none:=by
    cases hk:f' ⟨c',i,k⟩ with
    | none=>rfl
    | some y =>
     rcases h4 ⟨c',i,k⟩ (by rw[hk];simp) with h|h
     ·exact absurd Hf.out h
     ·exact absurd h (Nat.lt_irrefl _)
   have hbd:Below wr.heap.size wr wr.drew:=bd_q;obtain⟨w9,hrun,hK9,hok9,hO9,hz9⟩:=(h3.ext hbd).store (c:=c') (i:=i) (k:=k) hcC (by omega) hkN hfew32 h16 hnone (h2.keep fun _ _ ht=>ht.ext hbd);obtain⟨es,cl,hkm⟩:=HE7.out.kmap;have hch:=(h5.block _ (Xd HE7.out.chart) (by show ¬(cb=kb\/cb=w5.heap.size);have:=HE7.out.kc;have:=HE7.out.hc;omega)).trans HE7.out.chart;have hr:=(h5.block _ (Xd Hr7.out) (by show ¬(W.heap.size+1=kb\/W.heap.size+1=w5.heap.size);omega)).trans Hr7.out;have hckb:=HE7.out.kc;have hch9:=(hO9.block _ (Xd hch) hckb).trans hch;have hx9:=(hO9.block _ (Xd hb2) (by show W.heap.size≠kb;omega)).trans hb2;have hf9:=(hO9.block _ (Xd h1) (by show w5.heap.size≠kb;omega)).trans h1;have hr9:=(hO9.block _ (Xd hr) (by show W.heap.size+1≠kb;omega)).trans hr
   have hCof:∀V:World,V.heap[cb]? = w9.heap[cb]? -> V.heap[W.heap.size]? = w9.heap[W.heap.size]? -> V.heap[w5.heap.size]? = w9.heap[w5.heap.size]? -> (V.cell? ⟨cb,8,none⟩=some (.map (some kb))/\V.cell? ⟨W.heap.size,0,none⟩=some (.int .i64 (c':Int))/\V.cell? ⟨W.heap.size,1,none⟩=some (.int .i64 (i:Int))/\V.cell? ⟨W.heap.size,2,none⟩=some (.int .i64 (k:Int))/\V.cell? ⟨w5.heap.size,0,none⟩=some (.bool fd.ok)/\V.cell? ⟨w5.heap.size,1,none⟩=some (.int .i64 fd.cost)/\V.cell? ⟨w5.heap.size,2,none⟩=some (.int .i64 fd.rule)/\V.cell? ⟨w5.heap.size,3,none⟩=some (.int .i64 fd.item)/\V.cell? ⟨w5.heap.size,4,none⟩=some (.int .i64 fd.frm)/\V.cell? ⟨w5.heap.size,5,none⟩=some (.int .i64 fd.unt)/\V.cell? ⟨w5.heap.size,6,none⟩=some (.slice fd.kids.addr fd.kids.len fd.kids.cap)/\V.cell? ⟨w5.heap.size,7,none⟩=some (.int .i64 fd.many)):=fun V e1 e2 e3=>by
    have q1:=e1.trans hch9;have q2:=e2.trans hx9;have q3:=e3.trans hf9;exact⟨gblk q1 8,gblk q2 0,gblk q2 1,gblk q2 2,gblk q3 0,gblk q3 1,gblk q3 2,gblk q3 3,gblk q3 4,gblk q3 5,gblk q3 6,gblk q3 7⟩
   have HCr:=Xa (hCof wr.drew (hch.trans hch9.symm) (hb2.trans hx9.symm) (h1.trans hf9.symm));have HC9:=Xa (hCof w9 rfl rfl rfl);have hs8:=Xer (f:=⟨false,0,0,0,0,0,⟨none,0,0⟩,0⟩) hr9 fd;have hO8:=Xah w9 (W.heap.size+1) fd
   have hfin:Xbl X g its.xs N kb f0 c' i k (muG g c' i k+1) W (.returned (fd.vl)) (set8 w9 (W.heap.size+1) fd):=by
    have ht:∀t x,TreeW X w9 t x->TreeW X (set8 w9 (W.heap.size+1) fd) t x:=fun t x ht=>ht.only hO8 fun b hb h=>(Zf hr9) (by rw[show b=W.heap.size+1 from hb] at h;exact h.1);refine⟨fd,updF f' ⟨c',i,k⟩ fd,rfl,hok9.keep ht,hK9.keep (hO8.block _ hK9.map.lt (by show kb≠W.heap.size+1;omega)) ht,fun x hx=>?_,?_⟩
    ·unfold updF at hx
     split at hx
     ·rename_i e
      subst e;exact .inr (Nat.lt_succ_self _)
     ·rcases h4 x hx with h|h
      ·exact .inl h
      ·exact .inr (by omega)
    ·have hs7:=HB7.out.size
     have hs5:=h5.size;have hs9:wr.heap.size<=w9.heap.size:=hO9.size;exact⟨hO8.os.trans (hO9.os.trans (h5.os.trans HB7.out.os)),hO8.tape.trans (hO9.tape.trans (h5.tape.trans HB7.out.tape)),hO8.output.trans (hO9.output.trans (h5.output.trans HB7.out.output)),by have:=hO8.size;omega,fun b hb hn=>(hO8.block b (by omega) (by show b≠W.heap.size+1;omega)).trans ((hO9.block b (by show b<wr.heap.size;omega) hn).trans ((h5.block b (by omega) (by show ¬(b=kb\/b=w5.heap.size);intro h;rcases h with h|h;exact hn h;omega)).trans (HB7.out.block b hb)))⟩
   have HF:=Xa hfin;have HS8:=Xa hs8;obtain⟨y0,y1,y2,y3,y4,y5,y6,y7⟩:=gb8 hf9;obtain⟨z0,z1,z2,z3,z4,z5,z6,z7⟩:=gb8 hr9;have fz:=fun n=>Xf hr9 n;have hrl9:=Xd hr9;clear hbk hnone hbd hK9 hok9 hO9 hz9 hkm hch hr hch9 hx9 hf9 hr9 hCof hs8 hO8 hfin h1 h2 h3 h4 h5 hb1 hb2;go_wp2_with fail
   refine wpIn_wide (n:=0) |>.1 ?_
   refine Yz _ ?_ (fun _ _ h=>h);refine Xn (fun V=>V.cell? ⟨cb,8,none⟩=some (.map (some kb))/\V.cell? ⟨W.heap.size,0,none⟩=some (.int .i64 (c':Int))/\V.cell? ⟨W.heap.size,1,none⟩=some (.int .i64 (i:Int))/\V.cell? ⟨W.heap.size,2,none⟩=some (.int .i64 (k:Int))/\V.cell? ⟨w5.heap.size,0,none⟩=some (.bool fd.ok)/\V.cell? ⟨w5.heap.size,1,none⟩=some (.int .i64 fd.cost)/\V.cell? ⟨w5.heap.size,2,none⟩=some (.int .i64 fd.rule)/\V.cell? ⟨w5.heap.size,3,none⟩=some (.int .i64 fd.item)/\V.cell? ⟨w5.heap.size,4,none⟩=some (.int .i64 fd.frm)/\V.cell? ⟨w5.heap.size,5,none⟩=some (.int .i64 fd.unt)/\V.cell? ⟨w5.heap.size,6,none⟩=some (.slice fd.kids.addr fd.kids.len fd.kids.cap)/\V.cell? ⟨w5.heap.size,7,none⟩=some (.int .i64 fd.many)) (by kernel_rfl) ?_;refine Xc (i:=0) (hy:=fun V hV=>(by obtain⟨r1,r2,r3,r4,r5,r6,r7,r8,r9,r10,r11,r12⟩:=hV;go_simp<;>rfl)) ?_;refine Xc (i:=1) (hy:=fun V hV=>(by obtain⟨r1,r2,r3,r4,r5,r6,r7,r8,r9,r10,r11,r12⟩:=hV;go_simp<;>rfl)) ?_;refine Xc (i:=2) (hy:=fun V hV=>(by obtain⟨r1,r2,r3,r4,r5,r6,r7,r8,r9,r10,r11,r12⟩:=hV;go_simp<;>rfl)) ?_;refine Xc (i:=3) (hy:=fun V hV=>(by obtain⟨r1,r2,r3,r4,r5,r6,r7,r8,r9,r10,r11,r12⟩:=hV;go_simp<;>rfl)) ?_;refine Xc (i:=4) (hy:=fun V hV=>(by obtain⟨r1,r2,r3,r4,r5,r6,r7,r8,r9,r10,r11,r12⟩:=hV;go_simp<;>rfl)) ?_;refine Xc (i:=5) (hy:=fun V hV=>(by obtain⟨r1,r2,r3,r4,r5,r6,r7,r8,r9,r10,r11,r12⟩:=hV;go_simp<;>rfl)) ?_;refine Xh (i:=6) HCr.out fun K hK=>?_;go_simp
   refine hK _ _ ?_;clear hK K;refine Xk HC9.out (by kernel_rfl) ?_ _;go_wp2_with fail
   change bodyPost _ _ _ _ _ (set8 w9 (W.heap.size+1) fd);have hs:=HS8.out;generalize set8 w9 (W.heap.size+1) fd=wf at *;obtain⟨s0,s1,s2,s3,s4,s5,s6,s7⟩:=gb8 hs;exact bodyPost_ret (v:=fd.vl) (by simp[results,Tryz.results67,go_sem,s0,s1,s2,s3,s4,s5,s6,s7]) rfl HF.out
theorem Xoh (hg:Y5 g) (hI:Ve N g.cats.xs.length its.xs) (hgl:g.lies e0) (hil:ItemsAt e0 its) (hfew:its.xs.length<=16384) (h16:N<=16):∀(m:Nat) (c:Int) (i k:Nat),muG g c i k<m->0<=c->c<g.cats.xs.length->i<k->k<=N->Xyb e0 cb kb wb top g its N c i k
 | 0,_,_,_,hm,_,_,_,_=>absurd hm (Nat.not_lt_zero _)
 | m+1,c,i,k,hm,h0,h1,h2,h3=>by
  intro X f0 W hX hE hK;have hf32:=hg.few;cases hf:f0 ⟨c,i,k⟩ with
  | none=>exact Xza hg hI hgl hil hfew h16 h2 h3 c.toNat (by omega) (by omega) (fun c' i' k' q0 q1 q2 q3 q4=>Xoh hg hI hgl hil hfew h16 m c' i' k' (by omega) q0 q1 q2 q3) W hX hE hK hf
  | some fd=>exact Xq9 fd W hE hK ⟨h0,by omega⟩ (by omega) (by omega) hf
end
def Xfq (n:Int) (x:ItemG):Bool:=decide (0<=x.frm) && decide (x.frm<x.unt) && decide (x.unt<=n) && (decide (-1<=x.term) && decide (x.term<=1048576)) && (decide (1<=x.tgt.xs.length) && decide (x.tgt.xs.length<=4))
def Xpy (g:Gram) (x:ItemG):Bool:=if x.cat = -1 then decide (x.unt=x.frm+1) && decide (x.cost=0) && decide (x.tgt.xs.length=1) else (decide (0<=x.cat) && decide (x.cat<g.cats.xs.length)) && (decide (0<=x.cost) && decide (x.cost<=1000))
theorem Xlq (g:Gram) (n:Int) (x:ItemG):U9 g n x=(Xfq n x && x.tgt.xs.all Xq && Xpy g x):=rfl
def Ud (n:Int):List PanicEntry:=[{v:=.iface 33 (.int .i64 n),recovered:=false}]
theorem Vl (b:Bool) (k:Int) (w:World) (h:b=true):Calls Tryz.prog 124 #[.bool b,.int .i64 k] w fun e w'=>e = .returned (.tuple #[])/\w=w':=by
 subst h;go_enter Tryz.func124,Tryz.ntmps124
 go_wp2
 go_end0
 exact⟨rfl,rfl⟩
theorem Yn (b:Bool) (k:Int) (w:World) (h:b=false):Calls Tryz.prog 124 #[.bool b,.int .i64 k] w fun e w'=>e = .panicked (Ud k)/\w=w':=by
 subst h;go_enter Tryz.func124,Tryz.ntmps124
 go_wp2
 exact⟨rfl,rfl,rfl⟩
theorem Xwq (s:ByteArray) (w:World) (hT:Tabs w):Calls Tryz.prog 125 #[.string s] w fun e w'=>e = .returned (.bool (!Xq s))/\Below w.heap.size w w':=by
 go_enter Tryz.func125,Tryz.ntmps125
 go_wp2_with fail
 refine(Xew s w hT).mono ?_;rintro e w1 ⟨rfl,hb1⟩;go_wp2_with fail
 go_ret;exact⟨by simp,hb1⟩
theorem Xmk (b:Nat) (w:World) :
  CallsD Tryz.prog 65 #[.pointer (some ⟨b,0,none⟩)] .returning w fun e u' w'=>u' = .returning/\e = .returned (.tuple #[])/\w'=w:=by
 refine callsD_of_wpS Tryz.func65 rfl fun c₀ cs hu=>?_;simp only[Tryz.ntmps65,Zr,Nat.reduceAdd,Nat.reduceSub];apply wpS_seq;apply wpS_region;simp[wpOpsS,go_sem,recoverD,hu,Exit.thenS];refine wpS_of_wp ?_;go_wp2
 cases c₀
 simp_all [bodyPostS,results,Tryz.results65]
def Xx8 (n:Int) (b:Nat) (w:World) (e:Ending) (u':FrameMode) (w':World):Prop :=
 u' = .panicking [{v:=.iface 33 (.int .i64 n),recovered:=true}]/\e = .returned (.tuple #[])/\w'=w.setCell ⟨b,0,none⟩ (.int .i64 n)
theorem Xmj (b:Nat) (v:Value) (n:Int) (w:World) (h1:w.heap[b]? = some (.cells #[v] 33 (0,0))) :
  CallsD Tryz.prog 65 #[.pointer (some ⟨b,0,none⟩)] (.panicking (Ud n)) w (Xx8 n b w):=by
 have c1:=Xe h1;have f1:=Xf h1 0;have hta:∀w,(Instr.typeAssert (.iface 33 (.int .i64 n)) 20 33 true).run Tryz.prog w = .ok (.tuple #[.int .i64 n,.bool true]) w:=fun _=>by kernel_rfl
 unfold Ud;refine callsD_of_wpS Tryz.func65 rfl fun c₀ cs hu=>?_;simp only[Tryz.ntmps65,Zr,Nat.reduceAdd,Nat.reduceSub];apply wpS_seq;apply wpS_region;simp[wpOpsS,go_sem,recoverD,hu,Exit.thenS];refine wpS_of_wp ?_;go_wp2
 exact⟨rfl,_,rfl,_,results_none rfl _ _ _,rfl,rfl,rfl⟩
def Xaa (x:ItemG):ByteArray:=match x.tgt.xs with|y :: _=>y|[]=>⟨#[]⟩
def Yy (l:List ItemG) (i:Int):List ByteArray:=(l.filter fun x=>decide (x.cat = -1) && decide (x.frm=i)).map Xaa
theorem Xba (l:List ItemG) (x:ItemG) (i:Int):Yy (l++[x]) i=Yy l i++(if x.cat = -1/\x.frm=i then [Xaa x] else []):=by
 unfold Yy;rw[List.filter_append,List.map_append]
 congr 1
 by_cases h:x.cat = -1/\x.frm=i
 ·rw[if_pos h,List.filter_cons_of_pos (by simp[h.1,h.2])];rfl
 ·rw[if_neg h,List.filter_cons_of_neg (by simpa using h)];rfl
theorem Xcc:∀(l:List ItemG) (i:Int) (s:ByteArray),(∀x∈l,x.cat = -1->x.tgt.xs≠[])->((Yy l i).any fun y=>decide (y=s))=Xp l i s
 | [],_,_,_=>rfl
 | x :: l,i,s,h=>by
  have ih:=Xcc l i s fun y hy=>h y (List.mem_cons_of_mem _ hy);have hx:=h x (List.mem_cons_self ..);unfold Xp at ih ⊢;rw[List.any_cons,<- ih];unfold Yy;by_cases hc:x.cat = -1/\x.frm=i
  ·rw[List.filter_cons_of_pos (by simp[hc.1,hc.2]),List.map_cons,List.any_cons]
   congr 1
   have:=hx hc.1;cases hxs:x.tgt.xs with
   | nil=>exact absurd hxs this
   | cons y ys=>simp[Xaa,hxs,hc.1,hc.2]
  ·rw[List.filter_cons_of_neg (by simpa using hc)]
   have:(decide (x.cat = -1) && decide (x.frm=i))=false:=(by simpa using hc);rw[this];simp
theorem Xqb:∀(l:List ItemG) (i:Int),(Yy l i).length<=l.length:=fun l i=>by
 unfold Yy;rw[List.length_map];exact List.length_filter_le _ _
def strC (b:ByteArray):List Value:=[.string b]
abbrev Xtj (V:World) (B:Nat) (v:Value) (l:List ByteArray):Prop:=OwnL strC 9 1 V B v l
def RowOk (B:Nat) (V:World) (o:Option KidS) (ws:List ByteArray):Prop :=
 match o with
 | none=>ws=[]
 | some v=>ws≠[]/\Xtj V B v.val ws
def WRows (B wb:Nat) (l:List ItemG) (V:World):Prop :=
 ∃(n:Nat) (f:Int->Option KidS),n<=l.length/\MapF V intW slcShape wb n f/\(∀i,RowOk B V (f i) (Yy l i))/\∀i i' v v' b,i≠i'->f i=some v->f i'=some v'->v.val.ownBlock=some b->v'.val.ownBlock≠some b
theorem WRows.start (B:Nat) (W:World):WRows B W.heap.size [] (W.alloc (.map #[] 0)):=⟨0,fun _=>none,Nat.le_refl _,MapF.made W intW slcShape,fun _=>rfl,fun _ _ _ _ _ _ h=>by cases h⟩
theorem RowOk.keep {B:Nat} {V V':World} {o:Option KidS} {ws:List ByteArray} (h:RowOk B V o ws) (hb:∀v g,o=some v->v.val.ownBlock=some g->V'.heap[g]? = V.heap[g]?):RowOk B V' o ws:=by
 cases o with
 | none=>exact h
 | some v=>exact⟨h.1,h.2.block fun g hg=>hb v g rfl hg⟩
theorem RowOk.lt {B:Nat} {V:World} {v:KidS} {ws:List ByteArray} (h:RowOk B V (some v) ws) {g:Nat} (hg:v.val.ownBlock=some g):B<=g/\g<V.heap.size:=h.2.lt g hg
theorem WRows.ext {B wb:Nat} {l:List ItemG} {V V':World} (h:WRows B wb l V) (hb:Below V.heap.size V V'):WRows B wb l V':=by
 obtain⟨n,f,h1,h2,h3,h4⟩:=h;exact⟨n,f,h1,h2.of_block (hb.block _ h2.lt),fun i=>(h3 i).keep fun v g e hg=>hb.block g (by have:=h3 i;rw[e] at this;exact(this.lt hg).2),h4⟩
theorem WRows.skip {B wb:Nat} {l:List ItemG} {V:World} (h:WRows B wb l V) {x:ItemG} (hx:x.cat ≠ -1):WRows B wb (l++[x]) V:=by
 obtain⟨n,f,h1,h2,h3,h4⟩:=h;exact⟨n,f,by rw[List.length_append];omega,h2,fun i=>by rw[Xba,if_neg (fun h=>hx h.1),List.append_nil];exact h3 i,h4⟩
theorem WRows.look {B wb:Nat} {l:List ItemG} {V:World} (h:WRows B wb l V) (i:Int) (h1 : -4611686018427387904<=i) (h2:i<=4611686018427387904) :
  ∃v:KidS,(∀W:World,W.heap[wb]? = V.heap[wb]? -> (Instr.lookup 181 (.map (some wb)) (.int .i64 i) false).run Tryz.prog W = .ok (v.val) W)/\Xtj V B v.val (Yy l i):=by
 obtain⟨n,f,hn,hm,hr,hd⟩:=h;refine⟨(f i).getD ⟨none,0,0⟩,fun W hW=>Xa4 Vu Xcw intW slcShape ⟨none,0,0⟩ (Xf2 W) (hm.of_block hW) i (Vp h1 h2),?_⟩;have hi:=hr i;cases hf:f i with
 | none =>
  rw[hf] at hi;rw[show Yy l i=[] from hi];exact OwnL.nil _ _ _ _ _
 | some v=>rw[hf] at hi;exact hi.2
theorem WRows.store {B wb:Nat} {l:List ItemG} {U w1:World} (h:WRows B wb l U) {x:ItemG} (hx:x.cat = -1) (h1 : -4611686018427387904<=x.frm) (h2:x.frm<=4611686018427387904) (hl:l.length<100000) {v v':KidS} (hv:Xtj U B v.val (Yy l x.frm))
  (hlook:(Instr.lookup 181 (.map (some wb)) (.int .i64 x.frm) false).run Tryz.prog U = .ok (v.val) U) (ho:Xtj w1 B v'.val (Yy l x.frm++[Xaa x])) (hg:U.grownBy w1 v.val.ownBlock) (hat:v'.val.ownBlock=v.val.ownBlock\/v'.val.ownBlock=some U.heap.size) (hwb:wb<B) :
  ∃w2,(Instr.mapUpdate 181 (.map (some wb)) (.int .i64 x.frm) v'.val).run Tryz.prog w1 = .ok () w2/\WRows B wb (l++[x]) w2/\Only (fun b=>b=wb\/v.val.ownBlock=some b) U w2:=by
 obtain⟨n,f,hn,hm,hr,hd⟩:=h;have hlv:=Xa4 Vu Xcw intW slcShape ⟨none,0,0⟩ (Xf2 U) hm x.frm (Vp h1 h2);have hlv2:(Instr.lookup 181 (.map (some wb)) (.int .i64 x.frm) false).run Tryz.prog U = .ok ((f x.frm).getD ⟨none,0,0⟩).val U:=hlv
 obtain rfl:v=(f x.frm).getD ⟨none,0,0⟩:=Xox _ _ (by
  rw[hlook] at hlv2;injection hlv2)
 have hrow:∀g,((f x.frm).getD ⟨none,0,0⟩).val.ownBlock=some g->B<=g/\g<U.heap.size:=fun g hg'=>hv.lt g hg';have hm1:MapF w1 intW slcShape wb n f:=hm.of_block (hg.block _ hm.lt fun e=>by have:=(hrow wb e.symm).1;omega);obtain⟨w2,hrun,hm2,hg2,hz2⟩:=hm1.store _ Vu Xcw (by unfold maxLen;omega) x.frm v' (Vp h1 h2);have hO2:∀b,b<w1.heap.size->b≠wb->w2.heap[b]? = w1.heap[b]? := fun b hb hn=>hg2.block b hb fun e=>hn (by have:=Option.some.inj e;exact this);refine⟨w2,hrun,⟨n+1,_,by rw[List.length_append];simp;omega,hm2,fun i=>?_,?_⟩,⟨hg2.os.trans hg.os,hg2.tape.trans hg.tape,hg2.output.trans hg.output,by have:=hg.size;omega,fun b hb hn=>(hO2 b (Nat.lt_of_lt_of_le hb hg.size) fun e=>hn (.inl e)).trans (hg.block b hb fun e=>hn (.inr e.symm))⟩⟩
 ·show RowOk B w2 (if i=x.frm then some v' else f i) _
  by_cases hi:i=x.frm
  ·subst hi
   rw[if_pos rfl,Xba,if_pos ⟨hx,rfl⟩];exact⟨by simp,ho.block fun g hg'=>hO2 g (ho.lt g hg').2 (by have:=(ho.lt g hg').1;omega)⟩
  ·rw[if_neg hi,Xba,if_neg (fun h=>hi h.2.symm),List.append_nil]
   refine(hr i).keep fun u g e hg'=>?_;have hri:=hr i;rw[e] at hri;have hlt:=hri.lt hg';refine(hO2 g (Nat.lt_of_lt_of_le hlt.2 hg.size) (by omega)).trans (hg.block g hlt.2 fun e2=>?_);cases hfx:f x.frm with
   | none=>rw[hfx] at e2;simp[KidS.val,Value.ownBlock] at e2
   | some y=>rw[hfx] at e2;exact hd i x.frm u y g hi e hfx hg' e2.symm
 ·intro i i' u u' b hne hi hi' hb hb'
  have key:∀(j:Int) (y:KidS),j≠x.frm->f j=some y->y.val.ownBlock=some b->v'.val.ownBlock=some b->False:=by
   intro j y hj hy hyb hvb;have hrj:=hr j;rw[hy] at hrj;have hlt:=hrj.lt hyb;rcases hat with e|e
   ·rw[e] at hvb
    cases hfx:f x.frm with
    | none=>rw[hfx] at hvb;simp[KidS.val,Value.ownBlock] at hvb
    | some z=>rw[hfx] at hvb;exact hd j x.frm y z b hj hy hfx hyb hvb
   ·rw[e] at hvb
    have:=Option.some.inj hvb;omega
  change (if i=x.frm then some v' else f i)=some u at hi;change (if i'=x.frm then some v' else f i')=some u' at hi';by_cases e1:i=x.frm
  ·rw[if_pos e1] at hi
   cases hi;rw[if_neg (fun e=>hne (e1.trans e.symm))] at hi';exact key i' u' (fun e=>hne (e1.trans e.symm)) hi' hb' hb
  ·rw[if_neg e1] at hi
   by_cases e2:i'=x.frm
   ·rw[if_pos e2] at hi'
    cases hi';exact key i u e1 hi hb hb'
   ·rw[if_neg e2] at hi'
    exact hd i i' u u' b hne hi hi' hb hb'
theorem WRows.done {B wb kb:Nat} {l:List ItemG} {V:World} (h:WRows B wb l V) (hl:∀x∈l,x.cat = -1->x.tgt.xs≠[]) (hkb:kb<B):WordsM (fun b=>b<V.heap.size/\b≠kb) V wb l:=by
 obtain⟨n,f,hn,hm,hr,hd⟩:=h;refine⟨n,f,hm,fun i=>?_⟩;have hri:=hr i;cases hf:f i with
 | none =>
  rw[hf] at hri;intro s;rw[<- Xcc l i s hl,show Yy l i=[] from hri];rfl
 | some v =>
  rw[hf] at hri;obtain⟨h1,h2⟩:=hri;obtain⟨A,cp,e,hrd,hnil⟩:=h2.form (by decide);have e3:v.addr=A/\v.len=(Yy l i).length/\v.cap=cp:=by simpa[KidS.val] using e
  have hcap:(Yy l i).length<=cp/\cp<=9223372036854775807/\∃b off,A=some ⟨b,off,none⟩/\B<=b/\b<V.heap.size:=by
   rcases h2.2 with ⟨_,h4⟩|⟨g9,c9,cur,q1,q2,q3,q4,q5,_⟩
   ·exact absurd (List.eq_nil_of_length_eq_zero h4) h1
   ·rw[e] at q1
    injection q1 with q6 _ q7;subst q7;exact⟨q4,by unfold maxLen at q5;omega,g9,0,q6,q2,Xd q3⟩
  obtain⟨hc1,hc2,b,off,hA,hb1,hb2⟩:=hcap;refine⟨Yy l i,e3.2.1,?_,⟨b,off,e3.1.trans hA,hb2,by omega⟩,fun s=>Xcc l i s hl⟩;rw[e3.1,e3.2.2];exact⟨by show Rd V A (strs (Yy l i));unfold strs;rw[List.map_eq_flatMap];exact hrd,hc1,hc2,hnil⟩
end Go.Proofs.YtolpbjjapodmnaaGreatDoor
