/- Texts of this claim, one after the other: Chwk, Trk, Law30a, Law30b. -/
import Derived.Test.YtolpbjjapodmnaaGreatDoorM26
import Derived.Test.YtolpbjjapodmnaaGreatDoorM17
import Derived.Test.YtolpbjjapodmnaaGreatDoorM18
import Derived.Test.YtolpbjjapodmnaaGreatDoorM22
import Derived.Deep.RegionWith
import Derived.Deep.DeepCutAuto
namespace Go.Proofs.YtolpbjjapodmnaaGreatDoor
open Go.RowKit Go.Han
set_option maxRecDepth 100000
attribute [local irreducible] wpStill wpQuiet
set_option maxHeartbeats 8000000
def SentX (X:Nat->Prop) (g:Gram) (its:SlS ItemG) (n:Int) (W1:World) (y:Nat×Nat×FoundG) (v:World):Prop :=
 v.heap[y.1]? = some y.2.2.ob/\FoundOk X v y.2.2 (Fd.of bigN (derG g its.xs g.startNo 0 n.toNat))/\Below W1.heap.size W1 v
theorem Xoi (X:Nat->Prop) (g:Gram) (its:SlS ItemG) (n:Int) {U V:World} {cb kb wb top:Nat} (hX:∀b,X b->b<V.heap.size) (hg:g.lies U) (hi:ItemsAt U its) (h0:errC g its.xs n=0) (hE:ChEnv U cb kb wb top g its n.toNat V) (hK:KnownF (fun _=>False) g its.xs n.toNat kb (fun _=>none) V) :
  Calls Tryz.prog 67 #[.pointer (some ⟨cb,0,none⟩),.agg #[.int .i64 g.startNo,.int .i64 0,.int .i64 n]] V fun e w'=>∃fd,e = .returned (fd.vl)/\FoundOk X w' fd (Fd.of bigN (derG g its.xs g.startNo 0 n.toNat))/\Only (fun j=>j=kb) V w':=by
 have hA:=Xfa h0;have h1:=hA.n1;have hn:((n.toNat:Nat):Int)=n:=by omega
 have h:=Xoh hA.gram hA.items hg hi hA.few (by have:=hA.n16;omega) (muG g g.startNo 0 n.toNat+1) g.startNo 0 n.toNat (Nat.lt_succ_self _) hA.gram.start.1 hA.gram.start.2 (by omega) (Nat.le_refl _) X (fun _=>none) V hX hE ⟨hK.map,fun _ _ h=>by cases h⟩;rw[hn] at h;refine h.mono ?_;rintro e w' ⟨fd,f',h2,h3,_,_,h4⟩;exact⟨fd,h2,h3,h4⟩
def Xx5 (g:Gram) (its:SlS ItemG) (n:Int) (w:World) (e:Ending) (w':World):Prop :=
 ∃x:TreeG,e = .returned (.tuple #[x.vl,.int .i64 (Tl g its.xs n).2.1,.bool (Tl g its.xs n).2.2.1,.int .i64 (Tl g its.xs n).2.2.2])/\TreeW (fun b=>b<w.heap.size) w' (Tl g its.xs n).1 x/\Below w.heap.size w w'
theorem Xjq (X:Nat->Prop) (w:World):TreeW X w Xmb Xd0:=by
 unfold TreeW Xmb Xd0 TreeAt;exact⟨none,0,[],rfl,Nat.le_refl _,by omega,fun _=>rfl,fun h=>absurd h (by simp),.inl rfl,by unfold KidsAt;rfl⟩
theorem Xol {X:Nat->Prop} {W:World} {fd:FoundG} {g:Gram} {its:List ItemG} {n:Int} (h0:errC g its n=0) (h:FoundOk X W fd (Fd.of bigN (derG g its g.startNo 0 n.toNat))) :
  (Tl g its n).2.1=fd.cost/\(Tl g its n).2.2.1=fd.ok/\(Tl g its n).2.2.2=0/\TreeW X W (Tl g its n).1 fd.tree:=by
 have hb:=h.best;change match Tk g its n with|none=>_|some (c,t)=>_ at hb
 unfold Tl;rw[if_neg (by simp[h0])];cases hc:Tk g its n with
 | none =>
  rw[hc] at hb;obtain⟨h1,h2,h3⟩:=hb;exact⟨h2.symm,h1.symm,rfl,by rw[h3];exact Xjq _ _⟩
 | some y =>
  rw[hc] at hb;obtain⟨h1,h2,h3⟩:=hb;exact⟨h2.symm,h1.symm,rfl,h3⟩
def set5 (V:World) (b:Nat) (y:TreeG):World:=(((((V.setCell ⟨b,0,none⟩ (.int .i64 y.rule)).setCell ⟨b,1,none⟩ (.int .i64 y.item)).setCell ⟨b,2,none⟩ (.int .i64 y.frm)).setCell ⟨b,3,none⟩ (.int .i64 y.unt)).setCell ⟨b,4,none⟩ (.slice y.kids.addr y.kids.len y.kids.cap))
theorem Xlw (V:World) (b:Nat) (y:TreeG):Only (fun j=>j=b) V (set5 V b y):=by
 unfold set5;have st:∀(U:World) (n:Nat) (u:Value),Only (fun j=>j=b) V U->Only (fun j=>j=b) V (U.setCell ⟨b,n,none⟩ u):=fun U n u h=>Only.setCell (M:=fun j=>j=b) h (p:=⟨b,n,none⟩) (.inl rfl) u;exact st _ _ _ (st _ _ _ (st _ _ _ (st _ _ _ (st _ _ _ (Only.refl _ V)))))
theorem X2g {V:World} {b:Nat} {x:TreeG} (h:V.heap[b]? = some x.ob) (y:TreeG):(set5 V b y).heap[b]? = some y.ob:=by
 have h1:(V.setCell ⟨b,0,none⟩ (.int .i64 y.rule)).heap[b]? = some (.cells #[.int .i64 y.rule,.int .i64 x.item,.int .i64 x.frm,.int .i64 x.unt,.slice x.kids.addr x.kids.len x.kids.cap] 37 (0,0)):=Xs h 0 _;have h2:((V.setCell ⟨b,0,none⟩ (.int .i64 y.rule)).setCell ⟨b,1,none⟩ (.int .i64 y.item)).heap[b]? = some (.cells #[.int .i64 y.rule,.int .i64 y.item,.int .i64 x.frm,.int .i64 x.unt,.slice x.kids.addr x.kids.len x.kids.cap] 37 (0,0)):=Xs h1 1 _;have h3:(((V.setCell ⟨b,0,none⟩ (.int .i64 y.rule)).setCell ⟨b,1,none⟩ (.int .i64 y.item)).setCell ⟨b,2,none⟩ (.int .i64 y.frm)).heap[b]? = some (.cells #[.int .i64 y.rule,.int .i64 y.item,.int .i64 y.frm,.int .i64 x.unt,.slice x.kids.addr x.kids.len x.kids.cap] 37 (0,0)):=Xs h2 2 _;have h4:((((V.setCell ⟨b,0,none⟩ (.int .i64 y.rule)).setCell ⟨b,1,none⟩ (.int .i64 y.item)).setCell ⟨b,2,none⟩ (.int .i64 y.frm)).setCell ⟨b,3,none⟩ (.int .i64 y.unt)).heap[b]? = some (.cells #[.int .i64 y.rule,.int .i64 y.item,.int .i64 y.frm,.int .i64 y.unt,.slice x.kids.addr x.kids.len x.kids.cap] 37 (0,0)):=Xs h3 3 _;exact Xs h4 4 _
theorem Xx6 (g:Gram) (its:SlS ItemG) (n:Int) (w:World) (hT:TabsG w) (hg:g.lies w) (hs:g.short) (hi:ItemsAt w its):Calls Tryz.prog 19 #[g.vl,.slice its.addr its.xs.length its.cap,.int .i64 n] w (Xx5 g its n w):=by
 obtain⟨W1,hW1⟩:∃W1,((w.alloc g.ob).alloc (.cells #[.int .i64 0,.int .i64 0,.int .i64 0,.int .i64 0,.slice none 0 0] 37)).alloc (.cells #[.int .i64 0] 33)=W1:=⟨_,rfl⟩
 have hB1:Below w.heap.size w W1:=by rw[<- hW1];exact Xg (Xg ba_q _) _
 have hk:W1.heap[w.heap.size]? = some g.ob:=by rw[<- hW1];exact(Below.heap_alloc _ _ _ (by simp;omega)).trans ((Below.heap_alloc _ _ _ (by simp)).trans (World.alloc_heap_new _ _))
 have he:W1.heap[w.heap.size+2]? = some (.cells #[.int .i64 0] 33 (0,0)):=by rw[<- hW1];exact Xo _ _ _ (by simp)
 have htb:W1.heap[w.heap.size+1]? = some (.cells #[.int .i64 0,.int .i64 0,.int .i64 0,.int .i64 0,.slice none 0 0] 37 (0,0)):=by rw[<- hW1];exact(Below.heap_alloc _ _ _ (by simp)).trans (Xo _ _ _ (by simp))
 have HBo:=Xa (fun U (hU:Below W1.heap.size W1 U) h0=>Xyt g its n U (hT.ext (Xb hB1 hU)) (hg.ext (Xb hB1 hU)) hs (hi.ext (Xb hB1 hU)) h0);have HBe:=Xa (fun U (hU:Below W1.heap.size W1 U) h0=>Xys g its n U (hT.ext (Xb hB1 hU)) (hg.ext (Xb hB1 hU)) hs (hi.ext (Xb hB1 hU)) h0);have HFi:=Xa (fun U V (hU:Below W1.heap.size W1 U) (hV:Below W1.heap.size W1 V) cb kb wb top h0 hE hK=>Xoi (fun b=>b<W1.heap.size) g its n (U:=U) (V:=V) (cb:=cb) (kb:=kb) (wb:=wb) (top:=top) (fun b hb=>Nat.lt_of_lt_of_le hb hV.size) (hg.ext (Xb hB1 hU)) (hi.ext (Xb hB1 hU)) h0 hE hK);have HB1:=Xa hB1;have He:=Xa he;have Htb:=Xa htb;have hkl:=Xd hk
 have HC:Hid (∀V:World,V.heap[w.heap.size]? = W1.heap[w.heap.size]? -> (V.cell? ⟨w.heap.size,0,none⟩=some (.string g.name)/\V.cell? ⟨w.heap.size,1,none⟩=some (.slice g.cats.addr g.cats.xs.length g.cats.cap)/\V.cell? ⟨w.heap.size,2,none⟩=some (.string g.start)/\V.cell? ⟨w.heap.size,3,none⟩=some (.int .i64 g.startNo)/\V.cell? ⟨w.heap.size,4,none⟩=some (.slice g.entries.addr g.entries.xs.length g.entries.cap)/\V.cell? ⟨w.heap.size,5,none⟩=some (.slice g.rules.addr g.rules.xs.length g.rules.cap))):=fun V hV=>by
  have h:=hV.trans hk;exact⟨gblk h 0,gblk h 1,gblk h 2,gblk h 3,gblk h 4,gblk h 5⟩
 have hz1:w.heap.size+2<W1.heap.size:=Xd he;clear hT hg hs hi hk he htb hB1;by_cases h0:errC g its.xs n=0
 rotate_left
 ·have hR:Tl g its.xs n=(Xmb,0,false,errC g its.xs n):=by unfold Tl;rw[if_pos h0]
  have HR:=Xa hR;have H0:=Xa h0;clear hR h0
  go_enter_defers Tryz.func19,Tryz.ntmps19
  go_wp2_with fail
  refine wpIn_wide (n:=0) |>.1 ?_
  refine Xg4 10 (fun ch v=>ch=Ud (errC g its.xs n)/\Below W1.heap.size W1 v) ?_ ?_
  ·refine Xn (fun V=>(V.cell? ⟨w.heap.size,0,none⟩=some (.string g.name)/\V.cell? ⟨w.heap.size,1,none⟩=some (.slice g.cats.addr g.cats.xs.length g.cats.cap)/\V.cell? ⟨w.heap.size,2,none⟩=some (.string g.start)/\V.cell? ⟨w.heap.size,3,none⟩=some (.int .i64 g.startNo)/\V.cell? ⟨w.heap.size,4,none⟩=some (.slice g.entries.addr g.entries.xs.length g.entries.cap)/\V.cell? ⟨w.heap.size,5,none⟩=some (.slice g.rules.addr g.rules.xs.length g.rules.cap))) (by kernel_rfl) ?_
   have hC0:=HC.out W1.drew rfl;refine Xc (i:=0) (hQ:=fun _ _ _ h=>h.put (by kernel_rfl)) (hy:=fun V hV=>(by obtain⟨r1,r2,r3,r4,r5,r6⟩:=hV;go_simp<;>rfl)) ?_;refine Xc (i:=1) (hQ:=fun _ _ _ h=>h.put (by kernel_rfl)) (hy:=fun V hV=>(by obtain⟨r1,r2,r3,r4,r5,r6⟩:=hV;go_simp<;>rfl)) ?_;refine Xc (i:=2) (hQ:=fun _ _ _ h=>h.put (by kernel_rfl)) (hy:=fun V hV=>(by obtain⟨r1,r2,r3,r4,r5,r6⟩:=hV;go_simp<;>rfl)) ?_;refine Xc (i:=4) (hQ:=fun _ _ _ h=>h.put (by kernel_rfl)) (hy:=fun V hV=>(by obtain⟨r1,r2,r3,r4,r5,r6⟩:=hV;go_simp<;>rfl)) ?_;refine Xc (i:=5) (hQ:=fun _ _ _ h=>h.put (by kernel_rfl)) (hy:=fun V hV=>(by obtain⟨r1,r2,r3,r4,r5,r6⟩:=hV;go_simp<;>rfl)) ?_;refine Xc (i:=6) (hQ:=fun _ _ _ h=>h.put (by kernel_rfl)) (hy:=fun V hV=>(by obtain⟨r1,r2,r3,r4,r5,r6⟩:=hV;go_simp<;>rfl)) ?_;refine Xc (i:=7) (hQ:=fun _ _ _ h=>h.put (by kernel_rfl)) (hy:=fun V hV=>(by obtain⟨r1,r2,r3,r4,r5,r6⟩:=hV;go_simp<;>rfl)) ?_;refine Xl (rs:=[3,9]) hC0 (by kernel_rfl) (by simp) (AllC.cons rfl (fun K hK=>?_) (AllC.cons rfl (fun K hK=>?_) AllC.nil))
   ·go_simp
    refine⟨trivial,rfl,callsIn_wide.2 ((HBe.out _ bd_q H0.out).mono ?_)⟩;rintro e9 w9 ⟨rfl,hB9⟩;exact⟨_,rfl,KeepF.of_take rfl rfl,rfl,Xb bd_q hB9⟩
   ·go_simp
    refine hK _ _ ?_;clear hK K;have hBz:Below W1.heap.size W1 (W1.alloc (.cells #[.bool false,.int .i64 0,.int .i64 0,.int .i64 0,.int .i64 0,.int .i64 0,.slice none 0 0,.int .i64 0] 114)).drew:=Xr ba_q;refine Xh (i:=3) (HC.out _ (hBz.block _ hkl)) fun K hK=>?_;go_simp
    refine⟨trivial,rfl,callsIn_wide.2 ((HBe.out _ hBz H0.out).mono ?_)⟩;rintro e9 w9 ⟨rfl,hB9⟩;exact⟨_,rfl,KeepF.of_take rfl rfl,rfl,Xb hBz hB9⟩
  ·rintro ch a' v ⟨hd,ht⟩ ⟨rfl,hB9⟩
   show Leaves _ _ a'.tmps _ a'.defers _ _;rw[hd];refine leaves_cons (f:=65) (args:=#[.pointer (some ⟨w.heap.size+2,0,none⟩)]) (by simp) (by simp[go_sem]) ?_;have hev:v.heap[w.heap.size+2]? = some (.cells #[.int .i64 0] 33 (0,0)):=(hB9.block _ hz1).trans He.out;refine(Xmj _ _ _ _ hev).mono ?_;rintro e u' w'' ⟨rfl,rfl,rfl⟩;have ht6:=ht 6 (by omega);have ht7:=ht 7 (by omega);have ht8:=ht 8 (by omega);have ht9:=ht 9 (by omega);have htv:=Xi hB9 Htb.out;obtain⟨zt0,zt1,zt2,zt3,zt4⟩:=gb5 htv;simp[Leaves,settle,results,Tryz.results19,go_sem,Xe hev,ht6,ht7,ht8,ht9,zt0,zt1,zt2,zt3,zt4];refine⟨Xd0,?_,?_,?_⟩
   ·rw[HR.out];rfl
   ·rw[HR.out];exact Xjq _ _
   ·exact(Xb HB1.out hB9).setCell (p:=⟨w.heap.size+2,0,none⟩) (by show w.heap.size<=w.heap.size+2;omega) _
 ·have H0:=Xa h0
  clear h0
  go_enter_defers Tryz.func19,Tryz.ntmps19
  go_wp2_with fail
  refine wpIn_wide (n:=0) |>.1 ?_
  refine Xdw (fun (y:Nat×Nat×FoundG) a=>{a with tmps:=(((((((((a.tmps.setIfInBounds 11 (g.vl)).setIfInBounds 12 (.slice its.addr its.xs.length its.cap)).setIfInBounds 13 (.int .i64 n)).setIfInBounds 15 (.pointer (some ⟨w.heap.size,3,none⟩))).setIfInBounds 16 (.int .i64 g.startNo)).setIfInBounds 17 (.int .i64 n)).setIfInBounds 18 (.agg #[.int .i64 g.startNo,.int .i64 0,.int .i64 n])).setIfInBounds 14 (.pointer (some ⟨y.2.1,0,none⟩))).setIfInBounds 19 (y.2.2.vl)).setIfInBounds 10 (.pointer (some ⟨y.1,0,none⟩))}) (SentX (fun b=>b<W1.heap.size) g its n W1) ?_ ?_
  ·refine Xn (fun V=>(V.cell? ⟨w.heap.size,0,none⟩=some (.string g.name)/\V.cell? ⟨w.heap.size,1,none⟩=some (.slice g.cats.addr g.cats.xs.length g.cats.cap)/\V.cell? ⟨w.heap.size,2,none⟩=some (.string g.start)/\V.cell? ⟨w.heap.size,3,none⟩=some (.int .i64 g.startNo)/\V.cell? ⟨w.heap.size,4,none⟩=some (.slice g.entries.addr g.entries.xs.length g.entries.cap)/\V.cell? ⟨w.heap.size,5,none⟩=some (.slice g.rules.addr g.rules.xs.length g.rules.cap))) (by kernel_rfl) ?_
   have hC0:=HC.out W1.drew rfl;refine Xc (i:=0) (hy:=fun V hV=>(by obtain⟨r1,r2,r3,r4,r5,r6⟩:=hV;go_simp<;>rfl)) ?_;refine Xc (i:=1) (hy:=fun V hV=>(by obtain⟨r1,r2,r3,r4,r5,r6⟩:=hV;go_simp<;>rfl)) ?_;refine Xc (i:=2) (hy:=fun V hV=>(by obtain⟨r1,r2,r3,r4,r5,r6⟩:=hV;go_simp<;>rfl)) ?_;refine Xc (i:=4) (hy:=fun V hV=>(by obtain⟨r1,r2,r3,r4,r5,r6⟩:=hV;go_simp<;>rfl)) ?_;refine Xc (i:=5) (hy:=fun V hV=>(by obtain⟨r1,r2,r3,r4,r5,r6⟩:=hV;go_simp<;>rfl)) ?_;refine Xc (i:=6) (hy:=fun V hV=>(by obtain⟨r1,r2,r3,r4,r5,r6⟩:=hV;go_simp<;>rfl)) ?_;refine Xc (i:=7) (hy:=fun V hV=>(by obtain⟨r1,r2,r3,r4,r5,r6⟩:=hV;go_simp<;>rfl)) ?_;refine Xl (rs:=[3,9]) hC0 (by kernel_rfl) (by simp) (AllC.cons rfl (fun K hK=>?_) (AllC.cons rfl (fun K hK=>?_) AllC.nil))
   ·go_simp
    refine⟨trivial,rfl,callsIn_wide.2 ((HBo.out _ bd_q H0.out).mono ?_)⟩;rintro e2 w2 ⟨cb,kb,wb,top,rfl,hE,hK2,hB2⟩;refine hK _ _ ?_;clear hK K;have hB2':Below W1.heap.size W1 w2:=Xb bd_q hB2;have hkb:W1.heap.size<=kb/\kb<top:=hE.hk;have htop:top<=w2.heap.size:=hE.top;refine Xl (rs:=[8,9]) (HC.out _ (hB2'.block _ hkl)) (by kernel_rfl) (by simp) (AllC.cons rfl (fun K hK=>?_) (AllC.cons rfl (fun K hK=>?_) AllC.nil))
    ·go_simp
     refine⟨trivial,rfl,callsIn_wide.2 ((HFi.out _ _ bd_q hB2' cb kb wb top H0.out hE hK2).mono ?_)⟩;rintro e9 w9 ⟨fd,rfl,hok,hO⟩;refine hK _ _ ?_;clear hK K;have hB9:Below W1.heap.size W1 w9:=Uv hB2' hB2'.size hO hkb.1;refine Xh (i:=9) (HC.out _ (hB9.block _ hkl)) fun K hK=>?_;go_simp
     refine hK _ _ ?_;clear hK K;have hal:∀o,Below W1.heap.size W1 (w9.alloc o):=fun o=>Xg hB9 o;refine Xh (i:=10) (HC.out _ ((hal _).block _ hkl)) fun K hK=>?_;go_simp
     refine hK _ _ ?_;clear hK K;have hBf:Below w9.heap.size w9 (w9.alloc fd.ob):=ba_q;refine Xk (HC.out _ ((hal _).block _ hkl)) (by kernel_rfl) ?_ _;refine⟨(w9.heap.size,cb,fd),?_,?_⟩
     ·kernel_rfl
     ·exact⟨World.alloc_heap_new _ _,hok.keep (fun _ _ h=>h.ext hBf),hal _⟩
    ·go_simp
     refine hK _ _ ?_;clear hK K;have hBy:Below w2.heap.size w2 (w2.alloc (.cells #[.bool false,.int .i64 0,.int .i64 0,.int .i64 0,.int .i64 0,.int .i64 0,.slice none 0 0,.int .i64 0] 114)):=ba_q;have hzz0:(w2.alloc (.cells #[.bool false,.int .i64 0,.int .i64 0,.int .i64 0,.int .i64 0,.int .i64 0,.slice none 0 0,.int .i64 0] 114)).heap[w2.heap.size]? = some (.cells #[.bool false,.int .i64 0,.int .i64 0,.int .i64 0,.int .i64 0,.int .i64 0,.slice none 0 0,.int .i64 0] 114 (0,0)):=World.alloc_heap_new _ _;have hBw:Below W1.heap.size W1 (w2.alloc (.cells #[.bool false,.int .i64 0,.int .i64 0,.int .i64 0,.int .i64 0,.int .i64 0,.slice none 0 0,.int .i64 0] 114)):=Xb hB2' hBy;refine Xh (i:=8) (HC.out _ (hBw.block _ hkl)) fun K hK=>?_;go_simp
     refine⟨trivial,rfl,callsIn_wide.2 ((HFi.out _ _ bd_q hBw cb kb wb top H0.out (hE.ext hBy) (hK2.ext hBy)).mono ?_)⟩;rintro e9 w9 ⟨fd,rfl,hok,hO⟩;refine hK _ _ ?_;clear hK K;have hnk:w2.heap.size≠kb:=(by omega);have hz9:w9.heap[w2.heap.size]? = some (.cells #[.bool false,.int .i64 0,.int .i64 0,.int .i64 0,.int .i64 0,.int .i64 0,.slice none 0 0,.int .i64 0] 114 (0,0)):=(hO.block _ (Xd hzz0) hnk).trans hzz0;obtain⟨zq0,zq1,zq2,zq3,zq4,zq5,zq6,zq7⟩:=gb8 hz9;have hzf:=fun n=>Xf hz9 n;have hzl:=Xd hz9;have hB9:Below W1.heap.size W1 w9:=Uv hBw hBw.size hO hkb.1;have Hz9:=Xa hz9;have Hok:=Xa hok;clear hz9 hzz0 hok;refine Xh (i:=10) (HC.out _ (hB9.block _ hkl)) fun K hK=>?_;go_simp
     refine hK _ _ ?_;clear hK K;have hs8:=Xah w9 w2.heap.size fd;have hB8:Below W1.heap.size W1 (set8 w9 w2.heap.size fd):=Uv hB9 hB9.size hs8 (by have:=hB2'.size;show W1.heap.size<=w2.heap.size;omega);refine Xk (HC.out _ (hB8.block _ hkl)) (by kernel_rfl) ?_ _;refine⟨(w2.heap.size,cb,fd),?_,?_⟩
     ·kernel_rfl
     ·exact⟨Xer (f:=⟨false,0,0,0,0,0,⟨none,0,0⟩,0⟩) Hz9.out fd,Hok.out.keep (fun _ _ h=>h.only hs8 fun b hb h=>(Zf Hz9.out) (by rw[show b=w2.heap.size from hb] at h;exact h.1)),hB8⟩
   ·go_simp
    refine hK _ _ ?_;clear hK K;have hBz:Below W1.heap.size W1 (W1.alloc (.cells #[.bool false,.int .i64 0,.int .i64 0,.int .i64 0,.int .i64 0,.int .i64 0,.slice none 0 0,.int .i64 0] 114)).drew:=Xr ba_q;refine Xh (i:=3) (HC.out _ (hBz.block _ hkl)) fun K hK=>?_;go_simp
    refine⟨trivial,rfl,callsIn_wide.2 ((HBo.out _ hBz H0.out).mono ?_)⟩;rintro e2 w2 ⟨cb,kb,wb,top,rfl,hE,hK2,hB2⟩;refine hK _ _ ?_;clear hK K;have hB2':Below W1.heap.size W1 w2:=Xb hBz hB2;have hzz1:(W1.alloc (.cells #[.bool false,.int .i64 0,.int .i64 0,.int .i64 0,.int .i64 0,.int .i64 0,.slice none 0 0,.int .i64 0] 114)).drew.heap[W1.heap.size]? = some (.cells #[.bool false,.int .i64 0,.int .i64 0,.int .i64 0,.int .i64 0,.int .i64 0,.slice none 0 0,.int .i64 0] 114 (0,0)):=World.alloc_heap_new _ _;have hzz0:=Xi hB2 hzz1;have hkb0:(W1.alloc (.cells #[.bool false,.int .i64 0,.int .i64 0,.int .i64 0,.int .i64 0,.int .i64 0,.slice none 0 0,.int .i64 0] 114)).drew.heap.size<=kb/\kb<top:=hE.hk;have hkb:W1.heap.size<=kb/\kb<top:=⟨Nat.le_trans hBz.size hkb0.1,hkb0.2⟩
    have hnk:W1.heap.size≠kb:=by have:=Xd hzz1;omega
    refine Xh (i:=8) (HC.out _ (hB2'.block _ hkl)) fun K hK=>?_;go_simp
    refine⟨trivial,rfl,callsIn_wide.2 ((HFi.out _ _ hBz hB2' cb kb wb top H0.out hE hK2).mono ?_)⟩;rintro e9 w9 ⟨fd,rfl,hok,hO⟩;refine hK _ _ ?_;clear hK K;have hz9:w9.heap[W1.heap.size]? = some (.cells #[.bool false,.int .i64 0,.int .i64 0,.int .i64 0,.int .i64 0,.int .i64 0,.slice none 0 0,.int .i64 0] 114 (0,0)):=(hO.block _ (Xd hzz0) hnk).trans hzz0;obtain⟨zq0,zq1,zq2,zq3,zq4,zq5,zq6,zq7⟩:=gb8 hz9;have hzf:=fun n=>Xf hz9 n;have hzl:=Xd hz9;have hB9:Below W1.heap.size W1 w9:=Uv hB2' hB2'.size hO hkb.1;have Hz9:=Xa hz9;have Hok:=Xa hok;clear hz9 hzz0 hok;refine Xh (i:=10) (HC.out _ (hB9.block _ hkl)) fun K hK=>?_;go_simp
    refine hK _ _ ?_;clear hK K;have hs8:=Xah w9 W1.heap.size fd;have hB8:Below W1.heap.size W1 (set8 w9 W1.heap.size fd):=Uv hB9 hB9.size hs8 (by have:=hB2'.size;show W1.heap.size<=W1.heap.size;omega);refine Xk (HC.out _ (hB8.block _ hkl)) (by kernel_rfl) ?_ _;refine⟨(W1.heap.size,cb,fd),?_,?_⟩
    ·kernel_rfl
    ·exact⟨Xer (f:=⟨false,0,0,0,0,0,⟨none,0,0⟩,0⟩) Hz9.out fd,Hok.out.keep (fun _ _ h=>h.only hs8 fun b hb h=>(Zf Hz9.out) (by rw[show b=W1.heap.size from hb] at h;exact h.1)),hB8⟩
  ·rintro⟨bx,cb,⟨ok2,cost2,ru2,it2,fr2,un2,kd2,my2⟩⟩ v H
   obtain⟨hbx,hok,hB⟩:=H;obtain⟨u,hu⟩:∃u,v.drew=u:=⟨_,rfl⟩
   have hbu:=show v.drew.heap[bx]? = _ from hbx
   rw[hu] at hbu;have hoku:=hok.keep (fun _ _ h=>h.ext (Xr (Below.refl v.heap.size v)));rw[hu] at hoku;have hBu:Below W1.heap.size W1 u:=(by rw[<- hu];exact Xr hB);clear hbx hok hB;obtain⟨zz0,zz1,zz2,zz3,zz4,zz5,zz6,zz7⟩:=gb8 hbu;have hev:u.heap[w.heap.size+2]? = some (.cells #[.int .i64 0] 33 (0,0)):=(hBu.block _ hz1).trans He.out;have htv:u.heap[w.heap.size+1]? = _:=Xi hBu Htb.out;obtain⟨zt0,zt1,zt2,zt3,zt4⟩:=gb5 htv;have zf:=fun n=>Xf htv n;have ce:=Xe hev;have fe:=Xf hev 0
   have hne:bx≠w.heap.size+1:=by
    rintro rfl;rw[htv] at hbu;have h:=Option.some.inj hbu;injection h with _ h2 _;exact absurd h2 (by decide)
   have hne2:bx≠w.heap.size+2:=by
    rintro rfl;rw[hev] at hbu;have h:=Option.some.inj hbu;injection h with _ h2 _;exact absurd h2 (by decide)
   have hlt:=Xd hbu;have HB9:=Xa (Xb HB1.out hBu);have Hev:=Xa hev;have Hok:=Xa hoku;have Htv:=Xa htv;have Hbx:=Xa hbu;clear hbu hoku hBu hev htv;gi_wp2_with fail
   go_wp2_with fail
   refine wpIn_wide (n:=0) |>.1 ?_
   apply Xdx (w':=(set5 u (w.heap.size+1) ⟨ru2,it2,fr2,un2,kd2⟩).setCell ⟨w.heap.size+2,0,none⟩ (.int .i64 0))
   ·refine Xn (fun V=>V.cell? ⟨bx,0,none⟩=some (.bool ok2)/\V.cell? ⟨bx,1,none⟩=some (.int .i64 cost2)/\V.cell? ⟨bx,2,none⟩=some (.int .i64 ru2)/\V.cell? ⟨bx,3,none⟩=some (.int .i64 it2)/\V.cell? ⟨bx,4,none⟩=some (.int .i64 fr2)/\V.cell? ⟨bx,5,none⟩=some (.int .i64 un2)/\V.cell? ⟨bx,6,none⟩=some (.slice kd2.addr kd2.len kd2.cap)) (by kernel_rfl) ?_
    rw[hu];refine Xc (i:=0) (hy:=fun V hV=>(by obtain⟨r1,r2,r3,r4,r5,r6,r7⟩:=hV;go_simp<;>rfl)) ?_;refine Xc (i:=1) (hy:=fun V hV=>(by obtain⟨r1,r2,r3,r4,r5,r6,r7⟩:=hV;go_simp<;>rfl)) ?_;refine Xc (i:=2) (hy:=fun V hV=>(by obtain⟨r1,r2,r3,r4,r5,r6,r7⟩:=hV;go_simp<;>rfl)) ?_;refine Xc (i:=3) (hy:=fun V hV=>(by obtain⟨r1,r2,r3,r4,r5,r6,r7⟩:=hV;go_simp<;>rfl)) ?_;refine Xc (i:=4) (hy:=fun V hV=>(by obtain⟨r1,r2,r3,r4,r5,r6,r7⟩:=hV;go_simp<;>rfl)) ?_;refine Xc (i:=5) (hy:=fun V hV=>(by obtain⟨r1,r2,r3,r4,r5,r6,r7⟩:=hV;go_simp<;>rfl)) ?_
    have hC:∀V:World,V.heap[bx]? = u.heap[bx]? -> (V.cell? ⟨bx,0,none⟩=some (.bool ok2)/\V.cell? ⟨bx,1,none⟩=some (.int .i64 cost2)/\V.cell? ⟨bx,2,none⟩=some (.int .i64 ru2)/\V.cell? ⟨bx,3,none⟩=some (.int .i64 it2)/\V.cell? ⟨bx,4,none⟩=some (.int .i64 fr2)/\V.cell? ⟨bx,5,none⟩=some (.int .i64 un2)/\V.cell? ⟨bx,6,none⟩=some (.slice kd2.addr kd2.len kd2.cap)):=fun V hV=>by
     have h:=hV.trans Hbx.out;exact⟨gblk h 0,gblk h 1,gblk h 2,gblk h 3,gblk h 4,gblk h 5,gblk h 6⟩
    have HC2:=Xa hC;clear hC;have hs5:=Xlw u (w.heap.size+1) ⟨ru2,it2,fr2,un2,kd2⟩;have h5:=hs5.block bx hlt hne;refine Xh (i:=6) (HC2.out _ rfl) fun K hK=>?_;go_simp
    refine hK _ _ ?_;clear hK K;refine Xh (i:=7) (HC2.out _ h5) fun K hK=>?_;go_simp
    refine hK _ _ ?_;clear hK K;refine Xh (i:=8) (HC2.out _ h5) fun K hK=>?_;go_simp
    refine hK _ _ ?_;clear hK K;have Hev5:=(hs5.block (w.heap.size+2) (Xd Hev.out) (by show w.heap.size+2≠w.heap.size+1;omega)).trans Hev.out;have ce5:=Xe Hev5;have fe5:=Xf Hev5 0;unfold set5 at Hev5 ce5 fe5;refine Xh (i:=9) (HC2.out _ h5) fun K hK=>?_;go_simp
    refine hK _ _ ?_;clear hK K;have hs6:Only (fun j=>j=w.heap.size+2) (set5 u (w.heap.size+1) ⟨ru2,it2,fr2,un2,kd2⟩) ((set5 u (w.heap.size+1) ⟨ru2,it2,fr2,un2,kd2⟩).setCell ⟨w.heap.size+2,0,none⟩ (.int .i64 0)):=Only.setCell (M:=fun j=>j=w.heap.size+2) (Only.refl _ _) (p:=⟨w.heap.size+2,0,none⟩) (.inl rfl) _;refine Xk (HC2.out _ ((hs6.block bx (Nat.lt_of_lt_of_le hlt hs5.size) hne2).trans h5)) (by kernel_rfl) ?_ _;exact⟨rfl,rfl⟩
   ·obtain⟨U5,hU5⟩:∃U5,set5 u (w.heap.size+1) ⟨ru2,it2,fr2,un2,kd2⟩=U5:=⟨_,rfl⟩
    have hs5:=Xlw u (w.heap.size+1) ⟨ru2,it2,fr2,un2,kd2⟩;have ht5:=X2g (x:=⟨0,0,0,0,⟨none,0,0⟩⟩) Htv.out ⟨ru2,it2,fr2,un2,kd2⟩;rw[hU5] at hs5 ht5 ⊢;have hs6:Only (fun j=>j=w.heap.size+2) U5 (U5.setCell ⟨w.heap.size+2,0,none⟩ (.int .i64 0)):=Only.setCell (M:=fun j=>j=w.heap.size+2) (Only.refl _ _) (p:=⟨w.heap.size+2,0,none⟩) (.inl rfl) _;have he5:=(hs5.block (w.heap.size+2) (Xd Hev.out) (by show w.heap.size+2≠w.heap.size+1;omega)).trans Hev.out;have ht6:=(hs6.block (w.heap.size+1) (Xd ht5) (by show w.heap.size+1≠w.heap.size+2;omega)).trans ht5;have ce6:=Xe (Xs he5 0 (.int .i64 0));have he6:=Xs he5 0 (.int .i64 0);obtain⟨U6,hU6⟩:∃U6,U5.setCell ⟨w.heap.size+2,0,none⟩ (.int .i64 0)=U6:=⟨_,rfl⟩
    rw[hU6] at hs6 ht6 ce6 he6 ⊢;have HU:=Xa (And.intro hs5 hs6);obtain⟨q0,q1,q2,q3,q4⟩:=gb5 ht6;clear hU5 hU6 hs5 ht5 hs6 he5 ht6 he6 hu;go_wp2_with fail
    refine leaves_cons (f:=65) (args:=#[.pointer (some ⟨w.heap.size+2,0,none⟩)]) (by simp) (by simp[go_sem]) ?_;refine(Xmk _ _).mono ?_;rintro e u' w'' ⟨rfl,rfl,rfl⟩;simp[Leaves,settle,results,Tryz.results19,go_sem,ce6,q0,q1,q2,q3,q4];obtain⟨hs5,hs6⟩:=HU.out;obtain⟨g1,g2,g3,g4⟩:=Xol H0.out Hok.out;have hB5:Below w.heap.size w U5:=Uv HB9.out HB9.out.size hs5 (by show w.heap.size<=w.heap.size+1;omega);refine⟨⟨ru2,it2,fr2,un2,kd2⟩,?_,?_,Uv hB5 hB5.size hs6 (by show w.heap.size<=w.heap.size+2;omega)⟩
    ·rw[g1,g2,g3]
    ·have h5:TreeW (fun b=>b<w.heap.size) U5 (Tl g its.xs n).1 ⟨ru2,it2,fr2,un2,kd2⟩:=TreeW.keep g4 (fun b ⟨_,_,hk⟩ hn=>hs5.block b (Xd hk) fun e=>hn (by show b<W1.heap.size;rw[show b=w.heap.size+1 from e];omega)) hs5.size fun b _ hn hx=>hn (Nat.lt_trans hx (by omega))
     refine h5.only hs6 fun b hb hk=>?_;obtain⟨⟨cs,fr,hk⟩,_⟩:=hk;rw[show b=w.heap.size+2 from hb] at hk;have he5:=(hs5.block (w.heap.size+2) (Xd Hev.out) (by show w.heap.size+2≠w.heap.size+1;omega)).trans Hev.out;rw[he5] at hk;have h:=Option.some.inj hk;injection h with _ h2 _;exact absurd h2 (by decide)
def TrPost (g:Gram) (l:List Term) (lang:Int) (ws:List ByteArray) (t u:Int) (w:World) (e:Ending) (w':World):Prop :=
 Below w.heap.size w w'/\∃A n c L,e = .returned (.tuple #[.slice A n c,.bool (trE g l lang ws t u).2,.int .i64 (Xz g l lang ws t u)])/\n=L.length/\RowT w.heap.size (.slice A n c) L w'/\L.map TgG.c=(trE g l lang ws t u).1
def Xbj (its:List ItemG) (k:Nat) (m:Int) (v:Int):Prop:=(v = -1/\Vq (its.take k) m=none)\/∃(b:Nat) (h:b<its.length),v=(b:Int)/\Vq (its.take k) m=some its[b]
theorem Xl5 {its:List ItemG} {k:Nat} (m:Int) (h:k<its.length):Vq (its.take (k+1)) m=Y8 m (Vq (its.take k) m) its[k]:=by rw[List.take_succ_eq_append_getElem h,Xta]
theorem Xuv {its:List ItemG} {k:Nat} {m v:Int} (hk:k<its.length) (h:Xbj its k m v) (h1:0<=its[k].cat) (h2:its[k].frm=m) (h3:v = -1\/∃(b:Nat) (hb:b<its.length),v=(b:Int)/\its[b].unt<its[k].unt):Xbj its (k+1) m k:=by
 refine .inr ⟨k,hk,rfl,?_⟩;rw[Xl5 m hk];rcases h with ⟨rfl,hw⟩|⟨b,hb,rfl,hw⟩
 ·rw[hw];unfold Y8;rw[if_pos ⟨h1,h2,rfl⟩]
 ·rw[hw];unfold Y8
  have h4:Xdc (some its[b]) its[k]=true:=by
   rcases h3 with h3|⟨b2,hb2,e,h3⟩
   ·omega
   ·obtain rfl:b=b2:=by omega
    exact decide_eq_true h3
  rw[if_pos ⟨h1,h2,h4⟩]
theorem Xuu {its:List ItemG} {k:Nat} {m v:Int} (hk:k<its.length) (h:Xbj its k m v) (h3:¬0<=its[k].cat\/¬its[k].frm=m\/∃(b:Nat) (hb:b<its.length),v=(b:Int)/\¬its[b].unt<its[k].unt):Xbj its (k+1) m v:=by
 have key:Vq (its.take (k+1)) m=Vq (its.take k) m:=by
  rw[Xl5 m hk];unfold Y8;rw[if_neg];rintro⟨a1,a2,a3⟩;rcases h3 with h3|h3|⟨b,hb,rfl,h3⟩
  ·exact h3 a1
  ·exact h3 a2
  ·rcases h with ⟨e,_⟩|⟨b2,hb2,e,hw⟩
   ·omega
   ·obtain rfl:b=b2:=by omega
    rw[hw] at a3;exact h3 (of_decide_eq_true a3)
 unfold Xbj at h ⊢;rw[key];exact h
theorem Xs4 {g:Gram} {its:List ItemG} {b:Nat} (h:b<its.length):Yj g its (.node (-1) (b:Int) 0 0 []) []=Uf its[b] []:=by
 rw[Yj,if_pos (by omega),show ((b:Int)).toNat=b by omega,List.getElem?_eq_getElem h]
def Xgl (b:Nat):TreeG:=⟨-1,(b:Int),0,0,⟨none,0,0⟩⟩
theorem Xrn (P:Nat->Prop) (w:World) (b:Nat):TreeAt w P (.node (-1) (b:Int) 0 0 []) [.int .i64 (Xgl b).rule,.int .i64 (Xgl b).item,.int .i64 (Xgl b).frm,.int .i64 (Xgl b).unt,.slice (Xgl b).kids.addr (Xgl b).kids.len (Xgl b).kids.cap]:=by
 unfold TreeAt;exact⟨none,0,[],rfl,Nat.le_refl _,by omega,fun _=>rfl,fun h=>absurd h (by simp),.inl rfl,by unfold KidsAt;rfl⟩
structure ItsOk (g:Gram) (n:Nat) (its:List ItemG):Prop where
 args:Xg8 g its n
 place:∀x∈its,0<=x.frm/\x.frm<x.unt/\x.unt<=n
 tgt:∀x∈its,x.tgt.xs.length<=8
 cat:∀x∈its, -1<=x.cat/\x.cat<1000
theorem Xzr {g:Gram} {l:List Term} {lang t u:Int} {ws:List ByteArray} {its:List ItemG} (h:Xz g l lang ws t u=0) (h0:ws≠[]) (hm:its.map ItemG.c=Vb g (Yh l lang t u) ws):ItsOk g ws.length its:=by
 have ha:=Xfa (Xpx h h0 hm);have hr:∀x∈its,Xe1 ws.length g.cats.xs.length x.c:=fun x hx=>Xdt h x.c (by rw[<- hm];exact List.mem_map_of_mem hx);refine⟨ha,fun x hx=>(hr x hx).place,fun x hx=>?_,fun x hx=>?_⟩
 ·have:=(hr x hx).some_.2
  change x.tgt.xs.length<=4 at this;omega
 ·have h1:=(hr x hx).kind
  have h2:=ha.gram.few;change (x.cat = -1/\_)\/(0<=x.cat/\x.cat<_/\_) at h1;omega
theorem Xpn {g:Gram} (hc:Yb g=0):(∀ru∈g.rules.xs,ru.parts.xs.length<=4)/\∀ru∈g.rules.xs,ru.gives.xs.length<=8/\U4 ru.gives.xs 0 ru.parts.xs=true :=
 ⟨fun ru hr=>((Qy hc).rule ru hr).2.2.2.2.2,fun ru hr=>⟨((Xap hc).some_ ru hr).2,(Xap hc).once ru hr⟩⟩
theorem Xud {g:Gram} {l:List Term} {lang t u:Int} {ws:List ByteArray} (h:Xz g l lang ws t u≠0):trE g l lang ws t u=([],false):=by unfold trE;rw[if_pos (.inl h)]
theorem Xuf {g:Gram} {l:List Term} {lang t u:Int} {ws:List ByteArray} (h:ws=[]):trE g l lang ws t u=([],false):=by unfold trE;rw[if_pos (.inr h)]
theorem Xue {g:Gram} {l:List Term} {lang t u:Int} {ws:List ByteArray} {its:List ItemG} (h:Xz g l lang ws t u=0) (h0:ws≠[]) (hm:its.map ItemG.c=Vb g (Yh l lang t u) ws):trE g l lang ws t u=trG g (its.map ItemG.c) ws.length:=by
 unfold trE;rw[if_neg (fun e=>e.elim (fun e=>e h) h0),hm]
theorem Xqp {g:Gram} {its:List ItemG} {n:Int} (he:errC g its n=0) {x:Dv} (h:Tk g its n=some x):Tl g its n=(x.2,x.1,true,0):=by unfold Tl;rw[if_neg (by simp[he]),h]
theorem Xqo {g:Gram} {its:List ItemG} {n:Int} (he:errC g its n=0) (h:Tk g its n=none):Tl g its n=(Xmb,0,false,0):=by unfold Tl;rw[if_neg (by simp[he]),h]
def X1o (g:Gram) (l:List Term) (lang:Int) (ws:List ByteArray) (t u:Int) (w:World) (e:Ending) (w':World):Prop :=
 Below w.heap.size w w'/\∃A n c L,e = .returned (.tuple #[.slice A n c,.bool (trE g l lang ws t u).2,.int .i64 (Xz g l lang ws t u)])/\n=L.length/\RowT w.heap.size (.slice A n c) L w'/\L.map TgG.c=(trE g l lang ws t u).1/\FarL w.heap.size L w'
theorem Xcz (g:Gram) (A:Option Addr) (cp:Nat) (l:List Term) (lang:Int) (s:StrS) (t u:Int) (w:World) (hT:TabsG w) (hg:g.lies w) (hgs:g.short) (hr:TermsAt w A l) (hm:l.length<=9223372036854775807) (hs:s.lies w) :
  Calls Tryz.prog 41 #[g.vl,.slice A l.length cp,.int .i64 lang,.slice s.addr s.xs.length s.cap,.int .i64 t,.int .i64 u] w (X1o g l lang s.xs t u w):=by
 obtain⟨W1,hW1⟩:∃W1,w.alloc g.ob=W1:=⟨_,rfl⟩
 have hB1:=X5 hW1;have hk:=Yg hW1;have FA:=Xa (fun V (hV:Below w.heap.size w V)=>Xun g A cp l lang s t u V (hT.ext hV) (hg.ext hV) hgs (hr.ext hV) hm (hs.ext hV));have FB:=Xa (fun (its:SlS ItemG) V (hV:Below w.heap.size w V) (hi:ItemsAt V its)=>Xx6 g its s.xs.length V (hT.ext hV) (hg.ext hV) hgs hi);have HG:=Xa hg;have Hk:=Xa hk;have hsl:s.xs.length<=9223372036854775807:=Nat.le_trans hs.cap hs.max;obtain⟨c0,c1,c2,c3,c4,c5⟩:=gb6 hk;clear hT hg hgs hr hm hs hk;go_enter Tryz.func41,Tryz.ntmps41
 go_wp2_with fail
 clear hW1;refine(FA.out W1 hB1).mono ?_;rintro e w2 ⟨hb2,⟨hne,rfl⟩|⟨hz,its,rfl,hmc,hia⟩⟩
 ·have k1:(Xz g l lang s.xs t u != 0)=true:=by simpa using hne
  have HB:=Xa (Xb hB1 hb2);have hT:=Xa (Xud hne);clear hne hb2 hB1 FA FB c0 c1 c2 c3 c4 c5;go_wp2_with fail
  refine bodyPost_ret (v:=.tuple #[.slice none 0 0,.bool false,.int .i64 (Xz g l lang s.xs t u)]) (by simp[results,Tryz.results41,go_sem]) rfl ?_;exact⟨HB.out,none,0,0,[],by rw[hT.out],rfl,RowT.nil _ _,by rw[hT.out];rfl,fun x hx=>by cases hx⟩
 have hB2:=Xb hB1 hb2;have HZ:=Xa hz;have HM:=Xa hmc;have Hk2:=Xa (Xi hb2 Hk.out);have hk2:=Hk2.out;clear c0 c1 c2 c3 c4 c5 hz hmc FA Hk;by_cases h0:s.xs=[]
 ·have hT:=Xa (Xuf (g:=g) (l:=l) (lang:=lang) (t:=t) (u:=u) h0)
  have hl:s.xs.length=0:=by rw[h0];rfl
  have HB:=Xa hB2;clear h0 hia hb2 hB1 FB hB2;go_wp2_with fail
  refine bodyPost_ret (v:=.tuple #[.slice none 0 0,.bool false,.int .i64 0]) (by simp[results,Tryz.results41,go_sem]) rfl ?_;exact⟨HB.out,none,0,0,[],by rw[hT.out,HZ.out],rfl,RowT.nil _ _,by rw[hT.out];rfl,fun x hx=>by cases hx⟩
 have hl:¬s.xs.length=0:=fun h=>h0 (List.eq_nil_of_length_eq_zero h);have Ho:=Xa (Xzr HZ.out h0 HM.out);have HE:=Xa (Xue HZ.out h0 HM.out);have he0:=Xa (Xpx HZ.out h0 HM.out);have Hru:=Xa (Xpn Ho.out.args.check);have hn16:s.xs.length<=16:=by have:=Ho.out.args.n16;omega
 have k0:((s.xs.length:Int) == 0)=false:=by simp;omega
 have hil:its.xs.length<=9223372036854775807:=Nat.le_trans hia.lies.cap hia.lies.max;obtain⟨c0,c1,c2,c3,c4,c5⟩:=gb6 hk2;clear h0 hb2 hB1 hk2;go_wp2_with fail
 refine(FB.out its w2 hB2 hia).mono ?_;rintro e w3 ⟨x,rfl,hx,hb3⟩;have hB3:=Xb hB2 hb3;have Hia:=Xa (hia.ext hb3);have Hk3:=Xa (Xi hb3 Hk2.out);have hk3:=Hk3.out;have hx3:TreeW (fun b=>b<w2.heap.size) w3 (Tl g its.xs s.xs.length).1 x:=hx;have HX:=Xa hx3;clear c0 c1 c2 c3 c4 c5 hia hb3 hB2 Hk2 hx hx3 FB;obtain⟨W4,hW4⟩:∃W4,w3.alloc x.ob=W4:=⟨_,rfl⟩
 have hb4:=X5 hW4;have hk4:=Yg hW4;have hg4:=Xi hb4 hk3;have hB4:=Xb hB3 hb4;have Hi4:=Xa (Hia.out.ext hb4);have HG4:=Xa (HG.out.ext hB4);cases hbc:Tk g its.xs s.xs.length with
 | some y =>
  have hR:=Xqp he0.out hbc;have HT1:=Xa (HE.out.trans (Xp4 hbc));have HW:=Xa (Xks Ho.out.args hbc);have HX4:=Xa (TreeW.ext HX.out hb4);have HP:=Xa (fun (x:ItemG) (hx:x∈its.xs)=>(show (0:Int)<=x.frm/\x.frm<x.unt/\x.unt<=16 from ⟨(Ho.out.place x hx).1,(Ho.out.place x hx).2.1,by have:=(Ho.out.place x hx).2.2;omega⟩));rw[hR] at HX4 ⊢;obtain⟨c0,c1,c2,c3,c4,c5⟩:=gb6 hg4;obtain⟨d0,d1,d2,d3,d4⟩:=gb5 hk4;have HB4:=Xa hB4;have Htg:=Xa Ho.out.tgt;clear hR hbc hB3 hb4 hk3 hg4 hk4 HX Hia Hk3 Ho hB4;go_wp2_with fail
  refine(Xjm g its x W4).mono ?_;rintro e w5 ⟨rfl,hw5⟩;have hb5:Below W4.heap.size W4 w5:=by rw[<- hw5];exact Xg (Xg ba_q _) _
  have FC:=Xa (Xc2 HG4.out Hi4.out HX4.out HW.out.1 HW.out.2 HP.out Htg.out Hru.out.1 Hru.out.2 hw5);clear hw5 c0 c1 c2 c3 c4 c5 d0 d1 d2 d3 d4;go_wp2_with fail
  refine FC.out.mono ?_;intro e w6 h6;obtain⟨A6,n6,c6,L,rfl,hn6,hr6,hl6,hf6,hb6⟩:=Xn1 h6;have Hf6:=Xa (hf6.mono (show w.heap.size<=w5.heap.size from Nat.le_trans HB4.out.size hb5.size));have HB6:=Xa (Xb HB4.out (Xb hb5 hb6));have Hr6:=Xa (hr6.mono (show w.heap.size<=w5.heap.size from Nat.le_trans HB4.out.size hb5.size));have Hl6:=Xa hl6;have Hn6:=Xa hn6;clear h6 hr6 hl6 hn6 hb6 hb5 hf6 FC hW4;go_wp2_with fail
  refine bodyPost_ret (v:=.tuple #[.slice A6 n6 c6,.bool true,.int .i64 0]) (by simp[results,Tryz.results41,go_sem]) rfl ?_;exact⟨HB6.out,_,_,_,L,by rw[HT1.out,HZ.out],Hn6.out,Hr6.out,by rw[HT1.out];exact Hl6.out,Hf6.out⟩
 | none =>
  have hR:=Xqo he0.out hbc;have HT1:=Xa (HE.out.trans (Xp3 hbc));rw[hR];have hg4':=Xa hg4;clear hR hbc hB3 hb4 hk3 hk4 HX Hia Hk3 hg4;go_wp2_with fail
  have hz4:∀V,Below W4.heap.size W4 V->w.heap.size<=V.heap.size:=fun V hV=>Nat.le_trans hB4.size hV.size;have Hz4:=Xa hz4;have hw4:=Xd hg4'.out;have HB4:=Xa hB4;clear hz4 hW4 hB4 he0 HE HM;go_loopw [12,19] (fun tv iv wr=>∃(A9:Option Addr) (n9 c9:Nat) (L:List TgG) (m:Nat),tv = .slice A9 n9 c9/\n9=L.length/\iv = .int .i64 m/\m<=s.xs.length/\Hid (RowT W4.heap.size (.slice A9 n9 c9) L wr/\Below W4.heap.size W4 wr/\L.length<=8*m/\L.map TgG.c++wbwT its.xs s.xs.length m=wbwT its.xs s.xs.length 0/\FarL W4.heap.size L wr)) (fun _ iv _=>s.xs.length-(intOf iv).toNat)
  case atStart=>exact⟨none,0,0,[],0,rfl,rfl,rfl,Nat.zero_le _,RowT.nil _ _,bo_q,by simp,rfl,fun x hx=>by cases hx⟩
  case round =>
   obtain⟨A9,n9,c9,L,m,rfl,rfl,rfl,hm,HR⟩:=hrel;by_cases hlt:m<s.xs.length
   ·have hkg:=(HR.out.2.1.block _ hw4).trans hg4'.out
    go_wp2_with fail
    go_loopw [20,65] (fun bv kv wz=>∃(k:Nat) (b:Int),k<=its.xs.length/\bv = .int .i64 b/\kv = .int .i64 k/\Hid (Xbj its.xs k m b)/\Hid (Below wr.heap.size wr wz)) (fun _ kv _=>its.xs.length-(intOf kv).toNat)
    case atStart=>exact⟨0, -1,Nat.zero_le _,rfl,rfl,.inl ⟨rfl,rfl⟩,bo_q⟩
    case round =>
     rename World=>wz
     obtain⟨k,b,hk,rfl,rfl,hb,hBz⟩:=hrel;by_cases hkl:k<its.xs.length
     ·obtain⟨bi,oi,hA,hbb,hc⟩:=Hi4.out.lies.at_ ItemG.size_cells (by omega) hkl
      have hB9:=Xb HR.out.2.1 hBz.out;have d0:wz.cell? ⟨bi,oi+k*6,none⟩=some (.int .i64 its.xs[k].cat):=hc k hkl wz hB9 0 _ rfl;have d1:wz.cell? ⟨bi,oi+k*6+1,none⟩=some (.int .i64 its.xs[k].frm):=hc k hkl wz hB9 1 _ rfl;have d2:wz.cell? ⟨bi,oi+k*6+2,none⟩=some (.int .i64 its.xs[k].unt):=hc k hkl wz hB9 2 _ rfl;have d3:wz.cell? ⟨bi,oi+k*6+3,none⟩=some (.int .i64 its.xs[k].cost):=hc k hkl wz hB9 3 _ rfl;have d4:wz.cell? ⟨bi,oi+k*6+4,none⟩=some (.slice its.xs[k].tgt.addr its.xs[k].tgt.xs.length its.xs[k].tgt.cap):=hc k hkl wz hB9 4 _ rfl;have d5:wz.cell? ⟨bi,oi+k*6+5,none⟩=some (.int .i64 its.xs[k].term):=hc k hkl wz hB9 5 _ rfl;rw[hA];have HT0:=Xa (fun a1 a2 a3=>Xuv (m:=(m:Int)) (v:=b) hkl hb.out a1 a2 a3);have HK0:=Xa (fun a=>Xuu (m:=(m:Int)) (v:=b) hkl hb.out a);have HC:=Xa hc;obtain⟨y,hy⟩:∃y,its.xs[k]=y:=⟨_,rfl⟩
      rw[hy] at HT0 HK0 d0 d1 d2 d3 d4 d5;clear hy hc hA;obtain⟨w6,hw6⟩:∃w6,wz.alloc y.ob=w6:=⟨_,rfl⟩
      have hb6:=X5 hw6;have hx6:=Yg hw6;have HB6:=Xa (Xb hBz.out hb6);have HB7:=Xa (Xb hB9 hb6);have Hx6:=Xa hx6;clear hb6 hx6 hB9
      have HC6:Hid (∀V,Below w6.heap.size w6 V->V.cell? ⟨wz.heap.size,0,none⟩=some (.int .i64 y.cat)/\V.cell? ⟨wz.heap.size,1,none⟩=some (.int .i64 y.frm)/\V.cell? ⟨wz.heap.size,2,none⟩=some (.int .i64 y.unt)):=fun V hV=>by
       have h1:=Xi hV Hx6.out;exact⟨gblk h1 0,gblk h1 1,gblk h1 2⟩
      clear hbb;go_wp2_with fail
      refine wpIn_wide (n:=0) |>.1 ?_
      refine Yz _ ?_ (fun _ _ h=>h);refine Xn (fun V=>Below w6.heap.size w6 V) (by kernel_rfl) ?_;have hv:=Xr (Below.refl w6.heap.size w6);by_cases h1:0<=y.cat
      rotate_left
      ·have k1:decide (0<=y.cat)=false:=decide_eq_false h1
       have HN:=Xa (HK0.out (.inl (by omega)));clear h1 hb;refine Xc (i:=0) (hy:=fun V hV=>(by obtain⟨m0,m1,m2⟩:=HC6.out V hV;go_simp<;>rfl)) ?_;refine Xc (i:=1) (hy:=fun V hV=>(by obtain⟨m0,m1,m2⟩:=HC6.out V hV;go_simp<;>rfl)) ?_;refine Xc (i:=2) (hy:=fun V hV=>(by obtain⟨m0,m1,m2⟩:=HC6.out V hV;go_simp<;>rfl)) ?_;refine Xc (i:=3) (hy:=fun V hV=>(by obtain⟨m0,m1,m2⟩:=HC6.out V hV;go_simp<;>rfl)) ?_;refine Xj (i:=4) ?_;refine Xj (i:=5) ?_;refine Xj (i:=6) ?_;refine Xj (i:=7) ?_;refine Xv (by go_simp;rfl) ?_;refine Xc (i:=8) ?_;refine Xc (i:=9) ?_;refine Xj (i:=10) ?_;refine Xj (i:=11) ?_;refine Xj (i:=12) ?_;refine Xj (i:=13) ?_;refine Xj (i:=14) ?_;refine Xj (i:=15) ?_;refine Xj (i:=16) ?_;refine Xj (i:=17) ?_;refine Xj (i:=18) ?_;refine Xj (i:=19) ?_;refine Xj (i:=20) ?_;refine Xj (i:=21) ?_;refine Xv (by go_simp;rfl) ?_;refine Xc (i:=22) ?_;refine Xk hv (by kernel_rfl) ?_ _;clear HC6 hw6 HT0 HK0 HC;go_wp2_with fail
       go_roundw
       case rel=>exact⟨k+1,_,by omega,rfl,by go_num,HN.out,Xb HB6.out hv⟩
       case measure=>simp[intOf];omega
      have k1:decide (0<=y.cat)=true:=decide_eq_true h1;refine Xc (i:=0) (hy:=fun V hV=>(by obtain⟨m0,m1,m2⟩:=HC6.out V hV;go_simp<;>rfl)) ?_;refine Xc (i:=1) (hy:=fun V hV=>(by obtain⟨m0,m1,m2⟩:=HC6.out V hV;go_simp<;>rfl)) ?_;refine Xc (i:=2) (hy:=fun V hV=>(by obtain⟨m0,m1,m2⟩:=HC6.out V hV;go_simp<;>rfl)) ?_;refine Xc (i:=3) (hy:=fun V hV=>(by obtain⟨m0,m1,m2⟩:=HC6.out V hV;go_simp<;>rfl)) ?_;refine Xc (i:=4) (hy:=fun V hV=>(by obtain⟨m0,m1,m2⟩:=HC6.out V hV;go_simp<;>rfl)) ?_;refine Xc (i:=5) (hy:=fun V hV=>(by obtain⟨m0,m1,m2⟩:=HC6.out V hV;go_simp<;>rfl)) ?_;refine Xc (i:=6) (hy:=fun V hV=>(by obtain⟨m0,m1,m2⟩:=HC6.out V hV;go_simp<;>rfl)) ?_;refine Xv (by go_simp;rfl) ?_;by_cases h2:y.frm=(m:Int)
      rotate_left
      ·have k2:(y.frm == (m:Int))=false:=by simpa using h2
       have HN:=Xa (HK0.out (.inr (.inl h2)));clear h1 h2 hb;refine Xc (i:=7) ?_;refine Xc (i:=8) ?_;refine Xc (i:=9) ?_;refine Xj (i:=10) ?_;refine Xj (i:=11) ?_;refine Xj (i:=12) ?_;refine Xj (i:=13) ?_;refine Xj (i:=14) ?_;refine Xj (i:=15) ?_;refine Xj (i:=16) ?_;refine Xj (i:=17) ?_;refine Xj (i:=18) ?_;refine Xj (i:=19) ?_;refine Xj (i:=20) ?_;refine Xj (i:=21) ?_;refine Xv (by go_simp;rfl) ?_;refine Xc (i:=22) ?_;refine Xk hv (by kernel_rfl) ?_ _;clear HC6 hw6 HT0 HK0 HC;go_wp2_with fail
       go_roundw
       case rel=>exact⟨k+1,_,by omega,rfl,by go_num,HN.out,Xb HB6.out hv⟩
       case measure=>simp[intOf];omega
      have k2:(y.frm == (m:Int))=true:=(by simpa using h2);refine Xc (i:=7) ?_;refine Xc (i:=8) ?_;refine Xc (i:=9) ?_;refine Xv (by go_simp;rfl) ?_;have hbA:=hb.out;unfold Xbj at hbA;rcases hbA with ⟨rfl,hwn⟩|⟨b',hb',rfl,hws⟩
      ·have HN:=Xa (HT0.out h1 h2 (.inl rfl))
       clear h1 h2 hb hwn;refine Xc (i:=10) ?_;refine Xc (i:=11) ?_;refine Xc (i:=12) ?_;refine Xj (i:=13) ?_;refine Xj (i:=14) ?_;refine Xj (i:=15) ?_;refine Xj (i:=16) ?_;refine Xj (i:=17) ?_;refine Xj (i:=18) ?_;refine Xj (i:=19) ?_;refine Xj (i:=20) ?_;refine Xv (by go_simp;rfl) ?_;refine Xc (i:=21) ?_;refine Xc (i:=22) ?_;refine Xk hv (by kernel_rfl) ?_ _;clear HC6 hw6 HT0 HK0 HC;go_wp2_with fail
       go_roundw
       case rel=>exact⟨k+1,_,by omega,rfl,by go_num,HN.out,Xb HB6.out hv⟩
       case measure=>simp[intOf];omega
      obtain⟨z,hz⟩:∃z,its.xs[b']=z:=⟨_,rfl⟩
      have HD:Hid (∀V,Below w6.heap.size w6 V->V.cell? ⟨bi,oi+b'*6+2,none⟩=some (.int .i64 z.unt)):=fun V hV=>by
       rw[<- hz];exact HC.out b' hb' V (Xb HB7.out hV) 2 _ rfl
      have k3:decide ((b':Int)<0)=false:=decide_eq_false (by omega);have k4:¬(b':Int)<0:=(by omega);clear hws;refine Xc (i:=10) ?_;refine Xc (i:=11) ?_;refine Xc (i:=12) ?_;refine Xc (i:=13) (hy:=fun V hV=>(by obtain⟨m0,m1,m2⟩:=HC6.out V hV;go_simp<;>rfl)) ?_;refine Xc (i:=14) (hy:=fun V hV=>(by obtain⟨m0,m1,m2⟩:=HC6.out V hV;go_simp<;>rfl)) ?_;refine Xc (i:=15) (hy:=fun V hV=>(by obtain⟨m0,m1,m2⟩:=HC6.out V hV;go_simp<;>rfl)) ?_;refine Xc (i:=16) (hy:=fun V hV=>(by obtain⟨m0,m1,m2⟩:=HC6.out V hV;go_simp<;>rfl)) ?_;refine Xc (i:=17) (hy:=fun V hV=>(by obtain⟨m0,m1,m2⟩:=HC6.out V hV;go_simp<;>rfl)) ?_;refine Xc (i:=18) (hy:=fun V hV=>(by obtain⟨m0,m1,m2⟩:=HC6.out V hV;go_simp<;>rfl)) ?_;refine Xv (by go_simp;rfl) ?_;refine Xc (i:=19) (hy:=fun V hV=>(by have m3:=HD.out V hV;go_simp<;>rfl)) ?_;by_cases h3:z.unt<y.unt
      ·have k5:decide (z.unt<y.unt)=true:=decide_eq_true h3
       have HN:=Xa (HT0.out h1 h2 (.inr ⟨b',hb',rfl,by rw[hz];exact h3⟩));clear h1 h2 h3 hb hz;refine Xc (i:=20) ?_;refine Xc (i:=21) ?_;refine Xc (i:=22) ?_;refine Xk hv (by kernel_rfl) ?_ _;clear HC6 hw6 HT0 HK0 HC;go_wp2_with fail
       go_roundw
       case rel=>exact⟨k+1,_,by omega,rfl,by go_num,HN.out,Xb HB6.out hv⟩
       case measure=>simp[intOf];omega
      ·have k5:decide (z.unt<y.unt)=false:=decide_eq_false h3
       have HN:=Xa (HK0.out (.inr (.inr ⟨b',hb',rfl,by rw[hz];omega⟩)));clear h1 h2 h3 hb hz;refine Xc (i:=20) ?_;refine Xc (i:=21) ?_;refine Xc (i:=22) ?_;refine Xk hv (by kernel_rfl) ?_ _;clear HC6 hw6 HT0 HK0 HC;go_wp2_with fail
       go_roundw
       case rel=>exact⟨k+1,_,by omega,rfl,by go_num,HN.out,Xb HB6.out hv⟩
       case measure=>simp[intOf];omega
     ·obtain rfl:k=its.xs.length:=by omega
      have hbA:=hb.out;unfold Xbj at hbA;rw[List.take_length] at hbA;rcases hbA with ⟨rfl,hwn⟩|⟨b',hb',rfl,hws⟩
      ·have Hw:=Xa (Xxv (n:=(s.xs.length:Int)) (by omega) hwn)
       clear hwn hb;go_wp2_with fail
       go_roundw
       case rel=>exact⟨A9,_,c9,L,m+1,rfl,rfl,by go_num,by omega,HR.out.1.ext hBz.out,Xb HR.out.2.1 hBz.out,by have:=HR.out.2.2.1;omega,by have h:=HR.out.2.2.2.1;rw[Hw.out] at h;exact h,HR.out.2.2.2.2.ext hBz.out⟩
       case measure=>simp[intOf];omega
      ·obtain⟨q1,q2,q3,q4⟩:=Xf1 hws
       obtain⟨p1,p2,p3⟩:=Ho.out.place _ (List.getElem_mem hb');have hts:=Ho.out.tgt _ (List.getElem_mem hb');obtain⟨ut,hut⟩:∃ut:Nat,its.xs[b'].unt=(ut:Int):=⟨its.xs[b'].unt.toNat,by omega⟩
       have Hw:=Xa (Xl3 (fun x hx=>(Ho.out.place x hx).2.1) (n:=(s.xs.length:Int)) (by omega) hws);have Hm2:Hid (m<ut):=(by show m<ut;omega);have Hm3:Hid (ut<=s.xs.length):=(by show ut<=s.xs.length;omega);obtain⟨bi,oi,hA,hbb,hc⟩:=Hi4.out.lies.at_ ItemG.size_cells (by omega) hb'
       have HU:Hid (∀V,Below W4.heap.size W4 V->V.cell? ⟨bi,oi+b'*6+2,none⟩=some (.int .i64 (ut:Int))):=fun V hV=>by
        rw[<- hut];exact hc b' hb' V hV 2 _ rfl
       have hB8:=Xb HR.out.2.1 hBz.out;obtain⟨w7,hw7⟩:∃w7,wz.alloc (.cells #[.int .i64 (-1),.int .i64 (b':Int),.int .i64 0,.int .i64 0,.slice none 0 0] 37)=w7:=⟨_,rfl⟩
       have hb7:=X5 hw7;have hk7:=Yg hw7;have HB7:=Xa (Xb hB8 hb7);have hg7:=(HB7.out.block _ hw4).trans hg4'.out;have FW:Hid (Calls Tryz.prog 98 #[g.vl,.slice its.addr its.xs.length its.cap,.agg #[.int .i64 (-1),.int .i64 (b':Int),.int .i64 0,.int .i64 0,.slice none 0 0]] w7 _):=Xjm g its (Xgl b') w7;have HP:=Xa (fun (x:ItemG) (hx:x∈its.xs)=>(show (0:Int)<=x.frm/\x.frm<x.unt/\x.unt<=16 from ⟨(Ho.out.place x hx).1,(Ho.out.place x hx).2.1,by have:=(Ho.out.place x hx).2.2;omega⟩));have HR7:=Xa (HR.out.1.ext (Xb hBz.out hb7));have Hbw7:=Xa hb7;have Hts:=Xa hts;have hAd:=Xa hA;have Hb:=Xa hb';have Hut:=Xa hut;have HW7:=Xa hw7;have Hg7:=Xa hg7;have Hk7:=Xa hk7;clear q4 q1 q2 q3 p1 p2 p3 hts hut hc hbb hA hB8 hb7 hk7 hg7 hws hb hkg hw7
       go_upto_region 23 with fail
       rw[HW7.out];have hg7:=Hg7.out;have hk7:=Hk7.out;obtain⟨c0,c1,c2,c3,c4,c5⟩:=gb6 hg7;obtain⟨d0,d1,d2,d3,d4⟩:=gb5 hk7;clear hg7 hk7;go_wp2_with fail
       refine FW.out.mono ?_;rintro e w8 ⟨rfl,hw8⟩;have hb8:Below w7.heap.size w7 w8:=(by rw[<- hw8];exact Xg (Xg ba_q _) _);have FC:=Xa (Xc2 (P:=fun _=>False) (HG4.out.ext HB7.out) (Hi4.out.ext HB7.out) (Xrn _ _ b') (WellT.leaf (by decide) rfl Hb.out) (by simp[Yr,Yv]) HP.out Ho.out.tgt Hru.out.1 Hru.out.2 hw8);clear hw8 c0 c1 c2 c3 c4 c5 d0 d1 d2 d3 d4;go_wp2_with fail
       refine FC.out.mono ?_;intro e w9 h9;obtain⟨A6,n6,c6,L6,rfl,hn6,hr6,hl6,hf6,hb9⟩:=Xn1 h9;rw[Xs4 Hb.out] at hl6
       have hlen:L6.length<=8:=by
        have h:=congrArg List.length hl6;unfold Uf at h;rw[List.length_map,List.length_map] at h;have:=Hts.out;omega
       have HB9:=Xb HB7.out (Xb hb8 hb9);obtain⟨A',n',c',V',hrun,hn',hrow,hbel,hdk⟩:=RowT.append (HR7.out.ext (Xb hb8 hb9)) hr6 hn6 HB9.size (by have:=HR.out.2.2.1;omega) 65;have HB':=Xa (HB9.trans hbel);have HF':Hid (FarL W4.heap.size (L++L6) V'):=fun x hx=>hdk _ x ((List.mem_append.1 hx).elim (fun hx=>(HR.out.2.2.2.2.ext (Xb hBz.out (Xb Hbw7.out (Xb hb8 hb9)))) x hx) fun hx=>(hf6.mono (Nat.le_trans HB7.out.size hb8.size)) x hx);have Hrow:=Xa hrow;have Hn':=Xa hn';have Hl6:=Xa hl6;have Hlen:=Xa hlen;have mU:=HU.out V' HB'.out;rw[hAd.out];have Hrun:=Xa hrun;clear h9 hn6 hr6 hl6 hb9 hlen HB9 hn' hrow hbel hdk hf6 FC hb8 hrun;go_wp2_with (at_builtin;refine Xdy rfl _ _ 65 rfl rfl rfl Hrun.out ?_)
       rw[<- hAd.out];go_roundw
       case rel=>exact⟨A',n',c',L++L6,ut,rfl,Hn'.out,rfl,Hm3.out,Hrow.out,HB'.out,by have:=HR.out.2.2.1;have:=Hlen.out;have:=Hm2.out;rw[List.length_append];omega,by rw[List.map_append,Hl6.out,List.append_assoc];have h:=HR.out.2.2.2.1;rw[Hw.out,Hut.out] at h;exact h,HF'.out⟩
       case measure=>have:=Hm2.out;simp[intOf];omega
   ·obtain rfl:m=s.xs.length:=by omega
    have HBr:=Xa (Xb HB4.out HR.out.2.1);have Hr:=Xa (HR.out.1.mono HB4.out.size);have Hfa:=Xa (HR.out.2.2.2.2.mono HB4.out.size)
    have Hl:Hid (L.map TgG.c=wbwT its.xs s.xs.length 0):=by
     have h:=HR.out.2.2.2.1;rw[Xji _ (Int.le_refl _),List.append_nil] at h;exact h
    go_wp2_with fail
    refine bodyPost_ret (v:=.tuple #[.slice A9 L.length c9,.bool false,.int .i64 0]) (by simp[results,Tryz.results41,go_sem]) rfl ?_;exact⟨HBr.out,_,_,_,L,by rw[HT1.out,HZ.out],rfl,Hr.out,by rw[HT1.out];exact Hl.out,Hfa.out⟩
theorem Xjr (g:Gram) (A:Option Addr) (cp:Nat) (l:List Term) (lang:Int) (s:StrS) (t u:Int) (w:World) (hT:TabsG w) (hg:g.lies w) (hgs:g.short) (hr:TermsAt w A l) (hm:l.length<=9223372036854775807) (hs:s.lies w) :
  Calls Tryz.prog 41 #[g.vl,.slice A l.length cp,.int .i64 lang,.slice s.addr s.xs.length s.cap,.int .i64 t,.int .i64 u] w (TrPost g l lang s.xs t u w) :=
 (Xcz g A cp l lang s t u w hT hg hgs hr hm hs).mono fun _ _ ⟨hb,A,n,c,L,h1,h2,h3,h4,_⟩=>⟨hb,A,n,c,L,h1,h2,h3,h4⟩
def b0:ByteArray:=⟨#[]⟩
def bN:ByteArray:=⟨#[110]⟩
theorem Xaj {W:World} {b t:Nat} {cs:Array Value} {xs:List ByteArray} {n:Nat} (h:W.heap[b]? = some (.cells cs t (0,0))) (hc:cs.toList=strs xs) (hm:xs.length<=1024) (hn:n=xs.length):StrS.lies W ⟨some ⟨b,0,none⟩,n,xs⟩:=by
 subst hn;exact⟨Zg h hc,Nat.le_refl _,by show xs.length<=_;omega,fun h=>by cases h⟩
end Go.Proofs.YtolpbjjapodmnaaGreatDoor
