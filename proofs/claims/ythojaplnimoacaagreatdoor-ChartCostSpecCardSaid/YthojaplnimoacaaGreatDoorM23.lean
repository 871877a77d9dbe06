/- Texts of this claim, one after the other: Chwk, Chwl, Chwn, R29d, R29e, Law29a. -/
import Derived.Test.YthojaplnimoacaaGreatDoorM22
import Derived.Test.YthojaplnimoacaaGreatDoorM17
import Derived.Test.YthojaplnimoacaaGreatDoorM13
import Derived.Test.YthojaplnimoacaaGreatDoorM14
namespace Go.Proofs.YthojaplnimoacaaGreatDoor
open Go.RowKit Go.Han
attribute [local irreducible] wpStill wpQuiet
set_option maxRecDepth 100000
def SentX (X:Nat→Prop) (g:Gram) (its:SlS ItemG) (n:Int) (W1:World) (y:Nat×Nat×FoundG) (v:World):Prop :=
 v.heap[y.1]? = some (.cells #[.bool y.2.2.ok,.int .i64 y.2.2.cost,.int .i64 y.2.2.rule,.int .i64 y.2.2.item,.int .i64 y.2.2.frm,.int .i64 y.2.2.unt,.slice y.2.2.kids.addr y.2.2.kids.len y.2.2.kids.cap,.int .i64 y.2.2.many] 86 (0,0))∧FoundOk X v y.2.2 (Fd.of bigN (derG g its.xs g.startNo 0 n.toNat))∧Below W1.heap.size W1 v
theorem Xis (X:Nat→Prop) (g:Gram) (its:SlS ItemG) (n:Int) {U V:World} {cb kb wb top:Nat} (hX:∀b,X b→b<V.heap.size) (hg:g.lies U) (hi:ItemsAt U its) (h0:errC g its.xs n=0) (hE:ChEnv U cb kb wb top g its n.toNat V) (hK:KnownF (fun _=>False) g its.xs n.toNat kb (fun _=>none) V) :
  Calls Tryz.prog 54 #[.pointer (some ⟨cb,0,none⟩),.agg #[.int .i64 g.startNo,.int .i64 0,.int .i64 n]] V fun e w'=>∃fd,e = .returned (.agg #[.bool fd.ok,.int .i64 fd.cost,.int .i64 fd.rule,.int .i64 fd.item,.int .i64 fd.frm,.int .i64 fd.unt,.slice fd.kids.addr fd.kids.len fd.kids.cap,.int .i64 fd.many])∧FoundOk X w' fd (Fd.of bigN (derG g its.xs g.startNo 0 n.toNat))∧Only (fun j=>j=kb) V w':=by
 have hA:=Vz h0
 have h1:=hA.n1
 have hn:((n.toNat:Nat):Int)=n:=by omega
 have h:=Xe3 hA.gram hA.items hg hi hA.few (by have:=hA.n16;omega) (muG g g.startNo 0 n.toNat+1) g.startNo 0 n.toNat (Nat.lt_succ_self _) hA.gram.start.1 hA.gram.start.2 (by omega) (Nat.le_refl _) X (fun _=>none) V hX hE ⟨hK.map,fun _ _ h=>by cases h⟩
 rw[hn] at h
 refine h.mono ?_
 rintro e w' ⟨fd,f',h2,h3,_,_,h4⟩
 exact⟨fd,h2,h3,h4⟩
def Xeh (g:Gram) (its:SlS ItemG) (n:Int) (w:World) (e:Ending) (w':World):Prop :=
 ∃x:TreeG,e = .returned (.tuple #[.agg #[.int .i64 x.rule,.int .i64 x.item,.int .i64 x.frm,.int .i64 x.unt,.slice x.kids.addr x.kids.len x.kids.cap],.int .i64 (Zk g its.xs n).2.1,.bool (Zk g its.xs n).2.2.1,.int .i64 (Zk g its.xs n).2.2.2])∧TreeW (fun b=>b<w.heap.size) w' (Zk g its.xs n).1 x∧Below w.heap.size w w'
theorem Xb1 (X:Nat→Prop) (w:World):TreeW X w Un Qr:=by
 unfold TreeW Un Qr TreeAt
 exact⟨none,0,[],rfl,Nat.le_refl _,by omega,fun _=>rfl,fun h=>absurd h (by simp),.inl rfl,by unfold KidsAt;rfl⟩
theorem Xiu {X:Nat→Prop} {W:World} {fd:FoundG} {g:Gram} {its:List ItemG} {n:Int} (h0:errC g its n=0) (h:FoundOk X W fd (Fd.of bigN (derG g its g.startNo 0 n.toNat))) :
  (Zk g its n).2.1=fd.cost∧(Zk g its n).2.2.1=fd.ok∧(Zk g its n).2.2.2=0∧TreeW X W (Zk g its n).1 fd.tree:=by
 have hb:=h.best
 change match Xdl g its n with|none=>_|some (c,t)=>_ at hb
 unfold Zk
 rw[if_neg (by simp[h0])]
 cases hc:Xdl g its n with
 | none =>
  rw[hc] at hb
  obtain⟨h1,h2,h3⟩:=hb
  exact⟨h2.symm,h1.symm,rfl,by rw[h3];exact Xb1 _ _⟩
 | some y =>
  rw[hc] at hb
  obtain⟨h1,h2,h3⟩:=hb
  exact⟨h2.symm,h1.symm,rfl,h3⟩
def set5 (V:World) (b:Nat) (y:TreeG):World:=(((((V.setCell ⟨b,0,none⟩ (.int .i64 y.rule)).setCell ⟨b,1,none⟩ (.int .i64 y.item)).setCell ⟨b,2,none⟩ (.int .i64 y.frm)).setCell ⟨b,3,none⟩ (.int .i64 y.unt)).setCell ⟨b,4,none⟩ (.slice y.kids.addr y.kids.len y.kids.cap))
theorem U7 (V:World) (b:Nat) (y:TreeG):Only (fun j=>j=b) V (set5 V b y):=by
 unfold set5
 have st:∀(U:World) (n:Nat) (u:Value),Only (fun j=>j=b) V U→Only (fun j=>j=b) V (U.setCell ⟨b,n,none⟩ u):=fun U n u h=>Only.setCell (M:=fun j=>j=b) h (p:=⟨b,n,none⟩) (.inl rfl) u
 exact st _ _ _ (st _ _ _ (st _ _ _ (st _ _ _ (st _ _ _ (Only.refl _ V)))))
theorem Xcl {V:World} {b:Nat} {x:TreeG} (h:V.heap[b]? = some (.cells #[.int .i64 x.rule,.int .i64 x.item,.int .i64 x.frm,.int .i64 x.unt,.slice x.kids.addr x.kids.len x.kids.cap] 32 (0,0))) (y:TreeG):(set5 V b y).heap[b]? = some (.cells #[.int .i64 y.rule,.int .i64 y.item,.int .i64 y.frm,.int .i64 y.unt,.slice y.kids.addr y.kids.len y.kids.cap] 32 (0,0)):=by
 have h1:(V.setCell ⟨b,0,none⟩ (.int .i64 y.rule)).heap[b]? = some (.cells #[.int .i64 y.rule,.int .i64 x.item,.int .i64 x.frm,.int .i64 x.unt,.slice x.kids.addr x.kids.len x.kids.cap] 32 (0,0)):=Xr h 0 _
 have h2:((V.setCell ⟨b,0,none⟩ (.int .i64 y.rule)).setCell ⟨b,1,none⟩ (.int .i64 y.item)).heap[b]? = some (.cells #[.int .i64 y.rule,.int .i64 y.item,.int .i64 x.frm,.int .i64 x.unt,.slice x.kids.addr x.kids.len x.kids.cap] 32 (0,0)):=Xr h1 1 _
 have h3:(((V.setCell ⟨b,0,none⟩ (.int .i64 y.rule)).setCell ⟨b,1,none⟩ (.int .i64 y.item)).setCell ⟨b,2,none⟩ (.int .i64 y.frm)).heap[b]? = some (.cells #[.int .i64 y.rule,.int .i64 y.item,.int .i64 y.frm,.int .i64 x.unt,.slice x.kids.addr x.kids.len x.kids.cap] 32 (0,0)):=Xr h2 2 _
 have h4:((((V.setCell ⟨b,0,none⟩ (.int .i64 y.rule)).setCell ⟨b,1,none⟩ (.int .i64 y.item)).setCell ⟨b,2,none⟩ (.int .i64 y.frm)).setCell ⟨b,3,none⟩ (.int .i64 y.unt)).heap[b]? = some (.cells #[.int .i64 y.rule,.int .i64 y.item,.int .i64 y.frm,.int .i64 y.unt,.slice x.kids.addr x.kids.len x.kids.cap] 32 (0,0)):=Xr h3 3 _
 exact Xr h4 4 _
set_option maxHeartbeats 2000000 in
theorem Xia (g:Gram) (its:SlS ItemG) (n:Int) (w:World) (hT:TabsG w) (hg:g.lies w) (hs:g.short) (hi:ItemsAt w its):Calls Tryz.prog 17 #[.agg #[.string g.name,.slice g.cats.addr g.cats.xs.length g.cats.cap,.string g.start,.int .i64 g.startNo,.slice g.entries.addr g.entries.xs.length g.entries.cap,.slice g.rules.addr g.rules.xs.length g.rules.cap],.slice its.addr its.xs.length its.cap,.int .i64 n] w (Xeh g its n w):=by
 obtain⟨W1,hW1⟩:∃W1,((w.alloc (.cells #[.string g.name,.slice g.cats.addr g.cats.xs.length g.cats.cap,.string g.start,.int .i64 g.startNo,.slice g.entries.addr g.entries.xs.length g.entries.cap,.slice g.rules.addr g.rules.xs.length g.rules.cap] 26)).alloc (.cells #[.int .i64 0,.int .i64 0,.int .i64 0,.int .i64 0,.slice none 0 0] 32)).alloc (.cells #[.int .i64 0] 33)=W1:=⟨_,rfl⟩
 have hB1:Below w.heap.size w W1:=by rw[← hW1];exact Xe (Xe (Xe (Below.refl _ _) _) _) _
 have hk:W1.heap[w.heap.size]? = some (.cells #[.string g.name,.slice g.cats.addr g.cats.xs.length g.cats.cap,.string g.start,.int .i64 g.startNo,.slice g.entries.addr g.entries.xs.length g.entries.cap,.slice g.rules.addr g.rules.xs.length g.rules.cap] 26 (0,0)):=by rw[← hW1];exact(Below.heap_alloc _ _ _ (by simp;omega)).trans ((Below.heap_alloc _ _ _ (by simp)).trans (World.alloc_heap_new _ _))
 have he:W1.heap[w.heap.size+2]? = some (.cells #[.int .i64 0] 33 (0,0)):=by rw[← hW1];exact X0 _ _ _ (by simp)
 have htb:W1.heap[w.heap.size+1]? = some (.cells #[.int .i64 0,.int .i64 0,.int .i64 0,.int .i64 0,.slice none 0 0] 32 (0,0)):=by rw[← hW1];exact(Below.heap_alloc _ _ _ (by simp)).trans (X0 _ _ _ (by simp))
 have HBo:=Xa (fun U (hU:Below W1.heap.size W1 U) h0=>Xeo g its n U (hT.ext (Xb hB1 hU)) (hg.ext (Xb hB1 hU)) hs (hi.ext (Xb hB1 hU)) h0)
 have HBe:=Xa (fun U (hU:Below W1.heap.size W1 U) h0=>Xen g its n U (hT.ext (Xb hB1 hU)) (hg.ext (Xb hB1 hU)) hs (hi.ext (Xb hB1 hU)) h0)
 have HFi:=Xa (fun U V (hU:Below W1.heap.size W1 U) (hV:Below W1.heap.size W1 V) cb kb wb top h0 hE hK=>Xis (fun b=>b<W1.heap.size) g its n (U:=U) (V:=V) (cb:=cb) (kb:=kb) (wb:=wb) (top:=top) (fun b hb=>Nat.lt_of_lt_of_le hb hV.size) (hg.ext (Xb hB1 hU)) (hi.ext (Xb hB1 hU)) h0 hE hK)
 have HB1:=Xa hB1
 have He:=Xa he
 have Htb:=Xa htb
 have hkl:=Xc hk
 have HC:Hid (∀V:World,V.heap[w.heap.size]? = W1.heap[w.heap.size]? → (V.cell? ⟨w.heap.size,0,none⟩=some (.string g.name)∧V.cell? ⟨w.heap.size,1,none⟩=some (.slice g.cats.addr g.cats.xs.length g.cats.cap)∧V.cell? ⟨w.heap.size,2,none⟩=some (.string g.start)∧V.cell? ⟨w.heap.size,3,none⟩=some (.int .i64 g.startNo)∧V.cell? ⟨w.heap.size,4,none⟩=some (.slice g.entries.addr g.entries.xs.length g.entries.cap)∧V.cell? ⟨w.heap.size,5,none⟩=some (.slice g.rules.addr g.rules.xs.length g.rules.cap))):=fun V hV=>by
  have h:=hV.trans hk
  exact⟨gblk h 0,gblk h 1,gblk h 2,gblk h 3,gblk h 4,gblk h 5⟩
 have hz1:w.heap.size+2<W1.heap.size:=Xc he
 clear hT hg hs hi hk he htb hB1
 by_cases h0:errC g its.xs n=0
 rotate_left
 ·have hR:Zk g its.xs n=(Un,0,false,errC g its.xs n):=by unfold Zk;rw[if_pos h0]
  have HR:=Xa hR
  have H0:=Xa h0
  clear hR h0
  go_enter_defers Tryz.func17,Tryz.ntmps17
  go_wp2_with fail
  refine wpIn_wide (n:=0) |>.1 ?_
  refine Xd1 10 (fun ch v=>ch=Q1 (errC g its.xs n)∧Below W1.heap.size W1 v) ?_ ?_
  ·refine Xo (fun V=>(V.cell? ⟨w.heap.size,0,none⟩=some (.string g.name)∧V.cell? ⟨w.heap.size,1,none⟩=some (.slice g.cats.addr g.cats.xs.length g.cats.cap)∧V.cell? ⟨w.heap.size,2,none⟩=some (.string g.start)∧V.cell? ⟨w.heap.size,3,none⟩=some (.int .i64 g.startNo)∧V.cell? ⟨w.heap.size,4,none⟩=some (.slice g.entries.addr g.entries.xs.length g.entries.cap)∧V.cell? ⟨w.heap.size,5,none⟩=some (.slice g.rules.addr g.rules.xs.length g.rules.cap))) (by kernel_rfl) ?_
   have hC0:=HC.out W1.drew rfl
   refine Xd (i:=0) rfl (by kernel_rfl) (fun _ _ _ h=>h.put (by kernel_rfl)) (fun V hV=>(by obtain⟨r1,r2,r3,r4,r5,r6⟩:=hV;go_simp<;>rfl)) ?_
   refine Xd (i:=1) rfl (by kernel_rfl) (fun _ _ _ h=>h.put (by kernel_rfl)) (fun V hV=>(by obtain⟨r1,r2,r3,r4,r5,r6⟩:=hV;go_simp<;>rfl)) ?_
   refine Xd (i:=2) rfl (by kernel_rfl) (fun _ _ _ h=>h.put (by kernel_rfl)) (fun V hV=>(by obtain⟨r1,r2,r3,r4,r5,r6⟩:=hV;go_simp<;>rfl)) ?_
   refine Xd (i:=4) rfl (by kernel_rfl) (fun _ _ _ h=>h.put (by kernel_rfl)) (fun V hV=>(by obtain⟨r1,r2,r3,r4,r5,r6⟩:=hV;go_simp<;>rfl)) ?_
   refine Xd (i:=5) rfl (by kernel_rfl) (fun _ _ _ h=>h.put (by kernel_rfl)) (fun V hV=>(by obtain⟨r1,r2,r3,r4,r5,r6⟩:=hV;go_simp<;>rfl)) ?_
   refine Xd (i:=6) rfl (by kernel_rfl) (fun _ _ _ h=>h.put (by kernel_rfl)) (fun V hV=>(by obtain⟨r1,r2,r3,r4,r5,r6⟩:=hV;go_simp<;>rfl)) ?_
   refine Xd (i:=7) rfl (by kernel_rfl) (fun _ _ _ h=>h.put (by kernel_rfl)) (fun V hV=>(by obtain⟨r1,r2,r3,r4,r5,r6⟩:=hV;go_simp<;>rfl)) ?_
   refine Xs (rs:=[3,9]) hC0 (by kernel_rfl) (by simp) (AllC.cons rfl (fun K hK=>?_) (AllC.cons rfl (fun K hK=>?_) AllC.nil))
   ·go_simp
    refine⟨trivial,rfl,callsIn_wide.2 ((HBe.out _ (Xi (Below.refl _ _)) H0.out).mono ?_)⟩
    rintro e9 w9 ⟨rfl,hB9⟩
    exact⟨_,rfl,KeepF.of_take rfl rfl,rfl,Xb (Xi (Below.refl _ _)) hB9⟩
   ·go_simp
    refine hK _ _ ?_
    clear hK K
    have hBz:Below W1.heap.size W1 (W1.alloc (.cells #[.bool false,.int .i64 0,.int .i64 0,.int .i64 0,.int .i64 0,.int .i64 0,.slice none 0 0,.int .i64 0] 86)).drew:=Xi (Xe (Below.refl _ _) _)
    refine Xg (i:=3) (HC.out _ (hBz.block _ hkl)) (by kernel_rfl) rfl (fun K hK=>?_)
    go_simp
    refine⟨trivial,rfl,callsIn_wide.2 ((HBe.out _ hBz H0.out).mono ?_)⟩
    rintro e9 w9 ⟨rfl,hB9⟩
    exact⟨_,rfl,KeepF.of_take rfl rfl,rfl,Xb hBz hB9⟩
  ·rintro ch a' v ⟨hd,ht⟩ ⟨rfl,hB9⟩
   show Leaves _ _ a'.tmps _ a'.defers _ _
   rw[hd]
   refine leaves_cons (f:=52) (args:=#[.pointer (some ⟨w.heap.size+2,0,none⟩)]) (by simp) (by simp[go_sem]) ?_
   have hev:v.heap[w.heap.size+2]? = some (.cells #[.int .i64 0] 33 (0,0)):=(hB9.block _ hz1).trans He.out
   refine(Us _ _ _ _ hev).mono ?_
   rintro e u' w'' ⟨rfl,rfl,rfl⟩
   have ht6:=ht 6 (by omega)
   have ht7:=ht 7 (by omega)
   have ht8:=ht 8 (by omega)
   have ht9:=ht 9 (by omega)
   have htv:=Xh hB9 Htb.out
   have zt0:=gblk htv 0
   have zt1:=gblk htv 1
   have zt2:=gblk htv 2
   have zt3:=gblk htv 3
   have zt4:=gblk htv 4
   simp[Leaves,settle,results,Tryz.results17,go_sem,Xj hev,ht6,ht7,ht8,ht9,zt0,zt1,zt2,zt3,zt4]
   refine⟨Qr,?_,?_,?_⟩
   ·rw[HR.out];rfl
   ·rw[HR.out];exact Xb1 _ _
   ·exact(Xb HB1.out hB9).setCell (p:=⟨w.heap.size+2,0,none⟩) (by show w.heap.size≤w.heap.size+2;omega) _
 ·have H0:=Xa h0
  clear h0
  go_enter_defers Tryz.func17,Tryz.ntmps17
  go_wp2_with fail
  refine wpIn_wide (n:=0) |>.1 ?_
  refine Td (fun (y:Nat×Nat×FoundG) a=>{a with tmps:=(((((((((a.tmps.setIfInBounds 11 (.agg #[.string g.name,.slice g.cats.addr g.cats.xs.length g.cats.cap,.string g.start,.int .i64 g.startNo,.slice g.entries.addr g.entries.xs.length g.entries.cap,.slice g.rules.addr g.rules.xs.length g.rules.cap])).setIfInBounds 12 (.slice its.addr its.xs.length its.cap)).setIfInBounds 13 (.int .i64 n)).setIfInBounds 15 (.pointer (some ⟨w.heap.size,3,none⟩))).setIfInBounds 16 (.int .i64 g.startNo)).setIfInBounds 17 (.int .i64 n)).setIfInBounds 18 (.agg #[.int .i64 g.startNo,.int .i64 0,.int .i64 n])).setIfInBounds 14 (.pointer (some ⟨y.2.1,0,none⟩))).setIfInBounds 19 (.agg #[.bool y.2.2.ok,.int .i64 y.2.2.cost,.int .i64 y.2.2.rule,.int .i64 y.2.2.item,.int .i64 y.2.2.frm,.int .i64 y.2.2.unt,.slice y.2.2.kids.addr y.2.2.kids.len y.2.2.kids.cap,.int .i64 y.2.2.many])).setIfInBounds 10 (.pointer (some ⟨y.1,0,none⟩))}) (SentX (fun b=>b<W1.heap.size) g its n W1) ?_ ?_
  ·refine Xo (fun V=>(V.cell? ⟨w.heap.size,0,none⟩=some (.string g.name)∧V.cell? ⟨w.heap.size,1,none⟩=some (.slice g.cats.addr g.cats.xs.length g.cats.cap)∧V.cell? ⟨w.heap.size,2,none⟩=some (.string g.start)∧V.cell? ⟨w.heap.size,3,none⟩=some (.int .i64 g.startNo)∧V.cell? ⟨w.heap.size,4,none⟩=some (.slice g.entries.addr g.entries.xs.length g.entries.cap)∧V.cell? ⟨w.heap.size,5,none⟩=some (.slice g.rules.addr g.rules.xs.length g.rules.cap))) (by kernel_rfl) ?_
   have hC0:=HC.out W1.drew rfl
   refine Xd (i:=0) rfl (by kernel_rfl) (fun _ _ _ h=>h) (fun V hV=>(by obtain⟨r1,r2,r3,r4,r5,r6⟩:=hV;go_simp<;>rfl)) ?_
   refine Xd (i:=1) rfl (by kernel_rfl) (fun _ _ _ h=>h) (fun V hV=>(by obtain⟨r1,r2,r3,r4,r5,r6⟩:=hV;go_simp<;>rfl)) ?_
   refine Xd (i:=2) rfl (by kernel_rfl) (fun _ _ _ h=>h) (fun V hV=>(by obtain⟨r1,r2,r3,r4,r5,r6⟩:=hV;go_simp<;>rfl)) ?_
   refine Xd (i:=4) rfl (by kernel_rfl) (fun _ _ _ h=>h) (fun V hV=>(by obtain⟨r1,r2,r3,r4,r5,r6⟩:=hV;go_simp<;>rfl)) ?_
   refine Xd (i:=5) rfl (by kernel_rfl) (fun _ _ _ h=>h) (fun V hV=>(by obtain⟨r1,r2,r3,r4,r5,r6⟩:=hV;go_simp<;>rfl)) ?_
   refine Xd (i:=6) rfl (by kernel_rfl) (fun _ _ _ h=>h) (fun V hV=>(by obtain⟨r1,r2,r3,r4,r5,r6⟩:=hV;go_simp<;>rfl)) ?_
   refine Xd (i:=7) rfl (by kernel_rfl) (fun _ _ _ h=>h) (fun V hV=>(by obtain⟨r1,r2,r3,r4,r5,r6⟩:=hV;go_simp<;>rfl)) ?_
   refine Xs (rs:=[3,9]) hC0 (by kernel_rfl) (by simp) (AllC.cons rfl (fun K hK=>?_) (AllC.cons rfl (fun K hK=>?_) AllC.nil))
   ·go_simp
    refine⟨trivial,rfl,callsIn_wide.2 ((HBo.out _ (Xi (Below.refl _ _)) H0.out).mono ?_)⟩
    rintro e2 w2 ⟨cb,kb,wb,top,rfl,hE,hK2,hB2⟩
    refine hK _ _ ?_
    clear hK K
    have hB2':Below W1.heap.size W1 w2:=Xb (Xi (Below.refl _ _)) hB2
    have hkb:W1.heap.size≤kb∧kb<top:=hE.hk
    have htop:top≤w2.heap.size:=hE.top
    refine Xs (rs:=[8,9]) (HC.out _ (hB2'.block _ hkl)) (by kernel_rfl) (by simp) (AllC.cons rfl (fun K hK=>?_) (AllC.cons rfl (fun K hK=>?_) AllC.nil))
    ·go_simp
     refine⟨trivial,rfl,callsIn_wide.2 ((HFi.out _ _ (Xi (Below.refl _ _)) hB2' cb kb wb top H0.out hE hK2).mono ?_)⟩
     rintro e9 w9 ⟨fd,rfl,hok,hO⟩
     refine hK _ _ ?_
     clear hK K
     have hB9:Below W1.heap.size W1 w9:=Yf hB2' hB2'.size hO hkb.1
     refine Xg (i:=9) (HC.out _ (hB9.block _ hkl)) (by kernel_rfl) rfl (fun K hK=>?_)
     go_simp
     refine hK _ _ ?_
     clear hK K
     have hal:∀o,Below W1.heap.size W1 (w9.alloc o):=fun o=>Xe hB9 o
     refine Xg (i:=10) (HC.out _ ((hal _).block _ hkl)) (by kernel_rfl) rfl (fun K hK=>?_)
     go_simp
     refine hK _ _ ?_
     clear hK K
     have hBf:Below w9.heap.size w9 (w9.alloc (.cells #[.bool fd.ok,.int .i64 fd.cost,.int .i64 fd.rule,.int .i64 fd.item,.int .i64 fd.frm,.int .i64 fd.unt,.slice fd.kids.addr fd.kids.len fd.kids.cap,.int .i64 fd.many] 86)):=Xe (Below.refl _ _) _
     refine Xl (HC.out _ ((hal _).block _ hkl)) (by kernel_rfl) ?_ _
     refine⟨(w9.heap.size,cb,fd),?_,?_⟩
     ·kernel_rfl
     ·exact⟨World.alloc_heap_new _ _,hok.keep (fun _ _ h=>h.ext hBf),hal _⟩
    ·go_simp
     refine hK _ _ ?_
     clear hK K
     have hBy:Below w2.heap.size w2 (w2.alloc (.cells #[.bool false,.int .i64 0,.int .i64 0,.int .i64 0,.int .i64 0,.int .i64 0,.slice none 0 0,.int .i64 0] 86)):=Xe (Below.refl _ _) _
     have hzz0:(w2.alloc (.cells #[.bool false,.int .i64 0,.int .i64 0,.int .i64 0,.int .i64 0,.int .i64 0,.slice none 0 0,.int .i64 0] 86)).heap[w2.heap.size]? = some (.cells #[.bool false,.int .i64 0,.int .i64 0,.int .i64 0,.int .i64 0,.int .i64 0,.slice none 0 0,.int .i64 0] 86 (0,0)):=World.alloc_heap_new _ _
     have hBw:Below W1.heap.size W1 (w2.alloc (.cells #[.bool false,.int .i64 0,.int .i64 0,.int .i64 0,.int .i64 0,.int .i64 0,.slice none 0 0,.int .i64 0] 86)):=Xb hB2' hBy
     refine Xg (i:=8) (HC.out _ (hBw.block _ hkl)) (by kernel_rfl) rfl (fun K hK=>?_)
     go_simp
     refine⟨trivial,rfl,callsIn_wide.2 ((HFi.out _ _ (Xi (Below.refl _ _)) hBw cb kb wb top H0.out (hE.ext hBy) (hK2.ext hBy)).mono ?_)⟩
     rintro e9 w9 ⟨fd,rfl,hok,hO⟩
     refine hK _ _ ?_
     clear hK K
     have hnk:w2.heap.size≠kb:=by omega
     have hz9:w9.heap[w2.heap.size]? = some (.cells #[.bool false,.int .i64 0,.int .i64 0,.int .i64 0,.int .i64 0,.int .i64 0,.slice none 0 0,.int .i64 0] 86 (0,0)):=(hO.block _ (Xc hzz0) hnk).trans hzz0
     have zq0:=gblk hz9 0
     have zq1:=gblk hz9 1
     have zq2:=gblk hz9 2
     have zq3:=gblk hz9 3
     have zq4:=gblk hz9 4
     have zq5:=gblk hz9 5
     have zq6:=gblk hz9 6
     have zq7:=gblk hz9 7
     have hzf:=fun n=>Xf hz9 n
     have hzl:=Xc hz9
     have hB9:Below W1.heap.size W1 w9:=Yf hBw hBw.size hO hkb.1
     have Hz9:=Xa hz9
     have Hok:=Xa hok
     clear hz9 hzz0 hok
     refine Xg (i:=10) (HC.out _ (hB9.block _ hkl)) (by kernel_rfl) rfl (fun K hK=>?_)
     go_simp
     refine hK _ _ ?_
     clear hK K
     have hs8:=Ud w9 w2.heap.size fd
     have hB8:Below W1.heap.size W1 (set8 w9 w2.heap.size fd):=Yf hB9 hB9.size hs8 (by have:=hB2'.size;show W1.heap.size≤w2.heap.size;omega)
     refine Xl (HC.out _ (hB8.block _ hkl)) (by kernel_rfl) ?_ _
     refine⟨(w2.heap.size,cb,fd),?_,?_⟩
     ·kernel_rfl
     ·exact⟨Qn (f:=⟨false,0,0,0,0,0,⟨none,0,0⟩,0⟩) Hz9.out fd,Hok.out.keep (fun _ _ h=>h.only hs8 fun b hb h=>(Ym Hz9.out) (by rw[show b=w2.heap.size from hb] at h;exact h.1)),hB8⟩
   ·go_simp
    refine hK _ _ ?_
    clear hK K
    have hBz:Below W1.heap.size W1 (W1.alloc (.cells #[.bool false,.int .i64 0,.int .i64 0,.int .i64 0,.int .i64 0,.int .i64 0,.slice none 0 0,.int .i64 0] 86)).drew:=Xi (Xe (Below.refl _ _) _)
    refine Xg (i:=3) (HC.out _ (hBz.block _ hkl)) (by kernel_rfl) rfl (fun K hK=>?_)
    go_simp
    refine⟨trivial,rfl,callsIn_wide.2 ((HBo.out _ hBz H0.out).mono ?_)⟩
    rintro e2 w2 ⟨cb,kb,wb,top,rfl,hE,hK2,hB2⟩
    refine hK _ _ ?_
    clear hK K
    have hB2':Below W1.heap.size W1 w2:=Xb hBz hB2
    have hzz1:(W1.alloc (.cells #[.bool false,.int .i64 0,.int .i64 0,.int .i64 0,.int .i64 0,.int .i64 0,.slice none 0 0,.int .i64 0] 86)).drew.heap[W1.heap.size]? = some (.cells #[.bool false,.int .i64 0,.int .i64 0,.int .i64 0,.int .i64 0,.int .i64 0,.slice none 0 0,.int .i64 0] 86 (0,0)):=World.alloc_heap_new _ _
    have hzz0:=Xh hB2 hzz1
    have hkb0:(W1.alloc (.cells #[.bool false,.int .i64 0,.int .i64 0,.int .i64 0,.int .i64 0,.int .i64 0,.slice none 0 0,.int .i64 0] 86)).drew.heap.size≤kb∧kb<top:=hE.hk
    have hkb:W1.heap.size≤kb∧kb<top:=⟨Nat.le_trans hBz.size hkb0.1,hkb0.2⟩
    have hnk:W1.heap.size≠kb:=by have:=Xc hzz1;omega
    refine Xg (i:=8) (HC.out _ (hB2'.block _ hkl)) (by kernel_rfl) rfl (fun K hK=>?_)
    go_simp
    refine⟨trivial,rfl,callsIn_wide.2 ((HFi.out _ _ hBz hB2' cb kb wb top H0.out hE hK2).mono ?_)⟩
    rintro e9 w9 ⟨fd,rfl,hok,hO⟩
    refine hK _ _ ?_
    clear hK K
    have hz9:w9.heap[W1.heap.size]? = some (.cells #[.bool false,.int .i64 0,.int .i64 0,.int .i64 0,.int .i64 0,.int .i64 0,.slice none 0 0,.int .i64 0] 86 (0,0)):=(hO.block _ (Xc hzz0) hnk).trans hzz0
    have zq0:=gblk hz9 0
    have zq1:=gblk hz9 1
    have zq2:=gblk hz9 2
    have zq3:=gblk hz9 3
    have zq4:=gblk hz9 4
    have zq5:=gblk hz9 5
    have zq6:=gblk hz9 6
    have zq7:=gblk hz9 7
    have hzf:=fun n=>Xf hz9 n
    have hzl:=Xc hz9
    have hB9:Below W1.heap.size W1 w9:=Yf hB2' hB2'.size hO hkb.1
    have Hz9:=Xa hz9
    have Hok:=Xa hok
    clear hz9 hzz0 hok
    refine Xg (i:=10) (HC.out _ (hB9.block _ hkl)) (by kernel_rfl) rfl (fun K hK=>?_)
    go_simp
    refine hK _ _ ?_
    clear hK K
    have hs8:=Ud w9 W1.heap.size fd
    have hB8:Below W1.heap.size W1 (set8 w9 W1.heap.size fd):=Yf hB9 hB9.size hs8 (by have:=hB2'.size;show W1.heap.size≤W1.heap.size;omega)
    refine Xl (HC.out _ (hB8.block _ hkl)) (by kernel_rfl) ?_ _
    refine⟨(W1.heap.size,cb,fd),?_,?_⟩
    ·kernel_rfl
    ·exact⟨Qn (f:=⟨false,0,0,0,0,0,⟨none,0,0⟩,0⟩) Hz9.out fd,Hok.out.keep (fun _ _ h=>h.only hs8 fun b hb h=>(Ym Hz9.out) (by rw[show b=W1.heap.size from hb] at h;exact h.1)),hB8⟩
  ·rintro⟨bx,cb,⟨ok2,cost2,ru2,it2,fr2,un2,kd2,my2⟩⟩ v H
   obtain⟨hbx,hok,hB⟩:=H
   obtain⟨u,hu⟩:∃u,v.drew=u:=⟨_,rfl⟩
   have hbu:=show v.drew.heap[bx]? = _ from hbx
   rw[hu] at hbu
   have hoku:=hok.keep (fun _ _ h=>h.ext (Xi (Below.refl v.heap.size v)))
   rw[hu] at hoku
   have hBu:Below W1.heap.size W1 u:=by rw[← hu];exact Xi hB
   clear hbx hok hB
   have zz0:=gblk hbu 0
   have zz1:=gblk hbu 1
   have zz2:=gblk hbu 2
   have zz3:=gblk hbu 3
   have zz4:=gblk hbu 4
   have zz5:=gblk hbu 5
   have zz6:=gblk hbu 6
   have zz7:=gblk hbu 7
   have hev:u.heap[w.heap.size+2]? = some (.cells #[.int .i64 0] 33 (0,0)):=(hBu.block _ hz1).trans He.out
   have htv:u.heap[w.heap.size+1]? = _:=Xh hBu Htb.out
   have zt0:=gblk htv 0
   have zt1:=gblk htv 1
   have zt2:=gblk htv 2
   have zt3:=gblk htv 3
   have zt4:=gblk htv 4
   have zf:=fun n=>Xf htv n
   have ce:=Xj hev
   have fe:=Xf hev 0
   have hne:bx≠w.heap.size+1:=by
    rintro rfl
    rw[htv] at hbu
    have h:=Option.some.inj hbu
    injection h with _ h2 _
    exact absurd h2 (by decide)
   have hne2:bx≠w.heap.size+2:=by
    rintro rfl
    rw[hev] at hbu
    have h:=Option.some.inj hbu
    injection h with _ h2 _
    exact absurd h2 (by decide)
   have hlt:=Xc hbu
   have HB9:=Xa (Xb HB1.out hBu)
   have Hev:=Xa hev
   have Hok:=Xa hoku
   have Htv:=Xa htv
   have Hbx:=Xa hbu
   clear hbu hoku hBu hev htv
   gi_wp2_with fail
   go_wp2_with fail
   refine wpIn_wide (n:=0) |>.1 ?_
   apply Xbz (w':=(set5 u (w.heap.size+1) ⟨ru2,it2,fr2,un2,kd2⟩).setCell ⟨w.heap.size+2,0,none⟩ (.int .i64 0))
   ·refine Xo (fun V=>V.cell? ⟨bx,0,none⟩=some (.bool ok2)∧V.cell? ⟨bx,1,none⟩=some (.int .i64 cost2)∧V.cell? ⟨bx,2,none⟩=some (.int .i64 ru2)∧V.cell? ⟨bx,3,none⟩=some (.int .i64 it2)∧V.cell? ⟨bx,4,none⟩=some (.int .i64 fr2)∧V.cell? ⟨bx,5,none⟩=some (.int .i64 un2)∧V.cell? ⟨bx,6,none⟩=some (.slice kd2.addr kd2.len kd2.cap)) (by kernel_rfl) ?_
    rw[hu]
    refine Xd (i:=0) rfl (by kernel_rfl) (fun _ _ _ h=>h) (fun V hV=>(by obtain⟨r1,r2,r3,r4,r5,r6,r7⟩:=hV;go_simp<;>rfl)) ?_
    refine Xd (i:=1) rfl (by kernel_rfl) (fun _ _ _ h=>h) (fun V hV=>(by obtain⟨r1,r2,r3,r4,r5,r6,r7⟩:=hV;go_simp<;>rfl)) ?_
    refine Xd (i:=2) rfl (by kernel_rfl) (fun _ _ _ h=>h) (fun V hV=>(by obtain⟨r1,r2,r3,r4,r5,r6,r7⟩:=hV;go_simp<;>rfl)) ?_
    refine Xd (i:=3) rfl (by kernel_rfl) (fun _ _ _ h=>h) (fun V hV=>(by obtain⟨r1,r2,r3,r4,r5,r6,r7⟩:=hV;go_simp<;>rfl)) ?_
    refine Xd (i:=4) rfl (by kernel_rfl) (fun _ _ _ h=>h) (fun V hV=>(by obtain⟨r1,r2,r3,r4,r5,r6,r7⟩:=hV;go_simp<;>rfl)) ?_
    refine Xd (i:=5) rfl (by kernel_rfl) (fun _ _ _ h=>h) (fun V hV=>(by obtain⟨r1,r2,r3,r4,r5,r6,r7⟩:=hV;go_simp<;>rfl)) ?_
    have hC:∀V:World,V.heap[bx]? = u.heap[bx]? → (V.cell? ⟨bx,0,none⟩=some (.bool ok2)∧V.cell? ⟨bx,1,none⟩=some (.int .i64 cost2)∧V.cell? ⟨bx,2,none⟩=some (.int .i64 ru2)∧V.cell? ⟨bx,3,none⟩=some (.int .i64 it2)∧V.cell? ⟨bx,4,none⟩=some (.int .i64 fr2)∧V.cell? ⟨bx,5,none⟩=some (.int .i64 un2)∧V.cell? ⟨bx,6,none⟩=some (.slice kd2.addr kd2.len kd2.cap)):=fun V hV=>by
     have h:=hV.trans Hbx.out
     exact⟨gblk h 0,gblk h 1,gblk h 2,gblk h 3,gblk h 4,gblk h 5,gblk h 6⟩
    have HC2:=Xa hC
    clear hC
    have hs5:=U7 u (w.heap.size+1) ⟨ru2,it2,fr2,un2,kd2⟩
    have h5:=hs5.block bx hlt hne
    refine Xg (i:=6) (HC2.out _ rfl) (by kernel_rfl) rfl (fun K hK=>?_)
    go_simp
    refine hK _ _ ?_
    clear hK K
    refine Xg (i:=7) (HC2.out _ h5) (by kernel_rfl) rfl (fun K hK=>?_)
    go_simp
    refine hK _ _ ?_
    clear hK K
    refine Xg (i:=8) (HC2.out _ h5) (by kernel_rfl) rfl (fun K hK=>?_)
    go_simp
    refine hK _ _ ?_
    clear hK K
    have Hev5:=(hs5.block (w.heap.size+2) (Xc Hev.out) (by show w.heap.size+2≠w.heap.size+1;omega)).trans Hev.out
    have ce5:=Xj Hev5
    have fe5:=Xf Hev5 0
    unfold set5 at Hev5 ce5 fe5
    refine Xg (i:=9) (HC2.out _ h5) (by kernel_rfl) rfl (fun K hK=>?_)
    go_simp
    refine hK _ _ ?_
    clear hK K
    have hs6:Only (fun j=>j=w.heap.size+2) (set5 u (w.heap.size+1) ⟨ru2,it2,fr2,un2,kd2⟩) ((set5 u (w.heap.size+1) ⟨ru2,it2,fr2,un2,kd2⟩).setCell ⟨w.heap.size+2,0,none⟩ (.int .i64 0)):=Only.setCell (M:=fun j=>j=w.heap.size+2) (Only.refl _ _) (p:=⟨w.heap.size+2,0,none⟩) (.inl rfl) _
    refine Xl (HC2.out _ ((hs6.block bx (Nat.lt_of_lt_of_le hlt hs5.size) hne2).trans h5)) (by kernel_rfl) ?_ _
    exact⟨rfl,rfl⟩
   ·obtain⟨U5,hU5⟩:∃U5,set5 u (w.heap.size+1) ⟨ru2,it2,fr2,un2,kd2⟩=U5:=⟨_,rfl⟩
    have hs5:=U7 u (w.heap.size+1) ⟨ru2,it2,fr2,un2,kd2⟩
    have ht5:=Xcl (x:=⟨0,0,0,0,⟨none,0,0⟩⟩) Htv.out ⟨ru2,it2,fr2,un2,kd2⟩
    rw[hU5] at hs5 ht5 ⊢
    have hs6:Only (fun j=>j=w.heap.size+2) U5 (U5.setCell ⟨w.heap.size+2,0,none⟩ (.int .i64 0)):=Only.setCell (M:=fun j=>j=w.heap.size+2) (Only.refl _ _) (p:=⟨w.heap.size+2,0,none⟩) (.inl rfl) _
    have he5:=(hs5.block (w.heap.size+2) (Xc Hev.out) (by show w.heap.size+2≠w.heap.size+1;omega)).trans Hev.out
    have ht6:=(hs6.block (w.heap.size+1) (Xc ht5) (by show w.heap.size+1≠w.heap.size+2;omega)).trans ht5
    have ce6:=Xj (Xr he5 0 (.int .i64 0))
    have he6:=Xr he5 0 (.int .i64 0)
    obtain⟨U6,hU6⟩:∃U6,U5.setCell ⟨w.heap.size+2,0,none⟩ (.int .i64 0)=U6:=⟨_,rfl⟩
    rw[hU6] at hs6 ht6 ce6 he6 ⊢
    have HU:=Xa (And.intro hs5 hs6)
    have q0:=gblk ht6 0
    have q1:=gblk ht6 1
    have q2:=gblk ht6 2
    have q3:=gblk ht6 3
    have q4:=gblk ht6 4
    clear hU5 hU6 hs5 ht5 hs6 he5 ht6 he6 hu
    go_wp2_with fail
    refine leaves_cons (f:=52) (args:=#[.pointer (some ⟨w.heap.size+2,0,none⟩)]) (by simp) (by simp[go_sem]) ?_
    refine(Zd _ _).mono ?_
    rintro e u' w'' ⟨rfl,rfl,rfl⟩
    simp[Leaves,settle,results,Tryz.results17,go_sem,ce6,q0,q1,q2,q3,q4]
    obtain⟨hs5,hs6⟩:=HU.out
    obtain⟨g1,g2,g3,g4⟩:=Xiu H0.out Hok.out
    have hB5:Below w.heap.size w U5:=Yf HB9.out HB9.out.size hs5 (by show w.heap.size≤w.heap.size+1;omega)
    refine⟨⟨ru2,it2,fr2,un2,kd2⟩,?_,?_,Yf hB5 hB5.size hs6 (by show w.heap.size≤w.heap.size+2;omega)⟩
    ·rw[g1,g2,g3]
    ·have h5:TreeW (fun b=>b<w.heap.size) U5 (Zk g its.xs n).1 ⟨ru2,it2,fr2,un2,kd2⟩:=TreeW.keep g4 (fun b ⟨_,_,hk⟩ hn=>hs5.block b (Xc hk) fun e=>hn (by show b<W1.heap.size;rw[show b=w.heap.size+1 from e];omega)) hs5.size fun b _ hn hx=>hn (Nat.lt_trans hx (by omega))
     refine h5.only hs6 fun b hb hk=>?_
     obtain⟨⟨cs,fr,hk⟩,_⟩:=hk
     rw[show b=w.heap.size+2 from hb] at hk
     have he5:=(hs5.block (w.heap.size+2) (Xc Hev.out) (by show w.heap.size+2≠w.heap.size+1;omega)).trans Hev.out
     rw[he5] at hk
     have h:=Option.some.inj hk
     injection h with _ h2 _
     exact absurd h2 (by decide)
def Xgj (t:TreeV) (k nb:Nat) (w:World) (e:Ending) (w':World):Prop :=
 Only (fun b=>b=nb) w w'∧((k+X5 t≤1024∧e = .returned (.tuple #[])∧w'.heap[nb]? = some (.cells #[.int .i64 ((k+X5 t:Nat):Int)] 3 (0,0)))∨(1024<k+X5 t∧e = .panicked (Q1 2)))
theorem Xcg (l:List TreeV) (m:Nat) (h:m<l.length):Xp (l.take (m+1))=Xp (l.take m)+X5 l[m]:=by
 induction l generalizing m with
 | nil=>simp at h
 | cons t l ih =>
  cases m with
  | zero=>simp[Xp]
  | succ m =>
   have:=ih m (by simpa using h)
   simp only[List.take_succ_cons,Xp,List.getElem_cons_succ,this]
   omega
theorem Xfk (l:List TreeV) (m:Nat):Xp (l.take m)≤Xp l:=by
 induction l generalizing m with
 | nil=>simp
 | cons t l ih =>
  cases m with
  | zero=>simp[Xp]
  | succ m =>
   have:=ih m
   simp only[List.take_succ_cons,Xp]
   omega
set_option maxHeartbeats 1000000 in
theorem Xn5 (P:Nat→Prop) (nb:Nat) (hP:∀b,P b→b≠nb):∀(t:TreeV) (x:TreeG) (k:Nat) (w:World),TreeAt w P t [.int .i64 x.rule,.int .i64 x.item,.int .i64 x.frm,.int .i64 x.unt,.slice x.kids.addr x.kids.len x.kids.cap]→w.heap[nb]? = some (.cells #[.int .i64 (k:Int)] 3 (0,0))→k≤1024 →
  Calls Tryz.prog 57 #[.agg #[.int .i64 x.rule,.int .i64 x.item,.int .i64 x.frm,.int .i64 x.unt,.slice x.kids.addr x.kids.len x.kids.cap],.pointer (some ⟨nb,0,none⟩)] w (Xgj t k nb w) :=
 TreeV.ind fun r j i u l ih x k w ht hn hk=>by
  unfold TreeAt at ht
  obtain⟨A,cap,css,e,hcap1,hcap2,hA0,hIn,hr,hkids⟩:=ht
  obtain⟨xr,xj,xi,xu,⟨xa,xl,xc⟩⟩:=x
  simp only[List.cons.injEq,Value.int.injEq,Value.slice.injEq,true_and,and_true] at e
  obtain⟨rfl,rfl,rfl,rfl,rfl,rfl,rfl⟩:=e
  have hnV:X5 (.node xr xj xi xu l)=1+Xp l:=by rw[X5]
  have HnV:=Xa hnV
  have Hr:=Xa hr
  have Hkids:=Xa hkids
  have HIn:=Xa hIn
  have Hih:=Xa ih
  have hnl:=Xc hn
  obtain⟨w1,hw1⟩:∃w1,w.alloc (.cells #[.int .i64 xr,.int .i64 xj,.int .i64 xi,.int .i64 xu,.slice xa l.length xc] 32)=w1:=⟨_,rfl⟩
  have hn1:w1.heap[nb]? = some (.cells #[.int .i64 (k:Int)] 3 (0,0)):=by rw[← hw1];exact(Below.heap_alloc _ _ _ hnl).trans hn
  have c1:=Xj hn1
  have f1:=Xf hn1 0
  clear hnV hr hkids hIn ih hA0
  go_enter Tryz.func57,Tryz.ntmps57
  go_wp2_with fail
  obtain⟨w2,hw2⟩:∃w2,w1.setCell ⟨nb,0,none⟩ (.int .i64 ((k:Int)+1))=w2:=⟨_,rfl⟩
  have hO1:Only (fun b=>b=nb) w w1:=by rw[← hw1];exact Only.alloc (Only.refl _ _) _
  have hO2:Only (fun b=>b=nb) w w2:=by rw[← hw2];exact Only.setCell (M:=fun j=>j=nb) hO1 (p:=⟨nb,0,none⟩) (.inl rfl) _
  have hn2:w2.heap[nb]? = some (.cells #[.int .i64 (((k+1+Xp (l.take 0):Nat)):Int)] 3 (0,0)):=by rw[← hw2];exact Xr hn1 0 _
  have hz1:=Yv hw1
  have hz2:w2.heap[w.heap.size]? = some (.cells #[.int .i64 xr,.int .i64 xj,.int .i64 xi,.int .i64 xu,.slice xa l.length xc] 32 (0,0)):=by
   rw[← hw2]
   exact((Only.setCell (M:=fun j=>j=nb) (Only.refl _ w1) (p:=⟨nb,0,none⟩) (.inl rfl) _).block _ (Xc hz1) (by show w.heap.size≠nb;omega)).trans hz1
  have y4:=gblk hz2 4
  rw[hw2]
  clear c1 f1 hw1 hw2 hn1 hz1 hO1 hz2
  by_cases hk1:k+1≤1024
  rotate_left
  ·refine(Yg _ _ _ (by simp;omega)).mono ?_
   rintro e w' ⟨rfl,rfl⟩
   exact⟨rfl,hO2,.inr ⟨by rw[HnV.out];omega,rfl⟩⟩
  ·refine(Zz _ _ _ (by simp;omega)).mono ?_
   rintro e w' ⟨rfl,rfl⟩
   go_wp2_with fail
   have Hk1:=Xa hk1
   clear hk1
   go_loopw [19] (fun iv wr=>∃m:Nat,m≤l.length∧iv = .int .i64 m∧Only (fun b=>b=nb) w wr∧wr.heap[nb]? = some (.cells #[.int .i64 ((k+1+Xp (l.take m):Nat):Int)] 3 (0,0))∧Hid (k+1+Xp (l.take m)≤1024)) (fun iv _=>l.length-(intOf iv).toNat)
   case atStart=>exact⟨0,Nat.zero_le _,rfl,hO2,hn2,by show k+1+Xp (l.take 0)≤1024;simpa[Xp] using Hk1.out⟩
   case round =>
    obtain⟨m,hm,rfl,hO,hnm,Hle⟩:=hrel
    by_cases hlt:m<l.length
    ·obtain⟨b,off,B,cp,rfl,hb,htm,q0,q1,q2,q3,q4⟩:=Uz Hr.out Hkids.out hlt
     obtain⟨b',off',e',hPb⟩:=HIn.out (by omega)
     cases e'
     have hbl:=hO.block b hb (hP b hPb)
     have z0:=(World.cell?_of_block (a:=⟨b,off+m*5,none⟩) hbl).trans q0
     have z1:=(World.cell?_of_block (a:=⟨b,off+m*5+1,none⟩) hbl).trans q1
     have z2:=(World.cell?_of_block (a:=⟨b,off+m*5+2,none⟩) hbl).trans q2
     have z3:=(World.cell?_of_block (a:=⟨b,off+m*5+3,none⟩) hbl).trans q3
     have z4:=(World.cell?_of_block (a:=⟨b,off+m*5+4,none⟩) hbl).trans q4
     obtain⟨w3,hw3⟩:∃w3,wr.alloc (.cells #[.int .i64 l[m].rule,.int .i64 l[m].item,.int .i64 l[m].frm,.int .i64 l[m].unt,.slice B l[m].kids.length cp] 32)=w3:=⟨_,rfl⟩
     have hO3:Only (fun b=>b=nb) w w3:=by rw[← hw3];exact hO.alloc _
     have hn3:w3.heap[nb]? = some (.cells #[.int .i64 ((k+1+Xp (l.take m):Nat):Int)] 3 (0,0)):=by rw[← hw3];exact(Below.heap_alloc _ _ _ (Xc hnm)).trans hnm
     have hz3:=Yv hw3
     have p0:=gblk hz3 0
     have p1:=gblk hz3 1
     have p2:=gblk hz3 2
     have p3:=gblk hz3 3
     have p4:=gblk hz3 4
     have hc:=Hih.out l[m] (List.getElem_mem hlt) ⟨l[m].rule,l[m].item,l[m].frm,l[m].unt,⟨B,l[m].kids.length,cp⟩⟩ (k+1+Xp (l.take m)) w3 (htm.keep (fun b hb' hlt=>hO3.block b hlt (hP b hb')) hO3.size fun _ h=>h) hn3 Hle.out
     have Hc:=Xa hc
     have Htk:=Xa (Xcg l m hlt)
     have HO3:=Xa hO3
     clear q0 q1 q2 q3 q4 hbl htm hc hO3 hn3 hnm hPb hz3
     generalize l[m].rule=a0 at *
     generalize l[m].item=a1 at *
     generalize l[m].frm=a2 at *
     generalize l[m].unt=a3 at *
     generalize l[m].kids.length=a4 at *
     go_wp2_with fail
     refine Hc.out.mono ?_
     rintro e w4 ⟨hO4,h4⟩
     have hOw:Only (fun b=>b=nb) w w4:=HO3.out.trans hO4
     rcases h4 with ⟨h5,rfl,h6⟩|⟨h5,rfl⟩
     ·go_wp2
      go_roundw
      case rel =>
       refine⟨m+1,by omega,by go_num,hOw,?_,?_⟩
       ·rw[Htk.out,← Nat.add_assoc];exact h6
       ·show k+1+Xp (l.take (m+1))≤1024
        rw[Htk.out,← Nat.add_assoc];exact h5
      case measure=>simp[intOf];omega
     ·refine⟨rfl,hOw,.inr ⟨?_,rfl⟩⟩
      rw[HnV.out]
      have h7:=Xfk l (m+1)
      have h8:=Htk.out
      omega
    ·have hm':m=l.length:=by omega
     have Hm:=Xa hm'
     have HO:=Xa hO
     have Hnm:=Xa hnm
     clear hm' hO hnm hm
     go_wp2
     go_end0
     have h1:l.take m=l:=by rw[Hm.out];exact List.take_length
     have h2:=Hnm.out
     have h3:=Hle.out
     rw[h1] at h2 h3
     refine⟨HO.out,.inl ⟨by rw[HnV.out];omega,rfl,?_⟩⟩
     rw[HnV.out,← Nat.add_assoc]
     exact h2
def Xej (g:Gram) (its:SlS ItemG) (n:Int) (t:TreeV) (w:World) (e:Ending) (w':World):Prop :=
 e = .returned (.tuple #[.int .i64 (Vv g its.xs n t).1,.bool (Vv g its.xs n t).2.1,.int .i64 (Vv g its.xs n t).2.2])∧Below w.heap.size w w'
theorem Xct {s k:Nat} {A B:World} (h:Below s A B) (hk:s≤k) (v:Value):Below s A (B.setCell ⟨k,0,none⟩ v):=h.setCell (p:=⟨k,0,none⟩) hk v
set_option maxHeartbeats 4000000 in
theorem Xo7 (g:Gram) (its:SlS ItemG) (n:Int) (P:Nat→Prop) (t:TreeV) (x:TreeG) (w:World) (hT:TabsG w) (hg:g.lies w) (hs:g.short) (hi:ItemsAt w its) (hP:∀b,P b→b<w.heap.size) (ht:TreeAt w P t [.int .i64 x.rule,.int .i64 x.item,.int .i64 x.frm,.int .i64 x.unt,.slice x.kids.addr x.kids.len x.kids.cap]) (hfit:Z6 t) :
  Calls Tryz.prog 21 #[.agg #[.string g.name,.slice g.cats.addr g.cats.xs.length g.cats.cap,.string g.start,.int .i64 g.startNo,.slice g.entries.addr g.entries.xs.length g.entries.cap,.slice g.rules.addr g.rules.xs.length g.rules.cap],.slice its.addr its.xs.length its.cap,.int .i64 n,.agg #[.int .i64 x.rule,.int .i64 x.item,.int .i64 x.frm,.int .i64 x.unt,.slice x.kids.addr x.kids.len x.kids.cap]] w (Xej g its n t w):=by
 obtain⟨W1,hW1⟩:∃W1,((w.alloc (.cells #[.string g.name,.slice g.cats.addr g.cats.xs.length g.cats.cap,.string g.start,.int .i64 g.startNo,.slice g.entries.addr g.entries.xs.length g.entries.cap,.slice g.rules.addr g.rules.xs.length g.rules.cap] 26)).alloc (.cells #[.int .i64 x.rule,.int .i64 x.item,.int .i64 x.frm,.int .i64 x.unt,.slice x.kids.addr x.kids.len x.kids.cap] 32)).alloc (.cells #[.int .i64 0] 33)=W1:=⟨_,rfl⟩
 have hB1:Below w.heap.size w W1:=by rw[← hW1];exact Xe (Xe (Xe (Below.refl _ _) _) _) _
 have hk:W1.heap[w.heap.size]? = some (.cells #[.string g.name,.slice g.cats.addr g.cats.xs.length g.cats.cap,.string g.start,.int .i64 g.startNo,.slice g.entries.addr g.entries.xs.length g.entries.cap,.slice g.rules.addr g.rules.xs.length g.rules.cap] 26 (0,0)):=by rw[← hW1];exact(Below.heap_alloc _ _ _ (by simp;omega)).trans ((Below.heap_alloc _ _ _ (by simp)).trans (World.alloc_heap_new _ _))
 have hx:W1.heap[w.heap.size+1]? = some (.cells #[.int .i64 x.rule,.int .i64 x.item,.int .i64 x.frm,.int .i64 x.unt,.slice x.kids.addr x.kids.len x.kids.cap] 32 (0,0)):=by rw[← hW1];exact(Below.heap_alloc _ _ _ (by simp)).trans (X0 _ _ _ (by simp))
 have he:W1.heap[w.heap.size+2]? = some (.cells #[.int .i64 0] 33 (0,0)):=by rw[← hW1];exact X0 _ _ _ (by simp)
 have HBo:=Xa (fun h0=>Xeo g its n W1 (hT.ext hB1) (hg.ext hB1) hs (hi.ext hB1) h0)
 have HBe:=Xa (fun h0=>Xen g its n W1 (hT.ext hB1) (hg.ext hB1) hs (hi.ext hB1) h0)
 have HG:=Xa (hg.ext hB1)
 have HI:=Xa (hi.ext hB1)
 have Ht:=Xa ht
 have HB1:=Xa hB1
 have He:=Xa he
 have Hk:=Xa hk
 have Hx:=Xa hx
 have hz1:w.heap.size+2<W1.heap.size:=Xc he
 have c0:=gblk hk 0
 have c1:=gblk hk 1
 have c2:=gblk hk 2
 have c3:=gblk hk 3
 have c4:=gblk hk 4
 have c5:=gblk hk 5
 clear hT hg hs hi hk hx he hB1 ht
 by_cases h0:errC g its.xs n=0
 rotate_left
 ·have HR:=Xa (show Vv g its.xs n t=(0,false,errC g its.xs n) by unfold Vv;rw[if_pos h0])
  have H0:=Xa h0
  clear h0
  go_enter_defers Tryz.func21,Tryz.ntmps21
  go_wp2_with fail
  refine(HBe.out H0.out).mono ?_
  rintro e w2 ⟨rfl,hB2⟩
  refine leaves_cons (f:=52) (args:=#[.pointer (some ⟨w.heap.size+2,0,none⟩)]) (by simp) (by simp[go_sem]) ?_
  have hev:w2.heap[w.heap.size+2]? = some (.cells #[.int .i64 0] 33 (0,0)):=(hB2.block _ hz1).trans He.out
  refine(Us _ _ _ _ hev).mono ?_
  rintro e u' w'' ⟨rfl,rfl,rfl⟩
  simp[Leaves,settle,results,Tryz.results21,go_sem,Xj hev]
  refine⟨by rw[HR.out],?_⟩
  exact Xct (Xb HB1.out hB2) (by omega) _
 ·have hA:=Vz h0
  have HA:=Xa hA
  have H0:=Xa h0
  have HR0:=Xa (show Vv g its.xs n t=(if 1024<X5 t then (0,false,2) else if (X6 g its.xs t g.startNo).2=false∨t.frm≠0∨t.unt≠n then (0,false,0) else ((X6 g its.xs t g.startNo).1,true,0)) by unfold Vv;rw[if_neg (by simp[h0])])
  clear h0 hA
  go_enter_defers Tryz.func21,Tryz.ntmps21
  go_wp2_with fail
  refine(HBo.out H0.out).mono ?_
  rintro e w2 ⟨cb,kb,wb,top,rfl,hE,hK2,hB2⟩
  obtain⟨w3,hw3⟩:∃w3,w2.alloc (.cells #[.int .i64 0] 3)=w3:=⟨_,rfl⟩
  have hb3:=Yn hw3
  have hn3:=Yv hw3
  have hB3:=Xb hB2 hb3
  have hx3:=Xh hB3 Hx.out
  have d0:=gblk hx3 0
  have d1:=gblk hx3 1
  have d2:=gblk hx3 2
  have d3:=gblk hx3 3
  have d4:=gblk hx3 4
  have hsz:=hB2.size
  have hN:=Xn5 P w2.heap.size (fun b hb=>by have:=hP b hb;omega) t x 0 w3 (Ht.out.keep (fun b hb hlt=>(Xb HB1.out hB3).block b hlt) (Xb HB1.out hB3).size fun _ h=>h) hn3 (by omega)
  have HN:Hid (Calls Tryz.prog 57 #[.agg #[.int .i64 x.rule,.int .i64 x.item,.int .i64 x.frm,.int .i64 x.unt,.slice x.kids.addr x.kids.len x.kids.cap],.pointer (some ⟨w2.heap.size,0,none⟩)] (w2.alloc (.cells #[.int .i64 0] 3)) (Xgj t 0 w2.heap.size w3)):=by
   show Calls _ _ _ _ _
   rw[hw3]
   exact hN
  rw[← hw3] at d0 d1 d2 d3 d4
  have HE3:=Xa (hE.ext hb3)
  have HB3:=Xa hB3
  have htop:=hE.top
  clear hw3
  clear hN hE hK2 hB2 hb3 hn3 hx3 hB3
  go_wp2_with fail
  refine HN.out.mono ?_
  rintro e w4 ⟨hO,h4⟩
  have he4:w4.heap[w.heap.size+2]? = some (.cells #[.int .i64 0] 33 (0,0)):=(hO.block _ (Nat.lt_of_lt_of_le hz1 HB3.out.size) (by show w.heap.size+2≠w2.heap.size;omega)).trans ((HB3.out.block _ hz1).trans He.out)
  have hb4:Below w.heap.size w w4:=Yf (Xb HB1.out HB3.out) (Xb HB1.out HB3.out).size hO (by omega)
  rcases h4 with ⟨hle,rfl,hcell⟩|⟨hgt,rfl⟩
  rotate_left
  ·have HR:=Xa (HR0.out.trans (if_pos (by omega)))
   refine leaves_cons (f:=52) (args:=#[.pointer (some ⟨w.heap.size+2,0,none⟩)]) (by simp) (by simp[go_sem]) ?_
   refine(Us _ _ _ _ he4).mono ?_
   rintro e u' w'' ⟨rfl,rfl,rfl⟩
   simp[Leaves,settle,results,Tryz.results21,go_sem,Xj he4]
   exact⟨by rw[HR.out],Xct hb4 (by omega) _⟩
  have HR1:=HR0.out.trans (if_neg (by omega))
  obtain⟨es,cl,hkm⟩:=HE3.out.kmap
  have hE4:=HE3.out.only hO (fun b hb => .inr (by rw[show b=w2.heap.size from hb];exact htop)) ⟨es,cl,(hO.block _ (Xc hkm) (by have:=HE3.out.hk;show kb≠w2.heap.size;omega)).trans hkm⟩
  have hD:=Xiq HA.out.gram HA.out.items HG.out HI.out HA.out.few cb kb wb top P t x g.startNo w4 hE4 (Ht.out.keep (fun b hb hlt=>hb4.block b hlt) hb4.size fun _ h=>h) hfit (by omega)
  unfold T5 at hD
  have HD:=Xa hD
  have hx4:=(hO.block _ (Nat.lt_of_lt_of_le (Xc Hx.out) HB3.out.size) (by show w.heap.size+1≠w2.heap.size;omega)).trans (Xh HB3.out Hx.out)
  have hk4:=(hO.block _ (Nat.lt_of_lt_of_le (Xc Hk.out) HB3.out.size) (by show w.heap.size≠w2.heap.size;omega)).trans (Xh HB3.out Hk.out)
  have y0:=gblk hx4 0
  have y1:=gblk hx4 1
  have y2:=gblk hx4 2
  have y3:=gblk hx4 3
  have y4:=gblk hx4 4
  have z3:=gblk hk4 3
  have hxf:x.frm=t.frm∧x.unt=t.unt:=by
   have h:=Ht.out
   cases t
   unfold TreeAt at h
   obtain⟨_,_,_,e,_⟩:=h
   simp at e
   exact⟨e.2.2.1,e.2.2.2.1⟩
  obtain⟨hx1,hx2⟩:=hxf
  obtain⟨⟨cc,bb⟩,hcc⟩:∃y,X6 g its.xs t g.startNo=y:=⟨_,rfl⟩
  rw[hcc] at HD HR1
  rw[← hx1,← hx2] at HR1
  have Hx4:=Xa hx4
  have He4:=Xa he4
  have Hb4:=Xa hb4
  have HR1:=Xa HR1
  clear hx4 hk4 he4 hb4 hcell hle hE4 hD hcc hx1 hx2 hO d0 d1 d2 d3 d4 c0 c1 c2 c3 c4 c5 hkm
  go_wp2_with fail
  refine HD.out.mono ?_
  rintro e w5 ⟨rfl,hB5⟩
  have hx5:=Xh hB5 Hx4.out
  have v0:=gblk hx5 0
  have v1:=gblk hx5 1
  have v2:=gblk hx5 2
  have v3:=gblk hx5 3
  have v4:=gblk hx5 4
  have hev:w5.heap[w.heap.size+2]? = some (.cells #[.int .i64 0] 33 (0,0)):=Xh hB5 He4.out
  have ce:=Xj hev
  have fe:=Xf hev 0
  have HB9:=Xa (Xb Hb4.out hB5)
  have Hev:=Xa hev
  clear hx5 hev hB5 HD y0 y1 y2 y3 y4 z3
  have hend:∀(v:Value) (ok:Bool) (c:Int),Vv g its.xs n t=(c,ok,0)→Xej g its n t w (.returned (.tuple #[.int .i64 c,.bool ok,.int .i64 0])) (w5.setCell ⟨w.heap.size+2,0,none⟩ (.int .i64 0)):=fun _ ok c h=>⟨by rw[h],Xct HB9.out (by omega) _⟩
  have Hend:=Xa hend
  clear hend
  cases bb
  ·have HR:=Xa (HR1.out.trans (if_pos (.inl rfl)))
   clear HR1
   go_wp2_with fail
   refine leaves_cons (f:=52) (args:=#[.pointer (some ⟨w.heap.size+2,0,none⟩)]) (by simp) (by simp[go_sem]) ?_
   refine(Zd _ _).mono ?_
   rintro e u' w'' ⟨rfl,rfl,rfl⟩
   have cs:=Xj (Xr Hev.out 0 (.int .i64 0))
   simp[Leaves,settle,results,Tryz.results21,go_sem,ce]
   exact Hend.out undef _ _ HR.out
  by_cases h1:x.frm=0
  rotate_left
  ·have HR:=Xa (HR1.out.trans (if_pos (.inr (.inl h1))))
   have g1:(x.frm != 0)=true:=by simpa using h1
   have g2:(x.frm == 0)=false:=by simpa using h1
   clear HR1
   go_wp2_with fail
   refine leaves_cons (f:=52) (args:=#[.pointer (some ⟨w.heap.size+2,0,none⟩)]) (by simp) (by simp[go_sem]) ?_
   refine(Zd _ _).mono ?_
   rintro e u' w'' ⟨rfl,rfl,rfl⟩
   have cs:=Xj (Xr Hev.out 0 (.int .i64 0))
   simp[Leaves,settle,results,Tryz.results21,go_sem,ce]
   exact Hend.out undef _ _ HR.out
  have g1:(x.frm != 0)=false:=by simpa using h1
  have g2:(x.frm == 0)=true:=by simpa using h1
  by_cases h2:x.unt=n
  rotate_left
  ·have HR:=Xa (HR1.out.trans (if_pos (.inr (.inr h2))))
   have g3:(x.unt != n)=true:=by simpa using h2
   have g4:(x.unt == n)=false:=by simpa using h2
   clear HR1
   go_wp2_with fail
   refine leaves_cons (f:=52) (args:=#[.pointer (some ⟨w.heap.size+2,0,none⟩)]) (by simp) (by simp[go_sem]) ?_
   refine(Zd _ _).mono ?_
   rintro e u' w'' ⟨rfl,rfl,rfl⟩
   have cs:=Xj (Xr Hev.out 0 (.int .i64 0))
   simp[Leaves,settle,results,Tryz.results21,go_sem,ce]
   exact Hend.out undef _ _ HR.out
  have g3:(x.unt != n)=false:=by simpa using h2
  have g4:(x.unt == n)=true:=by simpa using h2
  have HR:=Xa (HR1.out.trans (if_neg (by simp[h1,h2])))
  clear HR1 h1 h2
  go_wp2_with fail
  refine leaves_cons (f:=52) (args:=#[.pointer (some ⟨w.heap.size+2,0,none⟩)]) (by simp) (by simp[go_sem]) ?_
  refine(Zd _ _).mono ?_
  rintro e u' w'' ⟨rfl,rfl,rfl⟩
  have cs:=Xj (Xr Hev.out 0 (.int .i64 0))
  simp[Leaves,settle,results,Tryz.results21,go_sem,ce]
  exact Hend.out undef _ _ HR.out
set_option maxHeartbeats 1000000 in
theorem Xi9 (P:Nat→Prop):∀(t:TreeV) (x:TreeG) (L:Nat) (w:World),TreeAt w P t [.int .i64 x.rule,.int .i64 x.item,.int .i64 x.frm,.int .i64 x.unt,.slice x.kids.addr x.kids.len x.kids.cap]→L≤1099511627776 →
  Calls Tryz.prog 56 #[.agg #[.int .i64 x.rule,.int .i64 x.item,.int .i64 x.frm,.int .i64 x.unt,.slice x.kids.addr x.kids.len x.kids.cap],.int .i64 (L:Int)] w fun e w'=>e = .returned (.int .i64 ((capN L (X5 t):Nat):Int))∧Below w.heap.size w w' :=
 TreeV.ind fun r j i u l ih x L w ht hL=>by
  unfold TreeAt at ht
  obtain⟨A,cap,css,e,hcap1,hcap2,hA0,hIn,hr,hkids⟩:=ht
  obtain⟨xr,xj,xi,xu,⟨xa,xl,xc⟩⟩:=x
  simp only[List.cons.injEq,Value.int.injEq,Value.slice.injEq,true_and,and_true] at e
  obtain⟨rfl,rfl,rfl,rfl,rfl,rfl,rfl⟩:=e
  have hnV:X5 (.node xr xj xi xu l)=1+Xp l:=by rw[X5]
  have HnV:=Xa hnV
  have Hr:=Xa hr
  have Hkids:=Xa hkids
  have Hih:=Xa ih
  obtain⟨w1,hw1⟩:∃w1,w.alloc (.cells #[.int .i64 xr,.int .i64 xj,.int .i64 xi,.int .i64 xu,.slice xa l.length xc] 32)=w1:=⟨_,rfl⟩
  have hB1:=Yn hw1
  have hz1:=Yv hw1
  have y4:=gblk hz1 4
  have Hz1:=Xa hz1
  clear hnV hr hkids hIn ih hA0 hz1
  go_enter Tryz.func56,Tryz.ntmps56
  go_wp2_with fail
  go_loopw [5,6] (fun nv iv wr=>∃m c:Nat,m≤l.length∧iv = .int .i64 m∧nv = .int .i64 c∧Below w1.heap.size w1 wr∧Hid (c=capN L (1+Xp (l.take m)))) (fun _ iv _=>l.length-(intOf iv).toNat)
  case atStart=>exact⟨0,1,Nat.zero_le _,rfl,rfl,Below.refl _ _,by show 1=capN L (1+Xp (l.take 0));simp[Xp,capN]⟩
  case round =>
   obtain⟨m,c,hm,rfl,rfl,hB,Hc⟩:=hrel
   have hbz:=Xh hB Hz1.out
   have y5:=gblk hbz 4
   have hcL:c≤L+1:=by rw[Hc.out];exact Xan _ _
   by_cases hlt:m<l.length
   ·by_cases hle:c≤L
    ·obtain⟨b,off,B,cp,rfl,hb,htm,q0,q1,q2,q3,q4⟩:=Uz Hr.out Hkids.out hlt
     have hBw:=Xb hB1 hB
     have hbl:=hBw.block b hb
     have z0:=(World.cell?_of_block (a:=⟨b,off+m*5,none⟩) hbl).trans q0
     have z1:=(World.cell?_of_block (a:=⟨b,off+m*5+1,none⟩) hbl).trans q1
     have z2:=(World.cell?_of_block (a:=⟨b,off+m*5+2,none⟩) hbl).trans q2
     have z3:=(World.cell?_of_block (a:=⟨b,off+m*5+3,none⟩) hbl).trans q3
     have z4:=(World.cell?_of_block (a:=⟨b,off+m*5+4,none⟩) hbl).trans q4
     obtain⟨d,hd⟩:∃d:Nat,L-c=d:=⟨_,rfl⟩
     have hdi:(L:Int)-(c:Int)=(d:Int):=by omega
     have hc:=Hih.out l[m] (List.getElem_mem hlt) ⟨l[m].rule,l[m].item,l[m].frm,l[m].unt,⟨B,l[m].kids.length,cp⟩⟩ d wr (htm.ext hBw) (by omega)
     rw[← hdi] at hc
     have Hcc:=Xa hc
     have Htk:=Xa (Xcg l m hlt)
     have HBw:=Xa hBw
     have Hle:=Xa hle
     have Hd:=Xa hd
     clear q0 q1 q2 q3 q4 hbl htm hc hBw hdi hd
     generalize l[m].rule=a0 at *
     generalize l[m].item=a1 at *
     generalize l[m].frm=a2 at *
     generalize l[m].unt=a3 at *
     generalize l[m].kids.length=a4 at *
     generalize hkn:X5 l[m]=kn at *
     go_wp2_with fail
     refine Hcc.out.mono ?_
     rintro e w4 ⟨rfl,hB4⟩
     have hcap:capN d kn≤d+1:=Xan _ _
     have hsum:c+capN d kn≤L+1:=by have:=Hd.out;have:=Hle.out;omega
     obtain⟨kv,hkv⟩:∃kv,capN d kn=kv:=⟨_,rfl⟩
     rw[hkv] at hsum hcap ⊢
     have Hkv:=Xa hkv
     clear hkv
     have hs1:(c:Int)+(kv:Int)≤1099511627777:=by omega
     go_wp2
     go_roundw
     case rel =>
      refine⟨m+1,c+kv,by omega,by go_num,by go_num,Xb hB hB4,?_⟩
      show c+kv=capN L (1+Xp (l.take (m+1)))
      have h1:=Hc.out
      have h2:=Htk.out
      have h3:=Hd.out
      have h4:=Hle.out
      have h6:=Hkv.out
      rw[h2]
      unfold capN at h1 h6 ⊢
      omega
     case measure=>simp[intOf];omega
    ·have Hle:=Xa hle
     have HB:=Xa (Xb hB1 hB)
     clear hB hB1 hbz
     go_wp2
     go_ret
     refine⟨?_,HB.out⟩
     have h1:=Hc.out
     have h4:=Hle.out
     have h5:=Xfk l m
     have h6:c=capN L (1+Xp l):=by
      unfold capN at h1 ⊢
      omega
     rw[HnV.out,← h6]
     rfl
   ·have Hm:=Xa (show m=l.length by omega)
    have HB:=Xa (Xb hB1 hB)
    clear hB hB1 hbz hm
    go_wp2
    go_ret
    refine⟨?_,HB.out⟩
    have h1:=Hc.out
    rw[show l.take m=l by rw[Hm.out];exact List.take_length] at h1
    rw[HnV.out,h1]
    rfl
theorem Xri (P:Nat→Prop) (t:TreeV) (x:TreeG) (w:World) (ht:TreeAt w P t [.int .i64 x.rule,.int .i64 x.item,.int .i64 x.frm,.int .i64 x.unt,.slice x.kids.addr x.kids.len x.kids.cap]) :
  Calls Tryz.prog 20 #[.agg #[.int .i64 x.rule,.int .i64 x.item,.int .i64 x.frm,.int .i64 x.unt,.slice x.kids.addr x.kids.len x.kids.cap]] w fun e w'=>e = .returned (.bool (decide (X5 t≤3000)))∧Below w.heap.size w w':=by
 obtain⟨w1,hw1⟩:∃w1,w.alloc (.cells #[.int .i64 x.rule,.int .i64 x.item,.int .i64 x.frm,.int .i64 x.unt,.slice x.kids.addr x.kids.len x.kids.cap] 32)=w1:=⟨_,rfl⟩
 have hB1:=Yn hw1
 have hz1:=Yv hw1
 have y0:=gblk hz1 0
 have y1:=gblk hz1 1
 have y2:=gblk hz1 2
 have y3:=gblk hz1 3
 have y4:=gblk hz1 4
 have hc:=Xi9 P t x 3000 w1 (ht.ext hB1) (by omega)
 have Hc:=Xa hc
 clear hc hz1
 go_enter Tryz.func20,Tryz.ntmps20
 go_wp2_with fail
 refine Hc.out.mono ?_
 rintro e w4 ⟨rfl,hB4⟩
 have hcap:capN 3000 (X5 t)≤3001:=Xan _ _
 have HB:=Xa (Xb hB1 hB4)
 have hd:decide (((capN 3000 (X5 t):Nat):Int)≤3000)=decide (X5 t≤3000):=by
  unfold capN at *
  by_cases h:X5 t≤3000
  ·rw[decide_eq_true h,decide_eq_true (by omega)]
  ·rw[decide_eq_false h,decide_eq_false (by omega)]
 have Hd:=Xa hd
 clear hd
 go_wp2
 go_ret
 exact⟨by rw[← Hd.out];rfl,HB.out⟩
def Xpc (t t':TreeV) (w:World) (e:Ending) (w':World):Prop:=∃b:Bool,e = .returned (.bool b)∧(b=true↔t=t')∧Below w.heap.size w w'
theorem Xoj (l l':List TreeV) (m:Nat) (h1:l.take m=l'.take m) (hl:m<l.length) (hl':m<l'.length):(l.take (m+1)=l'.take (m+1))↔l[m]=l'[m]:=by
 rw[List.take_succ_eq_append_getElem hl,List.take_succ_eq_append_getElem hl',h1]
 exact⟨fun h=>by have:=List.append_cancel_left h;simpa using this,fun h=>by rw[h]⟩
set_option maxHeartbeats 1000000 in
theorem Qm (P P':Nat→Prop):∀(t:TreeV) (x:TreeG) (t':TreeV) (y:TreeG) (w:World),TreeAt w P t [.int .i64 x.rule,.int .i64 x.item,.int .i64 x.frm,.int .i64 x.unt,.slice x.kids.addr x.kids.len x.kids.cap]→TreeAt w P' t' [.int .i64 y.rule,.int .i64 y.item,.int .i64 y.frm,.int .i64 y.unt,.slice y.kids.addr y.kids.len y.kids.cap] →
  Calls Tryz.prog 19 #[.agg #[.int .i64 x.rule,.int .i64 x.item,.int .i64 x.frm,.int .i64 x.unt,.slice x.kids.addr x.kids.len x.kids.cap],.agg #[.int .i64 y.rule,.int .i64 y.item,.int .i64 y.frm,.int .i64 y.unt,.slice y.kids.addr y.kids.len y.kids.cap]] w (Xpc t t' w) :=
 TreeV.ind fun r j i u l ih x t' y w ht ht'=>by
  obtain⟨r',j',i',u',l'⟩:=t'
  unfold TreeAt at ht ht'
  obtain⟨A,cap,css,e,hcap1,hcap2,hA0,hIn,hr,hkids⟩:=ht
  obtain⟨xr,xj,xi,xu,⟨xa,xl,xc⟩⟩:=x
  simp only[List.cons.injEq,Value.int.injEq,Value.slice.injEq,true_and,and_true] at e
  obtain⟨rfl,rfl,rfl,rfl,rfl,rfl,rfl⟩:=e
  obtain⟨A',cap',css',e,hcap1',hcap2',hA0',hIn',hr',hkids'⟩:=ht'
  obtain⟨yr,yj,yi,yu,⟨ya,yl,yc⟩⟩:=y
  simp only[List.cons.injEq,Value.int.injEq,Value.slice.injEq,true_and,and_true] at e
  obtain⟨rfl,rfl,rfl,rfl,rfl,rfl,rfl⟩:=e
  obtain⟨w1,hw1⟩:∃w1,(w.alloc (.cells #[.int .i64 xr,.int .i64 xj,.int .i64 xi,.int .i64 xu,.slice xa l.length xc] 32)).alloc (.cells #[.int .i64 yr,.int .i64 yj,.int .i64 yi,.int .i64 yu,.slice ya l'.length yc] 32)=w1:=⟨_,rfl⟩
  have hB1:Below w.heap.size w w1:=by rw[← hw1];exact Xe (Xe (Below.refl _ _) _) _
  have hz1:w1.heap[w.heap.size]? = some (.cells #[.int .i64 xr,.int .i64 xj,.int .i64 xi,.int .i64 xu,.slice xa l.length xc] 32 (0,0)):=by rw[← hw1];exact(Below.heap_alloc _ _ _ (by simp)).trans (World.alloc_heap_new _ _)
  have hz2:w1.heap[w.heap.size+1]? = some (.cells #[.int .i64 yr,.int .i64 yj,.int .i64 yi,.int .i64 yu,.slice ya l'.length yc] 32 (0,0)):=by rw[← hw1];exact X0 _ _ _ (by simp)
  have Hr:=Xa hr
  have Hkids:=Xa hkids
  have Hr':=Xa hr'
  have Hkids':=Xa hkids'
  have Hih:=Xa ih
  have y0:=gblk hz1 0
  have y1:=gblk hz1 1
  have y2:=gblk hz1 2
  have y3:=gblk hz1 3
  have y4:=gblk hz1 4
  have z0:=gblk hz2 0
  have z1:=gblk hz2 1
  have z2:=gblk hz2 2
  have z3:=gblk hz2 3
  have z4:=gblk hz2 4
  have Hz1:=Xa hz1
  have Hz2:=Xa hz2
  clear hr hkids hIn ih hA0 hr' hkids' hIn' hA0' hz1 hz2
  by_cases q1:xr≠yr
  ·go_enter Tryz.func19,Tryz.ntmps19
   go_wp2_with fail
   go_ret
   exact⟨false,rfl,⟨(fun h=>by cases h),fun h=>by injection h with h1;exact absurd h1 q1⟩,hB1⟩
  by_cases q2:xj≠yj
  ·go_enter Tryz.func19,Tryz.ntmps19
   go_wp2_with fail
   go_ret
   exact⟨false,rfl,⟨(fun h=>by cases h),fun h=>by injection h with h1 h2;exact absurd h2 q2⟩,hB1⟩
  by_cases q3:xi≠yi
  ·go_enter Tryz.func19,Tryz.ntmps19
   go_wp2_with fail
   go_ret
   exact⟨false,rfl,⟨(fun h=>by cases h),fun h=>by injection h with h1 h2 h3;exact absurd h3 q3⟩,hB1⟩
  by_cases q4:xu≠yu
  ·go_enter Tryz.func19,Tryz.ntmps19
   go_wp2_with fail
   go_ret
   exact⟨false,rfl,⟨(fun h=>by cases h),fun h=>by injection h with h1 h2 h3 h4;exact absurd h4 q4⟩,hB1⟩
  by_cases q5:l.length≠l'.length
  ·go_enter Tryz.func19,Tryz.ntmps19
   go_wp2_with fail
   go_ret
   exact⟨false,rfl,⟨(fun h=>by cases h),fun h=>by injection h with h1 h2 h3 h4 h5;exact absurd (congrArg List.length h5) q5⟩,hB1⟩
  obtain rfl:xr=yr:=by simpa using q1
  obtain rfl:xj=yj:=by simpa using q2
  obtain rfl:xi=yi:=by simpa using q3
  obtain rfl:xu=yu:=by simpa using q4
  have q6:l.length=l'.length:=by simpa using q5
  clear q1 q2 q3 q4 q5
  rw[q6] at hw1 y4 Hz1 ⊢
  have HQ:=Xa q6
  clear q6
  go_enter Tryz.func19,Tryz.ntmps19
  go_wp2_with fail
  go_loopw [5] (fun iv wr=>∃m:Nat,m≤l'.length∧iv = .int .i64 m∧Below w1.heap.size w1 wr∧Hid (l.take m=l'.take m)) (fun iv _=>l'.length-(intOf iv).toNat)
  case atStart=>exact⟨0,Nat.zero_le _,rfl,(Below.refl _ _),rfl⟩
  case round =>
   obtain⟨m,hm,rfl,hB,Hm⟩:=hrel
   have p4:=gblk (Xh hB Hz1.out) 4
   have s4:=gblk (Xh hB Hz2.out) 4
   by_cases hlt':m<l'.length
   ·have hlt:m<l.length:=by rw[HQ.out];exact hlt'
    obtain⟨b,off,B,cp,rfl,hb,htm,q0,q1,q2,q3,q4⟩:=Uz Hr.out Hkids.out hlt
    obtain⟨b',off',B',cp',rfl,hb',htm',r0,r1,r2,r3,r4⟩:=Uz Hr'.out Hkids'.out hlt'
    have hBw:=Xb hB1 hB
    have hbl:=hBw.block b hb
    have hbl':=hBw.block b' hb'
    have a0:=(World.cell?_of_block (a:=⟨b,off+m*5,none⟩) hbl).trans q0
    have a1:=(World.cell?_of_block (a:=⟨b,off+m*5+1,none⟩) hbl).trans q1
    have a2:=(World.cell?_of_block (a:=⟨b,off+m*5+2,none⟩) hbl).trans q2
    have a3:=(World.cell?_of_block (a:=⟨b,off+m*5+3,none⟩) hbl).trans q3
    have a4:=(World.cell?_of_block (a:=⟨b,off+m*5+4,none⟩) hbl).trans q4
    have b0:=(World.cell?_of_block (a:=⟨b',off'+m*5,none⟩) hbl').trans r0
    have b1:=(World.cell?_of_block (a:=⟨b',off'+m*5+1,none⟩) hbl').trans r1
    have b2:=(World.cell?_of_block (a:=⟨b',off'+m*5+2,none⟩) hbl').trans r2
    have b3:=(World.cell?_of_block (a:=⟨b',off'+m*5+3,none⟩) hbl').trans r3
    have b4:=(World.cell?_of_block (a:=⟨b',off'+m*5+4,none⟩) hbl').trans r4
    have hc:=fun (v:World) (hv:Below wr.heap.size wr v)=>Hih.out l[m] (List.getElem_mem hlt) ⟨l[m].rule,l[m].item,l[m].frm,l[m].unt,⟨B,l[m].kids.length,cp⟩⟩ l'[m] ⟨l'[m].rule,l'[m].item,l'[m].frm,l'[m].unt,⟨B',l'[m].kids.length,cp'⟩⟩ v (htm.ext (Xb hBw hv)) (htm'.ext (Xb hBw hv))
    have Hc:=Xa hc
    have Htk:=Xa (Xoj l l' m Hm.out hlt hlt')
    have HB:=Xa hB
    clear q0 q1 q2 q3 q4 r0 r1 r2 r3 r4 hbl hbl' htm htm' hc hBw
    generalize l[m].rule=g0 at *
    generalize l[m].item=g1 at *
    generalize l[m].frm=g2 at *
    generalize l[m].unt=g3 at *
    generalize l[m].kids.length=g4 at *
    generalize l'[m].rule=h0 at *
    generalize l'[m].item=h1 at *
    generalize l'[m].frm=h2 at *
    generalize l'[m].unt=h3 at *
    generalize l'[m].kids.length=h4 at *
    go_wp2_with fail
    refine wpIn_wide (n:=0) |>.1 ?_
    have hwf:∀f,Fence.wide.fn f=True:=fun f=>by simp[Fence.wide]
    refine Qv 10 (by kernel_rfl) (by kernel_rfl) ?_
    simp only[List.take_succ_cons,List.take_zero,List.drop_succ_cons,List.drop_zero]
    repeat still_step
    refine wpStill_nil ?_
    gi_wp2_with (refine⟨rfl,(callsIn_wide.2 (Hc.out _ (Xi (Below.refl _ _)))).mono ?_⟩;rintro e w4 ⟨bv,rfl,hiff,hB4⟩;have Hiff:=Xa hiff;clear hiff;cases bv)
    ·have HBf:=Xa (Xb hB1 (Xb (Xi HB.out) hB4))
     clear hB hB4 hB1
     go_wp2
     go_ret
     exact⟨false,rfl,⟨(fun h=>by cases h),fun h=>by injection h with _ _ _ _ h5;exact absurd (Hiff.out.2 (List.getElem_of_eq h5 hlt)) (by simp)⟩,HBf.out⟩
    ·have HBf:=Xa (Xb (Xi HB.out) hB4)
     clear hB hB4
     go_wp2
     go_roundw
     case rel =>
      first|exact⟨m+1,by omega,by go_num,HBf.out,Htk.out.2 (Hiff.out.1 rfl)⟩|exact⟨m+1,by omega,by go_num,HBf.out,Htk.out.2 (Hiff.out.1 trivial)⟩
     case measure=>simp[intOf];omega
   ·have He:=Xa (show l=l' by
     have h1:=Hm.out
     rw[show m=l'.length by omega,List.take_length,← HQ.out,List.take_length] at h1
     exact h1)
    have HB:=Xa (Xb hB1 hB)
    clear hm hB hB1 Hm
    go_wp2
    go_ret
    exact⟨true,rfl,⟨fun _=>by rw[He.out],fun _=>rfl⟩,HB.out⟩
def Xcb (w:World) (os:List Obj):World:=os.foldl World.alloc w
theorem Vj:∀(os:List Obj) (w:World),Below w.heap.size w (Xcb w os)
 | [],_=>Below.refl _ _
 | o :: os,w=>Xb (Xe (Below.refl _ _) o) (Vj os (w.alloc o))
theorem Y5:∀(os:List Obj) (w:World) (k:Nat) (h:k<os.length),(Xcb w os).heap[w.heap.size+k]? = some os[k]
 | [],w,k,h=>by simp at h
 | o :: os,w,0,h=>((Vj os (w.alloc o)).block _ (by rw[World.size_alloc];omega)).trans (World.alloc_heap_new _ _)
 | o :: os,w,k+1,h=>by
  have:=Y5 os (w.alloc o) k (by simpa using h)
  rw[World.size_alloc] at this
  rw[show w.heap.size+(k+1)=w.heap.size+1+k by omega]
  exact this
def Vq (w:World):List Obj:=[(.cells #[.string nG,.slice (some ⟨w.heap.size+1,0,none⟩) 3 3,.string nS,.int .i64 0,.slice none 0 0,.slice (some ⟨w.heap.size+8,0,none⟩) 3 3] 26),(.cells #[.string nS,.string nNp,.string nV] 9),(.cells #[.string nNp,.int .i64 1,.string noS,.string nV,.int .i64 2,.string noS] 150),(.cells #[.int .i64 0,.string noS,.int .i64 1,.string noS] 152),(.cells #[.string nNp,.int .i64 1,.string noS] 150),(.cells #[.int .i64 0,.string noS] 152),(.cells #[.string nNp,.int .i64 1,.string noS,.string noS,.int .i64 0,.string nUnd,.string nNp,.int .i64 1,.string noS] 150),(.cells #[.int .i64 0,.string noS,.int .i64 0,.string nAnd,.int .i64 2,.string noS] 152),(.cells #[.string nS,.int .i64 0,.slice (some ⟨w.heap.size+2,0,none⟩) 2 2,.slice (some ⟨w.heap.size+3,0,none⟩) 2 2,.int .i64 1,.string nS,.int .i64 0,.slice (some ⟨w.heap.size+4,0,none⟩) 1 1,.slice (some ⟨w.heap.size+5,0,none⟩) 1 1,.int .i64 0,.string nNp,.int .i64 1,.slice (some ⟨w.heap.size+6,0,none⟩) 3 3,.slice (some ⟨w.heap.size+7,0,none⟩) 3 3,.int .i64 2] 104)]
theorem Xjj (A:Nat→Option Addr):(Z4 A).short:=by
 have hm:∀n:Nat,n≤3→n≤maxLen:=fun n h=>by unfold maxLen;omega
 refine⟨fun s hs=>hm _ ?_,hm _ (by show 1≤3;omega),fun x hx=>(by cases hx),fun x hx=>hm _ ?_,fun x hx p hp=>hm _ ?_⟩
 ·simp only[Z4,List.mem_cons,List.not_mem_nil,or_false] at hs
  rcases hs with rfl|rfl|rfl<;>(first|(show 1≤3;omega)|(show 2≤3;omega)|(show 0≤3;omega))
 ·simp only[Z4,List.mem_cons,List.not_mem_nil,or_false] at hx
  rcases hx with rfl|rfl|rfl<;>(first|(show 1≤3;omega)|(show 2≤3;omega)|(show 0≤3;omega))
 ·simp only[Z4,List.mem_cons,List.not_mem_nil,or_false] at hx
  rcases hx with rfl|rfl|rfl
  all_goals
   simp only[List.mem_cons,List.not_mem_nil,or_false] at hp
  ·rcases hp with rfl|rfl<;>(first|(show 1≤3;omega)|(show 2≤3;omega)|(show 0≤3;omega))
  ·subst hp;show 2≤3;omega
  ·rcases hp with rfl|rfl|rfl<;>(first|(show 1≤3;omega)|(show 2≤3;omega)|(show 0≤3;omega))
set_option maxHeartbeats 1000000 in
theorem Xji (w:World):Calls Tryz.prog 47 #[] w fun e w'=>∃g:Gram,e = .returned (.agg #[.string g.name,.slice g.cats.addr g.cats.xs.length g.cats.cap,.string g.start,.int .i64 g.startNo,.slice g.entries.addr g.entries.xs.length g.entries.cap,.slice g.rules.addr g.rules.xs.length g.rules.cap])∧g.lies w'∧Below w.heap.size w w'∧∃A,g=Z4 A:=by
 go_enter Tryz.func47,Tryz.ntmps47
 go_wp2_with fail
 have hB:=Vj (Vq w) w
 have hh:=Y5 (Vq w) w
 change bodyPost _ _ _ _ _ (Xcb w (Vq w))
 have h0:=hh 0 (by simp[Vq])
 have h1:=hh 1 (by simp[Vq])
 have h2:=hh 2 (by simp[Vq])
 have h3:=hh 3 (by simp[Vq])
 have h4:=hh 4 (by simp[Vq])
 have h5:=hh 5 (by simp[Vq])
 have h6:=hh 6 (by simp[Vq])
 have h7:=hh 7 (by simp[Vq])
 have h8:=hh 8 (by simp[Vq])
 generalize Xcb w (Vq w)=W2 at *
 clear hh
 simp only[Vq,List.getElem_cons_zero,List.getElem_cons_succ,Nat.add_zero] at h0 h1 h2 h3 h4 h5 h6 h7 h8
 have z0:=gblk h0 0
 have z1:=gblk h0 1
 have z2:=gblk h0 2
 have z3:=gblk h0 3
 have z4:=gblk h0 4
 have z5:=gblk h0 5
 refine bodyPost_ret (v:=.agg (Z4 (fun k=>match k with|0=>some ⟨w.heap.size+1,0,none⟩|1=>some ⟨w.heap.size+8,0,none⟩|2=>some ⟨w.heap.size+2,0,none⟩|3=>some ⟨w.heap.size+3,0,none⟩|4=>some ⟨w.heap.size+4,0,none⟩|5=>some ⟨w.heap.size+5,0,none⟩|6=>some ⟨w.heap.size+6,0,none⟩|_=>some ⟨w.heap.size+7,0,none⟩)).cells.toArray) ?_ rfl ⟨Z4 (fun k=>match k with|0=>some ⟨w.heap.size+1,0,none⟩|1=>some ⟨w.heap.size+8,0,none⟩|2=>some ⟨w.heap.size+2,0,none⟩|3=>some ⟨w.heap.size+3,0,none⟩|4=>some ⟨w.heap.size+4,0,none⟩|5=>some ⟨w.heap.size+5,0,none⟩|6=>some ⟨w.heap.size+6,0,none⟩|_=>some ⟨w.heap.size+7,0,none⟩),rfl,⟨⟨Yw h1 rfl,by simp[Z4],by simp[Z4],fun h=>by cases h⟩,⟨Rd.nil _ _,by simp[Z4],by simp[Z4],fun _=>rfl⟩,fun x hx=>(by cases hx),⟨Yw h8 rfl,by simp[Z4],by simp[Z4],fun h=>by cases h⟩,fun x hx=>?_⟩,hB,_,rfl⟩
 ·simp[results,Tryz.results47,go_sem,z0,z1,z2,z3,z4,z5,Z4,Gram.cells]
 ·simp only[Z4,List.mem_cons,List.not_mem_nil,or_false] at hx
  rcases hx with rfl|rfl|rfl
  ·exact⟨⟨Yw h2 rfl,by simp,by simp,fun h=>by cases h⟩,⟨Yw h3 rfl,by simp,by simp,fun h=>by cases h⟩⟩
  ·exact⟨⟨Yw h4 rfl,by simp,by simp,fun h=>by cases h⟩,⟨Yw h5 rfl,by simp,by simp,fun h=>by cases h⟩⟩
  ·exact⟨⟨Yw h6 rfl,by simp,by simp,fun h=>by cases h⟩,⟨Yw h7 rfl,by simp,by simp,fun h=>by cases h⟩⟩
set_option maxHeartbeats 1000000 in
theorem Zg (c i k:Int) (w:World) (hi:0≤i∧i≤100):Calls Tryz.prog 48 #[.int .i64 c,.int .i64 i,.int .i64 k] w fun e w'=>∃x:ItemG,e = .returned (.agg #[.int .i64 x.cat,.int .i64 x.frm,.int .i64 x.unt,.int .i64 x.cost,.slice x.tgt.addr x.tgt.xs.length x.tgt.cap,.int .i64 x.term])∧x.tgt.lies w'∧Below w.heap.size w w'∧∃a,x=Vp a c i k:=by
 have hwr:IntKind.i64.wrap (i+1)=i+1:=IntWalk.i64_in _ (by omega)
 go_enter Tryz.func48,Tryz.ntmps48
 go_wp2_with fail
 have hB:=Vj [.cells #[.int .i64 c,.int .i64 i,.int .i64 (i+1),.int .i64 k,.slice (some ⟨w.heap.size+1,0,none⟩) 1 1,.int .i64 (-1)] 47,.cells #[.string nX] 9] w
 have hh:=Y5 [.cells #[.int .i64 c,.int .i64 i,.int .i64 (i+1),.int .i64 k,.slice (some ⟨w.heap.size+1,0,none⟩) 1 1,.int .i64 (-1)] 47,.cells #[.string nX] 9] w
 change bodyPost _ _ _ _ _ (Xcb w [.cells #[.int .i64 c,.int .i64 i,.int .i64 (i+1),.int .i64 k,.slice (some ⟨w.heap.size+1,0,none⟩) 1 1,.int .i64 (-1)] 47,.cells #[.string nX] 9])
 have h0:=hh 0 (by simp)
 have h1:=hh 1 (by simp)
 generalize Xcb w _=W2 at *
 clear hh
 simp only[List.getElem_cons_zero,List.getElem_cons_succ,Nat.add_zero] at h0 h1
 have z0:=gblk h0 0
 have z1:=gblk h0 1
 have z2:=gblk h0 2
 have z3:=gblk h0 3
 have z4:=gblk h0 4
 have z5:=gblk h0 5
 exact bodyPost_ret (v:=.agg #[.int .i64 c,.int .i64 i,.int .i64 (i+1),.int .i64 k,.slice (some ⟨w.heap.size+1,0,none⟩) 1 1,.int .i64 (-1)]) (by simp[results,Tryz.results48,go_sem,z0,z1,z2,z3,z4,z5]) rfl ⟨Vp (some ⟨w.heap.size+1,0,none⟩) c i k,rfl,⟨Yw h1 rfl,by simp[Vp],by simp[Vp],fun h=>by cases h⟩,hB,_,rfl⟩
set_option maxHeartbeats 1000000 in
theorem Xhi (i:Int) (w:World) (hi:0≤i∧i≤100):Calls Tryz.prog 49 #[.int .i64 i] w fun e w'=>∃x:ItemG,e = .returned (.agg #[.int .i64 x.cat,.int .i64 x.frm,.int .i64 x.unt,.int .i64 x.cost,.slice x.tgt.addr x.tgt.xs.length x.tgt.cap,.int .i64 x.term])∧x.tgt.lies w'∧Below w.heap.size w w'∧∃a,x=undI a i:=by
 have hwr:IntKind.i64.wrap (i+1)=i+1:=IntWalk.i64_in _ (by omega)
 go_enter Tryz.func49,Tryz.ntmps49
 go_wp2_with fail
 have hB:=Vj [.cells #[.int .i64 (-1),.int .i64 i,.int .i64 (i+1),.int .i64 0,.slice (some ⟨w.heap.size+1,0,none⟩) 1 1,.int .i64 (-1)] 47,.cells #[.string nUnd] 9] w
 have hh:=Y5 [.cells #[.int .i64 (-1),.int .i64 i,.int .i64 (i+1),.int .i64 0,.slice (some ⟨w.heap.size+1,0,none⟩) 1 1,.int .i64 (-1)] 47,.cells #[.string nUnd] 9] w
 change bodyPost _ _ _ _ _ (Xcb w [.cells #[.int .i64 (-1),.int .i64 i,.int .i64 (i+1),.int .i64 0,.slice (some ⟨w.heap.size+1,0,none⟩) 1 1,.int .i64 (-1)] 47,.cells #[.string nUnd] 9])
 have h0:=hh 0 (by simp)
 have h1:=hh 1 (by simp)
 generalize Xcb w _=W2 at *
 clear hh
 simp only[List.getElem_cons_zero,List.getElem_cons_succ,Nat.add_zero] at h0 h1
 have z0:=gblk h0 0
 have z1:=gblk h0 1
 have z2:=gblk h0 2
 have z3:=gblk h0 3
 have z4:=gblk h0 4
 have z5:=gblk h0 5
 exact bodyPost_ret (v:=.agg #[.int .i64 (-1),.int .i64 i,.int .i64 (i+1),.int .i64 0,.slice (some ⟨w.heap.size+1,0,none⟩) 1 1,.int .i64 (-1)]) (by simp[results,Tryz.results49,go_sem,z0,z1,z2,z3,z4,z5]) rfl ⟨undI (some ⟨w.heap.size+1,0,none⟩) i,rfl,⟨Yw h1 rfl,by simp[undI],by simp[undI],fun h=>by cases h⟩,hB,_,rfl⟩
set_option maxHeartbeats 1000000 in
theorem Ua (j i:Int) (w:World) (hi:0≤i∧i≤100):Calls Tryz.prog 50 #[.int .i64 j,.int .i64 i] w fun e w'=>e = .returned (.agg #[.int .i64 (-1),.int .i64 j,.int .i64 i,.int .i64 (i+1),.slice none 0 0])∧Below w.heap.size w w':=by
 have hwr:IntKind.i64.wrap (i+1)=i+1:=IntWalk.i64_in _ (by omega)
 go_enter Tryz.func50,Tryz.ntmps50
 go_wp2_with fail
 have hB:Below w.heap.size w (w.alloc (.cells #[.int .i64 (-1),.int .i64 j,.int .i64 i,.int .i64 (i+1),.slice none 0 0] 32)):=Xe (Below.refl _ _) _
 exact bodyPost_ret (v:=.agg #[.int .i64 (-1),.int .i64 j,.int .i64 i,.int .i64 (i+1),.slice none 0 0]) (by simp[results,Tryz.results50,go_sem]) rfl ⟨rfl,hB⟩
end Go.Proofs.YthojaplnimoacaaGreatDoor
