/- Texts of this claim, one after the other: Chwk, Trk, Law30a, Law30b. -/
import Derived.Test.YtolpbjjapodmnaaGreatDoorM26
import Derived.Test.YtolpbjjapodmnaaGreatDoorM17
import Derived.Test.YtolpbjjapodmnaaGreatDoorM18
import Derived.Test.YtolpbjjapodmnaaGreatDoorM22
import Derived.Deep.RegionWith
import Derived.Deep.DeepCutAuto
namespace Go.Proofs.YtolpbjjapodmnaaGreatDoor
open Go.RowKit Go.Han
attribute [local irreducible] wpStill wpQuiet
set_option maxRecDepth 100000
def SentX (X:Nat→Prop) (g:Gram) (its:SlS ItemG) (n:Int) (W1:World) (y:Nat×Nat×FoundG) (v:World):Prop :=
 v.heap[y.1]? = some (.cells #[.bool y.2.2.ok,.int .i64 y.2.2.cost,.int .i64 y.2.2.rule,.int .i64 y.2.2.item,.int .i64 y.2.2.frm,.int .i64 y.2.2.unt,.slice y.2.2.kids.addr y.2.2.kids.len y.2.2.kids.cap,.int .i64 y.2.2.many] 114 (0,0))∧FoundOk X v y.2.2 (Fd.of bigN (derG g its.xs g.startNo 0 n.toNat))∧Below W1.heap.size W1 v
theorem Xis (X:Nat→Prop) (g:Gram) (its:SlS ItemG) (n:Int) {U V:World} {cb kb wb top:Nat} (hX:∀b,X b→b<V.heap.size) (hg:g.lies U) (hi:ItemsAt U its) (h0:errC g its.xs n=0) (hE:ChEnv U cb kb wb top g its n.toNat V) (hK:KnownF (fun _=>False) g its.xs n.toNat kb (fun _=>none) V) :
  Calls Tryz.prog 67 #[.pointer (some ⟨cb,0,none⟩),.agg #[.int .i64 g.startNo,.int .i64 0,.int .i64 n]] V fun e w'=>∃fd,e = .returned (.agg #[.bool fd.ok,.int .i64 fd.cost,.int .i64 fd.rule,.int .i64 fd.item,.int .i64 fd.frm,.int .i64 fd.unt,.slice fd.kids.addr fd.kids.len fd.kids.cap,.int .i64 fd.many])∧FoundOk X w' fd (Fd.of bigN (derG g its.xs g.startNo 0 n.toNat))∧Only (fun j=>j=kb) V w':=by
 have hA:=Vz h0
 have h1:=hA.n1
 have hn:((n.toNat:Nat):Int)=n:=by omega
 have h:=Xe3 hA.gram hA.items hg hi hA.few (by have:=hA.n16;omega) (muG g g.startNo 0 n.toNat+1) g.startNo 0 n.toNat (Nat.lt_succ_self _) hA.gram.start.1 hA.gram.start.2 (by omega) (Nat.le_refl _) X (fun _=>none) V hX hE ⟨hK.map,fun _ _ h=>by cases h⟩
 rw[hn] at h
 refine h.mono ?_
 rintro e w' ⟨fd,f',h2,h3,_,_,h4⟩
 exact⟨fd,h2,h3,h4⟩
def Xeh (g:Gram) (its:SlS ItemG) (n:Int) (w:World) (e:Ending) (w':World):Prop :=
 ∃x:TreeG,e = .returned (.tuple #[.agg #[.int .i64 x.rule,.int .i64 x.item,.int .i64 x.frm,.int .i64 x.unt,.slice x.kids.addr x.kids.len x.kids.cap],.int .i64 (Zk g its.xs n).2.1,.bool (Zk g its.xs n).2.2.1,.int .i64 (Zk g its.xs n).2.2.2])∧TreeW (fun b=>b<w.heap.size) w' (Zk g its.xs n).1 x∧Below w.heap.size w w'
theorem Xb1 (X:Nat→Prop) (w:World):TreeW X w Un Qr:=by
 unfold TreeW Un Qr TreeAt
 exact⟨none,0,[],rfl,Nat.le_refl _,by omega,fun _=>rfl,fun h=>absurd h (by simp),.inl rfl,by unfold KidsAt;rfl⟩
theorem Xiu {X:Nat→Prop} {W:World} {fd:FoundG} {g:Gram} {its:List ItemG} {n:Int} (h0:errC g its n=0) (h:FoundOk X W fd (Fd.of bigN (derG g its g.startNo 0 n.toNat))) :
  (Zk g its n).2.1=fd.cost∧(Zk g its n).2.2.1=fd.ok∧(Zk g its n).2.2.2=0∧TreeW X W (Zk g its n).1 fd.tree:=by
 have hb:=h.best
 change match Xdl g its n with|none=>_|some (c,t)=>_ at hb
 unfold Zk
 rw[if_neg (by simp[h0])]
 cases hc:Xdl g its n with
 | none =>
  rw[hc] at hb
  obtain⟨h1,h2,h3⟩:=hb
  exact⟨h2.symm,h1.symm,rfl,by rw[h3];exact Xb1 _ _⟩
 | some y =>
  rw[hc] at hb
  obtain⟨h1,h2,h3⟩:=hb
  exact⟨h2.symm,h1.symm,rfl,h3⟩
def set5 (V:World) (b:Nat) (y:TreeG):World:=(((((V.setCell ⟨b,0,none⟩ (.int .i64 y.rule)).setCell ⟨b,1,none⟩ (.int .i64 y.item)).setCell ⟨b,2,none⟩ (.int .i64 y.frm)).setCell ⟨b,3,none⟩ (.int .i64 y.unt)).setCell ⟨b,4,none⟩ (.slice y.kids.addr y.kids.len y.kids.cap))
theorem U7 (V:World) (b:Nat) (y:TreeG):Only (fun j=>j=b) V (set5 V b y):=by
 unfold set5
 have st:∀(U:World) (n:Nat) (u:Value),Only (fun j=>j=b) V U→Only (fun j=>j=b) V (U.setCell ⟨b,n,none⟩ u):=fun U n u h=>Only.setCell (M:=fun j=>j=b) h (p:=⟨b,n,none⟩) (.inl rfl) u
 exact st _ _ _ (st _ _ _ (st _ _ _ (st _ _ _ (st _ _ _ (Only.refl _ V)))))
theorem Xcl {V:World} {b:Nat} {x:TreeG} (h:V.heap[b]? = some (.cells #[.int .i64 x.rule,.int .i64 x.item,.int .i64 x.frm,.int .i64 x.unt,.slice x.kids.addr x.kids.len x.kids.cap] 37 (0,0))) (y:TreeG):(set5 V b y).heap[b]? = some (.cells #[.int .i64 y.rule,.int .i64 y.item,.int .i64 y.frm,.int .i64 y.unt,.slice y.kids.addr y.kids.len y.kids.cap] 37 (0,0)):=by
 have h1:(V.setCell ⟨b,0,none⟩ (.int .i64 y.rule)).heap[b]? = some (.cells #[.int .i64 y.rule,.int .i64 x.item,.int .i64 x.frm,.int .i64 x.unt,.slice x.kids.addr x.kids.len x.kids.cap] 37 (0,0)):=Xr h 0 _
 have h2:((V.setCell ⟨b,0,none⟩ (.int .i64 y.rule)).setCell ⟨b,1,none⟩ (.int .i64 y.item)).heap[b]? = some (.cells #[.int .i64 y.rule,.int .i64 y.item,.int .i64 x.frm,.int .i64 x.unt,.slice x.kids.addr x.kids.len x.kids.cap] 37 (0,0)):=Xr h1 1 _
 have h3:(((V.setCell ⟨b,0,none⟩ (.int .i64 y.rule)).setCell ⟨b,1,none⟩ (.int .i64 y.item)).setCell ⟨b,2,none⟩ (.int .i64 y.frm)).heap[b]? = some (.cells #[.int .i64 y.rule,.int .i64 y.item,.int .i64 y.frm,.int .i64 x.unt,.slice x.kids.addr x.kids.len x.kids.cap] 37 (0,0)):=Xr h2 2 _
 have h4:((((V.setCell ⟨b,0,none⟩ (.int .i64 y.rule)).setCell ⟨b,1,none⟩ (.int .i64 y.item)).setCell ⟨b,2,none⟩ (.int .i64 y.frm)).setCell ⟨b,3,none⟩ (.int .i64 y.unt)).heap[b]? = some (.cells #[.int .i64 y.rule,.int .i64 y.item,.int .i64 y.frm,.int .i64 y.unt,.slice x.kids.addr x.kids.len x.kids.cap] 37 (0,0)):=Xr h3 3 _
 exact Xr h4 4 _
set_option maxHeartbeats 2000000 in
theorem Xia (g:Gram) (its:SlS ItemG) (n:Int) (w:World) (hT:TabsG w) (hg:g.lies w) (hs:g.short) (hi:ItemsAt w its):Calls Tryz.prog 19 #[.agg #[.string g.name,.slice g.cats.addr g.cats.xs.length g.cats.cap,.string g.start,.int .i64 g.startNo,.slice g.entries.addr g.entries.xs.length g.entries.cap,.slice g.rules.addr g.rules.xs.length g.rules.cap],.slice its.addr its.xs.length its.cap,.int .i64 n] w (Xeh g its n w):=by
 obtain⟨W1,hW1⟩:∃W1,((w.alloc (.cells #[.string g.name,.slice g.cats.addr g.cats.xs.length g.cats.cap,.string g.start,.int .i64 g.startNo,.slice g.entries.addr g.entries.xs.length g.entries.cap,.slice g.rules.addr g.rules.xs.length g.rules.cap] 26)).alloc (.cells #[.int .i64 0,.int .i64 0,.int .i64 0,.int .i64 0,.slice none 0 0] 37)).alloc (.cells #[.int .i64 0] 33)=W1:=⟨_,rfl⟩
 have hB1:Below w.heap.size w W1:=by rw[← hW1];exact Xe (Xe (Xe (Below.refl _ _) _) _) _
 have hk:W1.heap[w.heap.size]? = some (.cells #[.string g.name,.slice g.cats.addr g.cats.xs.length g.cats.cap,.string g.start,.int .i64 g.startNo,.slice g.entries.addr g.entries.xs.length g.entries.cap,.slice g.rules.addr g.rules.xs.length g.rules.cap] 26 (0,0)):=by rw[← hW1];exact(Below.heap_alloc _ _ _ (by simp;omega)).trans ((Below.heap_alloc _ _ _ (by simp)).trans (World.alloc_heap_new _ _))
 have he:W1.heap[w.heap.size+2]? = some (.cells #[.int .i64 0] 33 (0,0)):=by rw[← hW1];exact X0 _ _ _ (by simp)
 have htb:W1.heap[w.heap.size+1]? = some (.cells #[.int .i64 0,.int .i64 0,.int .i64 0,.int .i64 0,.slice none 0 0] 37 (0,0)):=by rw[← hW1];exact(Below.heap_alloc _ _ _ (by simp)).trans (X0 _ _ _ (by simp))
 have HBo:=Xa (fun U (hU:Below W1.heap.size W1 U) h0=>Xeo g its n U (hT.ext (Xb hB1 hU)) (hg.ext (Xb hB1 hU)) hs (hi.ext (Xb hB1 hU)) h0)
 have HBe:=Xa (fun U (hU:Below W1.heap.size W1 U) h0=>Xen g its n U (hT.ext (Xb hB1 hU)) (hg.ext (Xb hB1 hU)) hs (hi.ext (Xb hB1 hU)) h0)
 have HFi:=Xa (fun U V (hU:Below W1.heap.size W1 U) (hV:Below W1.heap.size W1 V) cb kb wb top h0 hE hK=>Xis (fun b=>b<W1.heap.size) g its n (U:=U) (V:=V) (cb:=cb) (kb:=kb) (wb:=wb) (top:=top) (fun b hb=>Nat.lt_of_lt_of_le hb hV.size) (hg.ext (Xb hB1 hU)) (hi.ext (Xb hB1 hU)) h0 hE hK)
 have HB1:=Xa hB1
 have He:=Xa he
 have Htb:=Xa htb
 have hkl:=Xc hk
 have HC:Hid (∀V:World,V.heap[w.heap.size]? = W1.heap[w.heap.size]? → (V.cell? ⟨w.heap.size,0,none⟩=some (.string g.name)∧V.cell? ⟨w.heap.size,1,none⟩=some (.slice g.cats.addr g.cats.xs.length g.cats.cap)∧V.cell? ⟨w.heap.size,2,none⟩=some (.string g.start)∧V.cell? ⟨w.heap.size,3,none⟩=some (.int .i64 g.startNo)∧V.cell? ⟨w.heap.size,4,none⟩=some (.slice g.entries.addr g.entries.xs.length g.entries.cap)∧V.cell? ⟨w.heap.size,5,none⟩=some (.slice g.rules.addr g.rules.xs.length g.rules.cap))):=fun V hV=>by
  have h:=hV.trans hk
  exact⟨gblk h 0,gblk h 1,gblk h 2,gblk h 3,gblk h 4,gblk h 5⟩
 have hz1:w.heap.size+2<W1.heap.size:=Xc he
 clear hT hg hs hi hk he htb hB1
 by_cases h0:errC g its.xs n=0
 rotate_left
 ·have hR:Zk g its.xs n=(Un,0,false,errC g its.xs n):=by unfold Zk;rw[if_pos h0]
  have HR:=Xa hR
  have H0:=Xa h0
  clear hR h0
  go_enter_defers Tryz.func19,Tryz.ntmps19
  go_wp2_with fail
  refine wpIn_wide (n:=0) |>.1 ?_
  refine Xd1 10 (fun ch v=>ch=Q1 (errC g its.xs n)∧Below W1.heap.size W1 v) ?_ ?_
  ·refine Xo (fun V=>(V.cell? ⟨w.heap.size,0,none⟩=some (.string g.name)∧V.cell? ⟨w.heap.size,1,none⟩=some (.slice g.cats.addr g.cats.xs.length g.cats.cap)∧V.cell? ⟨w.heap.size,2,none⟩=some (.string g.start)∧V.cell? ⟨w.heap.size,3,none⟩=some (.int .i64 g.startNo)∧V.cell? ⟨w.heap.size,4,none⟩=some (.slice g.entries.addr g.entries.xs.length g.entries.cap)∧V.cell? ⟨w.heap.size,5,none⟩=some (.slice g.rules.addr g.rules.xs.length g.rules.cap))) (by kernel_rfl) ?_
   have hC0:=HC.out W1.drew rfl
   refine Xd (i:=0) rfl (by kernel_rfl) (fun _ _ _ h=>h.put (by kernel_rfl)) (fun V hV=>(by obtain⟨r1,r2,r3,r4,r5,r6⟩:=hV;go_simp<;>rfl)) ?_
   refine Xd (i:=1) rfl (by kernel_rfl) (fun _ _ _ h=>h.put (by kernel_rfl)) (fun V hV=>(by obtain⟨r1,r2,r3,r4,r5,r6⟩:=hV;go_simp<;>rfl)) ?_
   refine Xd (i:=2) rfl (by kernel_rfl) (fun _ _ _ h=>h.put (by kernel_rfl)) (fun V hV=>(by obtain⟨r1,r2,r3,r4,r5,r6⟩:=hV;go_simp<;>rfl)) ?_
   refine Xd (i:=4) rfl (by kernel_rfl) (fun _ _ _ h=>h.put (by kernel_rfl)) (fun V hV=>(by obtain⟨r1,r2,r3,r4,r5,r6⟩:=hV;go_simp<;>rfl)) ?_
   refine Xd (i:=5) rfl (by kernel_rfl) (fun _ _ _ h=>h.put (by kernel_rfl)) (fun V hV=>(by obtain⟨r1,r2,r3,r4,r5,r6⟩:=hV;go_simp<;>rfl)) ?_
   refine Xd (i:=6) rfl (by kernel_rfl) (fun _ _ _ h=>h.put (by kernel_rfl)) (fun V hV=>(by obtain⟨r1,r2,r3,r4,r5,r6⟩:=hV;go_simp<;>rfl)) ?_
   refine Xd (i:=7) rfl (by kernel_rfl) (fun _ _ _ h=>h.put (by kernel_rfl)) (fun V hV=>(by obtain⟨r1,r2,r3,r4,r5,r6⟩:=hV;go_simp<;>rfl)) ?_
   refine Xs (rs:=[3,9]) hC0 (by kernel_rfl) (by simp) (AllC.cons rfl (fun K hK=>?_) (AllC.cons rfl (fun K hK=>?_) AllC.nil))
   ·go_simp
    refine⟨trivial,rfl,callsIn_wide.2 ((HBe.out _ (Xi (Below.refl _ _)) H0.out).mono ?_)⟩
    rintro e9 w9 ⟨rfl,hB9⟩
    exact⟨_,rfl,KeepF.of_take rfl rfl,rfl,Xb (Xi (Below.refl _ _)) hB9⟩
   ·go_simp
    refine hK _ _ ?_
    clear hK K
    have hBz:Below W1.heap.size W1 (W1.alloc (.cells #[.bool false,.int .i64 0,.int .i64 0,.int .i64 0,.int .i64 0,.int .i64 0,.slice none 0 0,.int .i64 0] 114)).drew:=Xi (Xe (Below.refl _ _) _)
    refine Xg (i:=3) (HC.out _ (hBz.block _ hkl)) (by kernel_rfl) rfl (fun K hK=>?_)
    go_simp
    refine⟨trivial,rfl,callsIn_wide.2 ((HBe.out _ hBz H0.out).mono ?_)⟩
    rintro e9 w9 ⟨rfl,hB9⟩
    exact⟨_,rfl,KeepF.of_take rfl rfl,rfl,Xb hBz hB9⟩
  ·rintro ch a' v ⟨hd,ht⟩ ⟨rfl,hB9⟩
   show Leaves _ _ a'.tmps _ a'.defers _ _
   rw[hd]
   refine leaves_cons (f:=65) (args:=#[.pointer (some ⟨w.heap.size+2,0,none⟩)]) (by simp) (by simp[go_sem]) ?_
   have hev:v.heap[w.heap.size+2]? = some (.cells #[.int .i64 0] 33 (0,0)):=(hB9.block _ hz1).trans He.out
   refine(Us _ _ _ _ hev).mono ?_
   rintro e u' w'' ⟨rfl,rfl,rfl⟩
   have ht6:=ht 6 (by omega)
   have ht7:=ht 7 (by omega)
   have ht8:=ht 8 (by omega)
   have ht9:=ht 9 (by omega)
   have htv:=Xh hB9 Htb.out
   obtain⟨zt0,zt1,zt2,zt3,zt4⟩:=gb5 htv
   simp[Leaves,settle,results,Tryz.results19,go_sem,Xj hev,ht6,ht7,ht8,ht9,zt0,zt1,zt2,zt3,zt4]
   refine⟨Qr,?_,?_,?_⟩
   ·rw[HR.out];rfl
   ·rw[HR.out];exact Xb1 _ _
   ·exact(Xb HB1.out hB9).setCell (p:=⟨w.heap.size+2,0,none⟩) (by show w.heap.size≤w.heap.size+2;omega) _
 ·have H0:=Xa h0
  clear h0
  go_enter_defers Tryz.func19,Tryz.ntmps19
  go_wp2_with fail
  refine wpIn_wide (n:=0) |>.1 ?_
  refine Td (fun (y:Nat×Nat×FoundG) a=>{a with tmps:=(((((((((a.tmps.setIfInBounds 11 (.agg #[.string g.name,.slice g.cats.addr g.cats.xs.length g.cats.cap,.string g.start,.int .i64 g.startNo,.slice g.entries.addr g.entries.xs.length g.entries.cap,.slice g.rules.addr g.rules.xs.length g.rules.cap])).setIfInBounds 12 (.slice its.addr its.xs.length its.cap)).setIfInBounds 13 (.int .i64 n)).setIfInBounds 15 (.pointer (some ⟨w.heap.size,3,none⟩))).setIfInBounds 16 (.int .i64 g.startNo)).setIfInBounds 17 (.int .i64 n)).setIfInBounds 18 (.agg #[.int .i64 g.startNo,.int .i64 0,.int .i64 n])).setIfInBounds 14 (.pointer (some ⟨y.2.1,0,none⟩))).setIfInBounds 19 (.agg #[.bool y.2.2.ok,.int .i64 y.2.2.cost,.int .i64 y.2.2.rule,.int .i64 y.2.2.item,.int .i64 y.2.2.frm,.int .i64 y.2.2.unt,.slice y.2.2.kids.addr y.2.2.kids.len y.2.2.kids.cap,.int .i64 y.2.2.many])).setIfInBounds 10 (.pointer (some ⟨y.1,0,none⟩))}) (SentX (fun b=>b<W1.heap.size) g its n W1) ?_ ?_
  ·refine Xo (fun V=>(V.cell? ⟨w.heap.size,0,none⟩=some (.string g.name)∧V.cell? ⟨w.heap.size,1,none⟩=some (.slice g.cats.addr g.cats.xs.length g.cats.cap)∧V.cell? ⟨w.heap.size,2,none⟩=some (.string g.start)∧V.cell? ⟨w.heap.size,3,none⟩=some (.int .i64 g.startNo)∧V.cell? ⟨w.heap.size,4,none⟩=some (.slice g.entries.addr g.entries.xs.length g.entries.cap)∧V.cell? ⟨w.heap.size,5,none⟩=some (.slice g.rules.addr g.rules.xs.length g.rules.cap))) (by kernel_rfl) ?_
   have hC0:=HC.out W1.drew rfl
   refine Xd (i:=0) rfl (by kernel_rfl) (fun _ _ _ h=>h) (fun V hV=>(by obtain⟨r1,r2,r3,r4,r5,r6⟩:=hV;go_simp<;>rfl)) ?_
   refine Xd (i:=1) rfl (by kernel_rfl) (fun _ _ _ h=>h) (fun V hV=>(by obtain⟨r1,r2,r3,r4,r5,r6⟩:=hV;go_simp<;>rfl)) ?_
   refine Xd (i:=2) rfl (by kernel_rfl) (fun _ _ _ h=>h) (fun V hV=>(by obtain⟨r1,r2,r3,r4,r5,r6⟩:=hV;go_simp<;>rfl)) ?_
   refine Xd (i:=4) rfl (by kernel_rfl) (fun _ _ _ h=>h) (fun V hV=>(by obtain⟨r1,r2,r3,r4,r5,r6⟩:=hV;go_simp<;>rfl)) ?_
   refine Xd (i:=5) rfl (by kernel_rfl) (fun _ _ _ h=>h) (fun V hV=>(by obtain⟨r1,r2,r3,r4,r5,r6⟩:=hV;go_simp<;>rfl)) ?_
   refine Xd (i:=6) rfl (by kernel_rfl) (fun _ _ _ h=>h) (fun V hV=>(by obtain⟨r1,r2,r3,r4,r5,r6⟩:=hV;go_simp<;>rfl)) ?_
   refine Xd (i:=7) rfl (by kernel_rfl) (fun _ _ _ h=>h) (fun V hV=>(by obtain⟨r1,r2,r3,r4,r5,r6⟩:=hV;go_simp<;>rfl)) ?_
   refine Xs (rs:=[3,9]) hC0 (by kernel_rfl) (by simp) (AllC.cons rfl (fun K hK=>?_) (AllC.cons rfl (fun K hK=>?_) AllC.nil))
   ·go_simp
    refine⟨trivial,rfl,callsIn_wide.2 ((HBo.out _ (Xi (Below.refl _ _)) H0.out).mono ?_)⟩
    rintro e2 w2 ⟨cb,kb,wb,top,rfl,hE,hK2,hB2⟩
    refine hK _ _ ?_
    clear hK K
    have hB2':Below W1.heap.size W1 w2:=Xb (Xi (Below.refl _ _)) hB2
    have hkb:W1.heap.size≤kb∧kb<top:=hE.hk
    have htop:top≤w2.heap.size:=hE.top
    refine Xs (rs:=[8,9]) (HC.out _ (hB2'.block _ hkl)) (by kernel_rfl) (by simp) (AllC.cons rfl (fun K hK=>?_) (AllC.cons rfl (fun K hK=>?_) AllC.nil))
    ·go_simp
     refine⟨trivial,rfl,callsIn_wide.2 ((HFi.out _ _ (Xi (Below.refl _ _)) hB2' cb kb wb top H0.out hE hK2).mono ?_)⟩
     rintro e9 w9 ⟨fd,rfl,hok,hO⟩
     refine hK _ _ ?_
     clear hK K
     have hB9:Below W1.heap.size W1 w9:=Yf hB2' hB2'.size hO hkb.1
     refine Xg (i:=9) (HC.out _ (hB9.block _ hkl)) (by kernel_rfl) rfl (fun K hK=>?_)
     go_simp
     refine hK _ _ ?_
     clear hK K
     have hal:∀o,Below W1.heap.size W1 (w9.alloc o):=fun o=>Xe hB9 o
     refine Xg (i:=10) (HC.out _ ((hal _).block _ hkl)) (by kernel_rfl) rfl (fun K hK=>?_)
     go_simp
     refine hK _ _ ?_
     clear hK K
     have hBf:Below w9.heap.size w9 (w9.alloc (.cells #[.bool fd.ok,.int .i64 fd.cost,.int .i64 fd.rule,.int .i64 fd.item,.int .i64 fd.frm,.int .i64 fd.unt,.slice fd.kids.addr fd.kids.len fd.kids.cap,.int .i64 fd.many] 114)):=Xe (Below.refl _ _) _
     refine Xl (HC.out _ ((hal _).block _ hkl)) (by kernel_rfl) ?_ _
     refine⟨(w9.heap.size,cb,fd),?_,?_⟩
     ·kernel_rfl
     ·exact⟨World.alloc_heap_new _ _,hok.keep (fun _ _ h=>h.ext hBf),hal _⟩
    ·go_simp
     refine hK _ _ ?_
     clear hK K
     have hBy:Below w2.heap.size w2 (w2.alloc (.cells #[.bool false,.int .i64 0,.int .i64 0,.int .i64 0,.int .i64 0,.int .i64 0,.slice none 0 0,.int .i64 0] 114)):=Xe (Below.refl _ _) _
     have hzz0:(w2.alloc (.cells #[.bool false,.int .i64 0,.int .i64 0,.int .i64 0,.int .i64 0,.int .i64 0,.slice none 0 0,.int .i64 0] 114)).heap[w2.heap.size]? = some (.cells #[.bool false,.int .i64 0,.int .i64 0,.int .i64 0,.int .i64 0,.int .i64 0,.slice none 0 0,.int .i64 0] 114 (0,0)):=World.alloc_heap_new _ _
     have hBw:Below W1.heap.size W1 (w2.alloc (.cells #[.bool false,.int .i64 0,.int .i64 0,.int .i64 0,.int .i64 0,.int .i64 0,.slice none 0 0,.int .i64 0] 114)):=Xb hB2' hBy
     refine Xg (i:=8) (HC.out _ (hBw.block _ hkl)) (by kernel_rfl) rfl (fun K hK=>?_)
     go_simp
     refine⟨trivial,rfl,callsIn_wide.2 ((HFi.out _ _ (Xi (Below.refl _ _)) hBw cb kb wb top H0.out (hE.ext hBy) (hK2.ext hBy)).mono ?_)⟩
     rintro e9 w9 ⟨fd,rfl,hok,hO⟩
     refine hK _ _ ?_
     clear hK K
     have hnk:w2.heap.size≠kb:=by omega
     have hz9:w9.heap[w2.heap.size]? = some (.cells #[.bool false,.int .i64 0,.int .i64 0,.int .i64 0,.int .i64 0,.int .i64 0,.slice none 0 0,.int .i64 0] 114 (0,0)):=(hO.block _ (Xc hzz0) hnk).trans hzz0
     obtain⟨zq0,zq1,zq2,zq3,zq4,zq5,zq6,zq7⟩:=gb8 hz9
     have hzf:=fun n=>Xf hz9 n
     have hzl:=Xc hz9
     have hB9:Below W1.heap.size W1 w9:=Yf hBw hBw.size hO hkb.1
     have Hz9:=Xa hz9
     have Hok:=Xa hok
     clear hz9 hzz0 hok
     refine Xg (i:=10) (HC.out _ (hB9.block _ hkl)) (by kernel_rfl) rfl (fun K hK=>?_)
     go_simp
     refine hK _ _ ?_
     clear hK K
     have hs8:=Ud w9 w2.heap.size fd
     have hB8:Below W1.heap.size W1 (set8 w9 w2.heap.size fd):=Yf hB9 hB9.size hs8 (by have:=hB2'.size;show W1.heap.size≤w2.heap.size;omega)
     refine Xl (HC.out _ (hB8.block _ hkl)) (by kernel_rfl) ?_ _
     refine⟨(w2.heap.size,cb,fd),?_,?_⟩
     ·kernel_rfl
     ·exact⟨Qn (f:=⟨false,0,0,0,0,0,⟨none,0,0⟩,0⟩) Hz9.out fd,Hok.out.keep (fun _ _ h=>h.only hs8 fun b hb h=>(Ym Hz9.out) (by rw[show b=w2.heap.size from hb] at h;exact h.1)),hB8⟩
   ·go_simp
    refine hK _ _ ?_
    clear hK K
    have hBz:Below W1.heap.size W1 (W1.alloc (.cells #[.bool false,.int .i64 0,.int .i64 0,.int .i64 0,.int .i64 0,.int .i64 0,.slice none 0 0,.int .i64 0] 114)).drew:=Xi (Xe (Below.refl _ _) _)
    refine Xg (i:=3) (HC.out _ (hBz.block _ hkl)) (by kernel_rfl) rfl (fun K hK=>?_)
    go_simp
    refine⟨trivial,rfl,callsIn_wide.2 ((HBo.out _ hBz H0.out).mono ?_)⟩
    rintro e2 w2 ⟨cb,kb,wb,top,rfl,hE,hK2,hB2⟩
    refine hK _ _ ?_
    clear hK K
    have hB2':Below W1.heap.size W1 w2:=Xb hBz hB2
    have hzz1:(W1.alloc (.cells #[.bool false,.int .i64 0,.int .i64 0,.int .i64 0,.int .i64 0,.int .i64 0,.slice none 0 0,.int .i64 0] 114)).drew.heap[W1.heap.size]? = some (.cells #[.bool false,.int .i64 0,.int .i64 0,.int .i64 0,.int .i64 0,.int .i64 0,.slice none 0 0,.int .i64 0] 114 (0,0)):=World.alloc_heap_new _ _
    have hzz0:=Xh hB2 hzz1
    have hkb0:(W1.alloc (.cells #[.bool false,.int .i64 0,.int .i64 0,.int .i64 0,.int .i64 0,.int .i64 0,.slice none 0 0,.int .i64 0] 114)).drew.heap.size≤kb∧kb<top:=hE.hk
    have hkb:W1.heap.size≤kb∧kb<top:=⟨Nat.le_trans hBz.size hkb0.1,hkb0.2⟩
    have hnk:W1.heap.size≠kb:=by have:=Xc hzz1;omega
    refine Xg (i:=8) (HC.out _ (hB2'.block _ hkl)) (by kernel_rfl) rfl (fun K hK=>?_)
    go_simp
    refine⟨trivial,rfl,callsIn_wide.2 ((HFi.out _ _ hBz hB2' cb kb wb top H0.out hE hK2).mono ?_)⟩
    rintro e9 w9 ⟨fd,rfl,hok,hO⟩
    refine hK _ _ ?_
    clear hK K
    have hz9:w9.heap[W1.heap.size]? = some (.cells #[.bool false,.int .i64 0,.int .i64 0,.int .i64 0,.int .i64 0,.int .i64 0,.slice none 0 0,.int .i64 0] 114 (0,0)):=(hO.block _ (Xc hzz0) hnk).trans hzz0
    obtain⟨zq0,zq1,zq2,zq3,zq4,zq5,zq6,zq7⟩:=gb8 hz9
    have hzf:=fun n=>Xf hz9 n
    have hzl:=Xc hz9
    have hB9:Below W1.heap.size W1 w9:=Yf hB2' hB2'.size hO hkb.1
    have Hz9:=Xa hz9
    have Hok:=Xa hok
    clear hz9 hzz0 hok
    refine Xg (i:=10) (HC.out _ (hB9.block _ hkl)) (by kernel_rfl) rfl (fun K hK=>?_)
    go_simp
    refine hK _ _ ?_
    clear hK K
    have hs8:=Ud w9 W1.heap.size fd
    have hB8:Below W1.heap.size W1 (set8 w9 W1.heap.size fd):=Yf hB9 hB9.size hs8 (by have:=hB2'.size;show W1.heap.size≤W1.heap.size;omega)
    refine Xl (HC.out _ (hB8.block _ hkl)) (by kernel_rfl) ?_ _
    refine⟨(W1.heap.size,cb,fd),?_,?_⟩
    ·kernel_rfl
    ·exact⟨Qn (f:=⟨false,0,0,0,0,0,⟨none,0,0⟩,0⟩) Hz9.out fd,Hok.out.keep (fun _ _ h=>h.only hs8 fun b hb h=>(Ym Hz9.out) (by rw[show b=W1.heap.size from hb] at h;exact h.1)),hB8⟩
  ·rintro⟨bx,cb,⟨ok2,cost2,ru2,it2,fr2,un2,kd2,my2⟩⟩ v H
   obtain⟨hbx,hok,hB⟩:=H
   obtain⟨u,hu⟩:∃u,v.drew=u:=⟨_,rfl⟩
   have hbu:=show v.drew.heap[bx]? = _ from hbx
   rw[hu] at hbu
   have hoku:=hok.keep (fun _ _ h=>h.ext (Xi (Below.refl v.heap.size v)))
   rw[hu] at hoku
   have hBu:Below W1.heap.size W1 u:=by rw[← hu];exact Xi hB
   clear hbx hok hB
   obtain⟨zz0,zz1,zz2,zz3,zz4,zz5,zz6,zz7⟩:=gb8 hbu
   have hev:u.heap[w.heap.size+2]? = some (.cells #[.int .i64 0] 33 (0,0)):=(hBu.block _ hz1).trans He.out
   have htv:u.heap[w.heap.size+1]? = _:=Xh hBu Htb.out
   obtain⟨zt0,zt1,zt2,zt3,zt4⟩:=gb5 htv
   have zf:=fun n=>Xf htv n
   have ce:=Xj hev
   have fe:=Xf hev 0
   have hne:bx≠w.heap.size+1:=by
    rintro rfl
    rw[htv] at hbu
    have h:=Option.some.inj hbu
    injection h with _ h2 _
    exact absurd h2 (by decide)
   have hne2:bx≠w.heap.size+2:=by
    rintro rfl
    rw[hev] at hbu
    have h:=Option.some.inj hbu
    injection h with _ h2 _
    exact absurd h2 (by decide)
   have hlt:=Xc hbu
   have HB9:=Xa (Xb HB1.out hBu)
   have Hev:=Xa hev
   have Hok:=Xa hoku
   have Htv:=Xa htv
   have Hbx:=Xa hbu
   clear hbu hoku hBu hev htv
   gi_wp2_with fail
   go_wp2_with fail
   refine wpIn_wide (n:=0) |>.1 ?_
   apply Xbz (w':=(set5 u (w.heap.size+1) ⟨ru2,it2,fr2,un2,kd2⟩).setCell ⟨w.heap.size+2,0,none⟩ (.int .i64 0))
   ·refine Xo (fun V=>V.cell? ⟨bx,0,none⟩=some (.bool ok2)∧V.cell? ⟨bx,1,none⟩=some (.int .i64 cost2)∧V.cell? ⟨bx,2,none⟩=some (.int .i64 ru2)∧V.cell? ⟨bx,3,none⟩=some (.int .i64 it2)∧V.cell? ⟨bx,4,none⟩=some (.int .i64 fr2)∧V.cell? ⟨bx,5,none⟩=some (.int .i64 un2)∧V.cell? ⟨bx,6,none⟩=some (.slice kd2.addr kd2.len kd2.cap)) (by kernel_rfl) ?_
    rw[hu]
    refine Xd (i:=0) rfl (by kernel_rfl) (fun _ _ _ h=>h) (fun V hV=>(by obtain⟨r1,r2,r3,r4,r5,r6,r7⟩:=hV;go_simp<;>rfl)) ?_
    refine Xd (i:=1) rfl (by kernel_rfl) (fun _ _ _ h=>h) (fun V hV=>(by obtain⟨r1,r2,r3,r4,r5,r6,r7⟩:=hV;go_simp<;>rfl)) ?_
    refine Xd (i:=2) rfl (by kernel_rfl) (fun _ _ _ h=>h) (fun V hV=>(by obtain⟨r1,r2,r3,r4,r5,r6,r7⟩:=hV;go_simp<;>rfl)) ?_
    refine Xd (i:=3) rfl (by kernel_rfl) (fun _ _ _ h=>h) (fun V hV=>(by obtain⟨r1,r2,r3,r4,r5,r6,r7⟩:=hV;go_simp<;>rfl)) ?_
    refine Xd (i:=4) rfl (by kernel_rfl) (fun _ _ _ h=>h) (fun V hV=>(by obtain⟨r1,r2,r3,r4,r5,r6,r7⟩:=hV;go_simp<;>rfl)) ?_
    refine Xd (i:=5) rfl (by kernel_rfl) (fun _ _ _ h=>h) (fun V hV=>(by obtain⟨r1,r2,r3,r4,r5,r6,r7⟩:=hV;go_simp<;>rfl)) ?_
    have hC:∀V:World,V.heap[bx]? = u.heap[bx]? → (V.cell? ⟨bx,0,none⟩=some (.bool ok2)∧V.cell? ⟨bx,1,none⟩=some (.int .i64 cost2)∧V.cell? ⟨bx,2,none⟩=some (.int .i64 ru2)∧V.cell? ⟨bx,3,none⟩=some (.int .i64 it2)∧V.cell? ⟨bx,4,none⟩=some (.int .i64 fr2)∧V.cell? ⟨bx,5,none⟩=some (.int .i64 un2)∧V.cell? ⟨bx,6,none⟩=some (.slice kd2.addr kd2.len kd2.cap)):=fun V hV=>by
     have h:=hV.trans Hbx.out
     exact⟨gblk h 0,gblk h 1,gblk h 2,gblk h 3,gblk h 4,gblk h 5,gblk h 6⟩
    have HC2:=Xa hC
    clear hC
    have hs5:=U7 u (w.heap.size+1) ⟨ru2,it2,fr2,un2,kd2⟩
    have h5:=hs5.block bx hlt hne
    refine Xg (i:=6) (HC2.out _ rfl) (by kernel_rfl) rfl (fun K hK=>?_)
    go_simp
    refine hK _ _ ?_
    clear hK K
    refine Xg (i:=7) (HC2.out _ h5) (by kernel_rfl) rfl (fun K hK=>?_)
    go_simp
    refine hK _ _ ?_
    clear hK K
    refine Xg (i:=8) (HC2.out _ h5) (by kernel_rfl) rfl (fun K hK=>?_)
    go_simp
    refine hK _ _ ?_
    clear hK K
    have Hev5:=(hs5.block (w.heap.size+2) (Xc Hev.out) (by show w.heap.size+2≠w.heap.size+1;omega)).trans Hev.out
    have ce5:=Xj Hev5
    have fe5:=Xf Hev5 0
    unfold set5 at Hev5 ce5 fe5
    refine Xg (i:=9) (HC2.out _ h5) (by kernel_rfl) rfl (fun K hK=>?_)
    go_simp
    refine hK _ _ ?_
    clear hK K
    have hs6:Only (fun j=>j=w.heap.size+2) (set5 u (w.heap.size+1) ⟨ru2,it2,fr2,un2,kd2⟩) ((set5 u (w.heap.size+1) ⟨ru2,it2,fr2,un2,kd2⟩).setCell ⟨w.heap.size+2,0,none⟩ (.int .i64 0)):=Only.setCell (M:=fun j=>j=w.heap.size+2) (Only.refl _ _) (p:=⟨w.heap.size+2,0,none⟩) (.inl rfl) _
    refine Xl (HC2.out _ ((hs6.block bx (Nat.lt_of_lt_of_le hlt hs5.size) hne2).trans h5)) (by kernel_rfl) ?_ _
    exact⟨rfl,rfl⟩
   ·obtain⟨U5,hU5⟩:∃U5,set5 u (w.heap.size+1) ⟨ru2,it2,fr2,un2,kd2⟩=U5:=⟨_,rfl⟩
    have hs5:=U7 u (w.heap.size+1) ⟨ru2,it2,fr2,un2,kd2⟩
    have ht5:=Xcl (x:=⟨0,0,0,0,⟨none,0,0⟩⟩) Htv.out ⟨ru2,it2,fr2,un2,kd2⟩
    rw[hU5] at hs5 ht5 ⊢
    have hs6:Only (fun j=>j=w.heap.size+2) U5 (U5.setCell ⟨w.heap.size+2,0,none⟩ (.int .i64 0)):=Only.setCell (M:=fun j=>j=w.heap.size+2) (Only.refl _ _) (p:=⟨w.heap.size+2,0,none⟩) (.inl rfl) _
    have he5:=(hs5.block (w.heap.size+2) (Xc Hev.out) (by show w.heap.size+2≠w.heap.size+1;omega)).trans Hev.out
    have ht6:=(hs6.block (w.heap.size+1) (Xc ht5) (by show w.heap.size+1≠w.heap.size+2;omega)).trans ht5
    have ce6:=Xj (Xr he5 0 (.int .i64 0))
    have he6:=Xr he5 0 (.int .i64 0)
    obtain⟨U6,hU6⟩:∃U6,U5.setCell ⟨w.heap.size+2,0,none⟩ (.int .i64 0)=U6:=⟨_,rfl⟩
    rw[hU6] at hs6 ht6 ce6 he6 ⊢
    have HU:=Xa (And.intro hs5 hs6)
    obtain⟨q0,q1,q2,q3,q4⟩:=gb5 ht6
    clear hU5 hU6 hs5 ht5 hs6 he5 ht6 he6 hu
    go_wp2_with fail
    refine leaves_cons (f:=65) (args:=#[.pointer (some ⟨w.heap.size+2,0,none⟩)]) (by simp) (by simp[go_sem]) ?_
    refine(Zd _ _).mono ?_
    rintro e u' w'' ⟨rfl,rfl,rfl⟩
    simp[Leaves,settle,results,Tryz.results19,go_sem,ce6,q0,q1,q2,q3,q4]
    obtain⟨hs5,hs6⟩:=HU.out
    obtain⟨g1,g2,g3,g4⟩:=Xiu H0.out Hok.out
    have hB5:Below w.heap.size w U5:=Yf HB9.out HB9.out.size hs5 (by show w.heap.size≤w.heap.size+1;omega)
    refine⟨⟨ru2,it2,fr2,un2,kd2⟩,?_,?_,Yf hB5 hB5.size hs6 (by show w.heap.size≤w.heap.size+2;omega)⟩
    ·rw[g1,g2,g3]
    ·have h5:TreeW (fun b=>b<w.heap.size) U5 (Zk g its.xs n).1 ⟨ru2,it2,fr2,un2,kd2⟩:=TreeW.keep g4 (fun b ⟨_,_,hk⟩ hn=>hs5.block b (Xc hk) fun e=>hn (by show b<W1.heap.size;rw[show b=w.heap.size+1 from e];omega)) hs5.size fun b _ hn hx=>hn (Nat.lt_trans hx (by omega))
     refine h5.only hs6 fun b hb hk=>?_
     obtain⟨⟨cs,fr,hk⟩,_⟩:=hk
     rw[show b=w.heap.size+2 from hb] at hk
     have he5:=(hs5.block (w.heap.size+2) (Xc Hev.out) (by show w.heap.size+2≠w.heap.size+1;omega)).trans Hev.out
     rw[he5] at hk
     have h:=Option.some.inj hk
     injection h with _ h2 _
     exact absurd h2 (by decide)
def TrPost (g:Gram) (l:List Term) (lang:Int) (ws:List ByteArray) (t u:Int) (w:World) (e:Ending) (w':World):Prop :=
 Below w.heap.size w w'∧∃A n c L,e = .returned (.tuple #[.slice A n c,.bool (trE g l lang ws t u).2,.int .i64 (Xwu g l lang ws t u)])∧n=L.length∧RowT w.heap.size (.slice A n c) L w'∧L.map TgG.c=(trE g l lang ws t u).1
def Xym (its:List ItemG) (k:Nat) (m:Int) (v:Int):Prop:=(v = -1∧Xw8 (its.take k) m=none)∨∃(b:Nat) (h:b<its.length),v=(b:Int)∧Xw8 (its.take k) m=some its[b]
theorem X3a {its:List ItemG} {k:Nat} (m:Int) (h:k<its.length):Xw8 (its.take (k+1)) m=Xwq m (Xw8 (its.take k) m) its[k]:=by rw[List.take_succ_eq_append_getElem h,X51]
theorem X6s {its:List ItemG} {k:Nat} {m v:Int} (hk:k<its.length) (h:Xym its k m v) (h1:0≤its[k].cat) (h2:its[k].frm=m) (h3:v = -1∨∃(b:Nat) (hb:b<its.length),v=(b:Int)∧its[b].unt<its[k].unt):Xym its (k+1) m k:=by
 refine .inr ⟨k,hk,rfl,?_⟩
 rw[X3a m hk]
 rcases h with ⟨rfl,hw⟩|⟨b,hb,rfl,hw⟩
 ·rw[hw];unfold Xwq;rw[if_pos ⟨h1,h2,rfl⟩]
 ·rw[hw];unfold Xwq
  have h4:Xx6 (some its[b]) its[k]=true:=by
   rcases h3 with h3|⟨b2,hb2,e,h3⟩
   ·omega
   ·obtain rfl:b=b2:=by omega
    exact decide_eq_true h3
  rw[if_pos ⟨h1,h2,h4⟩]
theorem X6r {its:List ItemG} {k:Nat} {m v:Int} (hk:k<its.length) (h:Xym its k m v) (h3:¬0≤its[k].cat∨¬its[k].frm=m∨∃(b:Nat) (hb:b<its.length),v=(b:Int)∧¬its[b].unt<its[k].unt):Xym its (k+1) m v:=by
 have key:Xw8 (its.take (k+1)) m=Xw8 (its.take k) m:=by
  rw[X3a m hk]
  unfold Xwq
  rw[if_neg]
  rintro⟨a1,a2,a3⟩
  rcases h3 with h3|h3|⟨b,hb,rfl,h3⟩
  ·exact h3 a1
  ·exact h3 a2
  ·rcases h with ⟨e,_⟩|⟨b2,hb2,e,hw⟩
   ·omega
   ·obtain rfl:b=b2:=by omega
    rw[hw] at a3
    exact h3 (of_decide_eq_true a3)
 unfold Xym at h ⊢
 rw[key]
 exact h
theorem X50 {g:Gram} {its:List ItemG} {b:Nat} (h:b<its.length):Xwm g its (.node (-1) (b:Int) 0 0 []) []=Xw3 its[b] []:=by
 rw[Xwm,if_pos (by omega),show ((b:Int)).toNat=b by omega,List.getElem?_eq_getElem h]
def Xzp (b:Nat):TreeG:=⟨-1,(b:Int),0,0,⟨none,0,0⟩⟩
theorem X1s (P:Nat→Prop) (w:World) (b:Nat):TreeAt w P (.node (-1) (b:Int) 0 0 []) [.int .i64 (Xzp b).rule,.int .i64 (Xzp b).item,.int .i64 (Xzp b).frm,.int .i64 (Xzp b).unt,.slice (Xzp b).kids.addr (Xzp b).kids.len (Xzp b).kids.cap]:=by
 unfold TreeAt
 exact⟨none,0,[],rfl,Nat.le_refl _,by omega,fun _=>rfl,fun h=>absurd h (by simp),.inl rfl,by unfold KidsAt;rfl⟩
structure ItsOk (g:Gram) (n:Nat) (its:List ItemG):Prop where
 args:T3 g its n
 place:∀x∈its,0≤x.frm∧x.frm<x.unt∧x.unt≤n
 tgt:∀x∈its,x.tgt.xs.length≤8
 cat:∀x∈its, -1≤x.cat∧x.cat<1000
theorem its_ok {g:Gram} {l:List Term} {lang t u:Int} {ws:List ByteArray} {its:List ItemG} (h:Xwu g l lang ws t u=0) (h0:ws≠[]) (hm:its.map ItemG.c=Xxc g (Xwo l lang t u) ws):ItsOk g ws.length its:=by
 have ha:=Vz (Xys h h0 hm)
 have hr:∀x∈its,Xz9 ws.length g.cats.xs.length x.c:=fun x hx=>Xzd h x.c (by rw[← hm];exact List.mem_map_of_mem hx)
 refine⟨ha,fun x hx=>(hr x hx).place,fun x hx=>?_,fun x hx=>?_⟩
 ·have:=(hr x hx).some_.2
  change x.tgt.xs.length≤4 at this
  omega
 ·have h1:=(hr x hx).kind
  have h2:=ha.gram.few
  change (x.cat = -1∧_)∨(0≤x.cat∧x.cat<_∧_) at h1
  omega
theorem X4s {g:Gram} (hc:Ys g=0):(∀ru∈g.rules.xs,ru.parts.xs.length≤4)∧∀ru∈g.rules.xs,ru.gives.xs.length≤8∧Tn ru.gives.xs 0 ru.parts.xs=true :=
 ⟨fun ru hr=>((Xgs hc).rule ru hr).2.2.2.2.2,fun ru hr=>⟨((Xxh hc).some_ ru hr).2,(Xxh hc).once ru hr⟩⟩
theorem X6i {g:Gram} {l:List Term} {lang t u:Int} {ws:List ByteArray} (h:Xwu g l lang ws t u≠0):trE g l lang ws t u=([],false):=by unfold trE;rw[if_pos (.inl h)]
theorem X3v {g:Gram} {l:List Term} {lang t u:Int} {ws:List ByteArray} (h:ws=[]):trE g l lang ws t u=([],false):=by unfold trE;rw[if_pos (.inr h)]
theorem X3u {g:Gram} {l:List Term} {lang t u:Int} {ws:List ByteArray} {its:List ItemG} (h:Xwu g l lang ws t u=0) (h0:ws≠[]) (hm:its.map ItemG.c=Xxc g (Xwo l lang t u) ws):trE g l lang ws t u=trG g (its.map ItemG.c) ws.length:=by
 unfold trE
 rw[if_neg (fun e=>e.elim (fun e=>e h) h0),hm]
theorem Xy7 {g:Gram} {its:List ItemG} {n:Int} (he:errC g its n=0) {x:Dv} (h:Xdl g its n=some x):Zk g its n=(x.2,x.1,true,0):=by unfold Zk;rw[if_neg (by simp[he]),h]
theorem Xy6 {g:Gram} {its:List ItemG} {n:Int} (he:errC g its n=0) (h:Xdl g its n=none):Zk g its n=(Un,0,false,0):=by unfold Zk;rw[if_neg (by simp[he]),h]
set_option maxHeartbeats 8000000 in
theorem Xy0 (g:Gram) (A:Option Addr) (cp:Nat) (l:List Term) (lang:Int) (s:StrS) (t u:Int) (w:World) (hT:TabsG w) (hg:g.lies w) (hgs:g.short) (hr:TermsAt w A l) (hm:l.length≤9223372036854775807) (hs:s.lies w) :
  Calls Tryz.prog 41 #[.agg #[.string g.name,.slice g.cats.addr g.cats.xs.length g.cats.cap,.string g.start,.int .i64 g.startNo,.slice g.entries.addr g.entries.xs.length g.entries.cap,.slice g.rules.addr g.rules.xs.length g.rules.cap],.slice A l.length cp,.int .i64 lang,.slice s.addr s.xs.length s.cap,.int .i64 t,.int .i64 u] w (TrPost g l lang s.xs t u w):=by
 obtain⟨W1,hW1⟩:∃W1,w.alloc (.cells #[.string g.name,.slice g.cats.addr g.cats.xs.length g.cats.cap,.string g.start,.int .i64 g.startNo,.slice g.entries.addr g.entries.xs.length g.entries.cap,.slice g.rules.addr g.rules.xs.length g.rules.cap] 26)=W1:=⟨_,rfl⟩
 have hB1:=Yn hW1
 have hk:=Yv hW1
 have FA:=Xa (fun V (hV:Below w.heap.size w V)=>X2i g A cp l lang s t u V (hT.ext hV) (hg.ext hV) hgs (hr.ext hV) hm (hs.ext hV))
 have FB:=Xa (fun (its:SlS ItemG) V (hV:Below w.heap.size w V) (hi:ItemsAt V its)=>Xia g its s.xs.length V (hT.ext hV) (hg.ext hV) hgs hi)
 have HG:=Xa hg
 have Hk:=Xa hk
 have hsl:s.xs.length≤9223372036854775807:=Nat.le_trans hs.cap hs.max
 obtain⟨c0,c1,c2,c3,c4,c5⟩:=gb6 hk
 clear hT hg hgs hr hm hs hk
 go_enter Tryz.func41,Tryz.ntmps41
 go_wp2_with fail
 clear hW1
 refine(FA.out W1 hB1).mono ?_
 rintro e w2 ⟨hb2,⟨hne,rfl⟩|⟨hz,its,rfl,hmc,hia⟩⟩
 ·have k1:(Xwu g l lang s.xs t u != 0)=true:=by simpa using hne
  have HB:=Xa (Xb hB1 hb2)
  have hT:=Xa (X6i hne)
  clear hne hb2 hB1 FA FB c0 c1 c2 c3 c4 c5
  go_wp2_with fail
  refine bodyPost_ret (v:=.tuple #[.slice none 0 0,.bool false,.int .i64 (Xwu g l lang s.xs t u)]) (by simp[results,Tryz.results41,go_sem]) rfl ?_
  exact⟨HB.out,none,0,0,[],by rw[hT.out],rfl,RowT.nil _ _,by rw[hT.out];rfl⟩
 have hB2:=Xb hB1 hb2
 have HZ:=Xa hz
 have HM:=Xa hmc
 have Hk2:=Xa (Xh hb2 Hk.out)
 have hk2:=Hk2.out
 clear c0 c1 c2 c3 c4 c5 hz hmc FA Hk
 by_cases h0:s.xs=[]
 ·have hT:=Xa (X3v (g:=g) (l:=l) (lang:=lang) (t:=t) (u:=u) h0)
  have hl:s.xs.length=0:=by rw[h0];rfl
  have HB:=Xa hB2
  clear h0 hia hb2 hB1 FB hB2
  go_wp2_with fail
  refine bodyPost_ret (v:=.tuple #[.slice none 0 0,.bool false,.int .i64 0]) (by simp[results,Tryz.results41,go_sem]) rfl ?_
  exact⟨HB.out,none,0,0,[],by rw[hT.out,HZ.out],rfl,RowT.nil _ _,by rw[hT.out];rfl⟩
 have hl:¬s.xs.length=0:=fun h=>h0 (List.eq_nil_of_length_eq_zero h)
 have Ho:=Xa (its_ok HZ.out h0 HM.out)
 have HE:=Xa (X3u HZ.out h0 HM.out)
 have he0:=Xa (Xys HZ.out h0 HM.out)
 have Hru:=Xa (X4s Ho.out.args.check)
 have hn16:s.xs.length≤16:=by have:=Ho.out.args.n16;omega
 have k0:((s.xs.length:Int) == 0)=false:=by simp;omega
 have hil:its.xs.length≤9223372036854775807:=Nat.le_trans hia.lies.cap hia.lies.max
 obtain⟨c0,c1,c2,c3,c4,c5⟩:=gb6 hk2
 clear h0 hb2 hB1 hk2
 go_wp2_with fail
 refine(FB.out its w2 hB2 hia).mono ?_
 rintro e w3 ⟨x,rfl,hx,hb3⟩
 have hB3:=Xb hB2 hb3
 have Hia:=Xa (hia.ext hb3)
 have Hk3:=Xa (Xh hb3 Hk2.out)
 have hk3:=Hk3.out
 have hx3:TreeW (fun b=>b<w2.heap.size) w3 (Zk g its.xs s.xs.length).1 x:=hx
 have HX:=Xa hx3
 clear c0 c1 c2 c3 c4 c5 hia hb3 hB2 Hk2 hx hx3 FB
 obtain⟨W4,hW4⟩:∃W4,w3.alloc (.cells #[.int .i64 x.rule,.int .i64 x.item,.int .i64 x.frm,.int .i64 x.unt,.slice x.kids.addr x.kids.len x.kids.cap] 37)=W4:=⟨_,rfl⟩
 have hb4:=Yn hW4
 have hk4:=Yv hW4
 have hg4:=Xh hb4 hk3
 have hB4:=Xb hB3 hb4
 have Hi4:=Xa (Hia.out.ext hb4)
 have HG4:=Xa (HG.out.ext hB4)
 cases hbc:Xdl g its.xs s.xs.length with
 | some y =>
  have hR:=Xy7 he0.out hbc
  have HT1:=Xa (HE.out.trans (X19 hbc))
  have HW:=Xa (X6t Ho.out.args hbc)
  have HX4:=Xa (TreeW.ext HX.out hb4)
  have HP:=Xa (fun (x:ItemG) (hx:x∈its.xs)=>(show (0:Int)≤x.frm∧x.frm<x.unt∧x.unt≤16 from ⟨(Ho.out.place x hx).1,(Ho.out.place x hx).2.1,by have:=(Ho.out.place x hx).2.2;omega⟩))
  rw[hR] at HX4 ⊢
  obtain⟨c0,c1,c2,c3,c4,c5⟩:=gb6 hg4
  obtain⟨d0,d1,d2,d3,d4⟩:=gb5 hk4
  have HB4:=Xa hB4
  have Htg:=Xa Ho.out.tgt
  clear hR hbc hB3 hb4 hk3 hg4 hk4 HX Hia Hk3 Ho hB4
  go_wp2_with fail
  refine(Xzf g its x W4).mono ?_
  rintro e w5 ⟨rfl,hw5⟩
  have hb5:Below W4.heap.size W4 w5:=by rw[← hw5];exact Xe (Xe (Xe (Below.refl _ _) _) _) _
  have FC:=Xa (Xx8 HG4.out Hi4.out HX4.out HW.out.1 HW.out.2 HP.out Htg.out Hru.out.1 Hru.out.2 hw5)
  clear hw5 c0 c1 c2 c3 c4 c5 d0 d1 d2 d3 d4
  go_wp2_with fail
  refine FC.out.mono ?_
  intro e w6 h6
  obtain⟨A6,n6,c6,L,rfl,hn6,hr6,hl6,hb6⟩:=X1d h6
  have HB6:=Xa (Xb HB4.out (Xb hb5 hb6))
  have Hr6:=Xa (hr6.mono (show w.heap.size≤w5.heap.size from Nat.le_trans HB4.out.size hb5.size))
  have Hl6:=Xa hl6
  have Hn6:=Xa hn6
  clear h6 hr6 hl6 hn6 hb6 hb5 FC hW4
  go_wp2_with fail
  refine bodyPost_ret (v:=.tuple #[.slice A6 n6 c6,.bool true,.int .i64 0]) (by simp[results,Tryz.results41,go_sem]) rfl ?_
  exact⟨HB6.out,_,_,_,L,by rw[HT1.out,HZ.out],Hn6.out,Hr6.out,by rw[HT1.out];exact Hl6.out⟩
 | none =>
  have hR:=Xy6 he0.out hbc
  have HT1:=Xa (HE.out.trans (X18 hbc))
  rw[hR]
  have hg4':=Xa hg4
  clear hR hbc hB3 hb4 hk3 hk4 HX Hia Hk3 hg4
  go_wp2_with fail
  have hz4:∀V,Below W4.heap.size W4 V→w.heap.size≤V.heap.size:=fun V hV=>Nat.le_trans hB4.size hV.size
  have Hz4:=Xa hz4
  have hw4:=Xc hg4'.out
  have HB4:=Xa hB4
  clear hz4 hW4 hB4 he0 HE HM
  go_loopw [12,19] (fun tv iv wr=>∃(A9:Option Addr) (n9 c9:Nat) (L:List TgG) (m:Nat),tv = .slice A9 n9 c9∧n9=L.length∧iv = .int .i64 m∧m≤s.xs.length∧Hid (RowT W4.heap.size (.slice A9 n9 c9) L wr∧Below W4.heap.size W4 wr∧L.length≤8*m∧L.map TgG.c++wbwT its.xs s.xs.length m=wbwT its.xs s.xs.length 0)) (fun _ iv _=>s.xs.length-(intOf iv).toNat)
  case atStart=>exact⟨none,0,0,[],0,rfl,rfl,rfl,Nat.zero_le _,RowT.nil _ _,Below.refl _ _,by simp,rfl⟩
  case round =>
   obtain⟨A9,n9,c9,L,m,rfl,rfl,rfl,hm,HR⟩:=hrel
   by_cases hlt:m<s.xs.length
   ·have hkg:=(HR.out.2.1.block _ hw4).trans hg4'.out
    go_wp2_with fail
    go_loopw [20,65] (fun bv kv wz=>∃(k:Nat) (b:Int),k≤its.xs.length∧bv = .int .i64 b∧kv = .int .i64 k∧Hid (Xym its.xs k m b)∧Hid (Below wr.heap.size wr wz)) (fun _ kv _=>its.xs.length-(intOf kv).toNat)
    case atStart=>exact⟨0, -1,Nat.zero_le _,rfl,rfl,.inl ⟨rfl,rfl⟩,Below.refl _ _⟩
    case round =>
     rename World=>wz
     obtain⟨k,b,hk,rfl,rfl,hb,hBz⟩:=hrel
     by_cases hkl:k<its.xs.length
     ·obtain⟨bi,oi,hA,hbb,hc⟩:=Hi4.out.lies.at_ ItemG.size_cells (by omega) hkl
      have hB9:=Xb HR.out.2.1 hBz.out
      have d0:wz.cell? ⟨bi,oi+k*6,none⟩=some (.int .i64 its.xs[k].cat):=hc k hkl wz hB9 0 _ rfl
      have d1:wz.cell? ⟨bi,oi+k*6+1,none⟩=some (.int .i64 its.xs[k].frm):=hc k hkl wz hB9 1 _ rfl
      have d2:wz.cell? ⟨bi,oi+k*6+2,none⟩=some (.int .i64 its.xs[k].unt):=hc k hkl wz hB9 2 _ rfl
      have d3:wz.cell? ⟨bi,oi+k*6+3,none⟩=some (.int .i64 its.xs[k].cost):=hc k hkl wz hB9 3 _ rfl
      have d4:wz.cell? ⟨bi,oi+k*6+4,none⟩=some (.slice its.xs[k].tgt.addr its.xs[k].tgt.xs.length its.xs[k].tgt.cap):=hc k hkl wz hB9 4 _ rfl
      have d5:wz.cell? ⟨bi,oi+k*6+5,none⟩=some (.int .i64 its.xs[k].term):=hc k hkl wz hB9 5 _ rfl
      rw[hA]
      have HT0:=Xa (fun a1 a2 a3=>X6s (m:=(m:Int)) (v:=b) hkl hb.out a1 a2 a3)
      have HK0:=Xa (fun a=>X6r (m:=(m:Int)) (v:=b) hkl hb.out a)
      have HC:=Xa hc
      obtain⟨y,hy⟩:∃y,its.xs[k]=y:=⟨_,rfl⟩
      rw[hy] at HT0 HK0 d0 d1 d2 d3 d4 d5
      clear hy hc hA
      obtain⟨w6,hw6⟩:∃w6,wz.alloc (.cells #[.int .i64 y.cat,.int .i64 y.frm,.int .i64 y.unt,.int .i64 y.cost,.slice y.tgt.addr y.tgt.xs.length y.tgt.cap,.int .i64 y.term] 53)=w6:=⟨_,rfl⟩
      have hb6:=Yn hw6
      have hx6:=Yv hw6
      have HB6:=Xa (Xb hBz.out hb6)
      have HB7:=Xa (Xb hB9 hb6)
      have Hx6:=Xa hx6
      clear hb6 hx6 hB9
      have HC6:Hid (∀V,Below w6.heap.size w6 V→V.cell? ⟨wz.heap.size,0,none⟩=some (.int .i64 y.cat)∧V.cell? ⟨wz.heap.size,1,none⟩=some (.int .i64 y.frm)∧V.cell? ⟨wz.heap.size,2,none⟩=some (.int .i64 y.unt)):=fun V hV=>by
       have h1:=Xh hV Hx6.out
       exact⟨gblk h1 0,gblk h1 1,gblk h1 2⟩
      clear hbb
      go_wp2_with fail
      refine wpIn_wide (n:=0) |>.1 ?_
      refine Y4 _ ?_ (fun _ _ h=>h)
      refine Xo (fun V=>Below w6.heap.size w6 V) (by kernel_rfl) ?_
      have hv:=Xi (Below.refl w6.heap.size w6)
      by_cases h1:0≤y.cat
      rotate_left
      ·have k1:decide (0≤y.cat)=false:=decide_eq_false h1
       have HN:=Xa (HK0.out (.inl (by omega)))
       clear h1 hb
       refine Xd (i:=0) rfl (by kernel_rfl) (fun _ _ _ h=>h) (fun V hV=>(by obtain⟨m0,m1,m2⟩:=HC6.out V hV;go_simp<;>rfl)) ?_
       refine Xd (i:=1) rfl (by kernel_rfl) (fun _ _ _ h=>h) (fun V hV=>(by obtain⟨m0,m1,m2⟩:=HC6.out V hV;go_simp<;>rfl)) ?_
       refine Xd (i:=2) rfl (by kernel_rfl) (fun _ _ _ h=>h) (fun V hV=>(by obtain⟨m0,m1,m2⟩:=HC6.out V hV;go_simp<;>rfl)) ?_
       refine Xd (i:=3) rfl (by kernel_rfl) (fun _ _ _ h=>h) (fun V hV=>(by obtain⟨m0,m1,m2⟩:=HC6.out V hV;go_simp<;>rfl)) ?_
       refine V4 (i:=4) rfl (by kernel_rfl) (fun _ _ _ h=>h) ?_
       refine V4 (i:=5) rfl (by kernel_rfl) (fun _ _ _ h=>h) ?_
       refine V4 (i:=6) rfl (by kernel_rfl) (fun _ _ _ h=>h) ?_
       refine V4 (i:=7) rfl (by kernel_rfl) (fun _ _ _ h=>h) ?_
       refine Xw1 (by go_simp;rfl) ?_
       refine Xd (i:=8) rfl (by kernel_rfl) (fun _ _ _ h=>h) (fun V hV=>(by skip;go_simp<;>rfl)) ?_
       refine Xd (i:=9) rfl (by kernel_rfl) (fun _ _ _ h=>h) (fun V hV=>(by skip;go_simp<;>rfl)) ?_
       refine V4 (i:=10) rfl (by kernel_rfl) (fun _ _ _ h=>h) ?_
       refine V4 (i:=11) rfl (by kernel_rfl) (fun _ _ _ h=>h) ?_
       refine V4 (i:=12) rfl (by kernel_rfl) (fun _ _ _ h=>h) ?_
       refine V4 (i:=13) rfl (by kernel_rfl) (fun _ _ _ h=>h) ?_
       refine V4 (i:=14) rfl (by kernel_rfl) (fun _ _ _ h=>h) ?_
       refine V4 (i:=15) rfl (by kernel_rfl) (fun _ _ _ h=>h) ?_
       refine V4 (i:=16) rfl (by kernel_rfl) (fun _ _ _ h=>h) ?_
       refine V4 (i:=17) rfl (by kernel_rfl) (fun _ _ _ h=>h) ?_
       refine V4 (i:=18) rfl (by kernel_rfl) (fun _ _ _ h=>h) ?_
       refine V4 (i:=19) rfl (by kernel_rfl) (fun _ _ _ h=>h) ?_
       refine V4 (i:=20) rfl (by kernel_rfl) (fun _ _ _ h=>h) ?_
       refine V4 (i:=21) rfl (by kernel_rfl) (fun _ _ _ h=>h) ?_
       refine Xw1 (by go_simp;rfl) ?_
       refine Xd (i:=22) rfl (by kernel_rfl) (fun _ _ _ h=>h) (fun V hV=>(by skip;go_simp<;>rfl)) ?_
       refine Xl hv (by kernel_rfl) ?_ _
       clear HC6 hw6 HT0 HK0 HC
       go_wp2_with fail
       go_roundw
       case rel=>exact⟨k+1,_,by omega,rfl,by go_num,HN.out,Xb HB6.out hv⟩
       case measure=>simp[intOf];omega
      have k1:decide (0≤y.cat)=true:=decide_eq_true h1
      refine Xd (i:=0) rfl (by kernel_rfl) (fun _ _ _ h=>h) (fun V hV=>(by obtain⟨m0,m1,m2⟩:=HC6.out V hV;go_simp<;>rfl)) ?_
      refine Xd (i:=1) rfl (by kernel_rfl) (fun _ _ _ h=>h) (fun V hV=>(by obtain⟨m0,m1,m2⟩:=HC6.out V hV;go_simp<;>rfl)) ?_
      refine Xd (i:=2) rfl (by kernel_rfl) (fun _ _ _ h=>h) (fun V hV=>(by obtain⟨m0,m1,m2⟩:=HC6.out V hV;go_simp<;>rfl)) ?_
      refine Xd (i:=3) rfl (by kernel_rfl) (fun _ _ _ h=>h) (fun V hV=>(by obtain⟨m0,m1,m2⟩:=HC6.out V hV;go_simp<;>rfl)) ?_
      refine Xd (i:=4) rfl (by kernel_rfl) (fun _ _ _ h=>h) (fun V hV=>(by obtain⟨m0,m1,m2⟩:=HC6.out V hV;go_simp<;>rfl)) ?_
      refine Xd (i:=5) rfl (by kernel_rfl) (fun _ _ _ h=>h) (fun V hV=>(by obtain⟨m0,m1,m2⟩:=HC6.out V hV;go_simp<;>rfl)) ?_
      refine Xd (i:=6) rfl (by kernel_rfl) (fun _ _ _ h=>h) (fun V hV=>(by obtain⟨m0,m1,m2⟩:=HC6.out V hV;go_simp<;>rfl)) ?_
      refine Xw1 (by go_simp;rfl) ?_
      by_cases h2:y.frm=(m:Int)
      rotate_left
      ·have k2:(y.frm == (m:Int))=false:=by simpa using h2
       have HN:=Xa (HK0.out (.inr (.inl h2)))
       clear h1 h2 hb
       refine Xd (i:=7) rfl (by kernel_rfl) (fun _ _ _ h=>h) (fun V hV=>(by skip;go_simp<;>rfl)) ?_
       refine Xd (i:=8) rfl (by kernel_rfl) (fun _ _ _ h=>h) (fun V hV=>(by skip;go_simp<;>rfl)) ?_
       refine Xd (i:=9) rfl (by kernel_rfl) (fun _ _ _ h=>h) (fun V hV=>(by skip;go_simp<;>rfl)) ?_
       refine V4 (i:=10) rfl (by kernel_rfl) (fun _ _ _ h=>h) ?_
       refine V4 (i:=11) rfl (by kernel_rfl) (fun _ _ _ h=>h) ?_
       refine V4 (i:=12) rfl (by kernel_rfl) (fun _ _ _ h=>h) ?_
       refine V4 (i:=13) rfl (by kernel_rfl) (fun _ _ _ h=>h) ?_
       refine V4 (i:=14) rfl (by kernel_rfl) (fun _ _ _ h=>h) ?_
       refine V4 (i:=15) rfl (by kernel_rfl) (fun _ _ _ h=>h) ?_
       refine V4 (i:=16) rfl (by kernel_rfl) (fun _ _ _ h=>h) ?_
       refine V4 (i:=17) rfl (by kernel_rfl) (fun _ _ _ h=>h) ?_
       refine V4 (i:=18) rfl (by kernel_rfl) (fun _ _ _ h=>h) ?_
       refine V4 (i:=19) rfl (by kernel_rfl) (fun _ _ _ h=>h) ?_
       refine V4 (i:=20) rfl (by kernel_rfl) (fun _ _ _ h=>h) ?_
       refine V4 (i:=21) rfl (by kernel_rfl) (fun _ _ _ h=>h) ?_
       refine Xw1 (by go_simp;rfl) ?_
       refine Xd (i:=22) rfl (by kernel_rfl) (fun _ _ _ h=>h) (fun V hV=>(by skip;go_simp<;>rfl)) ?_
       refine Xl hv (by kernel_rfl) ?_ _
       clear HC6 hw6 HT0 HK0 HC
       go_wp2_with fail
       go_roundw
       case rel=>exact⟨k+1,_,by omega,rfl,by go_num,HN.out,Xb HB6.out hv⟩
       case measure=>simp[intOf];omega
      have k2:(y.frm == (m:Int))=true:=by simpa using h2
      refine Xd (i:=7) rfl (by kernel_rfl) (fun _ _ _ h=>h) (fun V hV=>(by skip;go_simp<;>rfl)) ?_
      refine Xd (i:=8) rfl (by kernel_rfl) (fun _ _ _ h=>h) (fun V hV=>(by skip;go_simp<;>rfl)) ?_
      refine Xd (i:=9) rfl (by kernel_rfl) (fun _ _ _ h=>h) (fun V hV=>(by skip;go_simp<;>rfl)) ?_
      refine Xw1 (by go_simp;rfl) ?_
      have hbA:=hb.out
      unfold Xym at hbA
      rcases hbA with ⟨rfl,hwn⟩|⟨b',hb',rfl,hws⟩
      ·have HN:=Xa (HT0.out h1 h2 (.inl rfl))
       clear h1 h2 hb hwn
       refine Xd (i:=10) rfl (by kernel_rfl) (fun _ _ _ h=>h) (fun V hV=>(by skip;go_simp<;>rfl)) ?_
       refine Xd (i:=11) rfl (by kernel_rfl) (fun _ _ _ h=>h) (fun V hV=>(by skip;go_simp<;>rfl)) ?_
       refine Xd (i:=12) rfl (by kernel_rfl) (fun _ _ _ h=>h) (fun V hV=>(by skip;go_simp<;>rfl)) ?_
       refine V4 (i:=13) rfl (by kernel_rfl) (fun _ _ _ h=>h) ?_
       refine V4 (i:=14) rfl (by kernel_rfl) (fun _ _ _ h=>h) ?_
       refine V4 (i:=15) rfl (by kernel_rfl) (fun _ _ _ h=>h) ?_
       refine V4 (i:=16) rfl (by kernel_rfl) (fun _ _ _ h=>h) ?_
       refine V4 (i:=17) rfl (by kernel_rfl) (fun _ _ _ h=>h) ?_
       refine V4 (i:=18) rfl (by kernel_rfl) (fun _ _ _ h=>h) ?_
       refine V4 (i:=19) rfl (by kernel_rfl) (fun _ _ _ h=>h) ?_
       refine V4 (i:=20) rfl (by kernel_rfl) (fun _ _ _ h=>h) ?_
       refine Xw1 (by go_simp;rfl) ?_
       refine Xd (i:=21) rfl (by kernel_rfl) (fun _ _ _ h=>h) (fun V hV=>(by skip;go_simp<;>rfl)) ?_
       refine Xd (i:=22) rfl (by kernel_rfl) (fun _ _ _ h=>h) (fun V hV=>(by skip;go_simp<;>rfl)) ?_
       refine Xl hv (by kernel_rfl) ?_ _
       clear HC6 hw6 HT0 HK0 HC
       go_wp2_with fail
       go_roundw
       case rel=>exact⟨k+1,_,by omega,rfl,by go_num,HN.out,Xb HB6.out hv⟩
       case measure=>simp[intOf];omega
      obtain⟨z,hz⟩:∃z,its.xs[b']=z:=⟨_,rfl⟩
      have HD:Hid (∀V,Below w6.heap.size w6 V→V.cell? ⟨bi,oi+b'*6+2,none⟩=some (.int .i64 z.unt)):=fun V hV=>by
       rw[← hz];exact HC.out b' hb' V (Xb HB7.out hV) 2 _ rfl
      have k3:decide ((b':Int)<0)=false:=decide_eq_false (by omega)
      have k4:¬(b':Int)<0:=by omega
      clear hws
      refine Xd (i:=10) rfl (by kernel_rfl) (fun _ _ _ h=>h) (fun V hV=>(by skip;go_simp<;>rfl)) ?_
      refine Xd (i:=11) rfl (by kernel_rfl) (fun _ _ _ h=>h) (fun V hV=>(by skip;go_simp<;>rfl)) ?_
      refine Xd (i:=12) rfl (by kernel_rfl) (fun _ _ _ h=>h) (fun V hV=>(by skip;go_simp<;>rfl)) ?_
      refine Xd (i:=13) rfl (by kernel_rfl) (fun _ _ _ h=>h) (fun V hV=>(by obtain⟨m0,m1,m2⟩:=HC6.out V hV;go_simp<;>rfl)) ?_
      refine Xd (i:=14) rfl (by kernel_rfl) (fun _ _ _ h=>h) (fun V hV=>(by obtain⟨m0,m1,m2⟩:=HC6.out V hV;go_simp<;>rfl)) ?_
      refine Xd (i:=15) rfl (by kernel_rfl) (fun _ _ _ h=>h) (fun V hV=>(by obtain⟨m0,m1,m2⟩:=HC6.out V hV;go_simp<;>rfl)) ?_
      refine Xd (i:=16) rfl (by kernel_rfl) (fun _ _ _ h=>h) (fun V hV=>(by obtain⟨m0,m1,m2⟩:=HC6.out V hV;go_simp<;>rfl)) ?_
      refine Xd (i:=17) rfl (by kernel_rfl) (fun _ _ _ h=>h) (fun V hV=>(by obtain⟨m0,m1,m2⟩:=HC6.out V hV;go_simp<;>rfl)) ?_
      refine Xd (i:=18) rfl (by kernel_rfl) (fun _ _ _ h=>h) (fun V hV=>(by obtain⟨m0,m1,m2⟩:=HC6.out V hV;go_simp<;>rfl)) ?_
      refine Xw1 (by go_simp;rfl) ?_
      refine Xd (i:=19) rfl (by kernel_rfl) (fun _ _ _ h=>h) (fun V hV=>(by have m3:=HD.out V hV;go_simp<;>rfl)) ?_
      by_cases h3:z.unt<y.unt
      ·have k5:decide (z.unt<y.unt)=true:=decide_eq_true h3
       have HN:=Xa (HT0.out h1 h2 (.inr ⟨b',hb',rfl,by rw[hz];exact h3⟩))
       clear h1 h2 h3 hb hz
       refine Xd (i:=20) rfl (by kernel_rfl) (fun _ _ _ h=>h) (fun V hV=>(by skip;go_simp<;>rfl)) ?_
       refine Xd (i:=21) rfl (by kernel_rfl) (fun _ _ _ h=>h) (fun V hV=>(by skip;go_simp<;>rfl)) ?_
       refine Xd (i:=22) rfl (by kernel_rfl) (fun _ _ _ h=>h) (fun V hV=>(by skip;go_simp<;>rfl)) ?_
       refine Xl hv (by kernel_rfl) ?_ _
       clear HC6 hw6 HT0 HK0 HC
       go_wp2_with fail
       go_roundw
       case rel=>exact⟨k+1,_,by omega,rfl,by go_num,HN.out,Xb HB6.out hv⟩
       case measure=>simp[intOf];omega
      ·have k5:decide (z.unt<y.unt)=false:=decide_eq_false h3
       have HN:=Xa (HK0.out (.inr (.inr ⟨b',hb',rfl,by rw[hz];omega⟩)))
       clear h1 h2 h3 hb hz
       refine Xd (i:=20) rfl (by kernel_rfl) (fun _ _ _ h=>h) (fun V hV=>(by skip;go_simp<;>rfl)) ?_
       refine Xd (i:=21) rfl (by kernel_rfl) (fun _ _ _ h=>h) (fun V hV=>(by skip;go_simp<;>rfl)) ?_
       refine Xd (i:=22) rfl (by kernel_rfl) (fun _ _ _ h=>h) (fun V hV=>(by skip;go_simp<;>rfl)) ?_
       refine Xl hv (by kernel_rfl) ?_ _
       clear HC6 hw6 HT0 HK0 HC
       go_wp2_with fail
       go_roundw
       case rel=>exact⟨k+1,_,by omega,rfl,by go_num,HN.out,Xb HB6.out hv⟩
       case measure=>simp[intOf];omega
     ·obtain rfl:k=its.xs.length:=by omega
      have hbA:=hb.out
      unfold Xym at hbA
      rw[List.take_length] at hbA
      rcases hbA with ⟨rfl,hwn⟩|⟨b',hb',rfl,hws⟩
      ·have Hw:=Xa (X7u (n:=(s.xs.length:Int)) (by omega) hwn)
       clear hwn hb
       go_wp2_with fail
       go_roundw
       case rel=>exact⟨A9,_,c9,L,m+1,rfl,rfl,by go_num,by omega,HR.out.1.ext hBz.out,Xb HR.out.2.1 hBz.out,by have:=HR.out.2.2.1;omega,by have h:=HR.out.2.2.2;rw[Hw.out] at h;exact h⟩
       case measure=>simp[intOf];omega
      ·obtain⟨q1,q2,q3,q4⟩:=Xyx hws
       obtain⟨p1,p2,p3⟩:=Ho.out.place _ (List.getElem_mem hb')
       have hts:=Ho.out.tgt _ (List.getElem_mem hb')
       obtain⟨ut,hut⟩:∃ut:Nat,its.xs[b'].unt=(ut:Int):=⟨its.xs[b'].unt.toNat,by omega⟩
       have Hw:=Xa (X27 (fun x hx=>(Ho.out.place x hx).2.1) (n:=(s.xs.length:Int)) (by omega) hws)
       have Hm2:Hid (m<ut):=by show m<ut;omega
       have Hm3:Hid (ut≤s.xs.length):=by show ut≤s.xs.length;omega
       obtain⟨bi,oi,hA,hbb,hc⟩:=Hi4.out.lies.at_ ItemG.size_cells (by omega) hb'
       have HU:Hid (∀V,Below W4.heap.size W4 V→V.cell? ⟨bi,oi+b'*6+2,none⟩=some (.int .i64 (ut:Int))):=fun V hV=>by
        rw[← hut];exact hc b' hb' V hV 2 _ rfl
       have hB8:=Xb HR.out.2.1 hBz.out
       obtain⟨w7,hw7⟩:∃w7,wz.alloc (.cells #[.int .i64 (-1),.int .i64 (b':Int),.int .i64 0,.int .i64 0,.slice none 0 0] 37)=w7:=⟨_,rfl⟩
       have hb7:=Yn hw7
       have hk7:=Yv hw7
       have HB7:=Xa (Xb hB8 hb7)
       have hg7:=(HB7.out.block _ hw4).trans hg4'.out
       have FW:Hid (Calls Tryz.prog 98 #[.agg #[.string g.name,.slice g.cats.addr g.cats.xs.length g.cats.cap,.string g.start,.int .i64 g.startNo,.slice g.entries.addr g.entries.xs.length g.entries.cap,.slice g.rules.addr g.rules.xs.length g.rules.cap],.slice its.addr its.xs.length its.cap,.agg #[.int .i64 (-1),.int .i64 (b':Int),.int .i64 0,.int .i64 0,.slice none 0 0]] w7 _):=Xzf g its (Xzp b') w7
       have HP:=Xa (fun (x:ItemG) (hx:x∈its.xs)=>(show (0:Int)≤x.frm∧x.frm<x.unt∧x.unt≤16 from ⟨(Ho.out.place x hx).1,(Ho.out.place x hx).2.1,by have:=(Ho.out.place x hx).2.2;omega⟩))
       have HR7:=Xa (HR.out.1.ext (Xb hBz.out hb7))
       have Hts:=Xa hts
       have hAd:=Xa hA
       have Hb:=Xa hb'
       have Hut:=Xa hut
       have HW7:=Xa hw7
       have Hg7:=Xa hg7
       have Hk7:=Xa hk7
       clear q4 q1 q2 q3 p1 p2 p3 hts hut hc hbb hA hB8 hb7 hk7 hg7 hws hb hkg hw7
       go_upto_region 23 with fail
       rw[HW7.out]
       have hg7:=Hg7.out
       have hk7:=Hk7.out
       obtain⟨c0,c1,c2,c3,c4,c5⟩:=gb6 hg7
       obtain⟨d0,d1,d2,d3,d4⟩:=gb5 hk7
       clear hg7 hk7
       go_wp2_with fail
       refine FW.out.mono ?_
       rintro e w8 ⟨rfl,hw8⟩
       have hb8:Below w7.heap.size w7 w8:=by rw[← hw8];exact Xe (Xe (Xe (Below.refl _ _) _) _) _
       have FC:=Xa (Xx8 (P:=fun _=>False) (HG4.out.ext HB7.out) (Hi4.out.ext HB7.out) (X1s _ _ b') (WellT.leaf (by decide) rfl Hb.out) (by simp[X5,Xp]) HP.out Ho.out.tgt Hru.out.1 Hru.out.2 hw8)
       clear hw8 c0 c1 c2 c3 c4 c5 d0 d1 d2 d3 d4
       go_wp2_with fail
       refine FC.out.mono ?_
       intro e w9 h9
       obtain⟨A6,n6,c6,L6,rfl,hn6,hr6,hl6,hb9⟩:=X1d h9
       rw[X50 Hb.out] at hl6
       have hlen:L6.length≤8:=by
        have h:=congrArg List.length hl6
        unfold Xw3 at h
        rw[List.length_map,List.length_map] at h
        have:=Hts.out
        omega
       have HB9:=Xb HB7.out (Xb hb8 hb9)
       obtain⟨A',n',c',V',hrun,hn',hrow,hbel⟩:=RowT.append (HR7.out.ext (Xb hb8 hb9)) hr6 hn6 HB9.size (by have:=HR.out.2.2.1;omega) 65
       have HB':=Xa (HB9.trans hbel)
       have Hrow:=Xa hrow
       have Hn':=Xa hn'
       have Hl6:=Xa hl6
       have Hlen:=Xa hlen
       have mU:=HU.out V' HB'.out
       rw[hAd.out]
       have Hrun:=Xa hrun
       clear h9 hn6 hr6 hl6 hb9 hlen HB9 hn' hrow hbel FC hb8 hrun
       go_wp2_with (at_builtin;refine Xzg rfl _ _ 65 rfl rfl rfl Hrun.out ?_)
       rw[← hAd.out]
       go_roundw
       case rel=>exact⟨A',n',c',L++L6,ut,rfl,Hn'.out,rfl,Hm3.out,Hrow.out,HB'.out,by have:=HR.out.2.2.1;have:=Hlen.out;have:=Hm2.out;rw[List.length_append];omega,by rw[List.map_append,Hl6.out,List.append_assoc];have h:=HR.out.2.2.2;rw[Hw.out,Hut.out] at h;exact h⟩
       case measure=>have:=Hm2.out;simp[intOf];omega
   ·obtain rfl:m=s.xs.length:=by omega
    have HBr:=Xa (Xb HB4.out HR.out.2.1)
    have Hr:=Xa (HR.out.1.mono HB4.out.size)
    have Hl:Hid (L.map TgG.c=wbwT its.xs s.xs.length 0):=by
     have h:=HR.out.2.2.2
     rw[X41 _ (Int.le_refl _),List.append_nil] at h
     exact h
    go_wp2_with fail
    refine bodyPost_ret (v:=.tuple #[.slice A9 L.length c9,.bool false,.int .i64 0]) (by simp[results,Tryz.results41,go_sem]) rfl ?_
    exact⟨HBr.out,_,_,_,L,by rw[HT1.out,HZ.out],rfl,Hr.out,by rw[HT1.out];exact Hl.out⟩
def Xy4 (w:World) (l:List Obj):World:=l.foldl World.alloc w
theorem Xyc:∀(l:List Obj) (w:World),Below w.heap.size w (Xy4 w l)
 | [],w=>Below.refl _ _
 | o :: l,w=>Xb (Xe (Below.refl _ _) o) (Xyc l (w.alloc o))
theorem Xxb:∀(l:List Obj) (w:World) (i:Nat) (o:Obj),l[i]? = some o→(Xy4 w l).heap[w.heap.size+i]? = some o
 | [],_,_,_,h=>by simp at h
 | p :: l,w,0,o,h=>by
  simp only[List.getElem?_cons_zero,Option.some.injEq] at h
  subst h
  exact((Xyc l (w.alloc p)).block _ (by rw[World.size_alloc];omega)).trans (World.alloc_heap_new _ _)
 | p :: l,w,i+1,o,h=>by
  have:=Xxb l (w.alloc p) i o (by simpa using h)
  rw[World.size_alloc] at this
  rw[show w.heap.size+(i+1)=w.heap.size+1+i by omega]
  exact this
def b0:ByteArray:=⟨#[]⟩
def bGerm:ByteArray:=⟨#[103,101,114,109,97,110]⟩
def bS:ByteArray:=⟨#[115]⟩
def bN:ByteArray:=⟨#[110]⟩
def bUnd:ByteArray:=⟨#[117,110,100]⟩
def bAnd:ByteArray:=⟨#[97,110,100]⟩
def bThe:ByteArray:=⟨#[116,104,101]⟩
def bDog:ByteArray:=⟨#[100,111,103]⟩
def bCat:ByteArray:=⟨#[99,97,116]⟩
def X1c:ByteArray:=⟨#[104,117,110,100]⟩
def Xy5:ByteArray:=⟨#[107,97,116,122,101]⟩
def ru30 (b:Nat):RuleG:=⟨bS,0,⟨some ⟨b+1,0,none⟩,3,[⟨bN,1,b0⟩,⟨b0,0,bUnd⟩,⟨bN,1,b0⟩]⟩,⟨some ⟨b+1+1,0,none⟩,3,[⟨2,b0⟩,⟨0,bAnd⟩,⟨0,b0⟩]⟩,0⟩
def en30 (b:Nat):List EntryG:=[⟨X1c,bN,1,⟨some ⟨b+1+1+1+1+1,0,none⟩,2,[bThe,bDog]⟩,0⟩,⟨Xy5,bN,1,⟨some ⟨b+1+1+1+1+1+1,0,none⟩,1,[bCat]⟩,0⟩]
def g30 (b:Nat):Gram:=⟨bGerm,⟨some ⟨b+1+1+1+1,0,none⟩,2,[bS,bN]⟩,bS,0,⟨some ⟨b+1+1+1+1+1+1+1,0,none⟩,2,en30 b⟩,⟨some ⟨b+1+1+1+1+1+1+1+1,0,none⟩,1,[ru30 b]⟩⟩
def o30 (b:Nat):List Obj :=
  [.cells (g30 b).cells.toArray 26,.cells ((ru30 b).parts.xs.flatMap PartG.cells).toArray 81,.cells ((ru30 b).gives.xs.flatMap GiveG.cells).toArray 176,
   .cells (ru30 b).cells.toArray 79,.cells #[.string bS,.string bN] 9,.cells #[.string bThe,.string bDog] 9,.cells #[.string bCat] 9,
   .cells ((en30 b).flatMap EntryG.cells).toArray 60,.cells (ru30 b).cells.toArray 79]
theorem Xx0 {W:World} {b t:Nat} {cs:Array Value} {xs:List ByteArray} {n:Nat} (h:W.heap[b]? = some (.cells cs t (0,0))) (hc:cs.toList=strs xs) (hm:xs.length≤1024) (hn:n=xs.length):StrS.lies W ⟨some ⟨b,0,none⟩,n,xs⟩:=by
 subst hn
 exact⟨Yw h hc,Nat.le_refl _,by show xs.length≤_;omega,fun h=>by cases h⟩
theorem X8b (w:World):(g30 w.heap.size).lies (Xy4 w (o30 w.heap.size)):=by
 have h1:=Xxb (o30 w.heap.size) w 1 _ rfl
 have h2:=Xxb (o30 w.heap.size) w 2 _ rfl
 have h4:=Xxb (o30 w.heap.size) w 4 _ rfl
 have h5:=Xxb (o30 w.heap.size) w 5 _ rfl
 have h6:=Xxb (o30 w.heap.size) w 6 _ rfl
 have h7:=Xxb (o30 w.heap.size) w 7 _ rfl
 have h8:=Xxb (o30 w.heap.size) w 8 _ rfl
 refine⟨Xx0 h4 rfl (by decide) rfl,⟨Yw h7 rfl,Nat.le_refl _,by show 2≤_;omega,fun h=>by cases h⟩,fun x hx=>?_,⟨Yw h8 rfl,Nat.le_refl _,by show 1≤_;omega,fun h=>by cases h⟩,fun x hx=>?_⟩
 ·simp only[g30,en30,List.mem_cons,List.not_mem_nil,or_false] at hx
  rcases hx with rfl|rfl
  ·exact Xx0 h5 rfl (by decide) rfl
  ·exact Xx0 h6 rfl (by decide) rfl
 ·simp only[g30,List.mem_cons,List.not_mem_nil,or_false] at hx
  subst hx
  exact⟨⟨Yw h1 rfl,Nat.le_refl _,by show 3≤_;omega,fun h=>by cases h⟩,⟨Yw h2 rfl,Nat.le_refl _,by show 3≤_;omega,fun h=>by cases h⟩⟩
set_option maxHeartbeats 1000000 in
theorem X4w (w:World):Calls Tryz.prog 94 #[] w fun e w'=>e = .returned (.agg (g30 w.heap.size).cells.toArray)∧w'=Xy4 w (o30 w.heap.size):=by
 go_enter Tryz.func94,Tryz.ntmps94
 go_wp2_with fail
 change bodyPost _ _ _ _ _ (Xy4 w (o30 w.heap.size))
 have h0:(Xy4 w (o30 w.heap.size)).heap[w.heap.size]? = some (.cells #[.string (g30 w.heap.size).name,.slice (g30 w.heap.size).cats.addr (g30 w.heap.size).cats.xs.length (g30 w.heap.size).cats.cap,.string (g30 w.heap.size).start,.int .i64 (g30 w.heap.size).startNo,.slice (g30 w.heap.size).entries.addr (g30 w.heap.size).entries.xs.length (g30 w.heap.size).entries.cap,.slice (g30 w.heap.size).rules.addr (g30 w.heap.size).rules.xs.length (g30 w.heap.size).rules.cap] 26 (0,0)):=Xxb (o30 w.heap.size) w 0 _ rfl
 generalize Xy4 w (o30 w.heap.size)=W at *
 obtain⟨z0,z1,z2,z3,z4,z5⟩:=gb6 h0
 refine bodyPost_ret (v:=.agg (g30 w.heap.size).cells.toArray) ?_ rfl ⟨rfl,rfl⟩
 simp[results,Tryz.results94,go_sem,z0,z1,z2,z3,z4,z5,Gram.cells]
set_option maxHeartbeats 1000000 in
theorem X3s (s:ByteArray) (A:Option Addr) (n c:Nat) (w:World):Calls Tryz.prog 95 #[.string s,.slice A n c] w fun e w'=>e = .returned (.agg #[.string s,.slice A n c,.int .i64 (-1)])∧w'=w.alloc (.cells #[.string s,.slice A n c,.int .i64 (-1)] 75):=by
 go_enter Tryz.func95,Tryz.ntmps95
 go_wp2_with fail
 have h0:(w.alloc (.cells #[.string s,.slice A n c,.int .i64 (-1)] 75)).heap[w.heap.size]? = some (.cells #[.string s,.slice A n c,.int .i64 (-1)] 75 (0,0)):=World.alloc_heap_new _ _
 generalize w.alloc (.cells #[.string s,.slice A n c,.int .i64 (-1)] 75)=W at *
 obtain⟨z0,z1,z2⟩:=gb3 h0
 exact bodyPost_ret (v:=.agg #[.string s,.slice A n c,.int .i64 (-1)]) (by simp[results,Tryz.results95,go_sem,z0,z1,z2]) rfl ⟨rfl,rfl⟩
theorem X74 (b:Nat):Xwu (g30 b) [] 1 [X1c,bUnd,Xy5] 0 0=0:=by kernel_rfl
theorem ex1_tr (b:Nat):trE (g30 b) [] 1 [X1c,bUnd,Xy5] 0 0=([⟨bCat,[1,2], -1⟩,⟨bAnd,[0,1,2], -1⟩,⟨bThe,[0,1], -1⟩,⟨bDog,[0,1], -1⟩],true):=by kernel_rfl
theorem X75 (b:Nat):Xwu (g30 b) [] 1 [] 0 0=0:=by kernel_rfl
theorem X76 (b:Nat):Xwu (g30 b) [] 1 [Xy5,X1c] 0 0=0:=by kernel_rfl
theorem ex3_tr (b:Nat):trE (g30 b) [] 1 [Xy5,X1c] 0 0=([⟨bCat,[0], -1⟩,⟨bThe,[1], -1⟩,⟨bDog,[1], -1⟩],false):=by kernel_rfl
def bOje:ByteArray:=⟨#[111,106,101]⟩
def s30 (b:Nat):Gram:=⟨bGerm,⟨some ⟨b,0,none⟩,1,[bS]⟩,bS,0,⟨none,0,[]⟩,⟨none,0,[]⟩⟩
theorem X77 (b:Nat):Xwu (s30 b) [] 1 [bOje] 0 0=0:=by kernel_rfl
theorem ex4_tr (b:Nat):trE (s30 b) [] 1 [bOje] 0 0=([⟨bOje,[0], -1⟩],true):=by kernel_rfl
end Go.Proofs.YtolpbjjapodmnaaGreatDoor
