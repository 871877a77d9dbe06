/- Texts of this claim, one after the other: Chwj, R29k. -/
import Derived.Test.YtolpbjjapodmnaaGreatDoorM17
import Derived.Test.YtolpbjjapodmnaaGreatDoorM13
import Derived.Test.YtolpbjjapodmnaaGreatDoorM8
import Derived.Test.YtolpbjjapodmnaaGreatDoorM12
namespace Go.Proofs.YtolpbjjapodmnaaGreatDoor
open Go.RowKit Go.Han
attribute [local irreducible] wpStill wpQuiet
set_option maxRecDepth 100000
def SentF (g:Gram) (its:SlS ItemG) (n:Int) (W1:World) (y:Nat×Nat×FoundG) (v:World):Prop :=
 v.heap[y.1]? = some (.cells #[.bool y.2.2.ok,.int .i64 y.2.2.cost,.int .i64 y.2.2.rule,.int .i64 y.2.2.item,.int .i64 y.2.2.frm,.int .i64 y.2.2.unt,.slice y.2.2.kids.addr y.2.2.kids.len y.2.2.kids.cap,.int .i64 y.2.2.many] 114 (0,0))∧FoundOk (fun _=>False) v y.2.2 (Fd.of bigN (derG g its.xs g.startNo 0 n.toNat))∧Below W1.heap.size W1 v
theorem Yf {s k:Nat} {A B C:World} (h:Below s A B) (hs:s≤B.heap.size) (ho:Only (fun j=>j=k) B C) (hk:s≤k):Below s A C :=
 ⟨ho.os.trans h.os,ho.tape.trans h.tape,ho.output.trans h.output,Nat.le_trans h.size ho.size,fun b hb=>(ho.block b (Nat.lt_of_lt_of_le hb hs) (by show b≠k;omega)).trans (h.block b hb)⟩
theorem Xeo (g:Gram) (its:SlS ItemG) (n:Int) (U:World) (hT:TabsG U) (hg:g.lies U) (hs:g.short) (hi:ItemsAt U its) (h0:errC g its.xs n=0):Calls Tryz.prog 66 #[.agg #[.string g.name,.slice g.cats.addr g.cats.xs.length g.cats.cap,.string g.start,.int .i64 g.startNo,.slice g.entries.addr g.entries.xs.length g.entries.cap,.slice g.rules.addr g.rules.xs.length g.rules.cap],.slice its.addr its.xs.length its.cap,.int .i64 n] U fun e w'=>∃cb kb wb top,e = .returned (.pointer (some ⟨cb,0,none⟩))∧ChEnv U cb kb wb top g its n.toNat w'∧KnownF (fun _=>False) g its.xs n.toNat kb (fun _=>none) w'∧Below U.heap.size U w' :=
 (Xgo g its n U hT hg hs hi).mono fun _ _ ⟨h1,h2⟩=>by
  rcases h2 with ⟨h3,_⟩|⟨_,cb,kb,wb,top,e,h4,h5⟩
  ·exact absurd h0 h3
  ·exact⟨cb,kb,wb,top,e,h4,h5 _,h1⟩
theorem Xen (g:Gram) (its:SlS ItemG) (n:Int) (U:World) (hT:TabsG U) (hg:g.lies U) (hs:g.short) (hi:ItemsAt U its) (h0:errC g its.xs n≠0):Calls Tryz.prog 66 #[.agg #[.string g.name,.slice g.cats.addr g.cats.xs.length g.cats.cap,.string g.start,.int .i64 g.startNo,.slice g.entries.addr g.entries.xs.length g.entries.cap,.slice g.rules.addr g.rules.xs.length g.rules.cap],.slice its.addr its.xs.length its.cap,.int .i64 n] U fun e w'=>e = .panicked (Q1 (errC g its.xs n))∧Below U.heap.size U w' :=
 (Xgo g its n U hT hg hs hi).mono fun _ _ ⟨h1,h2⟩=>by
  rcases h2 with ⟨_,h3⟩|⟨h3,_⟩
  ·exact⟨h3,h1⟩
  ·exact absurd h3 h0
theorem Xkp (g:Gram) (its:SlS ItemG) (n:Int) {U V:World} {cb kb wb top:Nat} (hg:g.lies U) (hi:ItemsAt U its) (h0:errC g its.xs n=0) (hE:ChEnv U cb kb wb top g its n.toNat V) (hK:KnownF (fun _=>False) g its.xs n.toNat kb (fun _=>none) V) :
  Calls Tryz.prog 67 #[.pointer (some ⟨cb,0,none⟩),.agg #[.int .i64 g.startNo,.int .i64 0,.int .i64 n]] V fun e w'=>∃fd,e = .returned (.agg #[.bool fd.ok,.int .i64 fd.cost,.int .i64 fd.rule,.int .i64 fd.item,.int .i64 fd.frm,.int .i64 fd.unt,.slice fd.kids.addr fd.kids.len fd.kids.cap,.int .i64 fd.many])∧FoundOk (fun _=>False) w' fd (Fd.of bigN (derG g its.xs g.startNo 0 n.toNat))∧Only (fun j=>j=kb) V w':=by
 have hA:=Vz h0
 have h1:=hA.n1
 have hn:((n.toNat:Nat):Int)=n:=by omega
 have h:=Xe3 hA.gram hA.items hg hi hA.few (by have:=hA.n16;omega) (muG g g.startNo 0 n.toNat+1) g.startNo 0 n.toNat (Nat.lt_succ_self _) hA.gram.start.1 hA.gram.start.2 (by omega) (Nat.le_refl _) (fun _=>False) (fun _=>none) V (fun _ h=>h.elim) hE hK
 rw[hn] at h
 refine h.mono ?_
 rintro e w' ⟨fd,f',h2,h3,_,_,h4⟩
 exact⟨fd,h2,h3,h4⟩
def Xgi (g:Gram) (its:SlS ItemG) (n:Int) (w:World) (e:Ending) (w':World):Prop :=
 e = .returned (.tuple #[.int .i64 (Vy g its.xs n).1,.int .i64 (Vy g its.xs n).2])∧Below w.heap.size w w'
set_option maxHeartbeats 2000000 in
theorem Xms (g:Gram) (its:SlS ItemG) (n:Int) (w:World) (hT:TabsG w) (hg:g.lies w) (hs:g.short) (hi:ItemsAt w its):Calls Tryz.prog 18 #[.agg #[.string g.name,.slice g.cats.addr g.cats.xs.length g.cats.cap,.string g.start,.int .i64 g.startNo,.slice g.entries.addr g.entries.xs.length g.entries.cap,.slice g.rules.addr g.rules.xs.length g.rules.cap],.slice its.addr its.xs.length its.cap,.int .i64 n] w (Xgi g its n w):=by
 obtain⟨W1,hW1⟩:∃W1,(w.alloc (.cells #[.string g.name,.slice g.cats.addr g.cats.xs.length g.cats.cap,.string g.start,.int .i64 g.startNo,.slice g.entries.addr g.entries.xs.length g.entries.cap,.slice g.rules.addr g.rules.xs.length g.rules.cap] 26)).alloc (.cells #[.int .i64 0] 33)=W1:=⟨_,rfl⟩
 have hB1:Below w.heap.size w W1:=by rw[← hW1];exact Xe (Xe (Below.refl _ _) _) _
 have hk:W1.heap[w.heap.size]? = some (.cells #[.string g.name,.slice g.cats.addr g.cats.xs.length g.cats.cap,.string g.start,.int .i64 g.startNo,.slice g.entries.addr g.entries.xs.length g.entries.cap,.slice g.rules.addr g.rules.xs.length g.rules.cap] 26 (0,0)):=by rw[← hW1];exact(Below.heap_alloc _ _ _ (by simp)).trans (World.alloc_heap_new _ _)
 have he:W1.heap[w.heap.size+1]? = some (.cells #[.int .i64 0] 33 (0,0)):=by rw[← hW1];exact X0 _ _ _ (by simp)
 have HBo:=Xa (fun U (hU:Below W1.heap.size W1 U) h0=>Xeo g its n U (hT.ext (Xb hB1 hU)) (hg.ext (Xb hB1 hU)) hs (hi.ext (Xb hB1 hU)) h0)
 have HBe:=Xa (fun U (hU:Below W1.heap.size W1 U) h0=>Xen g its n U (hT.ext (Xb hB1 hU)) (hg.ext (Xb hB1 hU)) hs (hi.ext (Xb hB1 hU)) h0)
 have HFi:=Xa (fun U V (hU:Below W1.heap.size W1 U) cb kb wb top h0 hE hK=>Xkp g its n (U:=U) (V:=V) (cb:=cb) (kb:=kb) (wb:=wb) (top:=top) (hg.ext (Xb hB1 hU)) (hi.ext (Xb hB1 hU)) h0 hE hK)
 have HB1:=Xa hB1
 have He:=Xa he
 have hkl:=Xc hk
 have HC:Hid (∀V:World,V.heap[w.heap.size]? = W1.heap[w.heap.size]? → (V.cell? ⟨w.heap.size,0,none⟩=some (.string g.name)∧V.cell? ⟨w.heap.size,1,none⟩=some (.slice g.cats.addr g.cats.xs.length g.cats.cap)∧V.cell? ⟨w.heap.size,2,none⟩=some (.string g.start)∧V.cell? ⟨w.heap.size,3,none⟩=some (.int .i64 g.startNo)∧V.cell? ⟨w.heap.size,4,none⟩=some (.slice g.entries.addr g.entries.xs.length g.entries.cap)∧V.cell? ⟨w.heap.size,5,none⟩=some (.slice g.rules.addr g.rules.xs.length g.rules.cap))):=fun V hV=>by
  have h:=hV.trans hk
  exact⟨gblk h 0,gblk h 1,gblk h 2,gblk h 3,gblk h 4,gblk h 5⟩
 have hz1:w.heap.size+1<W1.heap.size:=Xc he
 clear hT hg hs hi hk he hB1
 by_cases h0:errC g its.xs n=0
 rotate_left
 ·have hR:Vy g its.xs n=(0,errC g its.xs n):=by unfold Vy;rw[if_pos h0]
  have HR:=Xa hR
  have H0:=Xa h0
  clear hR h0
  go_enter_defers Tryz.func18,Tryz.ntmps18
  go_wp2_with fail
  refine wpIn_wide (n:=0) |>.1 ?_
  refine Xd1 8 (fun ch v=>ch=Q1 (errC g its.xs n)∧Below W1.heap.size W1 v) ?_ ?_
  ·refine Xo (fun V=>(V.cell? ⟨w.heap.size,0,none⟩=some (.string g.name)∧V.cell? ⟨w.heap.size,1,none⟩=some (.slice g.cats.addr g.cats.xs.length g.cats.cap)∧V.cell? ⟨w.heap.size,2,none⟩=some (.string g.start)∧V.cell? ⟨w.heap.size,3,none⟩=some (.int .i64 g.startNo)∧V.cell? ⟨w.heap.size,4,none⟩=some (.slice g.entries.addr g.entries.xs.length g.entries.cap)∧V.cell? ⟨w.heap.size,5,none⟩=some (.slice g.rules.addr g.rules.xs.length g.rules.cap))) (by kernel_rfl) ?_
   have hC0:=HC.out W1.drew rfl
   refine Xd (i:=0) rfl (by kernel_rfl) (fun _ _ _ h=>h.put (by kernel_rfl)) (fun V hV=>(by obtain⟨r1,r2,r3,r4,r5,r6⟩:=hV;go_simp<;>rfl)) ?_
   refine Xd (i:=1) rfl (by kernel_rfl) (fun _ _ _ h=>h.put (by kernel_rfl)) (fun V hV=>(by obtain⟨r1,r2,r3,r4,r5,r6⟩:=hV;go_simp<;>rfl)) ?_
   refine Xd (i:=2) rfl (by kernel_rfl) (fun _ _ _ h=>h.put (by kernel_rfl)) (fun V hV=>(by obtain⟨r1,r2,r3,r4,r5,r6⟩:=hV;go_simp<;>rfl)) ?_
   refine Xd (i:=4) rfl (by kernel_rfl) (fun _ _ _ h=>h.put (by kernel_rfl)) (fun V hV=>(by obtain⟨r1,r2,r3,r4,r5,r6⟩:=hV;go_simp<;>rfl)) ?_
   refine Xd (i:=5) rfl (by kernel_rfl) (fun _ _ _ h=>h.put (by kernel_rfl)) (fun V hV=>(by obtain⟨r1,r2,r3,r4,r5,r6⟩:=hV;go_simp<;>rfl)) ?_
   refine Xd (i:=6) rfl (by kernel_rfl) (fun _ _ _ h=>h.put (by kernel_rfl)) (fun V hV=>(by obtain⟨r1,r2,r3,r4,r5,r6⟩:=hV;go_simp<;>rfl)) ?_
   refine Xd (i:=7) rfl (by kernel_rfl) (fun _ _ _ h=>h.put (by kernel_rfl)) (fun V hV=>(by obtain⟨r1,r2,r3,r4,r5,r6⟩:=hV;go_simp<;>rfl)) ?_
   refine Xs (rs:=[3,9]) hC0 (by kernel_rfl) (by simp) (AllC.cons rfl (fun K hK=>?_) (AllC.cons rfl (fun K hK=>?_) AllC.nil))
   ·go_simp
    refine⟨trivial,rfl,callsIn_wide.2 ((HBe.out _ (Xi (Below.refl _ _)) H0.out).mono ?_)⟩
    rintro e9 w9 ⟨rfl,hB9⟩
    exact⟨_,rfl,KeepF.of_take rfl rfl,rfl,Xb (Xi (Below.refl _ _)) hB9⟩
   ·go_simp
    refine hK _ _ ?_
    clear hK K
    have hBz:Below W1.heap.size W1 (W1.alloc (.cells #[.bool false,.int .i64 0,.int .i64 0,.int .i64 0,.int .i64 0,.int .i64 0,.slice none 0 0,.int .i64 0] 114)).drew:=Xi (Xe (Below.refl _ _) _)
    refine Xg (i:=3) (HC.out _ (hBz.block _ hkl)) (by kernel_rfl) rfl (fun K hK=>?_)
    go_simp
    refine⟨trivial,rfl,callsIn_wide.2 ((HBe.out _ hBz H0.out).mono ?_)⟩
    rintro e9 w9 ⟨rfl,hB9⟩
    exact⟨_,rfl,KeepF.of_take rfl rfl,rfl,Xb hBz hB9⟩
  ·rintro ch a' v ⟨hd,ht⟩ ⟨rfl,hB9⟩
   show Leaves _ _ a'.tmps _ a'.defers _ _
   rw[hd]
   refine leaves_cons (f:=65) (args:=#[.pointer (some ⟨w.heap.size+1,0,none⟩)]) (by simp) (by simp[go_sem]) ?_
   have hev:v.heap[w.heap.size+1]? = some (.cells #[.int .i64 0] 33 (0,0)):=(hB9.block _ hz1).trans He.out
   refine(Us _ _ _ _ hev).mono ?_
   rintro e u' w'' ⟨rfl,rfl,rfl⟩
   have ht6:=ht 6 (by omega)
   have ht7:=ht 7 (by omega)
   simp[Leaves,settle,results,Tryz.results18,go_sem,Xj hev,ht6,ht7]
   refine⟨by rw[HR.out],?_⟩
   exact(Xb HB1.out hB9).setCell (p:=⟨w.heap.size+1,0,none⟩) (by show w.heap.size≤w.heap.size+1;omega) _
 ·have H0:=Xa h0
  clear h0
  go_enter_defers Tryz.func18,Tryz.ntmps18
  go_wp2_with fail
  refine wpIn_wide (n:=0) |>.1 ?_
  refine Td (fun (y:Nat×Nat×FoundG) a=>{a with tmps:=(((((((((a.tmps.setIfInBounds 9 (.agg #[.string g.name,.slice g.cats.addr g.cats.xs.length g.cats.cap,.string g.start,.int .i64 g.startNo,.slice g.entries.addr g.entries.xs.length g.entries.cap,.slice g.rules.addr g.rules.xs.length g.rules.cap])).setIfInBounds 10 (.slice its.addr its.xs.length its.cap)).setIfInBounds 11 (.int .i64 n)).setIfInBounds 13 (.pointer (some ⟨w.heap.size,3,none⟩))).setIfInBounds 14 (.int .i64 g.startNo)).setIfInBounds 15 (.int .i64 n)).setIfInBounds 16 (.agg #[.int .i64 g.startNo,.int .i64 0,.int .i64 n])).setIfInBounds 12 (.pointer (some ⟨y.2.1,0,none⟩))).setIfInBounds 17 (.agg #[.bool y.2.2.ok,.int .i64 y.2.2.cost,.int .i64 y.2.2.rule,.int .i64 y.2.2.item,.int .i64 y.2.2.frm,.int .i64 y.2.2.unt,.slice y.2.2.kids.addr y.2.2.kids.len y.2.2.kids.cap,.int .i64 y.2.2.many])).setIfInBounds 8 (.pointer (some ⟨y.1,0,none⟩))}) (SentF g its n W1) ?_ ?_
  ·refine Xo (fun V=>(V.cell? ⟨w.heap.size,0,none⟩=some (.string g.name)∧V.cell? ⟨w.heap.size,1,none⟩=some (.slice g.cats.addr g.cats.xs.length g.cats.cap)∧V.cell? ⟨w.heap.size,2,none⟩=some (.string g.start)∧V.cell? ⟨w.heap.size,3,none⟩=some (.int .i64 g.startNo)∧V.cell? ⟨w.heap.size,4,none⟩=some (.slice g.entries.addr g.entries.xs.length g.entries.cap)∧V.cell? ⟨w.heap.size,5,none⟩=some (.slice g.rules.addr g.rules.xs.length g.rules.cap))) (by kernel_rfl) ?_
   have hC0:=HC.out W1.drew rfl
   refine Xd (i:=0) rfl (by kernel_rfl) (fun _ _ _ h=>h) (fun V hV=>(by obtain⟨r1,r2,r3,r4,r5,r6⟩:=hV;go_simp<;>rfl)) ?_
   refine Xd (i:=1) rfl (by kernel_rfl) (fun _ _ _ h=>h) (fun V hV=>(by obtain⟨r1,r2,r3,r4,r5,r6⟩:=hV;go_simp<;>rfl)) ?_
   refine Xd (i:=2) rfl (by kernel_rfl) (fun _ _ _ h=>h) (fun V hV=>(by obtain⟨r1,r2,r3,r4,r5,r6⟩:=hV;go_simp<;>rfl)) ?_
   refine Xd (i:=4) rfl (by kernel_rfl) (fun _ _ _ h=>h) (fun V hV=>(by obtain⟨r1,r2,r3,r4,r5,r6⟩:=hV;go_simp<;>rfl)) ?_
   refine Xd (i:=5) rfl (by kernel_rfl) (fun _ _ _ h=>h) (fun V hV=>(by obtain⟨r1,r2,r3,r4,r5,r6⟩:=hV;go_simp<;>rfl)) ?_
   refine Xd (i:=6) rfl (by kernel_rfl) (fun _ _ _ h=>h) (fun V hV=>(by obtain⟨r1,r2,r3,r4,r5,r6⟩:=hV;go_simp<;>rfl)) ?_
   refine Xd (i:=7) rfl (by kernel_rfl) (fun _ _ _ h=>h) (fun V hV=>(by obtain⟨r1,r2,r3,r4,r5,r6⟩:=hV;go_simp<;>rfl)) ?_
   refine Xs (rs:=[3,9]) hC0 (by kernel_rfl) (by simp) (AllC.cons rfl (fun K hK=>?_) (AllC.cons rfl (fun K hK=>?_) AllC.nil))
   ·go_simp
    refine⟨trivial,rfl,callsIn_wide.2 ((HBo.out _ (Xi (Below.refl _ _)) H0.out).mono ?_)⟩
    rintro e2 w2 ⟨cb,kb,wb,top,rfl,hE,hK2,hB2⟩
    refine hK _ _ ?_
    clear hK K
    have hB2':Below W1.heap.size W1 w2:=Xb (Xi (Below.refl _ _)) hB2
    have hkb:W1.heap.size≤kb∧kb<top:=hE.hk
    have htop:top≤w2.heap.size:=hE.top
    refine Xs (rs:=[8,9]) (HC.out _ (hB2'.block _ hkl)) (by kernel_rfl) (by simp) (AllC.cons rfl (fun K hK=>?_) (AllC.cons rfl (fun K hK=>?_) AllC.nil))
    ·go_simp
     refine⟨trivial,rfl,callsIn_wide.2 ((HFi.out _ _ (Xi (Below.refl _ _)) cb kb wb top H0.out hE hK2).mono ?_)⟩
     rintro e9 w9 ⟨fd,rfl,hok,hO⟩
     refine hK _ _ ?_
     clear hK K
     have hB9:Below W1.heap.size W1 w9:=Yf hB2' hB2'.size hO hkb.1
     refine Xg (i:=9) (HC.out _ (hB9.block _ hkl)) (by kernel_rfl) rfl (fun K hK=>?_)
     go_simp
     refine hK _ _ ?_
     clear hK K
     have hal:∀o,Below W1.heap.size W1 (w9.alloc o):=fun o=>Xe hB9 o
     refine Xg (i:=10) (HC.out _ ((hal _).block _ hkl)) (by kernel_rfl) rfl (fun K hK=>?_)
     go_simp
     refine hK _ _ ?_
     clear hK K
     have hBf:Below w9.heap.size w9 (w9.alloc (.cells #[.bool fd.ok,.int .i64 fd.cost,.int .i64 fd.rule,.int .i64 fd.item,.int .i64 fd.frm,.int .i64 fd.unt,.slice fd.kids.addr fd.kids.len fd.kids.cap,.int .i64 fd.many] 114)):=Xe (Below.refl _ _) _
     refine Xl (HC.out _ ((hal _).block _ hkl)) (by kernel_rfl) ?_ _
     refine⟨(w9.heap.size,cb,fd),?_,?_⟩
     ·kernel_rfl
     ·exact⟨World.alloc_heap_new _ _,hok.keep (fun _ _ h=>h.ext hBf),hal _⟩
    ·go_simp
     refine hK _ _ ?_
     clear hK K
     have hBy:Below w2.heap.size w2 (w2.alloc (.cells #[.bool false,.int .i64 0,.int .i64 0,.int .i64 0,.int .i64 0,.int .i64 0,.slice none 0 0,.int .i64 0] 114)):=Xe (Below.refl _ _) _
     have hzz0:(w2.alloc (.cells #[.bool false,.int .i64 0,.int .i64 0,.int .i64 0,.int .i64 0,.int .i64 0,.slice none 0 0,.int .i64 0] 114)).heap[w2.heap.size]? = some (.cells #[.bool false,.int .i64 0,.int .i64 0,.int .i64 0,.int .i64 0,.int .i64 0,.slice none 0 0,.int .i64 0] 114 (0,0)):=World.alloc_heap_new _ _
     have hBw:Below W1.heap.size W1 (w2.alloc (.cells #[.bool false,.int .i64 0,.int .i64 0,.int .i64 0,.int .i64 0,.int .i64 0,.slice none 0 0,.int .i64 0] 114)):=Xb hB2' hBy
     refine Xg (i:=8) (HC.out _ (hBw.block _ hkl)) (by kernel_rfl) rfl (fun K hK=>?_)
     go_simp
     refine⟨trivial,rfl,callsIn_wide.2 ((HFi.out _ _ (Xi (Below.refl _ _)) cb kb wb top H0.out (hE.ext hBy) (hK2.ext hBy)).mono ?_)⟩
     rintro e9 w9 ⟨fd,rfl,hok,hO⟩
     refine hK _ _ ?_
     clear hK K
     have hnk:w2.heap.size≠kb:=by omega
     have hz9:w9.heap[w2.heap.size]? = some (.cells #[.bool false,.int .i64 0,.int .i64 0,.int .i64 0,.int .i64 0,.int .i64 0,.slice none 0 0,.int .i64 0] 114 (0,0)):=(hO.block _ (Xc hzz0) hnk).trans hzz0
     obtain⟨zq0,zq1,zq2,zq3,zq4,zq5,zq6,zq7⟩:=gb8 hz9
     have hzf:=fun n=>Xf hz9 n
     have hzl:=Xc hz9
     have hB9:Below W1.heap.size W1 w9:=Yf hBw hBw.size hO hkb.1
     have Hz9:=Xa hz9
     have Hok:=Xa hok
     clear hz9 hzz0 hok
     refine Xg (i:=10) (HC.out _ (hB9.block _ hkl)) (by kernel_rfl) rfl (fun K hK=>?_)
     go_simp
     refine hK _ _ ?_
     clear hK K
     have hs8:=Ud w9 w2.heap.size fd
     have hB8:Below W1.heap.size W1 (set8 w9 w2.heap.size fd):=Yf hB9 hB9.size hs8 (by have:=hB2'.size;show W1.heap.size≤w2.heap.size;omega)
     refine Xl (HC.out _ (hB8.block _ hkl)) (by kernel_rfl) ?_ _
     refine⟨(w2.heap.size,cb,fd),?_,?_⟩
     ·kernel_rfl
     ·exact⟨Qn (f:=⟨false,0,0,0,0,0,⟨none,0,0⟩,0⟩) Hz9.out fd,Hok.out.keep (fun _ _ h=>h.only hs8 fun b hb h=>(Ym Hz9.out) (by rw[show b=w2.heap.size from hb] at h;exact h.1)),hB8⟩
   ·go_simp
    refine hK _ _ ?_
    clear hK K
    have hBz:Below W1.heap.size W1 (W1.alloc (.cells #[.bool false,.int .i64 0,.int .i64 0,.int .i64 0,.int .i64 0,.int .i64 0,.slice none 0 0,.int .i64 0] 114)).drew:=Xi (Xe (Below.refl _ _) _)
    refine Xg (i:=3) (HC.out _ (hBz.block _ hkl)) (by kernel_rfl) rfl (fun K hK=>?_)
    go_simp
    refine⟨trivial,rfl,callsIn_wide.2 ((HBo.out _ hBz H0.out).mono ?_)⟩
    rintro e2 w2 ⟨cb,kb,wb,top,rfl,hE,hK2,hB2⟩
    refine hK _ _ ?_
    clear hK K
    have hB2':Below W1.heap.size W1 w2:=Xb hBz hB2
    have hzz1:(W1.alloc (.cells #[.bool false,.int .i64 0,.int .i64 0,.int .i64 0,.int .i64 0,.int .i64 0,.slice none 0 0,.int .i64 0] 114)).drew.heap[W1.heap.size]? = some (.cells #[.bool false,.int .i64 0,.int .i64 0,.int .i64 0,.int .i64 0,.int .i64 0,.slice none 0 0,.int .i64 0] 114 (0,0)):=World.alloc_heap_new _ _
    have hzz0:=Xh hB2 hzz1
    have hkb0:(W1.alloc (.cells #[.bool false,.int .i64 0,.int .i64 0,.int .i64 0,.int .i64 0,.int .i64 0,.slice none 0 0,.int .i64 0] 114)).drew.heap.size≤kb∧kb<top:=hE.hk
    have hkb:W1.heap.size≤kb∧kb<top:=⟨Nat.le_trans hBz.size hkb0.1,hkb0.2⟩
    have hnk:W1.heap.size≠kb:=by have:=Xc hzz1;omega
    refine Xg (i:=8) (HC.out _ (hB2'.block _ hkl)) (by kernel_rfl) rfl (fun K hK=>?_)
    go_simp
    refine⟨trivial,rfl,callsIn_wide.2 ((HFi.out _ _ hBz cb kb wb top H0.out hE hK2).mono ?_)⟩
    rintro e9 w9 ⟨fd,rfl,hok,hO⟩
    refine hK _ _ ?_
    clear hK K
    have hz9:w9.heap[W1.heap.size]? = some (.cells #[.bool false,.int .i64 0,.int .i64 0,.int .i64 0,.int .i64 0,.int .i64 0,.slice none 0 0,.int .i64 0] 114 (0,0)):=(hO.block _ (Xc hzz0) hnk).trans hzz0
    obtain⟨zq0,zq1,zq2,zq3,zq4,zq5,zq6,zq7⟩:=gb8 hz9
    have hzf:=fun n=>Xf hz9 n
    have hzl:=Xc hz9
    have hB9:Below W1.heap.size W1 w9:=Yf hB2' hB2'.size hO hkb.1
    have Hz9:=Xa hz9
    have Hok:=Xa hok
    clear hz9 hzz0 hok
    refine Xg (i:=10) (HC.out _ (hB9.block _ hkl)) (by kernel_rfl) rfl (fun K hK=>?_)
    go_simp
    refine hK _ _ ?_
    clear hK K
    have hs8:=Ud w9 W1.heap.size fd
    have hB8:Below W1.heap.size W1 (set8 w9 W1.heap.size fd):=Yf hB9 hB9.size hs8 (by have:=hB2'.size;show W1.heap.size≤W1.heap.size;omega)
    refine Xl (HC.out _ (hB8.block _ hkl)) (by kernel_rfl) ?_ _
    refine⟨(W1.heap.size,cb,fd),?_,?_⟩
    ·kernel_rfl
    ·exact⟨Qn (f:=⟨false,0,0,0,0,0,⟨none,0,0⟩,0⟩) Hz9.out fd,Hok.out.keep (fun _ _ h=>h.only hs8 fun b hb h=>(Ym Hz9.out) (by rw[show b=W1.heap.size from hb] at h;exact h.1)),hB8⟩
  ·rintro⟨bx,cb,⟨ok2,cost2,ru2,it2,fr2,un2,kd2,my2⟩⟩ v H
   obtain⟨hbx,hok,hB⟩:=H
   have zz7:=gblk hbx 7
   have hmy:my2=((Xqd g its.xs n:Nat):Int):=hok.many
   have hev:v.heap[w.heap.size+1]? = some (.cells #[.int .i64 0] 33 (0,0)):=(hB.block _ hz1).trans He.out
   have ce:=Xj hev
   have fe:=Xf hev 0
   have HB9:=Xa (Xb HB1.out hB)
   have Hev:=Xa hev
   have Hmy:=Xa hmy
   have hm0:0≤my2∧my2≤1099511627777:=by
    have:=Xan bigN (derG g its.xs g.startNo 0 n.toNat).length
    have h2:my2=((capN bigN (derG g its.xs g.startNo 0 n.toNat).length:Nat):Int):=hmy
    unfold bigN at this h2
    omega
   clear hbx hok hmy hB hev
   by_cases hm:1099511627776<my2
   ·have hR:Vy g its.xs n=(0,2):=by
     unfold Vy
     rw[if_neg (by simp[H0.out]),if_pos (by have:=Hmy.out;unfold bigN;omega)]
    have HR:=Xa hR
    clear hR
    gi_wp2_with fail
    go_wp2_with fail
    refine leaves_cons (f:=65) (args:=#[.pointer (some ⟨w.heap.size+1,0,none⟩)]) (by simp) (by simp[go_sem]) ?_
    refine(Zd _ _).mono ?_
    rintro e u' w'' ⟨rfl,rfl,rfl⟩
    have cs:=Xj (Xr Hev.out 0 (.int .i64 2))
    simp[Leaves,settle,results,Tryz.results18,go_sem,ce]
    refine⟨by rw[HR.out],HB9.out.setCell (p:=⟨w.heap.size+1,0,none⟩) (by show w.heap.size≤w.heap.size+1;omega) _⟩
   ·have hR:Vy g its.xs n=(my2,0):=by
     unfold Vy
     rw[if_neg (by simp[H0.out]),if_neg (by have:=Hmy.out;unfold bigN;omega),Hmy.out]
    have HR:=Xa hR
    clear hR
    gi_wp2_with fail
    go_wp2_with fail
    refine leaves_cons (f:=65) (args:=#[.pointer (some ⟨w.heap.size+1,0,none⟩)]) (by simp) (by simp[go_sem]) ?_
    refine(Zd _ _).mono ?_
    rintro e u' w'' ⟨rfl,rfl,rfl⟩
    have cs:=Xj (Xr Hev.out 0 (.int .i64 0))
    simp[Leaves,settle,results,Tryz.results18,go_sem,ce]
    refine⟨by rw[HR.out],HB9.out.setCell (p:=⟨w.heap.size+1,0,none⟩) (by show w.heap.size≤w.heap.size+1;omega) _⟩
def FoundG.cells (f:FoundG):List Value:=[.bool f.ok,.int .i64 f.cost,.int .i64 f.rule,.int .i64 f.item,.int .i64 f.frm,.int .i64 f.unt,.slice f.kids.addr f.kids.len f.kids.cap,.int .i64 f.many]
theorem FoundG.size_cells (f:FoundG):f.cells.length=8:=rfl
structure ChW (X:Nat→Prop) (c:Ch29) (n:Nat) (A:Int→Nat→Nat→List Dv) (F:List FoundG) (w:World):Prop where
 g:c.g.lies w
 its:ItemsAt w c.its
 rd:Rd w c.l.addr (F.flatMap FoundG.cells)
 len:c.l.len=F.length
 size:F.length=(n+1)*(n+1)*c.g.cats.xs.length
 ok:∀(d u v:Nat),d<c.g.cats.xs.length→u<v→v≤n→∀(h:posC n c.g.cats.xs.length u v d<F.length),FoundOk X w F[posC n c.g.cats.xs.length u v d] (Fd.of bigN (A d u v))
theorem ChW.ext {X:Nat→Prop} {c:Ch29} {n:Nat} {A:Int→Nat→Nat→List Dv} {F:List FoundG} {w w':World} (h:ChW X c n A F w) (hb:Below w.heap.size w w'):ChW X c n A F w' :=
 ⟨h.g.ext hb,h.its.ext hb,h.rd.ext hb,h.len,h.size,fun d u v h1 h2 h3 h4=>(h.ok d u v h1 h2 h3 h4).keep fun _ _ ht=>ht.ext hb⟩
theorem ChW.cell {X:Nat→Prop} {c:Ch29} {n:Nat} {A:Int→Nat→Nat→List Dv} {F:List FoundG} {w:World} (h:ChW X c n A F w) {q:Nat} (hq:q<F.length):∃b off,c.l.addr=some ⟨b,off,none⟩∧b<w.heap.size∧∀(j:Nat) (u:Value),F[q].cells[j]? = some u→w.cell? ⟨b,off+q*8+j,none⟩=some u :=
 h.rd.elem FoundG.size_cells (by decide) hq
theorem Calls.swap {P:Program} {g:Nat} {xs:Array Value} {w W:World} {v:Value} (h:Calls P g xs w fun e w'=>e = .returned v∧W=w'):Calls P g xs w fun e w'=>e = .returned v∧w'=W:=h.mono fun _ _ h=>⟨h.1,h.2.symm⟩
theorem Xuc {st:Int→ByteArray→Bool} {A:Int→Nat→Nat→List Dv} {q:PartG} {ps:List PartG} {i k:Nat} (hq:q.text.size≠0):Ye st A (q :: ps) i k=if i<k∧st i q.text=true then Ye st A ps (i+1) k else []:=by
 conv=>lhs;unfold Ye
 rw[if_pos hq]
structure PaR (X:Nat→Prop) (W:World) (b:Nat) (f:FoundG) (L:List Dv) (V:World):Prop where
 only:Only (fun j=>j=b) W V
 box:V.heap[b]? = some (.cells #[.bool f.ok,.int .i64 f.cost,.int .i64 f.rule,.int .i64 f.item,.int .i64 f.frm,.int .i64 f.unt,.slice f.kids.addr f.kids.len f.kids.cap,.int .i64 f.many] 236 (0,0))
 ok:FoundOk X V f (Fd.of bigN L)
end Go.Proofs.YtolpbjjapodmnaaGreatDoor
