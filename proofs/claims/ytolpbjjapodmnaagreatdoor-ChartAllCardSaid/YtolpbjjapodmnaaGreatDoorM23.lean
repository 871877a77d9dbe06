/- Texts of this claim, one after the other: AllB, AllC, AllD, R26n, R29f, R29g, AllE. -/
import Derived.Test.YtolpbjjapodmnaaGreatDoorM22
import Derived.Test.YtolpbjjapodmnaaGreatDoorM12
import Derived.Test.YtolpbjjapodmnaaGreatDoorM4
import Derived.Test.YtolpbjjapodmnaaGreatDoorM9
import Derived.Test.YtolpbjjapodmnaaGreatDoorM17
import Derived.Test.YtolpbjjapodmnaaGreatDoorM7
import Derived.Test.YtolpbjjapodmnaaGreatDoorM3
import Derived.Test.YtolpbjjapodmnaaGreatDoorM14
namespace Go.Proofs.YtolpbjjapodmnaaGreatDoor
open Go.RowKit Go.Han
attribute [local irreducible] wpStill wpQuiet
set_option maxRecDepth 100000
theorem Xvf (st:Int→ByteArray→Bool) (A:Int→Nat→Nat→List Dv) (ps:List PartG) {i k:Nat} (h:¬i+ps.length≤k):Ye st A ps i k=[]:=Vf st A ps i k (by omega)
theorem LayRP.weaken {l:List Dk} {w W e w'} (h:LayRP l W e w') (hb:Below w.heap.size w W):LayRP l w e w':=by
 obtain⟨s,ok,he,hB,hr⟩:=h
 exact⟨s,ok,he,Xb hb hB,fun ho=>⟨(hr ho).1.weaken fun b h=>Nat.lt_of_lt_of_le h hb.size,(hr ho).2⟩⟩
set_option maxHeartbeats 4000000 in
theorem Xv1 (g:Gram) (its:SlS ItemG) (h1:∀x∈its.xs,1≤x.tgt.xs.length) (q:PartG) (ps:List PartG) (ih:LayC g its ps) (A:Option Addr) (cp i k:Nat) (w:World) (h4:(q :: ps).length≤4) (hik:i≤k) (hk:k≤16) (hE:LayE g its w) (hp:SlS.lies PartG.cells w ⟨A,cp,q :: ps⟩)
  (hA:∀q'∈q :: ps,q'.text.size=0→∀u v,i≤u→u<v→v≤k→(v-u)+(q :: ps).length≤(k-i)+1→AllC g its q'.no u v) (ht:q.text.size≠0) :
  Calls Tryz.prog 64 #[.agg #[.string g.name,.slice g.cats.addr g.cats.xs.length g.cats.cap,.string g.start,.int .i64 g.startNo,.slice g.entries.addr g.entries.xs.length g.entries.cap,.slice g.rules.addr g.rules.xs.length g.rules.cap],.slice its.addr its.xs.length its.cap,.slice A (q :: ps).length cp,.int .i64 (i:Int),.int .i64 (k:Int)] w (LayRP (Ye (Xm its.xs) (derG g its.xs) (q :: ps) i k) w):=by
 obtain⟨W1,hW1⟩:∃W1,w.alloc (.cells #[.string g.name,.slice g.cats.addr g.cats.xs.length g.cats.cap,.string g.start,.int .i64 g.startNo,.slice g.entries.addr g.entries.xs.length g.entries.cap,.slice g.rules.addr g.rules.xs.length g.rules.cap] 26)=W1:=⟨_,rfl⟩
 have HB:=Xa (Yn hW1)
 have HK:=Xa (Yv hW1)
 have HE:=Xa (fun V (hV:Below w.heap.size w V)=>hE.ext hV)
 obtain⟨bP,oP,hA1,hbP,hcP⟩:=hp.at_ PartG.size_cells (by decide) (show 0<(q :: ps).length by simp)
 obtain rfl:A=some ⟨bP,oP,none⟩:=hA1
 have HPc:Hid (∀V,Below w.heap.size w V→V.cell? ⟨bP,oP+2,none⟩=some (.string q.text)):=fun V hV=>by
  have:=hcP 0 (by simp) V hV 2 (.string q.text) rfl
  simpa using this
 have HT:=Xa (fun V (hV:Below w.heap.size w V)=>(Xvg hp).ext hV)
 have hlen:(q :: ps).length=ps.length+1:=rfl
 have hcap:=hp.cap
 simp only at hcap
 rw[hlen] at h4 hA hcap ⊢
 have IH:Hid (i+(ps.length+1)≤k→∀V,Below w.heap.size w V→Calls Tryz.prog 64 #[.agg #[.string g.name,.slice g.cats.addr g.cats.xs.length g.cats.cap,.string g.start,.int .i64 g.startNo,.slice g.entries.addr g.entries.xs.length g.entries.cap,.slice g.rules.addr g.rules.xs.length g.rules.cap],.slice its.addr its.xs.length its.cap,.slice (subA (some ⟨bP,oP,none⟩) cp 1 3) ps.length (cp-1),.int .i64 ((i:Int)+1),.int .i64 (k:Int)] V (LayRP (Ye (Xm its.xs) (derG g its.xs) ps (i+1) k) V)):=fun hle V hV =>
  ih _ _ (i+1) k V (by omega) (by omega) hk (HE.out V hV) (HT.out V hV) fun q' hq' ht' u v h1 h2 h3 h4=>hA q' (List.mem_cons_of_mem _ hq') ht' u v (by omega) h2 h3 (by omega)
 have H1:=Xa h1
 obtain⟨m,hm⟩:∃m,ps.length=m:=⟨_,rfl⟩
 rw[hm] at IH h4 hcap ⊢
 have hmI:((m:Int)+1 == 0)=false:=by simp;omega
 have hwr:IntKind.i64.wrap ((k:Int)-(i:Int))=(k:Int)-(i:Int):=IntWalk.i64_in _ (by omega)
 have hkc:=HK.out
 obtain⟨c0,c1,c2,c3,c4,c5⟩:=gb6 hkc
 have p2:=HPc.out W1 HB.out
 have k3:=Zp (s:=q.text) (by omega)
 have k4:¬q.text.toList=[]:=by intro h;rw[h] at k3;cases k3
 have Hm:Hid ((q :: ps).length=m+1):=by show _=_;rw[hlen,hm]
 clear hA hE hp hcP hkc h1 hlen hm
 by_cases hle:i+(m+1)≤k
 rotate_left
 ·have g1:decide ((k:Int)-(i:Int)<(m:Int)+1)=true:=decide_eq_true (by omega)
  have HK0:=Xa (Xvf (Xm its.xs) (derG g its.xs) (q :: ps) (i:=i) (k:=k) (by rw[Hm.out];exact hle))
  clear hle
  go_enter Tryz.func64,Tryz.ntmps64
  go_wp2_with fail
  exact bodyPost_ret (v:=.tuple #[.slice none 0 0,.bool true]) (by simp[results,Tryz.results64,go_sem]) rfl (LayRP.none_ HB.out HK0.out)
 have g1:decide ((k:Int)-(i:Int)<(m:Int)+1)=false:=decide_eq_false (by omega)
 have hst:=Xrs its (i:Int) q.text W1 (HE.out _ HB.out).its H1.out
 rw[Xuc ht]
 cases hwd:Xm its.xs (i:Int) q.text
 ·rw[hwd] at hst
  rw[if_neg (fun h=>by cases h.2)]
  have HS:=Xa hst
  clear hst hwd hle
  go_enter Tryz.func64,Tryz.ntmps64
  go_wp2_with fail
  refine HS.out.mono ?_
  rintro e V ⟨rfl,rfl⟩
  go_wp2_with fail
  exact bodyPost_ret (v:=.tuple #[.slice none 0 0,.bool true]) (by simp[results,Tryz.results64,go_sem]) rfl (LayRP.none_ HB.out rfl)
 ·rw[hwd] at hst
  rw[if_pos ⟨by omega,rfl⟩]
  have HS:=Xa hst
  have hwi:IntKind.i64.wrap ((i:Int)+1)=(i:Int)+1:=IntWalk.i64_in _ (by omega)
  have Hrs:Hid (∀V:World,(Instr.slice 76 (.slice (some ⟨bP,oP,none⟩) (m+1) cp) (some (.int .i64 1)) none none).run Tryz.prog V = .ok (.slice (subA (some ⟨bP,oP,none⟩) cp 1 3) m (cp-1)) V):=fun V=>Xvi _ cp (m+1) V (by omega)
  have Hc:=Xa (IH.out hle)
  clear hst hwd
  go_enter Tryz.func64,Tryz.ntmps64
  go_wp2_with fail
  refine HS.out.mono ?_
  rintro e V ⟨rfl,rfl⟩
  go_wp2_with fail
  clear c0 c1 c2 c3 c4 c5 p2
  have HKx:Hid (∀V,Below W1.heap.size W1 V→V.heap[w.heap.size]? = some (.cells #[.string g.name,.slice g.cats.addr g.cats.xs.length g.cats.cap,.string g.start,.int .i64 g.startNo,.slice g.entries.addr g.entries.xs.length g.entries.cap,.slice g.rules.addr g.rules.xs.length g.rules.cap] 26 (0,0))):=fun V hV=>Xh hV HK.out
  refine wpIn_wide (n:=0) |>.1 ?_
  refine Y4 _ ?_ (fun _ _ h=>h)
  refine Xo (fun V=>Below W1.heap.size W1 V) (by kernel_rfl) ?_
  refine Xd (i:=0) (v:=.agg #[.string g.name,.slice g.cats.addr g.cats.xs.length g.cats.cap,.string g.start,.int .i64 g.startNo,.slice g.entries.addr g.entries.xs.length g.entries.cap,.slice g.rules.addr g.rules.xs.length g.rules.cap]) rfl (by kernel_rfl) (fun _ _ _ h=>h) (fun V hV=>(by have hkc:=HKx.out V hV;have c0:=gblk hkc 0;have c1:=gblk hkc 1;have c2:=gblk hkc 2;have c3:=gblk hkc 3;have c4:=gblk hkc 4;have c5:=gblk hkc 5;go_simp)) ?_
  refine Xd (i:=1) rfl (by kernel_rfl) (fun _ _ _ h=>h) (fun V hV=>(by skip;go_simp<;>rfl)) ?_
  refine Xd (i:=2) rfl (by kernel_rfl) (fun _ _ _ h=>h) (fun V hV=>(by skip;go_simp<;>rfl)) ?_
  refine Xd (i:=3) (v:=.slice (subA (some ⟨bP,oP,none⟩) cp 1 3) m (cp-1)) rfl (by kernel_rfl) (fun _ _ _ h=>h) (fun V hV=>(by have h:=Hrs.out V;go_simp)) ?_
  refine Xd (i:=4) rfl (by kernel_rfl) (fun _ _ _ h=>h) (fun V hV=>(by skip;go_simp<;>rfl)) ?_
  refine Xd (i:=5) rfl (by kernel_rfl) (fun _ _ _ h=>h) (fun V hV=>(by skip;go_simp<;>rfl)) ?_
  refine Xd (i:=6) rfl (by kernel_rfl) (fun _ _ _ h=>h) (fun V hV=>(by skip;go_simp<;>rfl)) ?_
  refine Xg (i:=7) (Xi (Below.refl _ _)) (by kernel_rfl) rfl (fun K hK=>?_)
  go_simp
  refine⟨trivial,rfl,callsIn_wide.2 ((Hc.out _ (Xb HB.out (Xi (Below.refl _ _)))).mono ?_)⟩
  rintro e w4 ⟨s,ok,rfl,hB4,hres⟩
  refine hK _ _ ?_
  clear hK K
  have hB4':=Xb (Xi (Below.refl W1.heap.size W1)) hB4
  have HR:=Xa (LayRP.weaken ⟨s,ok,rfl,hB4,hres⟩ (Xb HB.out (Xi (Below.refl W1.heap.size W1))))
  refine Xd (i:=8) rfl (by kernel_rfl) (fun _ _ _ h=>h) (fun V hV=>(by skip;go_simp<;>rfl)) ?_
  refine Xd (i:=9) rfl (by kernel_rfl) (fun _ _ _ h=>h) (fun V hV=>(by skip;go_simp<;>rfl)) ?_
  refine Xd (i:=10) rfl (by kernel_rfl) (fun _ _ _ h=>h) (fun V hV=>(by skip;go_simp<;>rfl)) ?_
  refine Xd (i:=11) rfl (by kernel_rfl) (fun _ _ _ h=>h) (fun V hV=>(by skip;go_simp<;>rfl)) ?_
  refine Xl hB4' (by kernel_rfl) ?_ _
  clear hB4 hB4' hres
  go_wp2_with fail
  exact bodyPost_ret (v:=.tuple #[.slice s.addr s.len s.cap,.bool ok]) (by simp[results,Tryz.results64,go_sem]) rfl HR.out
theorem Xvb {st:Int→ByteArray→Bool} {A:Int→Nat→Nat→List Dv}:∀(ps:List PartG) (i k:Nat) (x:Dk),x∈Ye st A ps i k→x.2.length≤ps.length
 | [],i,k,x,h=>by obtain⟨_,rfl⟩:=V7.1 h;simp
 | p :: ps,i,k,x,h=>by
  by_cases hp:p.text.size≠0
  ·have:=Xvb ps _ _ x ((V8 hp).1 h).2.2
   simp;omega
  ·obtain⟨m,_,_,a,_,b,hb,rfl⟩:=(U1 (by simpa using hp)).1 h
   have:=Xvb ps _ _ b hb
   simp;omega
def Xu9 (F:List TreeV) (R:List (List TreeV)):List (List TreeV):=F.flatMap fun a=>R.map (a :: ·)
theorem Xvh (l:List Dv) (m:List Dk):(Y7 List.cons l m).map (·.2)=Xu9 (l.map (·.2)) (m.map (·.2)):=by
 unfold Y7 Xu9
 induction l with
 | nil=>rfl
 | cons a l ih =>
  rw[List.flatMap_cons,List.map_append,ih,List.map_cons,List.flatMap_cons]
  congr 1
  simp[List.map_map,Function.comp_def]
theorem Xva (F:List TreeV) (R:List (List TreeV)):(Xu9 F R).length=F.length*R.length:=by
 unfold Xu9
 induction F with
 | nil=>simp
 | cons a F ih=>rw[List.flatMap_cons,List.length_append,ih,List.length_map,List.length_cons,Nat.add_mul];omega
theorem Xvr {F:List TreeV} (R:List (List TreeV)) {p:Nat} (h:p<F.length):Xu9 (F.take (p+1)) R=Xu9 (F.take p) R++R.map (F[p] :: ·):=by
 unfold Xu9
 rw[show F.take (p+1)=F.take p++[F[p]] from List.take_succ_eq_append_getElem h,List.flatMap_append]
 simp
theorem GrewBy.tree {o:Option Nat} {W V:World} {v:Value} (h:GrewBy o W V v) {X:Nat→Prop} (hX:∀b,o=some b→X b) {t:TreeV} {x:TreeG} (ht:TreeW X W t x):TreeW X V t x :=
 TreeW.keep ht (fun b ⟨_,_,hk⟩ hx=>h.only.block b (Xc hk) fun e=>hx (hX b e)) h.only.size fun _ _ h=>h
theorem TreeW.weaken {X X':Nat→Prop} {W:World} {t:TreeV} {x:TreeG} (h:TreeW X W t x) (hX:∀b,X' b→X b):TreeW X' W t x :=
 TreeW.keep h (fun _ _ _=>rfl) (Nat.le_refl _) fun b _ h1 h2=>h1 (hX b h2)
structure LayT (X:Nat→Prop) (W1:World) (o:Option Nat) (w6:World) (A:Option Addr) (n c:Nat) (L:List (List TreeV)) (V:World):Prop where
 rows:∃rs,RowsW X W1.heap.size (.slice A n c) L rs V
 len:n=L.length
 below:Below W1.heap.size W1 V
 grew:GrewBy o w6 V (.slice A n c)
theorem LayT.ext {X:Nat→Prop} {W1:World} {o:Option Nat} {w6:World} {A:Option Addr} {n c:Nat} {L:List (List TreeV)} {V V':World} (h:LayT X W1 o w6 A n c L V) (hb:Below V.heap.size V V'):LayT X W1 o w6 A n c L V':=by
 obtain⟨rs,hr⟩:=h.rows
 exact⟨⟨rs,hr.ext hb⟩,h.len,Xb h.below hb,h.grew.ext hb⟩
theorem LayT.start {X:Nat→Prop} {W1:World} {o:Option Nat} {w6:World} {A:Option Addr} {n c:Nat} {L:List (List TreeV)} {V:World} (h:LayT X W1 o w6 A n c L V):LayT X W1 (Value.slice A n c).ownBlock V A n c L V:=⟨h.rows,h.len,h.below,GrewBy.refl _ _⟩
theorem LayT.own {X:Nat→Prop} {W1:World} {o:Option Nat} {w6:World} {A:Option Addr} {n c:Nat} {L:List (List TreeV)} {V:World} (h:LayT X W1 o w6 A n c L V) {b:Nat} (hb:(Value.slice A n c).ownBlock=some b):W1.heap.size≤b∧b<V.heap.size:=by
 obtain⟨rs,hr⟩:=h.rows
 exact hr.own.lt b hb
theorem LayT.push {X:Nat→Prop} {W1:World} {o:Option Nat} {w6:World} {A:Option Addr} {n c:Nat} {L:List (List TreeV)} {V:World} (h:LayT X W1 o w6 A n c L V) (hX:∀b,X b→b<V.heap.size) {t:TreeV} {x:TreeG} {ks:List TreeV} {r:KidS} (ht:TreeW X V t x) (hr:TreesW X V ks r) (hk:ks.length≤100000) (hl:L.length≤100000) :
  ∃A9 n9 c9 V4 A' c' V6,(Builtin.append_ #[30,30] 30 #[.slice (some ⟨V.heap.size,0,none⟩) 1 1,.slice r.addr r.len r.cap]).run Tryz.prog (V.alloc (.cells #[.int .i64 x.rule,.int .i64 x.item,.int .i64 x.frm,.int .i64 x.unt,.slice x.kids.addr x.kids.len x.kids.cap] 37)) = .ok (.slice A9 n9 c9) V4 ∧
   (Builtin.append_ #[108,108] 108 #[.slice A n c,.slice (some ⟨V4.heap.size,0,none⟩) 1 1]).run Tryz.prog (V4.alloc (.cells #[.slice A9 n9 c9] 30)) = .ok (.slice A' (n+1) c') V6 ∧
   LayT X W1 o w6 A' (n+1) c' (L++[t :: ks]) V6∧∀o' V2,GrewBy o' V2 V (.slice A n c)→GrewBy o' V2 V6 (.slice A' (n+1) c'):=by
 have hV:Below V.heap.size V (V.alloc (.cells #[.int .i64 x.rule,.int .i64 x.item,.int .i64 x.frm,.int .i64 x.unt,.slice x.kids.addr x.kids.len x.kids.cap] 37)):=Xe (Below.refl _ _) _
 obtain⟨A9,n9,c9,V4,hrun,hB4,htr⟩:=Xt9 (X:=X) (w:=V) (V:=V.alloc (.cells #[.int .i64 x.rule,.int .i64 x.item,.int .i64 x.frm,.int .i64 x.unt,.slice x.kids.addr x.kids.len x.kids.cap] 37)) (b:=V.heap.size) (t:=t) (x:=x) (y:=⟨0,0,0,0,r⟩) (ks:=ks) hV hX (Nat.le_refl _) (World.alloc_heap_new _ _) ht hr hk
 obtain⟨rs,hrs⟩:=h.rows
 have hbase:W1.heap.size≤V4.heap.size:=Nat.le_trans h.below.size hB4.size
 obtain⟨A',n',c',V6,hrun2,hR,hg,hat⟩:=(hrs.ext hB4).push hbase (l:=t :: ks) (s:=⟨A9,n9,c9⟩) htr hl
 have hn:n'=n+1:=by
  obtain⟨_,_,e,_⟩:=hR.own.form (by decide)
  injection e with _ e _
  rw[e,List.length_append,hrs.len,← h.len];rfl
 subst hn
 have hB5:Below V4.heap.size V4 (V4.alloc (.cells #[.slice A9 n9 c9] 30)):=Xe (Below.refl _ _) _
 have hst:∀o' V2,GrewBy o' V2 V (.slice A n c)→GrewBy o' V2 V6 (.slice A' (n+1) c'):=fun o' V2 h=>((h.ext hB4).ext hB5).step hg hat
 exact⟨A9,n9,c9,V4,A',c',V6,hrun,hrun2,⟨⟨_,hR⟩,by rw[h.len,List.length_append];rfl,Xgp (Xb (Xb h.below hB4) hB5) ((hrs.ext hB4).ext hB5).own (Nat.le_refl _) hg,hst _ _ h.grew⟩,hst⟩
theorem LayT.rebase {X:Nat→Prop} {W1:World} {o:Option Nat} {w6:World} {A:Option Addr} {n c:Nat} {L:List (List TreeV)} {V:World} (h:LayT X W1 o w6 A n c L V):LayT X W1 none W1 A n c L V:=by
 refine⟨h.rows,h.len,h.below,⟨⟨h.below.os,h.below.tape,h.below.output,h.below.size,fun b hb _=>h.below.block b hb⟩,?_⟩⟩
 cases ho:(Value.slice A n c).ownBlock with
 | none=>exact .inl rfl
 | some b=>exact .inr ⟨b,rfl,(h.own ho).1⟩
set_option maxHeartbeats 8000000 in
theorem Xv8 (g:Gram) (its:SlS ItemG) (q:PartG) (ps:List PartG) (ih:LayC g its ps) (A:Option Addr) (cp i k:Nat) (w:World) (h4:(q :: ps).length≤4) (hik:i≤k) (hk:k≤16) (hE:LayE g its w) (hp:SlS.lies PartG.cells w ⟨A,cp,q :: ps⟩)
  (hA:∀q'∈q :: ps,q'.text.size=0→∀u v,i≤u→u<v→v≤k→(v-u)+(q :: ps).length≤(k-i)+1→AllC g its q'.no u v) (ht:q.text.size=0) :
  Calls Tryz.prog 64 #[.agg #[.string g.name,.slice g.cats.addr g.cats.xs.length g.cats.cap,.string g.start,.int .i64 g.startNo,.slice g.entries.addr g.entries.xs.length g.entries.cap,.slice g.rules.addr g.rules.xs.length g.rules.cap],.slice its.addr its.xs.length its.cap,.slice A (q :: ps).length cp,.int .i64 (i:Int),.int .i64 (k:Int)] w (LayRP (Ye (Xm its.xs) (derG g its.xs) (q :: ps) i k) w):=by
 obtain⟨W1,hW1⟩:∃W1,w.alloc (.cells #[.string g.name,.slice g.cats.addr g.cats.xs.length g.cats.cap,.string g.start,.int .i64 g.startNo,.slice g.entries.addr g.entries.xs.length g.entries.cap,.slice g.rules.addr g.rules.xs.length g.rules.cap] 26)=W1:=⟨_,rfl⟩
 have HB:=Xa (Yn hW1)
 have HK:=Xa (Yv hW1)
 have Hs1:Hid (W1.heap.size=w.heap.size+1):=by show _=_;rw[← hW1];simp
 have HE:=Xa (fun V (hV:Below w.heap.size w V)=>hE.ext hV)
 obtain⟨bP,oP,hA1,hbP,hcP⟩:=hp.at_ PartG.size_cells (by decide) (show 0<(q :: ps).length by simp)
 obtain rfl:A=some ⟨bP,oP,none⟩:=hA1
 have HPc:Hid (∀V,Below w.heap.size w V→V.cell? ⟨bP,oP+1,none⟩=some (.int .i64 q.no)∧V.cell? ⟨bP,oP+2,none⟩=some (.string q.text)):=fun V hV=>by
  have h1:=hcP 0 (by simp) V hV 1 (.int .i64 q.no) rfl
  have h2:=hcP 0 (by simp) V hV 2 (.string q.text) rfl
  exact⟨by simpa using h1,by simpa using h2⟩
 have HT:=Xa (fun V (hV:Below w.heap.size w V)=>(Xvg hp).ext hV)
 have hlen:(q :: ps).length=ps.length+1:=rfl
 have hcap:=hp.cap
 simp only at hcap
 rw[hlen] at h4 hA hcap ⊢
 have IH:Hid (∀(m:Nat),i<m→m≤k→∀V,Below w.heap.size w V→Calls Tryz.prog 64 #[.agg #[.string g.name,.slice g.cats.addr g.cats.xs.length g.cats.cap,.string g.start,.int .i64 g.startNo,.slice g.entries.addr g.entries.xs.length g.entries.cap,.slice g.rules.addr g.rules.xs.length g.rules.cap],.slice its.addr its.xs.length its.cap,.slice (subA (some ⟨bP,oP,none⟩) cp 1 3) ps.length (cp-1),.int .i64 (m:Int),.int .i64 (k:Int)] V (LayRP (Ye (Xm its.xs) (derG g its.xs) ps m k) V)):=fun m hm hmk V hV =>
  ih _ _ m k V (by omega) hmk hk (HE.out V hV) (HT.out V hV) fun q' hq' ht' u v h1 h2 h3 h4=>hA q' (List.mem_cons_of_mem _ hq') ht' u v (by omega) h2 h3 (by omega)
 have HAll:Hid (∀(m:Nat),i<m→m+ps.length≤k→∀V,Below w.heap.size w V→Calls Tryz.prog 17 #[.agg #[.string g.name,.slice g.cats.addr g.cats.xs.length g.cats.cap,.string g.start,.int .i64 g.startNo,.slice g.entries.addr g.entries.xs.length g.entries.cap,.slice g.rules.addr g.rules.xs.length g.rules.cap],.slice its.addr its.xs.length its.cap,.int .i64 q.no,.int .i64 (i:Int),.int .i64 (m:Int)] V (AllRP (derG g its.xs q.no i m) V)):=fun m hm hmk V hV =>
  hA q (List.mem_cons_self ..) ht i m (Nat.le_refl _) hm (by omega) (by omega) V (HE.out V hV)
 have HL:Hid (∀m x,x∈Ye (Xm its.xs) (derG g its.xs) ps m k→m+ps.length≤k∧x.2.length≤4):=fun m x hx=>⟨Xbp hx,Nat.le_trans (Xvb ps m k x hx) (by omega)⟩
 obtain⟨np,hnp⟩:∃m,ps.length=m:=⟨_,rfl⟩
 rw[hnp] at IH HAll HL h4 hcap ⊢
 have hmI:((np:Int)+1 == 0)=false:=by simp;omega
 have hmI0:(0:Int)<(np:Int)+1:=by omega
 have hwr:IntKind.i64.wrap ((k:Int)-(i:Int))=(k:Int)-(i:Int):=IntWalk.i64_in _ (by omega)
 have hwi:IntKind.i64.wrap ((i:Int)+1)=(i:Int)+1:=IntWalk.i64_in _ (by omega)
 have hkc:=HK.out
 obtain⟨c0,c1,c2,c3,c4,c5⟩:=gb6 hkc
 obtain⟨-,p2⟩:=HPc.out W1 HB.out
 have k3:=Zq (s:=q.text) (by omega)
 have k4:q.text.toList=[]:=List.isEmpty_iff.1 k3
 have Hnp:Hid ((q :: ps).length=np+1):=by show _=_;rw[hlen,hnp]
 have Ht:=Xa ht
 clear hA hE hp hcP hkc hlen hnp ih ht
 by_cases hle:i+(np+1)≤k
 rotate_left
 ·have g1:decide ((k:Int)-(i:Int)<(np:Int)+1)=true:=decide_eq_true (by omega)
  have HK0:=Xa (Xvf (Xm its.xs) (derG g its.xs) (q :: ps) (i:=i) (k:=k) (by rw[Hnp.out];exact hle))
  clear hle
  go_enter Tryz.func64,Tryz.ntmps64
  go_wp2_with fail
  exact bodyPost_ret (v:=.tuple #[.slice none 0 0,.bool true]) (by simp[results,Tryz.results64,go_sem]) rfl (LayRP.none_ HB.out HK0.out)
 have g1:decide ((k:Int)-(i:Int)<(np:Int)+1)=false:=decide_eq_false (by omega)
 have Hrs:Hid (∀V:World,(Instr.slice 76 (.slice (some ⟨bP,oP,none⟩) (np+1) cp) (some (.int .i64 1)) none none).run Tryz.prog V = .ok (.slice (subA (some ⟨bP,oP,none⟩) cp 1 3) np (cp-1)) V):=fun V=>Xvi _ cp (np+1) V (by omega)
 rw[Xt6 Ht.out]
 go_enter Tryz.func64,Tryz.ntmps64
 go_wp2_with fail
 clear hW1 c0 c1 c2 c3 c4 c5 p2
 go_loopw [10,12] (fun lv iv wr=>∃(j:Nat) (A:Option Addr) (n c:Nat),j≤k-i∧iv = .int .i64 ((i+1+j:Nat):Int)∧lv = .slice A n c∧Hid (n≤200*j)∧Hid (LayT (fun b=>b<w.heap.size) W1 none W1 A n c ((Xsz (Xm its.xs) (derG g its.xs) q.no ps i k j).map (·.2)) wr)) (fun _ iv _=>k+1-(intOf iv).toNat)
 case atStart=>exact⟨0,none,0,0,Nat.zero_le _,rfl,rfl,Nat.zero_le _,⟨⟨[],RowsW.nil _ _ _⟩,rfl,Below.refl _ _,⟨Only.refl _ _,.inl rfl⟩⟩⟩
 case round =>
  obtain⟨j,A,n,c,hj,rfl,rfl,HN,HL0⟩:=hrel
  obtain⟨m,hm⟩:∃m,i+1+j=m:=⟨_,rfl⟩
  rw[hm]
  have HBw:=Xa (Xb HB.out HL0.out.below)
  have Hm:=Xa hm
  by_cases hlt:m≤k
  rotate_left
  ·have g2:decide ((m:Int)≤(k:Int))=false:=decide_eq_false (by omega)
   obtain rfl:j=k-i:=by omega
   obtain⟨bv,hbv⟩:∃b,decide ((n:Int)≤200)=b:=⟨_,rfl⟩
   have HP:Hid (LayRP (Xsz (Xm its.xs) (derG g its.xs) q.no ps i k (k-i)) w (.returned (.tuple #[.slice A n c,.bool bv])) wr):=by
    refine⟨⟨A,n,c⟩,bv,rfl,HBw.out,fun hb=>?_⟩
    obtain⟨rs,hr⟩:=HL0.out.rows
    obtain⟨A',c',he,hrows⟩:=hr.rows (fun b hb=>by have:=Hs1.out;omega)
    injection he with e1 e2 e3
    subst e1 e2 e3
    refine⟨hrows,?_⟩
    subst hb
    have:=of_decide_eq_true hbv
    rw[List.length_map] at this
    omega
   have g3:¬(m:Int)≤(k:Int):=by omega
   clear hm hj hlt
   go_wp2_with fail
   exact bodyPost_ret (v:=.tuple #[.slice A n c,.bool bv]) (by simp[results,Tryz.results64,go_sem]) rfl HP.out
  have g2:decide ((m:Int)≤(k:Int))=true:=decide_eq_true (by omega)
  have Hc:=Xa (IH.out m (by omega) hlt)
  have HKx:Hid (∀V,Below wr.heap.size wr V→V.heap[w.heap.size]? = some (.cells #[.string g.name,.slice g.cats.addr g.cats.xs.length g.cats.cap,.string g.start,.int .i64 g.startNo,.slice g.entries.addr g.entries.xs.length g.entries.cap,.slice g.rules.addr g.rules.xs.length g.rules.cap] 26 (0,0))∧V.cell? ⟨bP,oP+1,none⟩=some (.int .i64 q.no)):=fun V hV=>⟨Xh hV (Xh HL0.out.below HK.out),(HPc.out V (Xb HBw.out hV)).1⟩
  have hwm:IntKind.i64.wrap ((m:Int)+1)=(m:Int)+1:=IntWalk.i64_in _ (by omega)
  clear hm
  go_wp2_with fail
  refine wpIn_wide (n:=0) |>.1 ?_
  refine Y4 _ ?_ (fun _ _ h=>h)
  refine Xo (fun V=>Below wr.heap.size wr V) (by kernel_rfl) ?_
  refine Xd (i:=0) (v:=.agg #[.string g.name,.slice g.cats.addr g.cats.xs.length g.cats.cap,.string g.start,.int .i64 g.startNo,.slice g.entries.addr g.entries.xs.length g.entries.cap,.slice g.rules.addr g.rules.xs.length g.rules.cap]) rfl (by kernel_rfl) (fun _ _ _ h=>h) (fun V hV=>(by have hkc:=(HKx.out V hV).1;have c0:=gblk hkc 0;have c1:=gblk hkc 1;have c2:=gblk hkc 2;have c3:=gblk hkc 3;have c4:=gblk hkc 4;have c5:=gblk hkc 5;go_simp)) ?_
  refine Xd (i:=1) rfl (by kernel_rfl) (fun _ _ _ h=>h) (fun V hV=>(by skip;go_simp<;>rfl)) ?_
  refine Xd (i:=2) rfl (by kernel_rfl) (fun _ _ _ h=>h) (fun V hV=>(by skip;go_simp<;>rfl)) ?_
  refine Xd (i:=3) (v:=.slice (subA (some ⟨bP,oP,none⟩) cp 1 3) np (cp-1)) rfl (by kernel_rfl) (fun _ _ _ h=>h) (fun V hV=>(by have h:=Hrs.out V;go_simp)) ?_
  refine Xd (i:=4) rfl (by kernel_rfl) (fun _ _ _ h=>h) (fun V hV=>(by skip;go_simp<;>rfl)) ?_
  refine Xd (i:=5) rfl (by kernel_rfl) (fun _ _ _ h=>h) (fun V hV=>(by skip;go_simp<;>rfl)) ?_
  refine Xg (i:=6) (Xi (Below.refl _ _)) (by kernel_rfl) rfl (fun K hK=>?_)
  go_simp
  refine⟨trivial,rfl,callsIn_wide.2 ((Hc.out _ (Xb HBw.out (Xi (Below.refl _ _)))).mono ?_)⟩
  rintro e w5 ⟨s1,ok1,rfl,hB5,hres1⟩
  refine hK _ _ ?_
  clear hK K
  have hB5':=Xb (Xi (Below.refl wr.heap.size wr)) hB5
  have HB5:=Xa hB5'
  have Hres1:=Xa hres1
  refine Xd (i:=7) rfl (by kernel_rfl) (fun _ _ _ h=>h) (fun V hV=>(by skip;go_simp<;>rfl)) ?_
  refine Xd (i:=8) rfl (by kernel_rfl) (fun _ _ _ h=>h) (fun V hV=>(by skip;go_simp<;>rfl)) ?_
  refine Xd (i:=9) rfl (by kernel_rfl) (fun _ _ _ h=>h) (fun V hV=>(by skip;go_simp<;>rfl)) ?_
  refine Xd (i:=10) rfl (by kernel_rfl) (fun _ _ _ h=>h) (fun V hV=>(by skip;go_simp<;>rfl)) ?_
  refine Xd (i:=11) rfl (by kernel_rfl) (fun _ _ _ h=>h) (fun V hV=>(by skip;go_simp<;>rfl)) ?_
  refine Xl hB5' (by kernel_rfl) ?_ _
  clear hB5 hB5' hres1
  cases ok1
  ·have HBx:=Xa (Xb HBw.out HB5.out)
   go_wp2_with fail
   exact bodyPost_ret (v:=.tuple #[.slice none 0 0,.bool false]) (by simp[results,Tryz.results64,go_sem]) rfl (LayRP.fail HBx.out)
  obtain⟨Ar,nr,cr⟩:=s1
  obtain⟨hR1,hR2⟩:=Hres1.out rfl
  have HR1:Hid (RowsAt (fun b=>b<wr.heap.size) w5 ((Ye (Xm its.xs) (derG g its.xs) ps m k).map (·.2)) ⟨Ar,nr,cr⟩):=hR1
  obtain⟨R,hRR⟩:∃R,(Ye (Xm its.xs) (derG g its.xs) ps m k).map (·.2)=R:=⟨_,rfl⟩
  have hnr:nr=R.length:=by rw[← hRR];exact HR1.out.len
  have hnr2:nr≤200:=by rw[hnr,← hRR,List.length_map];exact hR2
  have HRk:Hid (∀x∈R,x.length≤4):=fun x hx=>by
   rw[← hRR] at hx
   obtain⟨y,hy,rfl⟩:=List.mem_map.1 hx
   exact(HL.out m y hy).2
  have HRm:Hid (0<nr→m+np≤k):=fun h0=>by
   rw[hnr,← hRR,List.length_map] at h0
   exact(HL.out m _ (List.getElem_mem h0)).1
  rw[hRR] at HR1
  have HB5w:=Xa (Xb HBw.out HB5.out)
  have HL5:=Xa (HL0.out.ext HB5.out)
  have HRR:=Xa hRR
  have Hnr:=Xa hnr
  clear hR1 hR2 hnr hRR Hc Hres1
  by_cases hr0:nr=0
  ·subst hr0
   have HLx:Hid ((Xsz (Xm its.xs) (derG g its.xs) q.no ps i k (j+1)).map (·.2)=(Xsz (Xm its.xs) (derG g its.xs) q.no ps i k j).map (·.2)):=by
    show _=_
    have hR0:R=[]:=List.eq_nil_of_length_eq_zero Hnr.out.symm
    rw[Xs5,Hm.out,List.map_append,Xvh,HRR.out,hR0,show Xu9 ((derG g its.xs q.no i m).map (·.2)) []=[] from List.eq_nil_of_length_eq_zero (by rw[Xva];simp),List.append_nil]
   go_wp2_with fail
   go_roundw
   case rel=>exact⟨j+1,A,n,c,by have:=Hm.out;omega,by rw[← Hm.out];congr 1,rfl,by have:=HN.out;show n≤_;omega,by rw[HLx.out];exact HL5.out⟩
   case measure=>simp[intOf];omega
  have g4:((nr:Int) == 0)=false:=by simp;omega
  have Hc:=Xa (HAll.out m (by have:=Hm.out;omega) (HRm.out (by omega)))
  have HKx5:Hid (∀V,Below w5.heap.size w5 V→V.heap[w.heap.size]? = some (.cells #[.string g.name,.slice g.cats.addr g.cats.xs.length g.cats.cap,.string g.start,.int .i64 g.startNo,.slice g.entries.addr g.entries.xs.length g.entries.cap,.slice g.rules.addr g.rules.xs.length g.rules.cap] 26 (0,0))∧V.cell? ⟨bP,oP+1,none⟩=some (.int .i64 q.no)):=fun V hV=>HKx.out V (Xb HB5.out hV)
  go_wp2_with fail
  refine wpIn_wide (n:=0) |>.1 ?_
  refine Y4 _ ?_ (fun _ _ h=>h)
  refine Xo (fun V=>Below w5.heap.size w5 V) (by kernel_rfl) ?_
  refine Xd (i:=0) (v:=.agg #[.string g.name,.slice g.cats.addr g.cats.xs.length g.cats.cap,.string g.start,.int .i64 g.startNo,.slice g.entries.addr g.entries.xs.length g.entries.cap,.slice g.rules.addr g.rules.xs.length g.rules.cap]) rfl (by kernel_rfl) (fun _ _ _ h=>h) (fun V hV=>(by have hkc:=(HKx5.out V hV).1;have c0:=gblk hkc 0;have c1:=gblk hkc 1;have c2:=gblk hkc 2;have c3:=gblk hkc 3;have c4:=gblk hkc 4;have c5:=gblk hkc 5;go_simp)) ?_
  refine Xd (i:=1) rfl (by kernel_rfl) (fun _ _ _ h=>h) (fun V hV=>(by skip;go_simp<;>rfl)) ?_
  refine Xd (i:=2) rfl (by kernel_rfl) (fun _ _ _ h=>h) (fun V hV=>(by skip;go_simp<;>rfl)) ?_
  refine Xd (i:=3) rfl (by kernel_rfl) (fun _ _ _ h=>h) (fun V hV=>(by skip;go_simp<;>rfl)) ?_
  refine Xd (i:=4) rfl (by kernel_rfl) (fun _ _ _ h=>h) (fun V hV=>(by skip;go_simp<;>rfl)) ?_
  refine Xd (i:=5) (v:=.int .i64 q.no) rfl (by kernel_rfl) (fun _ _ _ h=>h) (fun V hV=>(by have hn:=(HKx5.out V hV).2;go_simp)) ?_
  refine Xd (i:=6) rfl (by kernel_rfl) (fun _ _ _ h=>h) (fun V hV=>(by skip;go_simp<;>rfl)) ?_
  refine Xd (i:=7) rfl (by kernel_rfl) (fun _ _ _ h=>h) (fun V hV=>(by skip;go_simp<;>rfl)) ?_
  refine Xg (i:=8) (Xi (Below.refl _ _)) (by kernel_rfl) rfl (fun K hK=>?_)
  go_simp
  refine⟨trivial,rfl,callsIn_wide.2 ((Hc.out _ (Xb HB5w.out (Xi (Below.refl _ _)))).mono ?_)⟩
  rintro e w6 ⟨s2,ok2,rfl,hB6,hres2⟩
  refine hK _ _ ?_
  clear hK K
  have hB6':=Xb (Xi (Below.refl w5.heap.size w5)) hB6
  have HB6:=Xa hB6'
  have Hres2:=Xa hres2
  refine Xd (i:=9) rfl (by kernel_rfl) (fun _ _ _ h=>h) (fun V hV=>(by skip;go_simp<;>rfl)) ?_
  refine Xd (i:=10) rfl (by kernel_rfl) (fun _ _ _ h=>h) (fun V hV=>(by skip;go_simp<;>rfl)) ?_
  refine Xd (i:=11) rfl (by kernel_rfl) (fun _ _ _ h=>h) (fun V hV=>(by skip;go_simp<;>rfl)) ?_
  refine Xd (i:=12) rfl (by kernel_rfl) (fun _ _ _ h=>h) (fun V hV=>(by skip;go_simp<;>rfl)) ?_
  refine Xd (i:=13) rfl (by kernel_rfl) (fun _ _ _ h=>h) (fun V hV=>(by skip;go_simp<;>rfl)) ?_
  refine Xl hB6' (by kernel_rfl) ?_ _
  have HB6w:=Xa (Xb HB5w.out HB6.out)
  clear hB6 hB6' hres2 Hc
  cases ok2
  ·go_wp2_with fail
   exact bodyPost_ret (v:=.tuple #[.slice none 0 0,.bool false]) (by simp[results,Tryz.results64,go_sem]) rfl (LayRP.fail HB6w.out)
  obtain⟨Af,nf,cf⟩:=s2
  obtain⟨hF1,hF2⟩:=Hres2.out rfl
  have HF:Hid (TreesW (fun b=>b<w5.heap.size) w6 ((derG g its.xs q.no i m).map (·.2)) ⟨Af,nf,cf⟩):=hF1
  obtain⟨F,hFF⟩:∃F,(derG g its.xs q.no i m).map (·.2)=F:=⟨_,rfl⟩
  obtain⟨L0,hL0⟩:∃L0,(Xsz (Xm its.xs) (derG g its.xs) q.no ps i k j).map (·.2)=L0:=⟨_,rfl⟩
  rw[hL0] at HL0 HL5
  have hnf:nf=F.length:=by rw[← hFF];exact HF.out.slice.1
  have hnf2:nf≤200:=by rw[hnf,← hFF,List.length_map];exact hF2
  rw[hFF] at HF
  obtain⟨P,hP⟩:∃P,nf*nr=P:=⟨_,rfl⟩
  have hPb:P≤200*200:=by rw[← hP];exact Nat.mul_le_mul hnf2 hnr2
  have hwP:IntKind.i64.wrap ((nf:Int)*(nr:Int))=(P:Int):=by
   rw[← Int.natCast_mul,hP]
   exact IntWalk.i64_in _ (by omega)
  have HLn:Hid ((Xsz (Xm its.xs) (derG g its.xs) q.no ps i k (j+1)).map (·.2)=L0++Xu9 F R):=by
   show _=_
   rw[Xs5,Hm.out,List.map_append,Xvh,HRR.out,hL0,hFF]
  have Hnf:=Xa hnf
  have HP:=Xa hP
  clear hF1 hF2 Hres2 hFF hL0 hnf hP
  by_cases hbig:200<P
  ·have g5:(200:Int)<(P:Int):=by omega
   clear hbig
   go_wp2_with fail
   exact bodyPost_ret (v:=.tuple #[.slice none 0 0,.bool false]) (by simp[results,Tryz.results64,go_sem]) rfl (LayRP.fail HB6w.out)
  have g5:¬(200:Int)<(P:Int):=by omega
  have HL6:=Xa (HL5.out.ext HB6.out)
  have HR6:=Xa (HR1.out.ext HB6.out)
  have Hoo:Hid (∀b,(Value.slice A n c).ownBlock=some b→b<wr.heap.size):=fun b hb=>(HL0.out.own hb).2
  have HP200:Hid (P≤200):=by show P≤200;omega
  have Hsz:Hid (wr.heap.size≤w5.heap.size∧w5.heap.size≤w6.heap.size∧w.heap.size<wr.heap.size):=⟨HB5.out.size,HB6.out.size,by have:=Hs1.out;have:=HL0.out.below.size;omega⟩
  have Hlen0:Hid (L0.length≤200*16):=by show L0.length≤_;have:=HL0.out.len;have:=HN.out;omega
  clear hbig
  go_wp2_with fail
  go_loopw [10,112] (fun lv iv V=>∃(p:Nat) (A':Option Addr) (n' c':Nat),p≤nf∧iv = .int .i64 (p:Int)∧lv = .slice A' n' c'∧Hid (LayT (fun b=>b<w.heap.size) W1 (Value.slice A n c).ownBlock w6 A' n' c' (L0++Xu9 (F.take p) R) V)) (fun _ iv _=>nf-(intOf iv).toNat)
  case atStart=>exact⟨0,A,n,c,Nat.zero_le _,rfl,rfl,by rw[List.take_zero,show Xu9 [] R=[] from rfl,List.append_nil];exact HL6.out.start⟩
  case round =>
   clear HL0 HKx HBw
   obtain⟨p,A',n',c',hp,rfl,rfl,HT0⟩:=hrel
   by_cases hlp:p<nf
   rotate_left
   ·obtain rfl:p=nf:=by omega
    have hlI:¬(p:Int)<(p:Int):=by omega
    have HL9:Hid (LayT (fun b=>b<w.heap.size) W1 none W1 A' n' c' ((Xsz (Xm its.xs) (derG g its.xs) q.no ps i k (j+1)).map (·.2)) wr):=by
     show LayT _ _ _ _ _ _ _ _ _
     rw[HLn.out,show F=F.take p by rw[Hnf.out,List.take_length]]
     exact HT0.out.rebase
    have HN9:Hid (n'≤200*(j+1)):=by
     show n'≤_
     have h1:=HT0.out.len
     rw[List.length_append,Xva,List.length_take,← Hnf.out,Nat.min_self,← Hnr.out,HP.out] at h1
     have h2:=HL6.out.len
     have h3:=HN.out
     have h4:=HP200.out
     omega
    go_wp2_with fail
    go_roundw
    case rel=>exact⟨j+1,A',n',c',by have:=Hm.out;omega,by rw[← Hm.out];congr 1,rfl,HN9.out,HL9.out⟩
    case measure=>simp[intOf];omega
   have hpI:(p:Int)<(nf:Int):=by omega
   have hpF:p<F.length:=by rw[← Hnf.out];exact hlp
   have HFv:=Xa (HT0.out.grew.trees (fun b hb=>by have h1:=Hoo.out b hb;have h2:=Hsz.out.1;show b<w5.heap.size;omega) HF.out)
   obtain⟨x,bF,oF,htx,hAf,hbF,d0,d1,d2,d3,d4⟩:=HFv.out.get hpF
   have hAf':Af=some ⟨bF,oF,none⟩:=hAf
   subst hAf'
   obtain⟨W2,hW2⟩:∃v,wr.alloc (.cells #[.int .i64 x.rule,.int .i64 x.item,.int .i64 x.frm,.int .i64 x.unt,.slice x.kids.addr x.kids.len x.kids.cap] 37)=v:=⟨_,rfl⟩
   have hb2:=Yn hW2
   have HZ2:=Xa (Yv hW2)
   have HT2:=Xa (HT0.out.ext hb2)
   have Htx:=Xa (TreeW.ext htx hb2)
   have Hzs:Hid (∀b,(Value.slice A' n' c').ownBlock=some b→b<wr.heap.size):=fun b hb=>(HT0.out.own hb).2
   obtain⟨tp,htp⟩:∃t,F[p]=t:=⟨_,rfl⟩
   have Hcr:Hid (Xu9 (F.take (p+1)) R=Xu9 (F.take p) R++R.map (tp :: ·)):=by show _=_;rw[Xvr R hpF,htp]
   rw[htp] at Htx
   have HW2z:Hid (wr.heap.size<W2.heap.size):=by show _<_;rw[← hW2];simp
   clear hAf hb2 htx htp
   go_wp2_with fail
   go_loopw [10,118] (fun lv iv V=>∃(e:Nat) (A9:Option Addr) (n9 c9:Nat),e≤nr∧iv = .int .i64 (e:Int)∧lv = .slice A9 n9 c9∧Hid (LayT (fun b=>b<w.heap.size) W1 (Value.slice A n c).ownBlock w6 A9 n9 c9 (L0++Xu9 (F.take p) R++(R.take e).map (tp :: ·)) V)∧Hid (GrewBy (Value.slice A' n' c').ownBlock W2 V (.slice A9 n9 c9))) (fun _ iv _=>nr-(intOf iv).toNat)
   case atStart=>exact⟨0,A',n',c',Nat.zero_le _,rfl,rfl,by rw[List.take_zero,List.map_nil,List.append_nil];exact HT2.out,GrewBy.refl _ _⟩
   case round =>
    obtain⟨e,A9,n9,c9,he,rfl,rfl,HT9,HG9⟩:=hrel
    by_cases hle9:e<nr
    rotate_left
    ·obtain rfl:e=nr:=by omega
     have hlI:¬(e:Int)<(e:Int):=by omega
     have HL9:Hid (LayT (fun b=>b<w.heap.size) W1 (Value.slice A n c).ownBlock w6 A9 n9 c9 (L0++Xu9 (F.take (p+1)) R) wr):=by
      show LayT _ _ _ _ _ _ _ _ _
      have h:=HT9.out
      rw[show R.take e=R by rw[Hnr.out,List.take_length]] at h
      rw[Hcr.out,← List.append_assoc]
      exact h
     go_wp2_with fail
     go_roundw
     case rel=>exact⟨p+1,A9,n9,c9,hlp,by go_num,rfl,HL9.out⟩
     case measure=>simp[intOf];omega
    have heI:(e:Int)<(nr:Int):=by omega
    have heR:e<R.length:=by rw[← Hnr.out];exact hle9
    have HR9:=Xa (HT9.out.grew.rows (fun b hb=>Hoo.out b hb) HR6.out)
    obtain⟨r,bR,oR,hrT,hAr,hbR,hXR,hc⟩:=HR9.out.get heR
    have hAr':Ar=some ⟨bR,oR,none⟩:=hAr
    subst hAr'
    have hz9:=(HG9.out.only.block _ HW2z.out (fun e=>by have:=Hzs.out _ e;omega)).trans HZ2.out
    have htx9:=(HG9.out.tree (fun b hb => .inr hb) Htx.out).weaken (X':=fun b=>b<w.heap.size) (fun b hb => .inl (by have h1:=Hsz.out;show b<w5.heap.size;omega))
    have hr9:=hrT.weaken (X':=fun b=>b<w.heap.size) (fun b hb=>by have h1:=Hsz.out.2.2;show b<_;omega)
    have hk9:=HRk.out _ (List.getElem_mem heR)
    have hlen9:(L0++Xu9 (F.take p) R++(R.take e).map (tp :: ·)).length≤100000:=by
     rw[List.length_append,List.length_append,Xva,List.length_map,List.length_take,List.length_take,← Hnf.out,← Hnr.out,Nat.min_eq_left (by omega),Nat.min_eq_left (by omega)]
     have h1:p*nr≤200*200:=Nat.mul_le_mul (by omega) hnr2
     have h2:=Hlen0.out
     omega
    obtain⟨Ak,nk,ck,V4,Al,cl,V6,hrun1,hrun2,hT6,hG6⟩:=HT9.out.push (fun b hb=>by have:=HT9.out.below.size;have:=Hs1.out;omega) htx9 hr9 (by omega) hlen9
    have hadd:(L0++Xu9 (F.take p) R++(R.take e).map (tp :: ·))++[tp :: R[e]]=L0++Xu9 (F.take p) R++(R.take (e+1)).map (tp :: ·):=by
     rw[show R.take (e+1)=R.take e++[R[e]] from List.take_succ_eq_append_getElem heR,List.map_append,← List.append_assoc];rfl
    rw[hadd] at hT6
    have HT6:=Xa hT6
    have HG6:=Xa (hG6 _ _ HG9.out)
    have Hrun1:=Xa hrun1
    have Hrun2:=Xa hrun2
    obtain⟨z0,z1,z2,z3,z4⟩:=gb5 hz9
    clear hz9 htx9 hr9 hk9 hlen9 hrun1 hrun2 hT6 hG6 hadd hrT hAr hXR HR9
    go_wp2_with (at_builtin;first|refine Xs9 rfl _ _ 30 rfl rfl rfl Hrun1.out ?_|refine Xs9 rfl _ _ 108 rfl rfl rfl Hrun2.out ?_)
    go_roundw
    case rel=>exact⟨e+1,Al,n9+1,cl,hle9,by go_num,rfl,HT6.out,HG6.out⟩
    case measure=>simp[intOf];omega
theorem Xve (g:Gram) (its:SlS ItemG) (h1:∀x∈its.xs,1≤x.tgt.xs.length):∀ps,LayC g its ps
 | []=>Xwb g its
 | q :: ps=>fun A cp i k w h4 hik hk hE hp hA=>by
  by_cases ht:q.text.size=0
  ·exact Xv8 g its q ps (Xve g its h1 ps) A cp i k w h4 hik hk hE hp hA ht
  ·exact Xv1 g its h1 q ps (Xve g its h1 ps) A cp i k w h4 hik hk hE hp hA ht
theorem AllRP.fail {l:List Dv} {w w':World} (h:Below w.heap.size w w'):AllRP l w (.returned (.tuple #[.slice none 0 0,.bool false])) w':=⟨⟨none,0,0⟩,false,rfl,h,fun h=>by cases h⟩
structure AllT (X:Nat→Prop) (W1:World) (o:Option Nat) (w6:World) (A:Option Addr) (n c:Nat) (L:List TreeV) (V:World):Prop where
 rows:∃ks,KidsW X W1.heap.size (.slice A n c) L ks V
 len:n=L.length
 below:Below W1.heap.size W1 V
 grew:GrewBy o w6 V (.slice A n c)
theorem AllT.ext {X:Nat→Prop} {W1:World} {o:Option Nat} {w6:World} {A:Option Addr} {n c:Nat} {L:List TreeV} {V V':World} (h:AllT X W1 o w6 A n c L V) (hb:Below V.heap.size V V'):AllT X W1 o w6 A n c L V':=by
 obtain⟨ks,hr⟩:=h.rows
 exact⟨⟨ks,hr.ext hb⟩,h.len,Xb h.below hb,h.grew.ext hb⟩
theorem AllT.start {X:Nat→Prop} {W1:World} {o:Option Nat} {w6:World} {A:Option Addr} {n c:Nat} {L:List TreeV} {V:World} (h:AllT X W1 o w6 A n c L V):AllT X W1 (Value.slice A n c).ownBlock V A n c L V:=⟨h.rows,h.len,h.below,GrewBy.refl _ _⟩
theorem AllT.own {X:Nat→Prop} {W1:World} {o:Option Nat} {w6:World} {A:Option Addr} {n c:Nat} {L:List TreeV} {V:World} (h:AllT X W1 o w6 A n c L V) {b:Nat} (hb:(Value.slice A n c).ownBlock=some b):W1.heap.size≤b∧b<V.heap.size:=by
 obtain⟨ks,hr⟩:=h.rows
 exact hr.own.lt b hb
theorem AllT.rebase {X:Nat→Prop} {W1:World} {o:Option Nat} {w6:World} {A:Option Addr} {n c:Nat} {L:List TreeV} {V:World} (h:AllT X W1 o w6 A n c L V):AllT X W1 none W1 A n c L V:=by
 refine⟨h.rows,h.len,h.below,⟨⟨h.below.os,h.below.tape,h.below.output,h.below.size,fun b hb _=>h.below.block b hb⟩,?_⟩⟩
 cases ho:(Value.slice A n c).ownBlock with
 | none=>exact .inl rfl
 | some b=>exact .inr ⟨b,rfl,(h.own ho).1⟩
theorem AllT.push {X:Nat→Prop} {W1:World} {o:Option Nat} {w6:World} {A:Option Addr} {n c:Nat} {L:List TreeV} {V:World} (h:AllT X W1 o w6 A n c L V) {t:TreeV} {x:TreeG} (ht:TreeW (fun b=>X b∨(Value.slice A n c).ownBlock=some b) V t x) (hl:L.length≤100000) :
  ∃A' c' V6,(Builtin.append_ #[30,30] 30 #[.slice A n c,.slice (some ⟨V.heap.size,0,none⟩) 1 1]).run Tryz.prog (V.alloc (.cells #[.int .i64 x.rule,.int .i64 x.item,.int .i64 x.frm,.int .i64 x.unt,.slice x.kids.addr x.kids.len x.kids.cap] 37)) = .ok (.slice A' (n+1) c') V6∧AllT X W1 o w6 A' (n+1) c' (L++[t]) V6:=by
 obtain⟨ks,hks⟩:=h.rows
 have hV:Below V.heap.size V (V.alloc (.cells #[.int .i64 x.rule,.int .i64 x.item,.int .i64 x.frm,.int .i64 x.unt,.slice x.kids.addr x.kids.len x.kids.cap] 37)):=Xe (Below.refl _ _) _
 obtain⟨A',n',c',V6,hrun,hR,hg,hat⟩:=hks.push h.below.size ht hl
 have hn:n'=n+1:=by
  obtain⟨_,_,e,_⟩:=hR.own.form (by decide)
  injection e with _ e _
  rw[e,List.length_append,hks.len,← h.len];rfl
 subst hn
 exact⟨A',c',V6,hrun,⟨_,hR⟩,by rw[h.len,List.length_append];rfl,Xgp (Xb h.below hV) (hks.ext hV).own (Nat.le_refl _) hg,(h.grew.ext hV).step hg hat⟩
theorem Xvc (c i k:Int):∀(j:Nat) (l:List ItemG),(Xq c i k j l).length≤l.length:=by
 intro j l
 have h:∀(l:List ItemG) (j:Nat),(Xq c i k j l).length≤l.length:=fun l=>by
  induction l with
  | nil=>intro j;simp[Xq]
  | cons x l ih =>
   intro j
   unfold Xq
   have:=ih (j+1)
   rw[List.length_append,List.length_cons]
   split
   ·simp only[List.length_cons,List.length_nil];omega
   ·simp only[List.length_nil];omega
 exact h l j
theorem GrewBy.rowsX {o:Option Nat} {W V:World} {v:Value} (h:GrewBy o W V v) {X:Nat→Prop} (hX:∀b,o=some b→X b) {L:List (List TreeV)} {s:KidS} (ht:RowsAt X W L s):RowsAt (fun b=>X b∨v.ownBlock=some b) V L s:=by
 have h9:=h.rows hX ht
 obtain⟨rs,h1,h2,h3⟩:=ht.rows
 refine⟨ht.len,ht.cap,ht.max,fun h0=>?_,rs,h1,?_,fun j hj hj'=>h.trees hX (h3 j hj hj')⟩
 ·obtain⟨b,off,e,hx⟩:=ht.inp h0
  refine⟨b,off,e,fun hy=>?_⟩
  rcases hy with hy|hy
  ·exact hx hy
  ·rcases h2 with h2|⟨b',off',e',hb',_⟩
   ·have hl:rs.length=0:=by
     cases rs with
     | nil=>rfl
     | cons a rs=>simp at h2
    have:=ht.len
    omega
   ·rw[e] at e'
    cases e'
    rcases h.at_ with h4|⟨b',h4,h5⟩
    ·exact hx (hX b (h4.symm.trans hy))
    ·rw[h4] at hy
     injection hy with hy
     omega
 ·exact Xrq (P:=fun b=>¬X b) (n:=s.len) (fun b hb hlt=>h.only.block b hlt fun e=>hb (hX b e)) h.only.size ht.inp (fun h0=>by
   have:rs=[]:=List.eq_nil_of_length_eq_zero (by have:=ht.len;omega)
   rw[this];rfl) h2
theorem Xv3 (st:Int→ByteArray→Bool) (A:Int→Nat→Nat→List Dv) (j:Nat) (r:RuleG) (i k:Nat):(Xac st A j r i k).map (·.2)=((Ye st A r.parts.xs i k).map (·.2)).map (fun ks => .node j (-1) i k ks):=by
 unfold Xac
 rw[List.map_map,List.map_map]
 rfl
set_option maxHeartbeats 8000000 in
theorem Xv5 (g:Gram) (its:SlS ItemG) (hg:Yu g) (h1:∀x∈its.xs,1≤x.tgt.xs.length) (hfew:its.xs.length≤16384) (c:Int) (i k:Nat) (hik:i<k) (hk:k≤16) (hA:∀(r:RuleG),r∈g.rules.xs→r.no=c→∀q∈r.parts.xs,q.text.size=0→∀u v,i≤u→u<v→v≤k→(v-u)+r.parts.xs.length≤(k-i)+1→AllC g its q.no u v):AllC g its c i k:=by
 intro w hE
 obtain⟨W1,hW1⟩:∃W1,w.alloc (.cells #[.string g.name,.slice g.cats.addr g.cats.xs.length g.cats.cap,.string g.start,.int .i64 g.startNo,.slice g.entries.addr g.entries.xs.length g.entries.cap,.slice g.rules.addr g.rules.xs.length g.rules.cap] 26)=W1:=⟨_,rfl⟩
 have HB:=Xa (Yn hW1)
 have HK:=Xa (Yv hW1)
 have Hs1:Hid (W1.heap.size=w.heap.size+1):=by show _=_;rw[← hW1];simp
 have HE:=Xa (fun V (hV:Below w.heap.size w V)=>hE.ext hV)
 have HA:=Xa hA
 have hfr:=hg.fewR
 clear hE hA
 go_enter Tryz.func17,Tryz.ntmps17
 go_wp2_with fail
 clear hW1
 go_loopw [10,22] (fun lv iv wr=>∃(j:Nat) (A:Option Addr) (n cp:Nat),j≤its.xs.length∧iv = .int .i64 (j:Int)∧lv = .slice A n cp∧Hid (AllT (fun b=>b<w.heap.size) W1 none W1 A n cp ((Xq c i k 0 (its.xs.take j)).map (·.2)) wr)) (fun _ iv _=>its.xs.length-(intOf iv).toNat)
 case atStart=>exact⟨0,none,0,0,Nat.zero_le _,rfl,rfl,by rw[List.take_zero];exact⟨⟨[],KidsW.nil _ _ _⟩,rfl,Below.refl _ _,⟨Only.refl _ _,.inl rfl⟩⟩⟩
 case round =>
  obtain⟨j,A,n,cp,hj,rfl,rfl,HT⟩:=hrel
  have HBw:=Xa (Xb HB.out HT.out.below)
  by_cases hlt:j<its.xs.length
  rotate_left
  ·obtain rfl:j=its.xs.length:=by omega
   have hlI:¬(its.xs.length:Int)<(its.xs.length:Int):=by omega
   rw[List.take_length] at HT
   have hkc:=Xh HT.out.below HK.out
   obtain⟨b0,b1,b2,b3,b4,b5⟩:=gb6 hkc
   have hn0:n≤its.xs.length:=by rw[HT.out.len,List.length_map];exact Xvc _ _ _ _ _
   have Hn0:=Xa hn0
   clear hkc hn0 hj hlt
   go_wp2_with fail
   clear b0 b1 b2 b3 b4 b5
   go_loopw [10,54] (fun lv iv wr=>∃(m:Nat) (A:Option Addr) (n cp:Nat),m≤g.rules.xs.length∧iv = .int .i64 (m:Int)∧lv = .slice A n cp∧Hid (n≤its.xs.length+200*m)∧Hid (AllT (fun b=>b<w.heap.size) W1 none W1 A n cp ((Xq c i k 0 its.xs++X4 (Xm its.xs) (derG g its.xs) c i k 0 (g.rules.xs.take m)).map (·.2)) wr)) (fun _ iv _=>g.rules.xs.length-(intOf iv).toNat)
   case atStart=>exact⟨0,A,n,cp,Nat.zero_le _,rfl,rfl,Hn0.out,by rw[List.take_zero];unfold X4;rw[List.append_nil];exact HT.out⟩
   case round =>
    clear HBw HT Hn0
    obtain⟨m,A,n,cp,hm,rfl,rfl,HN,HT⟩:=hrel
    have HBw:=Xa (Xb HB.out HT.out.below)
    by_cases hlt:m<g.rules.xs.length
    rotate_left
    ·obtain rfl:m=g.rules.xs.length:=by omega
     have hlI:¬(g.rules.xs.length:Int)<(g.rules.xs.length:Int):=by omega
     rw[List.take_length] at HT
     obtain⟨bv,hbv⟩:∃b,decide ((n:Int)≤200)=b:=⟨_,rfl⟩
     have HP:Hid (AllRP (derG g its.xs c i k) w (.returned (.tuple #[.slice A n cp,.bool bv])) wr):=by
      refine⟨⟨A,n,cp⟩,bv,rfl,HBw.out,fun hb=>?_⟩
      rw[Xec hg]
      obtain⟨ks,hr⟩:=HT.out.rows
      obtain⟨A',c',he,hrows⟩:=hr.trees (fun b hb=>by have:=Hs1.out;omega)
      injection he with e1 e2 e3
      subst e1 e2 e3
      refine⟨hrows,?_⟩
      subst hb
      have:=of_decide_eq_true hbv
      rw[List.length_map] at this
      omega
     clear hm hlt
     go_wp2_with fail
     exact bodyPost_ret (v:=.tuple #[.slice A n cp,.bool bv]) (by simp[results,Tryz.results17,go_sem]) rfl HP.out
    have hmI:(m:Int)<(g.rules.xs.length:Int):=by omega
    have HEr:=Xa (HE.out _ HBw.out)
    obtain⟨bi,oi,hA,hbi,hcl⟩:=HEr.out.g.rules.at_ RuleG.size_cells (by decide) hlt
    have d0:wr.cell? ⟨bi,oi+m*5,none⟩=some (.string g.rules.xs[m].cat):=hcl m hlt wr (Below.refl _ _) 0 _ rfl
    have d1:wr.cell? ⟨bi,oi+m*5+1,none⟩=some (.int .i64 g.rules.xs[m].no):=hcl m hlt wr (Below.refl _ _) 1 _ rfl
    have d2:wr.cell? ⟨bi,oi+m*5+2,none⟩=some (.slice g.rules.xs[m].parts.addr g.rules.xs[m].parts.xs.length g.rules.xs[m].parts.cap):=hcl m hlt wr (Below.refl _ _) 2 _ rfl
    have d3:wr.cell? ⟨bi,oi+m*5+3,none⟩=some (.slice g.rules.xs[m].gives.addr g.rules.xs[m].gives.xs.length g.rules.xs[m].gives.cap):=hcl m hlt wr (Below.refl _ _) 3 _ rfl
    have d4:wr.cell? ⟨bi,oi+m*5+4,none⟩=some (.int .i64 g.rules.xs[m].cost):=hcl m hlt wr (Below.refl _ _) 4 _ rfl
    rw[hA]
    have hrm:=List.getElem_mem hlt
    obtain⟨ru,hru⟩:∃y,g.rules.xs[m]=y:=⟨_,rfl⟩
    have hskip:=fun h=>Xlo (st:=Xm its.xs) (A:=derG g its.xs) (c:=c) (i:=i) (k:=k) hlt h
    have hstep:=fun h=>Xug (st:=Xm its.xs) (A:=derG g its.xs) (c:=c) (i:=i) (k:=k) hlt h
    rw[hru] at d0 d1 d2 d3 d4 hrm hskip hstep
    obtain⟨W5,hW5⟩:∃v,wr.alloc (.cells #[.string ru.cat,.int .i64 ru.no,.slice ru.parts.addr ru.parts.xs.length ru.parts.cap,.slice ru.gives.addr ru.gives.xs.length ru.gives.cap,.int .i64 ru.cost] 79)=v:=⟨_,rfl⟩
    have hb5:=Yn hW5
    have hx5:=Yv hW5
    have HT5:=Xa (HT.out.ext hb5)
    have hk5:=Xh hb5 (Xh HT.out.below HK.out)
    obtain⟨x0,x1,x2,x3,x4⟩:=gb5 hx5
    obtain⟨b0,b1,b2,b3,b4,b5⟩:=gb6 hk5
    have HB5:=Xa hb5
    have Hskip:=Xa hskip
    have Hstep:=Xa hstep
    have Hrm:=Xa hrm
    have Hlt:=Xa hlt
    clear hru hb5 hx5 hk5 hA hcl hskip hstep hrm hlt hm
    by_cases hcat:ru.no=c
    rotate_left
    ·have g1:(ru.no != c)=true:=by simpa using hcat
     have HL:=Xa (Hskip.out hcat)
     clear hcat
     go_wp2_with fail
     go_roundw
     case rel=>exact⟨m+1,A,n,cp,Hlt.out,by go_num,rfl,by have:=HN.out;show n≤_;omega,by rw[HL.out];exact HT5.out⟩
     case measure=>simp[intOf];have:=Hlt.out;omega
    have g1:(ru.no != c)=false:=by simpa using hcat
    have HL:=Xa (Hstep.out hcat)
    have hrule:=hg.rule ru Hrm.out
    have HB5w:=Xa (Xb HBw.out HB5.out)
    have hlay:=Xve g its h1 ru.parts.xs ru.parts.addr ru.parts.cap i k W5 hrule.2.2.2.2.2 (by omega) hk (HE.out _ HB5w.out) ((HE.out _ HB5w.out).g.rule ru Hrm.out).1 (HA.out ru Hrm.out hcat)
    have Hlay:=Xa hlay
    clear hcat hlay hrule
    go_wp2_with fail
    refine Hlay.out.mono ?_
    rintro e w6 ⟨s1,ok1,rfl,hB6,hres1⟩
    have HB6:=Xa hB6
    have HB6w:=Xa (Xb HB5w.out hB6)
    have Hres1:=Xa hres1
    clear hB6 hres1 Hlay x0 x1 x2 x3 x4 b0 b1 b2 b3 b4 b5
    cases ok1
    ·go_wp2_with fail
     exact bodyPost_ret (v:=.tuple #[.slice none 0 0,.bool false]) (by simp[results,Tryz.results17,go_sem]) rfl (AllRP.fail HB6w.out)
    obtain⟨Ar,nr,cr⟩:=s1
    obtain⟨hR1,hR2⟩:=Hres1.out rfl
    obtain⟨R,hRR⟩:∃R,(Ye (Xm its.xs) (derG g its.xs) ru.parts.xs i k).map (·.2)=R:=⟨_,rfl⟩
    obtain⟨L0,hL0⟩:∃L0,(Xq c i k 0 its.xs++X4 (Xm its.xs) (derG g its.xs) c i k 0 (g.rules.xs.take m)).map (·.2)=L0:=⟨_,rfl⟩
    have HR1:Hid (RowsAt (fun b=>b<W5.heap.size) w6 R ⟨Ar,nr,cr⟩):=by rw[← hRR];exact hR1
    have hnr:nr=R.length:=HR1.out.len
    have hnr2:nr≤200:=by rw[hnr,← hRR,List.length_map];exact hR2
    have HLn:Hid ((Xq c i k 0 its.xs++X4 (Xm its.xs) (derG g its.xs) c i k 0 (g.rules.xs.take (m+1))).map (·.2)=L0++R.map (fun ks => .node m (-1) i k ks)):=by
     show _=_
     rw[HL.out,← List.append_assoc,List.map_append,Xv3,hRR,hL0]
    rw[hL0] at HT5
    have HT6:=Xa (HT5.out.ext HB6.out)
    have HL0n:Hid (n=L0.length):=HT5.out.len
    have Hoo:Hid (∀b,(Value.slice A n cp).ownBlock=some b→b<W5.heap.size):=fun b hb=>(HT5.out.own hb).2
    have Hsz:Hid (w.heap.size<W5.heap.size):=by have:=Hs1.out;have:=HT5.out.below.size;show _<_;omega
    have Hnr:=Xa hnr
    clear hR1 hR2 hRR hL0 hnr Hres1 HT HT5 HBw HEr
    go_wp2_with fail
    go_loopw [10,77] (fun lv iv V=>∃(e:Nat) (A9:Option Addr) (n9 c9:Nat),e≤nr∧iv = .int .i64 (e:Int)∧lv = .slice A9 n9 c9∧Hid (AllT (fun b=>b<w.heap.size) W1 (Value.slice A n cp).ownBlock w6 A9 n9 c9 (L0++(R.take e).map (fun ks => .node m (-1) i k ks)) V)) (fun _ iv _=>nr-(intOf iv).toNat)
    case atStart=>exact⟨0,A,n,cp,Nat.zero_le _,rfl,rfl,by rw[List.take_zero,List.map_nil,List.append_nil];exact HT6.out.start⟩
    case round =>
     obtain⟨e,A9,n9,c9,he,rfl,rfl,HT9⟩:=hrel
     by_cases hle9:e<nr
     rotate_left
     ·obtain rfl:e=nr:=by omega
      have hlI:¬(e:Int)<(e:Int):=by omega
      have HL9:Hid (AllT (fun b=>b<w.heap.size) W1 none W1 A9 n9 c9 ((Xq c i k 0 its.xs++X4 (Xm its.xs) (derG g its.xs) c i k 0 (g.rules.xs.take (m+1))).map (·.2)) wr):=by
       show AllT _ _ _ _ _ _ _ _ _
       have h:=HT9.out.rebase
       rw[show R.take e=R by rw[Hnr.out,List.take_length]] at h
       rw[HLn.out]
       exact h
      have HN9:Hid (n9≤its.xs.length+200*(m+1)):=by
       show n9≤_
       have h1:=HT9.out.len
       rw[List.length_append,List.length_map,List.length_take,← Hnr.out,Nat.min_self] at h1
       have h2:=HL0n.out
       have h3:=HN.out
       omega
      go_wp2_with fail
      go_roundw
      case rel=>exact⟨m+1,A9,n9,c9,Hlt.out,by go_num,rfl,HN9.out,HL9.out⟩
      case measure=>simp[intOf];have:=Hlt.out;omega
     have heI:(e:Int)<(nr:Int):=by omega
     have heR:e<R.length:=by rw[← Hnr.out];exact hle9
     obtain⟨r,bR,oR,hrT,hAr,hbR,hXR,hc⟩:=(HT9.out.grew.rowsX (fun b hb=>Hoo.out b hb) HR1.out).get heR
     have hAr':Ar=some ⟨bR,oR,none⟩:=hAr
     subst hAr'
     have htx9:=Xub (r:=(m:Int)) (j := -1) (i:=(i:Int)) (k:=(k:Int)) (hrT.weaken (X':=fun b=>b<w.heap.size∨(Value.slice A9 n9 c9).ownBlock=some b) (fun b hb=>by
      rcases hb with hb|hb
      ·exact .inl (by have:=Hsz.out;show b<W5.heap.size;omega)
      ·exact .inr hb))
     have hlen9:(L0++(R.take e).map (fun ks=>(.node m (-1) i k ks:TreeV))).length≤100000:=by
      rw[List.length_append,List.length_map,List.length_take,← Hnr.out]
      have h2:=HL0n.out
      have h3:=HN.out
      have h5:=Hlt.out
      omega
     obtain⟨Al,cl,V6,hrun,hT6⟩:=HT9.out.push htx9 hlen9
     have hadd:(L0++(R.take e).map (fun ks=>(.node m (-1) i k ks:TreeV)))++[.node m (-1) i k R[e]]=L0++(R.take (e+1)).map (fun ks => .node m (-1) i k ks):=by
      rw[show R.take (e+1)=R.take e++[R[e]] from List.take_succ_eq_append_getElem heR,List.map_append,← List.append_assoc];rfl
     rw[hadd] at hT6
     have HT7:=Xa hT6
     have Hrun:=Xa hrun
     clear htx9 hlen9 hrun hT6 hadd hrT hAr hXR
     go_wp2_with (at_builtin;refine Xs9 rfl _ _ 30 rfl rfl rfl Hrun.out ?_)
     go_roundw
     case rel=>exact⟨e+1,Al,n9+1,cl,hle9,by go_num,rfl,HT7.out⟩
     case measure=>simp[intOf];omega
  have hjI:(j:Int)<(its.xs.length:Int):=by omega
  have HEr:=Xa (HE.out _ HBw.out)
  obtain⟨bi,oi,hA,hbi,hcl⟩:=HEr.out.its.lies.at_ ItemG.size_cells (by decide) hlt
  have d0:wr.cell? ⟨bi,oi+j*6,none⟩=some (.int .i64 its.xs[j].cat):=hcl j hlt wr (Below.refl _ _) 0 _ rfl
  have d1:wr.cell? ⟨bi,oi+j*6+1,none⟩=some (.int .i64 its.xs[j].frm):=hcl j hlt wr (Below.refl _ _) 1 _ rfl
  have d2:wr.cell? ⟨bi,oi+j*6+2,none⟩=some (.int .i64 its.xs[j].unt):=hcl j hlt wr (Below.refl _ _) 2 _ rfl
  have d3:wr.cell? ⟨bi,oi+j*6+3,none⟩=some (.int .i64 its.xs[j].cost):=hcl j hlt wr (Below.refl _ _) 3 _ rfl
  have d4:wr.cell? ⟨bi,oi+j*6+4,none⟩=some (.slice its.xs[j].tgt.addr its.xs[j].tgt.xs.length its.xs[j].tgt.cap):=hcl j hlt wr (Below.refl _ _) 4 _ rfl
  have d5:wr.cell? ⟨bi,oi+j*6+5,none⟩=some (.int .i64 its.xs[j].term):=hcl j hlt wr (Below.refl _ _) 5 _ rfl
  have hst:=Xt8 (c:=c) (i:=(i:Int)) (k:=(k:Int)) hlt
  rw[hA]
  obtain⟨xi,hxi⟩:∃y,its.xs[j]=y:=⟨_,rfl⟩
  rw[hxi] at hst d0 d1 d2 d3 d4 d5
  obtain⟨W5,hW5⟩:∃v,wr.alloc (.cells #[.int .i64 xi.cat,.int .i64 xi.frm,.int .i64 xi.unt,.int .i64 xi.cost,.slice xi.tgt.addr xi.tgt.xs.length xi.tgt.cap,.int .i64 xi.term] 53)=v:=⟨_,rfl⟩
  have hb5:=Yn hW5
  have hx5:=Yv hW5
  have HT5:=Xa (HT.out.ext hb5)
  obtain⟨x0,x1,x2,x3,x4,x5⟩:=gb6 hx5
  have Hst:=Xa hst
  have Hlt:=Xa hlt
  clear hst hxi hb5 hx5 hA hcl hlt hj
  have hcase:(¬xi.cat=c∨(xi.cat=c∧¬xi.frm=(i:Int))∨(xi.cat=c∧xi.frm=(i:Int)∧¬xi.unt=(k:Int)))∨(xi.cat=c∧xi.frm=(i:Int)∧xi.unt=(k:Int)):=by
   by_cases h1:xi.cat=c<;>by_cases h2:xi.frm=(i:Int)<;>by_cases h3:xi.unt=(k:Int)<;>simp[h1,h2,h3]
  rcases hcase with hno|⟨h1,h2,h3⟩
  ·have HL:Hid (Xq c i k 0 (its.xs.take (j+1))=Xq c i k 0 (its.xs.take j)):=by
    show _=_
    rw[Hst.out,if_neg,List.append_nil]
    rintro⟨h1,h2,h3⟩
    rcases hno with h|⟨_,h⟩|⟨_,_,h⟩
    ·exact h h1
    ·exact h h2
    ·exact h h3
   rcases hno with h1|⟨h1,h2⟩|⟨h1,h2,h3⟩
   ·have g1:(xi.cat == c)=false:=by simpa using h1
    clear h1
    go_wp2_with fail
    go_roundw
    case rel=>exact⟨j+1,A,n,cp,Hlt.out,by go_num,rfl,by rw[HL.out];exact HT5.out⟩
    case measure=>simp[intOf];have:=Hlt.out;omega
   ·have g1:(xi.cat == c)=true:=by simpa using h1
    have g2:(xi.frm == (i:Int))=false:=by simpa using h2
    clear h1 h2
    go_wp2_with fail
    go_roundw
    case rel=>exact⟨j+1,A,n,cp,Hlt.out,by go_num,rfl,by rw[HL.out];exact HT5.out⟩
    case measure=>simp[intOf];have:=Hlt.out;omega
   ·have g1:(xi.cat == c)=true:=by simpa using h1
    have g2:(xi.frm == (i:Int))=true:=by simpa using h2
    have g3:(xi.unt == (k:Int))=false:=by simpa using h3
    clear h1 h2 h3
    go_wp2_with fail
    go_roundw
    case rel=>exact⟨j+1,A,n,cp,Hlt.out,by go_num,rfl,by rw[HL.out];exact HT5.out⟩
    case measure=>simp[intOf];have:=Hlt.out;omega
  ·have g1:(xi.cat == c)=true:=by simpa using h1
   have g2:(xi.frm == (i:Int))=true:=by simpa using h2
   have g3:(xi.unt == (k:Int))=true:=by simpa using h3
   have HL:Hid ((Xq c i k 0 (its.xs.take (j+1))).map (·.2)=(Xq c i k 0 (its.xs.take j)).map (·.2)++[Zt j i k]):=by
    show _=_
    rw[Hst.out,if_pos ⟨h1,h2,h3⟩,List.map_append];rfl
   obtain⟨A',c',V6,hrun,hT6⟩:=HT5.out.push (Xnx _ W5 j i k) (by rw[List.length_map];have h1:=Xvc c i k 0 (its.xs.take j);rw[List.length_take] at h1;omega)
   have Hrun:=Xa hrun
   have HT6:=Xa hT6
   clear h1 h2 h3 hrun hT6
   go_wp2_with (at_builtin;refine Xs9 rfl _ _ 30 rfl rfl rfl Hrun.out ?_)
   go_roundw
   case rel=>exact⟨j+1,A',n+1,c',Hlt.out,by go_num,rfl,by rw[HL.out];exact HT6.out⟩
   case measure=>simp[intOf];have:=Hlt.out;omega
def SomeB (w:World) (e:Ending) (w':World):Prop:=∃b:Bool,e = .returned (.bool b)∧Below w.heap.size w w'
set_option maxHeartbeats 8000000 in
theorem Xm9 (g : Gram) (w : World) (hg : g.lies w) : Calls Tryz.prog 34 #[.agg #[.string g.name, .slice g.cats.addr g.cats.xs.length g.cats.cap, .string g.start, .int .i64 g.startNo, .slice g.entries.addr g.entries.xs.length g.entries.cap, .slice g.rules.addr g.rules.xs.length g.rules.cap]] w (SomeB w) := by
  obtain ⟨W1, hW1⟩ : ∃ W1, w.alloc (.cells #[.string g.name, .slice g.cats.addr g.cats.xs.length g.cats.cap, .string g.start, .int .i64 g.startNo, .slice g.entries.addr g.entries.xs.length g.entries.cap, .slice g.rules.addr g.rules.xs.length g.rules.cap] 26) = W1 := ⟨_, rfl⟩
  have hB1 := Yn hW1
  have hk := Yv hW1
  have hg1 := hg.ext hB1
  have hme : g.entries.xs.length ≤ 9223372036854775807 := Nat.le_trans hg.entries.cap hg.entries.max
  have hmr : g.rules.xs.length ≤ 9223372036854775807 := Nat.le_trans hg.rules.cap hg.rules.max
  obtain ⟨c0, c1, c2, c3, c4, c5⟩ := gb6 hk
  have HE : Hid (∀ k (hk : k < g.entries.xs.length), ∃ b off n cp, g.entries.addr = some ⟨b, off, none⟩ ∧ W1.cell? ⟨b, off + k * 5 + 3, none⟩ = some (.slice n g.entries.xs[k].gives.xs.length cp)) := by
    intro k hk
    obtain ⟨b, off, hA, hb, hc⟩ := hg1.entries.at_ EntryG.size_cells (by omega) hk
    exact ⟨b, off, g.entries.xs[k].gives.addr, g.entries.xs[k].gives.cap, hA, hc k hk W1 (Below.refl _ _) 3 _ rfl⟩
  have HR : Hid (∀ k (hk : k < g.rules.xs.length), ∃ b off n cp n' cp', g.rules.addr = some ⟨b, off, none⟩ ∧ W1.cell? ⟨b, off + k * 5 + 2, none⟩ = some (.slice n g.rules.xs[k].parts.xs.length cp) ∧ W1.cell? ⟨b, off + k * 5 + 3, none⟩ = some (.slice n' g.rules.xs[k].gives.xs.length cp')) := by
    intro k hk
    obtain ⟨b, off, hA, hb, hc⟩ := hg1.rules.at_ RuleG.size_cells (by omega) hk
    exact ⟨b, off, _, _, _, _, hA, hc k hk W1 (Below.refl _ _) 2 _ rfl, hc k hk W1 (Below.refl _ _) 3 _ rfl⟩
  have HB1 := Xa hB1
  clear hk hg hg1 hB1
  have key : True := trivial
  go_enter Tryz.func34, Tryz.ntmps34
  go_wp2_with fail
  all_goals first
    | (go_ret
       exact ⟨_, rfl, HB1.out⟩)
    | skip
  all_goals
    go_loopw [3] (fun iv wr => ∃ k : Nat, k ≤ g.entries.xs.length ∧ iv = .int .i64 k ∧ wr = W1) (fun iv _ => g.entries.xs.length - (intOf iv).toNat)
    case atStart => exact ⟨0, Nat.zero_le _, rfl, rfl⟩
    case round =>
      obtain ⟨k, hk, rfl, rfl⟩ := hrel
      by_cases hlt : k < g.entries.xs.length
      · obtain ⟨b, off, n, cp, hA, hc⟩ := HE.out k hlt
        rw [hA] at c4
        try rw [hA]
        clear hA
        go_wp2_with fail
        · go_ret
          exact ⟨_, rfl, HB1.out⟩
        · go_roundw
          case rel => exact ⟨k + 1, by omega, by go_num, by first | rfl | trivial⟩
          case measure => simp [intOf]; omega
      · go_wp2_with fail
        clear hlt
        go_loopw [4] (fun iv wr2 => ∃ k : Nat, k ≤ g.rules.xs.length ∧ iv = .int .i64 k ∧ wr2 = wr) (fun iv _ => g.rules.xs.length - (intOf iv).toNat)
        case atStart => exact ⟨0, Nat.zero_le _, rfl, rfl⟩
        case round =>
          obtain ⟨k, hk, rfl, rfl⟩ := hrel
          by_cases hlt : k < g.rules.xs.length
          · obtain ⟨b, off, n, cp, n', cp', hA, hc, hc'⟩ := HR.out k hlt
            rw [hA] at c5
            try rw [hA]
            clear hA
            go_wp2_with fail
            all_goals first
              | (go_ret
                 exact ⟨_, rfl, HB1.out⟩)
              | skip
            go_roundw
            case rel => exact ⟨k + 1, by omega, by go_num, by first | rfl | trivial⟩
            case measure => simp [intOf]; omega
          · go_wp2_with fail
            go_ret
            exact ⟨_, rfl, HB1.out⟩
def FewC (g:Gram) (its:List ItemG) (n:Int):Prop:=(g.cats.xs.length≤6∨32<g.cats.xs.length)∧(its.length≤50∨16384<its.length)∧(n≤7∨16<n)
def FewPost29 (g:Gram) (its:List ItemG) (n:Int) (w:World) (e:Ending) (w':World):Prop:=∃b:Bool,e = .returned (.bool b)∧Below w.heap.size w w'∧(b=true→FewC g its n)
theorem FewPost29.no {g:Gram} {its:List ItemG} {n:Int} {w w':World} (hb:Below w.heap.size w w'):FewPost29 g its n w (.returned (.bool false)) w':=⟨false,rfl,hb,fun h=>by cases h⟩
set_option maxHeartbeats 4000000 in
theorem Xna (g:Gram) (its:SlS ItemG) (n:Int) (w:World) (hg:g.lies w) (hi:ItemsAt w its):Calls Tryz.prog 62 #[.agg #[.string g.name,.slice g.cats.addr g.cats.xs.length g.cats.cap,.string g.start,.int .i64 g.startNo,.slice g.entries.addr g.entries.xs.length g.entries.cap,.slice g.rules.addr g.rules.xs.length g.rules.cap],.slice its.addr its.xs.length its.cap,.int .i64 n] w (FewPost29 g its.xs n w):=by
 obtain⟨W1,hW1⟩:∃W1,w.alloc (.cells #[.string g.name,.slice g.cats.addr g.cats.xs.length g.cats.cap,.string g.start,.int .i64 g.startNo,.slice g.entries.addr g.entries.xs.length g.entries.cap,.slice g.rules.addr g.rules.xs.length g.rules.cap] 26)=W1:=⟨_,rfl⟩
 have hB1:=Yn hW1
 have hk:=Yv hW1
 have HG:=Xa (hg.ext hB1)
 have HI:=Xa (hi.ext hB1)
 have hml:its.xs.length≤9223372036854775807:=Nat.le_trans hi.lies.cap hi.lies.max
 have hmc:g.cats.xs.length≤9223372036854775807:=Nat.le_trans hg.cats.cap hg.cats.max
 have Hk:=Xa hk
 have HB1:=Xa hB1
 clear hk hg hi hB1
 go_enter Tryz.func62,Tryz.ntmps62
 go_wp2_with fail
 clear hW1
 go_loopw [7] (fun iv wr=>∃k:Nat,k≤its.xs.length∧k≤60∧iv = .int .i64 k∧Below W1.heap.size W1 wr) (fun iv _=>its.xs.length-(intOf iv).toNat)
 case atStart=>exact⟨0,Nat.zero_le _,by omega,rfl,Below.refl _ _⟩
 case round =>
  obtain⟨k,hk,hk6,rfl,hB⟩:=hrel
  have hBw:=Xb HB1.out hB
  by_cases hlt:k<its.xs.length∧k<60
  ·obtain⟨hl1,hl2⟩:=hlt
   obtain⟨bi,oi,hAi,hbi,hci⟩:=(HI.out.ext hB).lies.at_ ItemG.size_cells (by omega) hl1
   have d4:wr.cell? ⟨bi,oi+k*6+4,none⟩=some (.slice its.xs[k].tgt.addr its.xs[k].tgt.xs.length its.xs[k].tgt.cap):=hci k hl1 wr (Below.refl _ _) 4 _ rfl
   rw[hAi]
   clear hci hAi
   generalize its.xs[k]=z at *
   by_cases h8:8<z.tgt.xs.length
   ·go_wp2_with fail
    go_ret
    exact .no hBw
   ·go_wp2_with fail
    go_roundw
    case rel=>exact⟨k+1,by omega,by omega,by go_num,hB⟩
    case measure=>simp[intOf];omega
  ·have F1:=Xa (Xm9 g wr (HG.out.ext hB))
   have hkr:=Xh hB Hk.out
   have HBw:=Xa hBw
   have Hkr:=Xa hkr
   obtain⟨c0,c1,c2,c3,c4,c5⟩:=gb6 hkr
   have hn60:¬(k<its.xs.length∧k<60):=hlt
   clear hkr hB hBw
   by_cases h1:k<its.xs.length
   ·have h2:¬k<60:=fun h=>hlt ⟨h1,h⟩
    go_wp2_with fail
    refine F1.out.mono ?_
    rintro e w2 ⟨b1,rfl,hb2⟩
    have hk2:=Xh hb2 Hkr.out
    have HB2:=Xa (Xb HBw.out hb2)
    clear c0 c1 c2 c3 c4 c5
    obtain⟨c0,c1,c2,c3,c4,c5⟩:=gb6 hk2
    clear F1 hk2 hb2 hn60 hlt h1 hk hk6 h2
    cases b1
    ·go_wp2_with fail
     go_ret
     exact .no HB2.out
    go_wp2_with fail
    all_goals
     go_ret
     refine⟨_,rfl,HB2.out,fun h=>?_⟩
     first
      | (cases h;done)
      | (simp at h;exact⟨by omega,by omega,by omega⟩)
      | exact⟨by omega,by omega,by omega⟩
   ·have h2:=h1
    go_wp2_with fail
    refine F1.out.mono ?_
    rintro e w2 ⟨b1,rfl,hb2⟩
    have hk2:=Xh hb2 Hkr.out
    have HB2:=Xa (Xb HBw.out hb2)
    clear c0 c1 c2 c3 c4 c5
    obtain⟨c0,c1,c2,c3,c4,c5⟩:=gb6 hk2
    clear F1 hk2 hb2 hn60 hlt h1 hk hk6 h2
    cases b1
    ·go_wp2_with fail
     go_ret
     exact .no HB2.out
    go_wp2_with fail
    all_goals
     go_ret
     refine⟨_,rfl,HB2.out,fun h=>?_⟩
     first
      | (cases h;done)
      | (simp at h;exact⟨by omega,by omega,by omega⟩)
      | exact⟨by omega,by omega,by omega⟩
def Xmu (g:Gram) (its:List ItemG) (n:Int) (w:World) (e:Ending) (w':World):Prop:=e = .returned (.int .i64 (errC g its n))∧Below w.heap.size w w'
set_option maxHeartbeats 4000000 in
theorem Xir (g:Gram) (its:SlS ItemG) (n:Int) (w:World) (hg:g.lies w) (hi:ItemsAt w its):Calls Tryz.prog 63 #[.agg #[.string g.name,.slice g.cats.addr g.cats.xs.length g.cats.cap,.string g.start,.int .i64 g.startNo,.slice g.entries.addr g.entries.xs.length g.entries.cap,.slice g.rules.addr g.rules.xs.length g.rules.cap],.slice its.addr its.xs.length its.cap,.int .i64 n] w (Xmu g its.xs n w):=by
 obtain⟨W1,hW1⟩:∃W1,w.alloc (.cells #[.string g.name,.slice g.cats.addr g.cats.xs.length g.cats.cap,.string g.start,.int .i64 g.startNo,.slice g.entries.addr g.entries.xs.length g.entries.cap,.slice g.rules.addr g.rules.xs.length g.rules.cap] 26)=W1:=⟨_,rfl⟩
 have hB1:=Yn hW1
 have hk:=Yv hW1
 have HG:=Xa (hg.ext hB1)
 have HI:=Xa (hi.ext hB1)
 have F1:=Xa (Xho g W1 (hg.ext hB1))
 have hml:its.xs.length≤9223372036854775807:=Nat.le_trans hi.lies.cap hi.lies.max
 have Hk:=Xa hk
 have HB1:=Xa hB1
 have HE:Hid (errC g its.xs n=if Ys g≠0 then Ys g else if n<1∨16<n then 1 else if 16384<its.xs.length then 2 else if its.xs.all (Zo g n) then 0 else 280):=rfl
 obtain⟨c0,c1,c2,c3,c4,c5⟩:=gb6 hk
 clear hk hg hi hB1
 go_enter Tryz.func63,Tryz.ntmps63
 go_wp2_with fail
 refine F1.out.mono ?_
 rintro e w2 ⟨rfl,hb2⟩
 have HB2:=Xa (Xb HB1.out hb2)
 have Hb12:=Xa hb2
 clear F1 hb2 c0 c1 c2 c3 c4 c5 hW1
 by_cases h0:Ys g=0
 rotate_left
 ·have q0:(Ys g != 0)=true:=by simpa using h0
  have q1:(Ys g == 0)=false:=by simpa using h0
  have HR:=Xa (HE.out.trans (if_pos h0))
  clear HE h0
  go_wp2_with fail
  go_ret
  exact⟨by rw[HR.out];rfl,HB2.out⟩
 have hfc:=(Xgs h0).few
 have HE1:=HE.out.trans (if_neg (by simpa using h0))
 rw[h0]
 by_cases hn:n<1∨16<n
 ·have HR:=Xa (HE1.trans (if_pos hn))
  clear HE HE1 h0
  by_cases h1:n<1
  ·go_wp2_with fail
   go_ret
   exact⟨by rw[HR.out];rfl,HB2.out⟩
  ·have h2:16<n:=by omega
   go_wp2_with fail
   go_ret
   exact⟨by rw[HR.out];rfl,HB2.out⟩
 have h1:¬n<1:=by omega
 have h2:¬16<n:=by omega
 have HE2:=HE1.trans (if_neg hn)
 by_cases hl:16384<its.xs.length
 ·have HR:=Xa (HE2.trans (if_pos hl))
  clear HE HE1 HE2 h0
  go_wp2_with fail
  go_ret
  exact⟨by rw[HR.out];rfl,HB2.out⟩
 have HE3:=Xa (HE2.trans (if_neg hl))
 clear HE HE1 HE2 h0 hn
 go_wp2_with fail
 go_loopw [8] (fun iv wr=>∃k:Nat,k≤its.xs.length∧iv = .int .i64 k∧Below W1.heap.size W1 wr∧Hid (∀x∈its.xs.take k,Zo g n x=true)) (fun iv _=>its.xs.length-(intOf iv).toNat)
 case atStart=>exact⟨0,Nat.zero_le _,rfl,Hb12.out,fun x hx=>by simp at hx⟩
 case round =>
  obtain⟨k,hk,rfl,hB,Hall⟩:=hrel
  have HBw:=Xa (Xb HB1.out hB)
  by_cases hlt:k<its.xs.length
  ·obtain⟨bi,oi,hAi,hbi,hci⟩:=(HI.out.ext hB).lies.at_ ItemG.size_cells (by omega) hlt
   have HC:Hid (∀V,Below wr.heap.size wr V→(V.cell? ⟨w.heap.size,0,none⟩=some (.string g.name)∧V.cell? ⟨w.heap.size,1,none⟩=some (.slice g.cats.addr g.cats.xs.length g.cats.cap)∧V.cell? ⟨w.heap.size,2,none⟩=some (.string g.start)∧V.cell? ⟨w.heap.size,3,none⟩=some (.int .i64 g.startNo)∧V.cell? ⟨w.heap.size,4,none⟩=some (.slice g.entries.addr g.entries.xs.length g.entries.cap)∧V.cell? ⟨w.heap.size,5,none⟩=some (.slice g.rules.addr g.rules.xs.length g.rules.cap))∧V.cell? ⟨bi,oi+k*6,none⟩=some (.int .i64 its.xs[k].cat)∧V.cell? ⟨bi,oi+k*6+1,none⟩=some (.int .i64 its.xs[k].frm)∧V.cell? ⟨bi,oi+k*6+2,none⟩=some (.int .i64 its.xs[k].unt)∧V.cell? ⟨bi,oi+k*6+3,none⟩=some (.int .i64 its.xs[k].cost)∧V.cell? ⟨bi,oi+k*6+4,none⟩=some (.slice its.xs[k].tgt.addr its.xs[k].tgt.xs.length its.xs[k].tgt.cap)∧V.cell? ⟨bi,oi+k*6+5,none⟩=some (.int .i64 its.xs[k].term)):=fun V hV=>by
    have h:=((Xb hB hV).block _ (Xc Hk.out)).trans Hk.out
    exact⟨⟨gblk h 0,gblk h 1,gblk h 2,gblk h 3,gblk h 4,gblk h 5⟩,hci k hlt V hV 0 _ rfl,hci k hlt V hV 1 _ rfl,hci k hlt V hV 2 _ rfl,hci k hlt V hV 3 _ rfl,hci k hlt V hV 4 _ rfl,hci k hlt V hV 5 _ rfl⟩
   have hR:=Xa (Xjo g n its.xs[k] wr.drew (by omega) (((HI.out.ext hB).tgt _ (List.getElem_mem hlt)).ext (Xi (Below.refl _ _))) hfc)
   have Hsn:=Xa (List.take_succ_eq_append_getElem hlt)
   have hmem:=Xa (List.getElem_mem hlt)
   rw[hAi]
   clear hci hAi
   generalize its.xs[k]=z at *
   have HB:=Xa hB
   cases hz:Zo g n z
   ·rw[hz] at hR
    have HR:=Xa (HE3.out.trans (if_neg (by rw[List.all_eq_true];intro h;rw[h z hmem.out] at hz;cases hz)))
    clear hz Hsn hmem HE3 Hall hB
    go_wp2_with fail
    refine wpIn_wide (n:=0) |>.1 ?_
    refine Y4 _ ?_ (fun _ _ h=>h)
    refine Xo (fun V=>Below wr.heap.size wr V) (by kernel_rfl) ?_
    refine Xd (i:=0) (v:=.agg #[.string g.name,.slice g.cats.addr g.cats.xs.length g.cats.cap,.string g.start,.int .i64 g.startNo,.slice g.entries.addr g.entries.xs.length g.entries.cap,.slice g.rules.addr g.rules.xs.length g.rules.cap]) rfl (by kernel_rfl) (fun _ _ _ h=>h) (fun V hV=>(by obtain⟨⟨m0,m1,m2,m3,m4,m5⟩,r0,r1,r2,r3,r4,r5⟩:=HC.out V hV;go_simp)) ?_
    refine Xd (i:=1) rfl (by kernel_rfl) (fun _ _ _ h=>h) (fun V hV=>(by skip;go_simp<;>rfl)) ?_
    refine Xd (i:=2) rfl (by kernel_rfl) (fun _ _ _ h=>h) (fun V hV=>(by skip;go_simp<;>rfl)) ?_
    refine Xd (i:=3) rfl (by kernel_rfl) (fun _ _ _ h=>h) (fun V hV=>(by skip;go_simp<;>rfl)) ?_
    refine Xd (i:=4) rfl (by kernel_rfl) (fun _ _ _ h=>h) (fun V hV=>(by skip;go_simp<;>rfl)) ?_
    refine Xd (i:=5) (v:=.agg #[.int .i64 z.cat,.int .i64 z.frm,.int .i64 z.unt,.int .i64 z.cost,.slice z.tgt.addr z.tgt.xs.length z.tgt.cap,.int .i64 z.term]) rfl (by kernel_rfl) (fun _ _ _ h=>h) (fun V hV=>(by obtain⟨⟨m0,m1,m2,m3,m4,m5⟩,r0,r1,r2,r3,r4,r5⟩:=HC.out V hV;go_simp)) ?_
    refine Xg (i:=6) (Xi (Below.refl _ _)) (by kernel_rfl) rfl (fun K hK=>?_)
    go_simp
    refine⟨trivial,rfl,callsIn_wide.2 (hR.out.mono ?_)⟩
    rintro e w4 ⟨rfl,hB4⟩
    refine hK _ _ ?_
    clear hK K
    have hb4:=Xb (Xi (Below.refl wr.heap.size wr)) hB4
    refine Xd (i:=7) rfl (by kernel_rfl) (fun _ _ _ h=>h) (fun V hV=>(by skip;go_simp<;>rfl)) ?_
    refine Xl hb4 (by kernel_rfl) ?_ _
    clear hR HC
    go_wp2_with fail
    go_ret
    exact⟨by rw[HR.out];rfl,Xb HBw.out hb4⟩
   ·rw[hz] at hR
    have Hz:=Xa hz
    clear hz hmem hB
    go_wp2_with fail
    refine wpIn_wide (n:=0) |>.1 ?_
    refine Y4 _ ?_ (fun _ _ h=>h)
    refine Xo (fun V=>Below wr.heap.size wr V) (by kernel_rfl) ?_
    refine Xd (i:=0) (v:=.agg #[.string g.name,.slice g.cats.addr g.cats.xs.length g.cats.cap,.string g.start,.int .i64 g.startNo,.slice g.entries.addr g.entries.xs.length g.entries.cap,.slice g.rules.addr g.rules.xs.length g.rules.cap]) rfl (by kernel_rfl) (fun _ _ _ h=>h) (fun V hV=>(by obtain⟨⟨m0,m1,m2,m3,m4,m5⟩,r0,r1,r2,r3,r4,r5⟩:=HC.out V hV;go_simp)) ?_
    refine Xd (i:=1) rfl (by kernel_rfl) (fun _ _ _ h=>h) (fun V hV=>(by skip;go_simp<;>rfl)) ?_
    refine Xd (i:=2) rfl (by kernel_rfl) (fun _ _ _ h=>h) (fun V hV=>(by skip;go_simp<;>rfl)) ?_
    refine Xd (i:=3) rfl (by kernel_rfl) (fun _ _ _ h=>h) (fun V hV=>(by skip;go_simp<;>rfl)) ?_
    refine Xd (i:=4) rfl (by kernel_rfl) (fun _ _ _ h=>h) (fun V hV=>(by skip;go_simp<;>rfl)) ?_
    refine Xd (i:=5) (v:=.agg #[.int .i64 z.cat,.int .i64 z.frm,.int .i64 z.unt,.int .i64 z.cost,.slice z.tgt.addr z.tgt.xs.length z.tgt.cap,.int .i64 z.term]) rfl (by kernel_rfl) (fun _ _ _ h=>h) (fun V hV=>(by obtain⟨⟨m0,m1,m2,m3,m4,m5⟩,r0,r1,r2,r3,r4,r5⟩:=HC.out V hV;go_simp)) ?_
    refine Xg (i:=6) (Xi (Below.refl _ _)) (by kernel_rfl) rfl (fun K hK=>?_)
    go_simp
    refine⟨trivial,rfl,callsIn_wide.2 (hR.out.mono ?_)⟩
    rintro e w4 ⟨rfl,hB4⟩
    refine hK _ _ ?_
    clear hK K
    have hb4:=Xb (Xi (Below.refl wr.heap.size wr)) hB4
    refine Xd (i:=7) rfl (by kernel_rfl) (fun _ _ _ h=>h) (fun V hV=>(by skip;go_simp<;>rfl)) ?_
    refine Xl hb4 (by kernel_rfl) ?_ _
    clear hR HC
    go_wp2_with fail
    go_roundw
    case rel =>
     refine⟨k+1,by omega,by go_num,Xb HB.out hb4,fun x hx=>?_⟩
     rw[Hsn.out] at hx
     rcases List.mem_append.1 hx with hx|hx
     ·exact Hall.out x hx
     ·rw[List.mem_singleton.1 hx];exact Hz.out
    case measure=>simp[intOf];omega
  ·have hkl:k=its.xs.length:=by omega
   subst hkl
   have HR:=Xa (HE3.out.trans (if_pos (by rw[List.all_eq_true];have h:=Hall.out;rw[List.take_length] at h;exact h)))
   clear HE3 Hall
   go_wp2_with fail
   go_ret
   exact⟨by rw[HR.out];rfl,HBw.out⟩
theorem Xv6 (g : Gram) (its : SlS ItemG) (hg : Yu g) (h1 : ∀ x ∈ its.xs, 1 ≤ x.tgt.xs.length) (hfew : its.xs.length ≤ 16384) : ∀ (f : Nat) (c : Int) (i k : Nat), muG g c i k < f → i < k → k ≤ 16 → AllC g its c i k
  | 0, c, i, k, h, _, _ => by omega
  | f + 1, c, i, k, h, hik, hk => Xv5 g its hg h1 hfew c i k hik hk fun r hr hn q hq ht u v hu huv hv hlen =>
      Xv6 g its hg h1 hfew f q.no u v (by
        have := Xk7 hg hr hq ht hu huv hv hlen
        rw [hn] at this
        omega) huv (by omega)
set_option maxHeartbeats 4000000 in
theorem Xvt (g:Gram) (its:SlS ItemG) (n:Int) (w:World) (hg:g.lies w) (hi:ItemsAt w its) :
  Calls Tryz.prog 16 #[.agg #[.string g.name,.slice g.cats.addr g.cats.xs.length g.cats.cap,.string g.start,.int .i64 g.startNo,.slice g.entries.addr g.entries.xs.length g.entries.cap,.slice g.rules.addr g.rules.xs.length g.rules.cap],.slice its.addr its.xs.length its.cap,.int .i64 n] w fun e w'=>∃b:Bool,e = .returned (.bool b)∧Below w.heap.size w w'∧(b=true→errC g its.xs n=0∧n≤5):=by
 obtain⟨W1,hW1⟩:∃W1,w.alloc (.cells #[.string g.name,.slice g.cats.addr g.cats.xs.length g.cats.cap,.string g.start,.int .i64 g.startNo,.slice g.entries.addr g.entries.xs.length g.entries.cap,.slice g.rules.addr g.rules.xs.length g.rules.cap] 26)=W1:=⟨_,rfl⟩
 have HB:=Xa (Yn hW1)
 have HK:=Xa (Yv hW1)
 have HG:=Xa (fun V (hV:Below w.heap.size w V)=>hg.ext hV)
 have HI:=Xa (fun V (hV:Below w.heap.size w V)=>hi.ext hV)
 have hk:=HK.out
 obtain⟨c0,c1,c2,c3,c4,c5⟩:=gb6 hk
 clear hg hi hk
 go_enter Tryz.func16,Tryz.ntmps16
 go_wp2_with fail
 clear hW1 c0 c1 c2 c3 c4 c5
 refine(Xna g its n W1 (HG.out _ HB.out) (HI.out _ HB.out)).mono ?_
 rintro e w2 ⟨b1,rfl,hb, -⟩
 replace HB:=Xa (Xb HB.out hb)
 replace HK:=Xa (Xh hb HK.out)
 have hk:=HK.out
 obtain⟨c0,c1,c2,c3,c4,c5⟩:=gb6 hk
 clear hk hb
 have hcase:(b1=false∨(b1=true∧¬(g.rules.xs.length:Int)≤8)∨(b1=true∧(g.rules.xs.length:Int)≤8∧¬(its.xs.length:Int)≤24)∨(b1=true∧(g.rules.xs.length:Int)≤8∧(its.xs.length:Int)≤24∧¬n≤5))∨(b1=true∧(g.rules.xs.length:Int)≤8∧(its.xs.length:Int)≤24∧n≤5):=by
  cases b1<;>by_cases h2:(g.rules.xs.length:Int)≤8<;>by_cases h3:(its.xs.length:Int)≤24<;>by_cases h4:n≤5<;>simp[h2,h3,h4]
 rcases hcase with (rfl|⟨rfl,h2⟩|⟨rfl,h2,h3⟩|⟨rfl,h2,h3,h4⟩)|⟨rfl,h2,h3,h4⟩
 ·go_wp2_with fail
  go_ret
  exact⟨false,rfl,HB.out,fun h=>by cases h⟩
 ·have q2:decide ((g.rules.xs.length:Int)≤8)=false:=decide_eq_false h2
  go_wp2_with fail
  go_ret
  exact⟨false,rfl,HB.out,fun h=>by cases h⟩
 ·have q2:decide ((g.rules.xs.length:Int)≤8)=true:=decide_eq_true h2
  have q3:decide ((its.xs.length:Int)≤24)=false:=decide_eq_false h3
  go_wp2_with fail
  go_ret
  exact⟨false,rfl,HB.out,fun h=>by cases h⟩
 ·have q2:decide ((g.rules.xs.length:Int)≤8)=true:=decide_eq_true h2
  have q3:decide ((its.xs.length:Int)≤24)=true:=decide_eq_true h3
  have q4:decide (n≤5)=false:=decide_eq_false h4
  go_wp2_with fail
  go_ret
  exact⟨false,rfl,HB.out,fun h=>by cases h⟩
 ·have q2:decide ((g.rules.xs.length:Int)≤8)=true:=decide_eq_true h2
  have q3:decide ((its.xs.length:Int)≤24)=true:=decide_eq_true h3
  have q4:decide (n≤5)=true:=decide_eq_true h4
  have H4:=Xa h4
  go_wp2_with fail
  refine(Xir g its n w2 (HG.out _ HB.out) (HI.out _ HB.out)).mono ?_
  rintro e w3 ⟨rfl,hb⟩
  replace HB:=Xa (Xb HB.out hb)
  obtain⟨ee,hee⟩:∃x,errC g its.xs n=x:=⟨_,rfl⟩
  rw[hee]
  by_cases h0:ee=0
  ·subst h0
   have Hee:=Xa hee
   clear hee hb
   go_wp2_with fail
   go_ret
   exact⟨true,rfl,HB.out,fun _=>⟨Hee.out,H4.out⟩⟩
  ·have q0:(ee == 0)=false:=by simpa using h0
   clear hee hb h0
   go_wp2_with fail
   go_ret
   exact⟨false,rfl,HB.out,fun h=>by cases h⟩
end Go.Proofs.YtolpbjjapodmnaaGreatDoor
