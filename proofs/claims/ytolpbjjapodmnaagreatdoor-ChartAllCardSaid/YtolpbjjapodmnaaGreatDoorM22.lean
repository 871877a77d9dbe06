/- Texts of this claim, one after the other: Law29a, Law29b, AllP, AllA. -/
import Derived.Test.YtolpbjjapodmnaaGreatDoorM20
import Derived.Test.YtolpbjjapodmnaaGreatDoorM21
import Derived.Test.YtolpbjjapodmnaaGreatDoorM19
namespace Go.Proofs.YtolpbjjapodmnaaGreatDoor
open Go.RowKit Go.Han
attribute [local irreducible] wpStill wpQuiet
set_option maxRecDepth 100000
def Xcb (w:World) (os:List Obj):World:=os.foldl World.alloc w
theorem Vj:∀(os:List Obj) (w:World),Below w.heap.size w (Xcb w os)
 | [],_=>Below.refl _ _
 | o :: os,w=>Xb (Xe (Below.refl _ _) o) (Vj os (w.alloc o))
theorem Y5:∀(os:List Obj) (w:World) (k:Nat) (h:k<os.length),(Xcb w os).heap[w.heap.size+k]? = some os[k]
 | [],w,k,h=>by simp at h
 | o :: os,w,0,h=>((Vj os (w.alloc o)).block _ (by rw[World.size_alloc];omega)).trans (World.alloc_heap_new _ _)
 | o :: os,w,k+1,h=>by
  have:=Y5 os (w.alloc o) k (by simpa using h)
  rw[World.size_alloc] at this
  rw[show w.heap.size+(k+1)=w.heap.size+1+k by omega]
  exact this
def Vq (w:World):List Obj:=[(.cells #[.string nG,.slice (some ⟨w.heap.size+1,0,none⟩) 3 3,.string nS,.int .i64 0,.slice none 0 0,.slice (some ⟨w.heap.size+8,0,none⟩) 3 3] 26),(.cells #[.string nS,.string nNp,.string nV] 9),(.cells #[.string nNp,.int .i64 1,.string noS,.string nV,.int .i64 2,.string noS] 81),(.cells #[.int .i64 0,.string noS,.int .i64 1,.string noS] 176),(.cells #[.string nNp,.int .i64 1,.string noS] 81),(.cells #[.int .i64 0,.string noS] 176),(.cells #[.string nNp,.int .i64 1,.string noS,.string noS,.int .i64 0,.string nUnd,.string nNp,.int .i64 1,.string noS] 81),(.cells #[.int .i64 0,.string noS,.int .i64 0,.string nAnd,.int .i64 2,.string noS] 176),(.cells #[.string nS,.int .i64 0,.slice (some ⟨w.heap.size+2,0,none⟩) 2 2,.slice (some ⟨w.heap.size+3,0,none⟩) 2 2,.int .i64 1,.string nS,.int .i64 0,.slice (some ⟨w.heap.size+4,0,none⟩) 1 1,.slice (some ⟨w.heap.size+5,0,none⟩) 1 1,.int .i64 0,.string nNp,.int .i64 1,.slice (some ⟨w.heap.size+6,0,none⟩) 3 3,.slice (some ⟨w.heap.size+7,0,none⟩) 3 3,.int .i64 2] 79)]
theorem Xjj (A:Nat→Option Addr):(Z4 A).short:=by
 have hm:∀n:Nat,n≤3→n≤maxLen:=fun n h=>by unfold maxLen;omega
 refine⟨fun s hs=>hm _ ?_,hm _ (by show 1≤3;omega),fun x hx=>(by cases hx),fun x hx=>hm _ ?_,fun x hx p hp=>hm _ ?_⟩
 ·simp only[Z4,List.mem_cons,List.not_mem_nil,or_false] at hs
  rcases hs with rfl|rfl|rfl<;>(first|(show 1≤3;omega)|(show 2≤3;omega)|(show 0≤3;omega))
 ·simp only[Z4,List.mem_cons,List.not_mem_nil,or_false] at hx
  rcases hx with rfl|rfl|rfl<;>(first|(show 1≤3;omega)|(show 2≤3;omega)|(show 0≤3;omega))
 ·simp only[Z4,List.mem_cons,List.not_mem_nil,or_false] at hx
  rcases hx with rfl|rfl|rfl
  all_goals
   simp only[List.mem_cons,List.not_mem_nil,or_false] at hp
  ·rcases hp with rfl|rfl<;>(first|(show 1≤3;omega)|(show 2≤3;omega)|(show 0≤3;omega))
  ·subst hp;show 2≤3;omega
  ·rcases hp with rfl|rfl|rfl<;>(first|(show 1≤3;omega)|(show 2≤3;omega)|(show 0≤3;omega))
set_option maxHeartbeats 1000000 in
theorem Xji (w:World):Calls Tryz.prog 58 #[] w fun e w'=>∃g:Gram,e = .returned (.agg #[.string g.name,.slice g.cats.addr g.cats.xs.length g.cats.cap,.string g.start,.int .i64 g.startNo,.slice g.entries.addr g.entries.xs.length g.entries.cap,.slice g.rules.addr g.rules.xs.length g.rules.cap])∧g.lies w'∧Below w.heap.size w w'∧∃A,g=Z4 A:=by
 go_enter Tryz.func58,Tryz.ntmps58
 go_wp2_with fail
 have hB:=Vj (Vq w) w
 have hh:=Y5 (Vq w) w
 change bodyPost _ _ _ _ _ (Xcb w (Vq w))
 have h0:=hh 0 (by simp[Vq])
 have h1:=hh 1 (by simp[Vq])
 have h2:=hh 2 (by simp[Vq])
 have h3:=hh 3 (by simp[Vq])
 have h4:=hh 4 (by simp[Vq])
 have h5:=hh 5 (by simp[Vq])
 have h6:=hh 6 (by simp[Vq])
 have h7:=hh 7 (by simp[Vq])
 have h8:=hh 8 (by simp[Vq])
 generalize Xcb w (Vq w)=W2 at *
 clear hh
 simp only[Vq,List.getElem_cons_zero,List.getElem_cons_succ,Nat.add_zero] at h0 h1 h2 h3 h4 h5 h6 h7 h8
 obtain⟨z0,z1,z2,z3,z4,z5⟩:=gb6 h0
 refine bodyPost_ret (v:=.agg (Z4 (fun k=>match k with|0=>some ⟨w.heap.size+1,0,none⟩|1=>some ⟨w.heap.size+8,0,none⟩|2=>some ⟨w.heap.size+2,0,none⟩|3=>some ⟨w.heap.size+3,0,none⟩|4=>some ⟨w.heap.size+4,0,none⟩|5=>some ⟨w.heap.size+5,0,none⟩|6=>some ⟨w.heap.size+6,0,none⟩|_=>some ⟨w.heap.size+7,0,none⟩)).cells.toArray) ?_ rfl ⟨Z4 (fun k=>match k with|0=>some ⟨w.heap.size+1,0,none⟩|1=>some ⟨w.heap.size+8,0,none⟩|2=>some ⟨w.heap.size+2,0,none⟩|3=>some ⟨w.heap.size+3,0,none⟩|4=>some ⟨w.heap.size+4,0,none⟩|5=>some ⟨w.heap.size+5,0,none⟩|6=>some ⟨w.heap.size+6,0,none⟩|_=>some ⟨w.heap.size+7,0,none⟩),rfl,⟨⟨Yw h1 rfl,by simp[Z4],by simp[Z4],fun h=>by cases h⟩,⟨Rd.nil _ _,by simp[Z4],by simp[Z4],fun _=>rfl⟩,fun x hx=>(by cases hx),⟨Yw h8 rfl,by simp[Z4],by simp[Z4],fun h=>by cases h⟩,fun x hx=>?_⟩,hB,_,rfl⟩
 ·simp[results,Tryz.results58,go_sem,z0,z1,z2,z3,z4,z5,Z4,Gram.cells]
 ·simp only[Z4,List.mem_cons,List.not_mem_nil,or_false] at hx
  rcases hx with rfl|rfl|rfl
  ·exact⟨⟨Yw h2 rfl,by simp,by simp,fun h=>by cases h⟩,⟨Yw h3 rfl,by simp,by simp,fun h=>by cases h⟩⟩
  ·exact⟨⟨Yw h4 rfl,by simp,by simp,fun h=>by cases h⟩,⟨Yw h5 rfl,by simp,by simp,fun h=>by cases h⟩⟩
  ·exact⟨⟨Yw h6 rfl,by simp,by simp,fun h=>by cases h⟩,⟨Yw h7 rfl,by simp,by simp,fun h=>by cases h⟩⟩
set_option maxHeartbeats 1000000 in
theorem Zg (c i k:Int) (w:World) (hi:0≤i∧i≤100):Calls Tryz.prog 59 #[.int .i64 c,.int .i64 i,.int .i64 k] w fun e w'=>∃x:ItemG,e = .returned (.agg #[.int .i64 x.cat,.int .i64 x.frm,.int .i64 x.unt,.int .i64 x.cost,.slice x.tgt.addr x.tgt.xs.length x.tgt.cap,.int .i64 x.term])∧x.tgt.lies w'∧Below w.heap.size w w'∧∃a,x=Vp a c i k:=by
 have hwr:IntKind.i64.wrap (i+1)=i+1:=IntWalk.i64_in _ (by omega)
 go_enter Tryz.func59,Tryz.ntmps59
 go_wp2_with fail
 have hB:=Vj [.cells #[.int .i64 c,.int .i64 i,.int .i64 (i+1),.int .i64 k,.slice (some ⟨w.heap.size+1,0,none⟩) 1 1,.int .i64 (-1)] 53,.cells #[.string nX] 9] w
 have hh:=Y5 [.cells #[.int .i64 c,.int .i64 i,.int .i64 (i+1),.int .i64 k,.slice (some ⟨w.heap.size+1,0,none⟩) 1 1,.int .i64 (-1)] 53,.cells #[.string nX] 9] w
 change bodyPost _ _ _ _ _ (Xcb w [.cells #[.int .i64 c,.int .i64 i,.int .i64 (i+1),.int .i64 k,.slice (some ⟨w.heap.size+1,0,none⟩) 1 1,.int .i64 (-1)] 53,.cells #[.string nX] 9])
 have h0:=hh 0 (by simp)
 have h1:=hh 1 (by simp)
 generalize Xcb w _=W2 at *
 clear hh
 simp only[List.getElem_cons_zero,List.getElem_cons_succ,Nat.add_zero] at h0 h1
 obtain⟨z0,z1,z2,z3,z4,z5⟩:=gb6 h0
 exact bodyPost_ret (v:=.agg #[.int .i64 c,.int .i64 i,.int .i64 (i+1),.int .i64 k,.slice (some ⟨w.heap.size+1,0,none⟩) 1 1,.int .i64 (-1)]) (by simp[results,Tryz.results59,go_sem,z0,z1,z2,z3,z4,z5]) rfl ⟨Vp (some ⟨w.heap.size+1,0,none⟩) c i k,rfl,⟨Yw h1 rfl,by simp[Vp],by simp[Vp],fun h=>by cases h⟩,hB,_,rfl⟩
set_option maxHeartbeats 1000000 in
theorem Xhi (i:Int) (w:World) (hi:0≤i∧i≤100):Calls Tryz.prog 60 #[.int .i64 i] w fun e w'=>∃x:ItemG,e = .returned (.agg #[.int .i64 x.cat,.int .i64 x.frm,.int .i64 x.unt,.int .i64 x.cost,.slice x.tgt.addr x.tgt.xs.length x.tgt.cap,.int .i64 x.term])∧x.tgt.lies w'∧Below w.heap.size w w'∧∃a,x=undI a i:=by
 have hwr:IntKind.i64.wrap (i+1)=i+1:=IntWalk.i64_in _ (by omega)
 go_enter Tryz.func60,Tryz.ntmps60
 go_wp2_with fail
 have hB:=Vj [.cells #[.int .i64 (-1),.int .i64 i,.int .i64 (i+1),.int .i64 0,.slice (some ⟨w.heap.size+1,0,none⟩) 1 1,.int .i64 (-1)] 53,.cells #[.string nUnd] 9] w
 have hh:=Y5 [.cells #[.int .i64 (-1),.int .i64 i,.int .i64 (i+1),.int .i64 0,.slice (some ⟨w.heap.size+1,0,none⟩) 1 1,.int .i64 (-1)] 53,.cells #[.string nUnd] 9] w
 change bodyPost _ _ _ _ _ (Xcb w [.cells #[.int .i64 (-1),.int .i64 i,.int .i64 (i+1),.int .i64 0,.slice (some ⟨w.heap.size+1,0,none⟩) 1 1,.int .i64 (-1)] 53,.cells #[.string nUnd] 9])
 have h0:=hh 0 (by simp)
 have h1:=hh 1 (by simp)
 generalize Xcb w _=W2 at *
 clear hh
 simp only[List.getElem_cons_zero,List.getElem_cons_succ,Nat.add_zero] at h0 h1
 obtain⟨z0,z1,z2,z3,z4,z5⟩:=gb6 h0
 exact bodyPost_ret (v:=.agg #[.int .i64 (-1),.int .i64 i,.int .i64 (i+1),.int .i64 0,.slice (some ⟨w.heap.size+1,0,none⟩) 1 1,.int .i64 (-1)]) (by simp[results,Tryz.results60,go_sem,z0,z1,z2,z3,z4,z5]) rfl ⟨undI (some ⟨w.heap.size+1,0,none⟩) i,rfl,⟨Yw h1 rfl,by simp[undI],by simp[undI],fun h=>by cases h⟩,hB,_,rfl⟩
set_option maxHeartbeats 1000000 in
theorem Ua (j i:Int) (w:World) (hi:0≤i∧i≤100):Calls Tryz.prog 61 #[.int .i64 j,.int .i64 i] w fun e w'=>e = .returned (.agg #[.int .i64 (-1),.int .i64 j,.int .i64 i,.int .i64 (i+1),.slice none 0 0])∧Below w.heap.size w w':=by
 have hwr:IntKind.i64.wrap (i+1)=i+1:=IntWalk.i64_in _ (by omega)
 go_enter Tryz.func61,Tryz.ntmps61
 go_wp2_with fail
 have hB:Below w.heap.size w (w.alloc (.cells #[.int .i64 (-1),.int .i64 j,.int .i64 i,.int .i64 (i+1),.slice none 0 0] 37)):=Xe (Below.refl _ _) _
 exact bodyPost_ret (v:=.agg #[.int .i64 (-1),.int .i64 j,.int .i64 i,.int .i64 (i+1),.slice none 0 0]) (by simp[results,Tryz.results61,go_sem]) rfl ⟨rfl,hB⟩
theorem Q4 {W:World} {b n:Nat} {cs:Array Value} {its:List ItemG} (h:W.heap[b]? = some (.cells cs 53 (0,0))) (hc:cs.toList=its.flatMap ItemG.cells) (hl:∀x∈its,x.tgt.lies W) (hn:its.length=n) (hm:n≤1024):ItemsAt W ⟨some ⟨b,0,none⟩,n,its⟩ :=
 ⟨⟨Yw h hc,by show its.length≤n;omega,by show n≤_;omega,fun h=>by cases h⟩,hl⟩
theorem Qe (w:World):ItemsAt w ⟨none,0,[]⟩:=⟨⟨Rd.nil _ _,Nat.le_refl _,by show (0:Nat)≤_;omega,fun _=>rfl⟩,fun x hx=>(by cases hx)⟩
def anyB (_:Nat):Prop:=True
theorem Xcd (w:World) (P:Nat→Prop) (j:Nat) (i k:Int):TreeAt w P (Zt j i k) [.int .i64 (-1),.int .i64 j,.int .i64 i,.int .i64 k,.slice none 0 0]:=by
 unfold Zt TreeAt
 exact⟨none,0,[],rfl,Nat.le_refl _,by omega,fun _=>rfl,fun h=>by simp at h,.inl rfl,rfl⟩
theorem Xmk {w:World} {b n:Nat} {cs:Array Value} {l:List TreeV} {css:List (List Value)} (r j i k:Int) (h:w.heap[b]? = some (.cells cs 37 (0,0))) (hn:l.length=n) (hm:n≤1024) (hc:cs.toList=css.flatten) (hk:KidsAt w anyB l css) :
  TreeAt w anyB (.node r j i k l) [.int .i64 r,.int .i64 j,.int .i64 i,.int .i64 k,.slice (some ⟨b,0,none⟩) n n]:=by
 subst hn
 unfold TreeAt
 exact⟨some ⟨b,0,none⟩,l.length,css,rfl,Nat.le_refl _,by omega,fun h=>(by cases h),fun _=>⟨b,0,rfl,trivial⟩,Yw h hc,hk⟩
theorem Xi8 (P:Nat→Prop) {w:World} {b n:Nat} {cs:Array Value} {l:List TreeV} {css:List (List Value)} (r j i k:Int) (h:w.heap[b]? = some (.cells cs 37 (0,0))) (hP:P b) (hn:l.length=n) (hm:n≤1024) (hc:cs.toList=css.flatten) (hk:KidsAt w P l css) :
  TreeAt w P (.node r j i k l) [.int .i64 r,.int .i64 j,.int .i64 i,.int .i64 k,.slice (some ⟨b,0,none⟩) n n]:=by
 subst hn
 unfold TreeAt
 exact⟨some ⟨b,0,none⟩,l.length,css,rfl,Nat.le_refl _,by omega,fun h=>(by cases h),fun _=>⟨b,0,rfl,hP⟩,Yw h hc,hk⟩
theorem Xfe {w:World} {P:Nat→Prop} {t u:TreeV} {cs ds:List Value} (ht:TreeAt w P t cs) (hu:TreeAt w P u ds):KidsAt w P [t,u] [cs,ds]:=by
 unfold KidsAt
 refine⟨cs,[ds],rfl,ht,?_⟩
 unfold KidsAt
 exact⟨ds,[],rfl,hu,by unfold KidsAt;rfl⟩
theorem Xp4 {w:World} {P:Nat→Prop} {t:TreeV} {cs:List Value} (ht:TreeAt w P t cs):KidsAt w P [t] [cs]:=by
 unfold KidsAt
 exact⟨cs,[],rfl,ht,by unfold KidsAt;rfl⟩
theorem Xcj {v:World} {k1 k2 bk:Nat} {c1 c2:Array Value} (h1:v.heap[k1]? = some (.cells c1 37 (0,0))) (e1:c1=#[.int .i64 (-1),.int .i64 0,.int .i64 0,.int .i64 1,.slice none 0 0,.int .i64 2,.int .i64 (-1),.int .i64 2,.int .i64 5,.slice (some ⟨bk,0,none⟩) 2 2])
  (h2:v.heap[k2]? = some (.cells c2 37 (0,0))) (e2:c2=#[.int .i64 2,.int .i64 (-1),.int .i64 0,.int .i64 5,.slice (some ⟨k1,0,none⟩) 2 2]) (hb:TreeAt v anyB Xj9 [.int .i64 2,.int .i64 (-1),.int .i64 2,.int .i64 5,.slice (some ⟨bk,0,none⟩) 2 2]) :
  TreeAt v anyB Xab [.int .i64 1,.int .i64 (-1),.int .i64 0,.int .i64 5,.slice (some ⟨k2,0,none⟩) 1 1]:=by
 subst e1 e2
 exact Xmk 1 (-1) 0 5 h2 rfl (by decide) rfl (Xp4 (Xmk 2 (-1) 0 5 h1 rfl (by decide) rfl (Xfe (Xcd v anyB 0 0 1) hb)))
def RightF (w0:World) (y:(Nat→Value)×Nat) (v:World):Prop :=
 ∃k2,v.heap[y.2]? = some (.cells #[.int .i64 1,.int .i64 (-1),.int .i64 0,.int .i64 5,.slice (some ⟨k2,0,none⟩) 1 1] 37 (0,0))∧TreeAt v anyB Xab [.int .i64 1,.int .i64 (-1),.int .i64 0,.int .i64 5,.slice (some ⟨k2,0,none⟩) 1 1]∧Below w0.heap.size w0 v
structure Ex29 (g:Gram):Prop where
 short:g.short
 two:∀x y z:ItemG,(∃a,x=Vp a 1 0 3)→(∃a,y=Vp a 2 1 4)→(∃a,z=Vp a 1 0 2)→Zk g [x,y,z] 2=(Xby,7,true,0)∧Vy g [x,y,z] 2=(2,0)∧Vv g [x,y,z] 2 Xby=(7,true,0)
 long:∀x y z u v:ItemG,(∃a,x=Vp a 1 0 0)→(∃a,y=undI a 1)→(∃a,z=Vp a 1 2 0)→(∃a,u=undI a 3)→(∃a,v=Vp a 1 4 0)→Zk g [x,y,z,u,v] 5=(Xab,4,true,0)∧Vy g [x,y,z,u,v] 5=(2,0)
 none1:Zk g [] 1=(Un,0,false,0)∧Vy g [] 1=(0,0)∧Vv g [] 1 Un=(0,false,0)
 none17:Zk g [] 17=(Un,0,false,1)
 odd:∀x:ItemG,(∃a,x=Vp a 3 0 0)→Vy g [x] 1=(0,280)
theorem Xkl (A:Nat→Option Addr):Ex29 (Z4 A):=by
 refine⟨Xjj A,?_,?_,⟨by kernel_rfl,by kernel_rfl,by kernel_rfl⟩,by kernel_rfl,?_⟩
 ·rintro x y z ⟨a,rfl⟩ ⟨b,rfl⟩ ⟨c,rfl⟩
  exact⟨by kernel_rfl,by kernel_rfl,by kernel_rfl⟩
 ·rintro x y z u v ⟨a,rfl⟩ ⟨b,rfl⟩ ⟨c,rfl⟩ ⟨d,rfl⟩ ⟨e,rfl⟩
  exact⟨by kernel_rfl,by kernel_rfl⟩
 ·rintro x ⟨a,rfl⟩
  kernel_rfl
theorem Xb4 {g:Gram} {its:SlS ItemG} {n:Int} {w:World} {t:TreeV} {c:Int} {ok:Bool} {e:Int} (hT:TabsG w) (hg:g.lies w) (hs:g.short) (hi:ItemsAt w its) (h:Zk g its.xs n=(t,c,ok,e)) :
  Calls Tryz.prog 19 #[.agg #[.string g.name,.slice g.cats.addr g.cats.xs.length g.cats.cap,.string g.start,.int .i64 g.startNo,.slice g.entries.addr g.entries.xs.length g.entries.cap,.slice g.rules.addr g.rules.xs.length g.rules.cap],.slice its.addr its.xs.length its.cap,.int .i64 n] w fun E w'=>∃x:TreeG,E = .returned (.tuple #[.agg #[.int .i64 x.rule,.int .i64 x.item,.int .i64 x.frm,.int .i64 x.unt,.slice x.kids.addr x.kids.len x.kids.cap],.int .i64 c,.bool ok,.int .i64 e])∧TreeW (fun _=>False) w' t x∧Below w.heap.size w w':=by
 have hb:=Xia g its n w hT hg hs hi
 unfold Xeh at hb
 rw[h] at hb
 refine hb.mono ?_
 rintro E w' ⟨x,he,ht,hB⟩
 exact⟨x,he,ht.keep (fun _ _ _=>rfl) (Nat.le_refl _) (fun _ _ _ h=>h),hB⟩
theorem Xb5 {g:Gram} {its:SlS ItemG} {n:Int} {w:World} {c e:Int} (hT:TabsG w) (hg:g.lies w) (hs:g.short) (hi:ItemsAt w its) (h:Vy g its.xs n=(c,e)) :
  Calls Tryz.prog 18 #[.agg #[.string g.name,.slice g.cats.addr g.cats.xs.length g.cats.cap,.string g.start,.int .i64 g.startNo,.slice g.entries.addr g.entries.xs.length g.entries.cap,.slice g.rules.addr g.rules.xs.length g.rules.cap],.slice its.addr its.xs.length its.cap,.int .i64 n] w fun E w'=>E = .returned (.tuple #[.int .i64 c,.int .i64 e])∧Below w.heap.size w w':=by
 have hb:=Xms g its n w hT hg hs hi
 unfold Xgi at hb
 rw[h] at hb
 exact hb
theorem Xme {g:Gram} {its:SlS ItemG} {n:Int} {P:Nat→Prop} {t:TreeV} {x:TreeG} {w:World} {c:Int} {ok:Bool} {e:Int} (hT:TabsG w) (hg:g.lies w) (hs:g.short) (hi:ItemsAt w its) (hP:∀b,P b→b<w.heap.size) (ht:TreeAt w P t [.int .i64 x.rule,.int .i64 x.item,.int .i64 x.frm,.int .i64 x.unt,.slice x.kids.addr x.kids.len x.kids.cap]) (hf:Z6 t) (h:Vv g its.xs n t=(c,ok,e)) :
  Calls Tryz.prog 21 #[.agg #[.string g.name,.slice g.cats.addr g.cats.xs.length g.cats.cap,.string g.start,.int .i64 g.startNo,.slice g.entries.addr g.entries.xs.length g.entries.cap,.slice g.rules.addr g.rules.xs.length g.rules.cap],.slice its.addr its.xs.length its.cap,.int .i64 n,.agg #[.int .i64 x.rule,.int .i64 x.item,.int .i64 x.frm,.int .i64 x.unt,.slice x.kids.addr x.kids.len x.kids.cap]] w fun E w'=>E = .returned (.tuple #[.int .i64 c,.bool ok,.int .i64 e])∧Below w.heap.size w w':=by
 have hb:=Xo7 g its n P t x w hT hg hs hi hP ht hf
 unfold Xej at hb
 rw[h] at hb
 exact hb
set_option maxHeartbeats 16000000 in
theorem Xlu (w:World) (hT:TabsG w):Calls Tryz.prog 15 #[] w fun e w'=>e = .returned (.bool true)∧Below w.heap.size w w':=by
 go_enter Tryz.func15,Tryz.ntmps15
 go_wp2_with fail
 refine(Xji _).mono ?_
 rintro e w1 ⟨g,rfl,hgl,hb1,A,hgA⟩
 have hex:Ex29 g:=by rw[hgA];exact Xkl A
 have Hex:=Xa hex
 obtain⟨w2,hw⟩:∃v,w1.alloc (.cells #[.string g.name,.slice g.cats.addr g.cats.xs.length g.cats.cap,.string g.start,.int .i64 g.startNo,.slice g.entries.addr g.entries.xs.length g.entries.cap,.slice g.rules.addr g.rules.xs.length g.rules.cap] 26)=v:=⟨_,rfl⟩
 have hb2:=Yn hw
 have HK:=Xa (Yv hw)
 have HT:=Xa (hT.ext (Xb hb1 hb2))
 have HG:=Xa (hgl.ext hb2)
 have HB:=Xa (Xb hb1 hb2)
 obtain⟨gb,hgb⟩:∃gb,w1.heap.size=gb:=⟨_,rfl⟩
 rw[hgb] at HK
 clear hT hgl hb1 hb2 hex hgA
 go_wp2_with fail
 clear hw hgb
 refine(Zg 1 0 3 w2 (by decide)).mono ?_
 rintro e w3 ⟨x1,rfl,hx1,hb,ex1⟩
 replace HK:=Xa (Xh hb HK.out)
 replace HT:=Xa (HT.out.ext hb)
 replace HG:=Xa (HG.out.ext hb)
 replace HB:=Xa (Xb HB.out hb)
 have Hx1:=Xa hx1
 have Ex1:=Xa ex1
 clear hb hx1 ex1
 go_wp2_with fail
 refine(Zg 2 1 4 w3 (by decide)).mono ?_
 rintro e w4 ⟨x2,rfl,hx2,hb,ex2⟩
 replace HK:=Xa (Xh hb HK.out)
 replace HT:=Xa (HT.out.ext hb)
 replace HG:=Xa (HG.out.ext hb)
 replace HB:=Xa (Xb HB.out hb)
 replace Hx1:=Xa (StrS.lies.ext Hx1.out hb)
 have Hx2:=Xa hx2
 have Ex2:=Xa ex2
 clear hb hx2 ex2
 go_wp2_with fail
 refine(Zg 1 0 2 w4 (by decide)).mono ?_
 rintro e w5 ⟨x3,rfl,hx3,hb,ex3⟩
 replace HK:=Xa (Xh hb HK.out)
 replace HT:=Xa (HT.out.ext hb)
 replace HG:=Xa (HG.out.ext hb)
 replace HB:=Xa (Xb HB.out hb)
 replace Hx1:=Xa (StrS.lies.ext Hx1.out hb)
 replace Hx2:=Xa (StrS.lies.ext Hx2.out hb)
 have Hx3:=Xa hx3
 have Ex3:=Xa ex3
 clear hb hx3 ex3
 obtain⟨w6,hw⟩:∃v,w5.alloc (.cells #[.int .i64 x1.cat,.int .i64 x1.frm,.int .i64 x1.unt,.int .i64 x1.cost,.slice x1.tgt.addr x1.tgt.xs.length x1.tgt.cap,.int .i64 x1.term,.int .i64 x2.cat,.int .i64 x2.frm,.int .i64 x2.unt,.int .i64 x2.cost,.slice x2.tgt.addr x2.tgt.xs.length x2.tgt.cap,.int .i64 x2.term,.int .i64 x3.cat,.int .i64 x3.frm,.int .i64 x3.unt,.int .i64 x3.cost,.slice x3.tgt.addr x3.tgt.xs.length x3.tgt.cap,.int .i64 x3.term] 53)=v:=⟨_,rfl⟩
 have hb:=Yn hw
 replace HK:=Xa (Xh hb HK.out)
 replace HT:=Xa (HT.out.ext hb)
 replace HG:=Xa (HG.out.ext hb)
 replace HB:=Xa (Xb HB.out hb)
 replace Hx1:=Xa (StrS.lies.ext Hx1.out hb)
 replace Hx2:=Xa (StrS.lies.ext Hx2.out hb)
 replace Hx3:=Xa (StrS.lies.ext Hx3.out hb)
 have HItwo:Hid (ItemsAt w6 ⟨some ⟨w5.heap.size,0,none⟩,3,[x1,x2,x3]⟩):=Q4 (by rw[← hw];exact World.alloc_heap_new _ _) rfl (fun q hq=>(by
  simp only[List.mem_cons,List.not_mem_nil,or_false] at hq
  rcases hq with rfl|rfl|rfl
  ·exact Hx1.out
  ·exact Hx2.out
  ·exact Hx3.out)) rfl (by decide)
 have HEtwo:=Xa (Hex.out.two x1 x2 x3 Ex1.out Ex2.out Ex3.out)
 obtain⟨btwo,hbn⟩:∃b,w5.heap.size=b:=⟨_,rfl⟩
 rw[hbn] at HItwo
 clear Hx1 Hx2 Hx3 Ex1 Ex2 Ex3 hb
 have hkc:=HK.out
 obtain⟨c0,c1,c2,c3,c4,c5⟩:=gb6 hkc
 clear hkc
 go_wp2_with fail
 clear hw hbn c0 c1 c2 c3 c4 c5
 refine(Xb4 (its:=⟨some ⟨btwo,0,none⟩,3,[x1,x2,x3]⟩) (n:=2) HT.out HG.out Hex.out.short (HItwo.out) (HEtwo.out.1)).mono ?_
 rintro e w7 ⟨t1,rfl,ht1,hb⟩
 replace HK:=Xa (Xh hb HK.out)
 replace HT:=Xa (HT.out.ext hb)
 replace HG:=Xa (HG.out.ext hb)
 replace HB:=Xa (Xb HB.out hb)
 replace HItwo:=Xa (HItwo.out.ext hb)
 have Ht1:=Xa ht1
 clear hb ht1
 obtain⟨w8,hw⟩:∃v,w7.alloc (.cells #[.int .i64 t1.rule,.int .i64 t1.item,.int .i64 t1.frm,.int .i64 t1.unt,.slice t1.kids.addr t1.kids.len t1.kids.cap] 37)=v:=⟨_,rfl⟩
 have hb:=Yn hw
 replace HK:=Xa (Xh hb HK.out)
 replace HT:=Xa (HT.out.ext hb)
 replace HG:=Xa (HG.out.ext hb)
 replace HB:=Xa (Xb HB.out hb)
 replace HItwo:=Xa (HItwo.out.ext hb)
 replace Ht1:=Xa (Ht1.out.ext hb)
 have HBt1:=Xa (Yv hw)
 obtain⟨bt1,hbn⟩:∃b,w7.heap.size=b:=⟨_,rfl⟩
 rw[hbn] at HBt1
 clear hb
 have hkc:=HK.out
 obtain⟨c0,c1,c2,c3,c4,c5⟩:=gb6 hkc
 clear hkc
 go_wp2_with fail
 clear hw hbn c0 c1 c2 c3 c4 c5
 refine(Xb5 (its:=⟨some ⟨btwo,0,none⟩,3,[x1,x2,x3]⟩) (n:=2) HT.out HG.out Hex.out.short (HItwo.out) (HEtwo.out.2.1)).mono ?_
 rintro e w9 ⟨rfl,hb⟩
 replace HK:=Xa (Xh hb HK.out)
 replace HT:=Xa (HT.out.ext hb)
 replace HG:=Xa (HG.out.ext hb)
 replace HB:=Xa (Xb HB.out hb)
 replace HItwo:=Xa (HItwo.out.ext hb)
 replace Ht1:=Xa (Ht1.out.ext hb)
 replace HBt1:=Xa (Xh hb HBt1.out)
 clear hb
 go_wp2_with fail
 refine(Zg 1 0 0 w9 (by decide)).mono ?_
 rintro e w10 ⟨y1,rfl,hy1,hb,ey1⟩
 replace HK:=Xa (Xh hb HK.out)
 replace HT:=Xa (HT.out.ext hb)
 replace HG:=Xa (HG.out.ext hb)
 replace HB:=Xa (Xb HB.out hb)
 replace HItwo:=Xa (HItwo.out.ext hb)
 replace Ht1:=Xa (Ht1.out.ext hb)
 replace HBt1:=Xa (Xh hb HBt1.out)
 have Hy1:=Xa hy1
 have Ey1:=Xa ey1
 clear hb hy1 ey1
 go_wp2_with fail
 refine(Xhi 1 w10 (by decide)).mono ?_
 rintro e w11 ⟨y2,rfl,hy2,hb,ey2⟩
 replace HK:=Xa (Xh hb HK.out)
 replace HT:=Xa (HT.out.ext hb)
 replace HG:=Xa (HG.out.ext hb)
 replace HB:=Xa (Xb HB.out hb)
 replace HItwo:=Xa (HItwo.out.ext hb)
 replace Ht1:=Xa (Ht1.out.ext hb)
 replace HBt1:=Xa (Xh hb HBt1.out)
 replace Hy1:=Xa (StrS.lies.ext Hy1.out hb)
 have Hy2:=Xa hy2
 have Ey2:=Xa ey2
 clear hb hy2 ey2
 go_wp2_with fail
 refine(Zg 1 2 0 w11 (by decide)).mono ?_
 rintro e w12 ⟨y3,rfl,hy3,hb,ey3⟩
 replace HK:=Xa (Xh hb HK.out)
 replace HT:=Xa (HT.out.ext hb)
 replace HG:=Xa (HG.out.ext hb)
 replace HB:=Xa (Xb HB.out hb)
 replace HItwo:=Xa (HItwo.out.ext hb)
 replace Ht1:=Xa (Ht1.out.ext hb)
 replace HBt1:=Xa (Xh hb HBt1.out)
 replace Hy1:=Xa (StrS.lies.ext Hy1.out hb)
 replace Hy2:=Xa (StrS.lies.ext Hy2.out hb)
 have Hy3:=Xa hy3
 have Ey3:=Xa ey3
 clear hb hy3 ey3
 go_wp2_with fail
 refine(Xhi 3 w12 (by decide)).mono ?_
 rintro e w13 ⟨y4,rfl,hy4,hb,ey4⟩
 replace HK:=Xa (Xh hb HK.out)
 replace HT:=Xa (HT.out.ext hb)
 replace HG:=Xa (HG.out.ext hb)
 replace HB:=Xa (Xb HB.out hb)
 replace HItwo:=Xa (HItwo.out.ext hb)
 replace Ht1:=Xa (Ht1.out.ext hb)
 replace HBt1:=Xa (Xh hb HBt1.out)
 replace Hy1:=Xa (StrS.lies.ext Hy1.out hb)
 replace Hy2:=Xa (StrS.lies.ext Hy2.out hb)
 replace Hy3:=Xa (StrS.lies.ext Hy3.out hb)
 have Hy4:=Xa hy4
 have Ey4:=Xa ey4
 clear hb hy4 ey4
 go_wp2_with fail
 refine(Zg 1 4 0 w13 (by decide)).mono ?_
 rintro e w14 ⟨y5,rfl,hy5,hb,ey5⟩
 replace HK:=Xa (Xh hb HK.out)
 replace HT:=Xa (HT.out.ext hb)
 replace HG:=Xa (HG.out.ext hb)
 replace HB:=Xa (Xb HB.out hb)
 replace HItwo:=Xa (HItwo.out.ext hb)
 replace Ht1:=Xa (Ht1.out.ext hb)
 replace HBt1:=Xa (Xh hb HBt1.out)
 replace Hy1:=Xa (StrS.lies.ext Hy1.out hb)
 replace Hy2:=Xa (StrS.lies.ext Hy2.out hb)
 replace Hy3:=Xa (StrS.lies.ext Hy3.out hb)
 replace Hy4:=Xa (StrS.lies.ext Hy4.out hb)
 have Hy5:=Xa hy5
 have Ey5:=Xa ey5
 clear hb hy5 ey5
 obtain⟨w15,hw⟩:∃v,w14.alloc (.cells #[.int .i64 y1.cat,.int .i64 y1.frm,.int .i64 y1.unt,.int .i64 y1.cost,.slice y1.tgt.addr y1.tgt.xs.length y1.tgt.cap,.int .i64 y1.term,.int .i64 y2.cat,.int .i64 y2.frm,.int .i64 y2.unt,.int .i64 y2.cost,.slice y2.tgt.addr y2.tgt.xs.length y2.tgt.cap,.int .i64 y2.term,.int .i64 y3.cat,.int .i64 y3.frm,.int .i64 y3.unt,.int .i64 y3.cost,.slice y3.tgt.addr y3.tgt.xs.length y3.tgt.cap,.int .i64 y3.term,.int .i64 y4.cat,.int .i64 y4.frm,.int .i64 y4.unt,.int .i64 y4.cost,.slice y4.tgt.addr y4.tgt.xs.length y4.tgt.cap,.int .i64 y4.term,.int .i64 y5.cat,.int .i64 y5.frm,.int .i64 y5.unt,.int .i64 y5.cost,.slice y5.tgt.addr y5.tgt.xs.length y5.tgt.cap,.int .i64 y5.term] 53)=v:=⟨_,rfl⟩
 have hb:=Yn hw
 replace HK:=Xa (Xh hb HK.out)
 replace HT:=Xa (HT.out.ext hb)
 replace HG:=Xa (HG.out.ext hb)
 replace HB:=Xa (Xb HB.out hb)
 replace HItwo:=Xa (HItwo.out.ext hb)
 replace Ht1:=Xa (Ht1.out.ext hb)
 replace HBt1:=Xa (Xh hb HBt1.out)
 replace Hy1:=Xa (StrS.lies.ext Hy1.out hb)
 replace Hy2:=Xa (StrS.lies.ext Hy2.out hb)
 replace Hy3:=Xa (StrS.lies.ext Hy3.out hb)
 replace Hy4:=Xa (StrS.lies.ext Hy4.out hb)
 replace Hy5:=Xa (StrS.lies.ext Hy5.out hb)
 have HIlong:Hid (ItemsAt w15 ⟨some ⟨w14.heap.size,0,none⟩,5,[y1,y2,y3,y4,y5]⟩):=Q4 (by rw[← hw];exact World.alloc_heap_new _ _) rfl (fun q hq=>(by
  simp only[List.mem_cons,List.not_mem_nil,or_false] at hq
  rcases hq with rfl|rfl|rfl|rfl|rfl
  ·exact Hy1.out
  ·exact Hy2.out
  ·exact Hy3.out
  ·exact Hy4.out
  ·exact Hy5.out)) rfl (by decide)
 have HElong:=Xa (Hex.out.long y1 y2 y3 y4 y5 Ey1.out Ey2.out Ey3.out Ey4.out Ey5.out)
 obtain⟨blong,hbn⟩:∃b,w14.heap.size=b:=⟨_,rfl⟩
 rw[hbn] at HIlong
 clear Hy1 Hy2 Hy3 Hy4 Hy5 Ey1 Ey2 Ey3 Ey4 Ey5 hb
 have hkc:=HK.out
 obtain⟨c0,c1,c2,c3,c4,c5⟩:=gb6 hkc
 clear hkc
 go_wp2_with fail
 clear hw hbn c0 c1 c2 c3 c4 c5
 refine(Xb4 (its:=⟨some ⟨blong,0,none⟩,5,[y1,y2,y3,y4,y5]⟩) (n:=5) HT.out HG.out Hex.out.short (HIlong.out) (HElong.out.1)).mono ?_
 rintro e w16 ⟨t2,rfl,ht2,hb⟩
 replace HK:=Xa (Xh hb HK.out)
 replace HT:=Xa (HT.out.ext hb)
 replace HG:=Xa (HG.out.ext hb)
 replace HB:=Xa (Xb HB.out hb)
 replace HItwo:=Xa (HItwo.out.ext hb)
 replace Ht1:=Xa (Ht1.out.ext hb)
 replace HBt1:=Xa (Xh hb HBt1.out)
 replace HIlong:=Xa (HIlong.out.ext hb)
 have Ht2:=Xa ht2
 clear hb ht2
 obtain⟨w17,hw⟩:∃v,w16.alloc (.cells #[.int .i64 t2.rule,.int .i64 t2.item,.int .i64 t2.frm,.int .i64 t2.unt,.slice t2.kids.addr t2.kids.len t2.kids.cap] 37)=v:=⟨_,rfl⟩
 have hb:=Yn hw
 replace HK:=Xa (Xh hb HK.out)
 replace HT:=Xa (HT.out.ext hb)
 replace HG:=Xa (HG.out.ext hb)
 replace HB:=Xa (Xb HB.out hb)
 replace HItwo:=Xa (HItwo.out.ext hb)
 replace Ht1:=Xa (Ht1.out.ext hb)
 replace HBt1:=Xa (Xh hb HBt1.out)
 replace HIlong:=Xa (HIlong.out.ext hb)
 replace Ht2:=Xa (Ht2.out.ext hb)
 have HBt2:=Xa (Yv hw)
 obtain⟨bt2,hbn⟩:∃b,w16.heap.size=b:=⟨_,rfl⟩
 rw[hbn] at HBt2
 clear hb
 have hkc:=HK.out
 obtain⟨c0,c1,c2,c3,c4,c5⟩:=gb6 hkc
 clear hkc
 go_wp2_with fail
 clear hw hbn c0 c1 c2 c3 c4 c5
 refine(Xb5 (its:=⟨some ⟨blong,0,none⟩,5,[y1,y2,y3,y4,y5]⟩) (n:=5) HT.out HG.out Hex.out.short (HIlong.out) (HElong.out.2)).mono ?_
 rintro e w18 ⟨rfl,hb⟩
 replace HK:=Xa (Xh hb HK.out)
 replace HT:=Xa (HT.out.ext hb)
 replace HG:=Xa (HG.out.ext hb)
 replace HB:=Xa (Xb HB.out hb)
 replace HItwo:=Xa (HItwo.out.ext hb)
 replace Ht1:=Xa (Ht1.out.ext hb)
 replace HBt1:=Xa (Xh hb HBt1.out)
 replace HIlong:=Xa (HIlong.out.ext hb)
 replace Ht2:=Xa (Ht2.out.ext hb)
 replace HBt2:=Xa (Xh hb HBt2.out)
 clear hb
 have hkc:=HK.out
 obtain⟨c0,c1,c2,c3,c4,c5⟩:=gb6 hkc
 clear hkc
 go_wp2_with fail
 clear c0 c1 c2 c3 c4 c5
 clear HIlong HElong
 refine(Xb4 (its:=⟨none,0,[]⟩) (n:=1) HT.out HG.out Hex.out.short (Qe _) (Hex.out.none1.1)).mono ?_
 rintro e w19 ⟨t3,rfl,ht3,hb⟩
 replace HK:=Xa (Xh hb HK.out)
 replace HT:=Xa (HT.out.ext hb)
 replace HG:=Xa (HG.out.ext hb)
 replace HB:=Xa (Xb HB.out hb)
 replace HItwo:=Xa (HItwo.out.ext hb)
 replace Ht1:=Xa (Ht1.out.ext hb)
 replace HBt1:=Xa (Xh hb HBt1.out)
 replace Ht2:=Xa (Ht2.out.ext hb)
 replace HBt2:=Xa (Xh hb HBt2.out)
 have Ht3:=Xa ht3
 clear hb ht3
 obtain⟨w20,hw⟩:∃v,w19.alloc (.cells #[.int .i64 t3.rule,.int .i64 t3.item,.int .i64 t3.frm,.int .i64 t3.unt,.slice t3.kids.addr t3.kids.len t3.kids.cap] 37)=v:=⟨_,rfl⟩
 have hb:=Yn hw
 replace HK:=Xa (Xh hb HK.out)
 replace HT:=Xa (HT.out.ext hb)
 replace HG:=Xa (HG.out.ext hb)
 replace HB:=Xa (Xb HB.out hb)
 replace HItwo:=Xa (HItwo.out.ext hb)
 replace Ht1:=Xa (Ht1.out.ext hb)
 replace HBt1:=Xa (Xh hb HBt1.out)
 replace Ht2:=Xa (Ht2.out.ext hb)
 replace HBt2:=Xa (Xh hb HBt2.out)
 replace Ht3:=Xa (Ht3.out.ext hb)
 have HBt3:=Xa (Yv hw)
 obtain⟨bt3,hbn⟩:∃b,w19.heap.size=b:=⟨_,rfl⟩
 rw[hbn] at HBt3
 clear hb
 have hkc:=HK.out
 obtain⟨c0,c1,c2,c3,c4,c5⟩:=gb6 hkc
 clear hkc
 go_wp2_with fail
 clear hw hbn c0 c1 c2 c3 c4 c5
 clear Ht3 HBt3
 refine(Xb4 (its:=⟨none,0,[]⟩) (n:=17) HT.out HG.out Hex.out.short (Qe _) (Hex.out.none17)).mono ?_
 rintro e w21 ⟨t4,rfl,ht4,hb⟩
 replace HK:=Xa (Xh hb HK.out)
 replace HT:=Xa (HT.out.ext hb)
 replace HG:=Xa (HG.out.ext hb)
 replace HB:=Xa (Xb HB.out hb)
 replace HItwo:=Xa (HItwo.out.ext hb)
 replace Ht1:=Xa (Ht1.out.ext hb)
 replace HBt1:=Xa (Xh hb HBt1.out)
 replace Ht2:=Xa (Ht2.out.ext hb)
 replace HBt2:=Xa (Xh hb HBt2.out)
 have Ht4:=Xa ht4
 clear hb ht4
 obtain⟨w22,hw⟩:∃v,w21.alloc (.cells #[.int .i64 t4.rule,.int .i64 t4.item,.int .i64 t4.frm,.int .i64 t4.unt,.slice t4.kids.addr t4.kids.len t4.kids.cap] 37)=v:=⟨_,rfl⟩
 have hb:=Yn hw
 replace HK:=Xa (Xh hb HK.out)
 replace HT:=Xa (HT.out.ext hb)
 replace HG:=Xa (HG.out.ext hb)
 replace HB:=Xa (Xb HB.out hb)
 replace HItwo:=Xa (HItwo.out.ext hb)
 replace Ht1:=Xa (Ht1.out.ext hb)
 replace HBt1:=Xa (Xh hb HBt1.out)
 replace Ht2:=Xa (Ht2.out.ext hb)
 replace HBt2:=Xa (Xh hb HBt2.out)
 replace Ht4:=Xa (Ht4.out.ext hb)
 have HBt4:=Xa (Yv hw)
 obtain⟨bt4,hbn⟩:∃b,w21.heap.size=b:=⟨_,rfl⟩
 rw[hbn] at HBt4
 clear hb
 have hkc:=HK.out
 obtain⟨c0,c1,c2,c3,c4,c5⟩:=gb6 hkc
 clear hkc
 go_wp2_with fail
 clear hw hbn c0 c1 c2 c3 c4 c5
 clear Ht4 HBt4
 refine(Xb5 (its:=⟨none,0,[]⟩) (n:=1) HT.out HG.out Hex.out.short (Qe _) (Hex.out.none1.2.1)).mono ?_
 rintro e w23 ⟨rfl,hb⟩
 replace HK:=Xa (Xh hb HK.out)
 replace HT:=Xa (HT.out.ext hb)
 replace HG:=Xa (HG.out.ext hb)
 replace HB:=Xa (Xb HB.out hb)
 replace HItwo:=Xa (HItwo.out.ext hb)
 replace Ht1:=Xa (Ht1.out.ext hb)
 replace HBt1:=Xa (Xh hb HBt1.out)
 replace Ht2:=Xa (Ht2.out.ext hb)
 replace HBt2:=Xa (Xh hb HBt2.out)
 clear hb
 have hkc:=HK.out
 obtain⟨c0,c1,c2,c3,c4,c5⟩:=gb6 hkc
 clear hkc
 go_wp2_with fail
 clear c0 c1 c2 c3 c4 c5
 refine(Xme (its:=⟨none,0,[]⟩) (n:=1) (t:=Un) (x:=Qr) (P:=fun b=>KidP w23 b∧¬False) HT.out HG.out Hex.out.short (Qe _) (fun b hb=>(by obtain⟨⟨cs,fr,hb⟩,_⟩:=hb;exact Xc hb)) (Xb1 (fun _=>False) w23) (by unfold Un Z6 I6 Ve;decide) Hex.out.none1.2.2).mono ?_
 rintro e w24 ⟨rfl,hb⟩
 replace HK:=Xa (Xh hb HK.out)
 replace HT:=Xa (HT.out.ext hb)
 replace HG:=Xa (HG.out.ext hb)
 replace HB:=Xa (Xb HB.out hb)
 replace HItwo:=Xa (HItwo.out.ext hb)
 replace Ht1:=Xa (Ht1.out.ext hb)
 replace HBt1:=Xa (Xh hb HBt1.out)
 replace Ht2:=Xa (Ht2.out.ext hb)
 replace HBt2:=Xa (Xh hb HBt2.out)
 clear hb
 go_wp2_with fail
 refine wpIn_wide (n:=0) |>.1 ?_
 refine Y4 _ ?_ (fun _ _ h=>h)
 refine Xo (fun V=>Below w24.heap.size w24 V) (by kernel_rfl) ?_
 refine Xd (i:=0) (v:=.agg #[.string g.name,.slice g.cats.addr g.cats.xs.length g.cats.cap,.string g.start,.int .i64 g.startNo,.slice g.entries.addr g.entries.xs.length g.entries.cap,.slice g.rules.addr g.rules.xs.length g.rules.cap]) rfl (by kernel_rfl) (fun _ _ _ h=>h) (fun V hV=>(by have hk:=Xh hV HK.out;have c0:=gblk hk 0;have c1:=gblk hk 1;have c2:=gblk hk 2;have c3:=gblk hk 3;have c4:=gblk hk 4;have c5:=gblk hk 5;go_simp)) ?_
 refine Xg (i:=1) (Xi (Below.refl _ _)) (by kernel_rfl) rfl (fun K hK=>?_)
 go_simp
 refine⟨trivial,rfl,callsIn_wide.2 ((Zg 3 0 0 _ (by decide)).mono ?_)⟩
 rintro e v1 ⟨z1,rfl,hz1,hb1,ez1⟩
 refine hK _ _ ?_
 clear hK K
 have hC1:Below w24.heap.size w24 v1:=Xb (Xi (Below.refl _ _)) hb1
 refine Xg (i:=2) hC1 (by kernel_rfl) rfl (fun K hK=>?_)
 go_simp
 refine hK _ _ ?_
 clear hK K
 obtain⟨v2,hw⟩:∃v,v1.alloc (.cells #[.int .i64 z1.cat,.int .i64 z1.frm,.int .i64 z1.unt,.int .i64 z1.cost,.slice z1.tgt.addr z1.tgt.xs.length z1.tgt.cap,.int .i64 z1.term] 53)=v:=⟨_,rfl⟩
 have hC2:Below w24.heap.size w24 v2:=by rw[← hw];exact Xe hC1 _
 have hI2:ItemsAt v2 ⟨some ⟨v1.heap.size,0,none⟩,1,[z1]⟩:=Q4 (by rw[← hw];exact World.alloc_heap_new _ _) rfl (fun q hq=>(by
  simp only[List.mem_cons,List.not_mem_nil,or_false] at hq
  subst hq
  rw[← hw]
  exact StrS.lies.ext hz1 (Xe (Below.refl _ _) _))) rfl (by decide)
 have hct:=Xb5 (its:=⟨some ⟨v1.heap.size,0,none⟩,1,[z1]⟩) (n:=1) (HT.out.ext hC2) (HG.out.ext hC2) Hex.out.short hI2 (Hex.out.odd z1 ez1)
 rw[hw]
 refine Xg (i:=3) hC2 (by kernel_rfl) rfl (fun K hK=>?_)
 go_simp
 refine⟨trivial,rfl,callsIn_wide.2 (hct.mono ?_)⟩
 rintro e v3 ⟨rfl,hb3⟩
 refine hK _ _ ?_
 clear hK K
 have hb:=Xb hC2 hb3
 refine Xd (i:=4) rfl (by kernel_rfl) (fun _ _ _ h=>h) (fun V hV=>(by skip;go_simp<;>rfl)) ?_
 refine Xd (i:=5) rfl (by kernel_rfl) (fun _ _ _ h=>h) (fun V hV=>(by skip;go_simp<;>rfl)) ?_
 refine Xd (i:=6) rfl (by kernel_rfl) (fun _ _ _ h=>h) (fun V hV=>(by skip;go_simp<;>rfl)) ?_
 refine Xd (i:=7) rfl (by kernel_rfl) (fun _ _ _ h=>h) (fun V hV=>(by skip;go_simp<;>rfl)) ?_
 refine Xd (i:=8) rfl (by kernel_rfl) (fun _ _ _ h=>h) (fun V hV=>(by skip;go_simp<;>rfl)) ?_
 refine Xl hb (by kernel_rfl) ?_ _
 clear hct hw hI2 hC1 hC2 hz1 ez1 hb1 hb3
 replace HK:=Xa (Xh hb HK.out)
 replace HT:=Xa (HT.out.ext hb)
 replace HG:=Xa (HG.out.ext hb)
 replace HB:=Xa (Xb HB.out hb)
 replace HItwo:=Xa (HItwo.out.ext hb)
 replace Ht1:=Xa (Ht1.out.ext hb)
 replace HBt1:=Xa (Xh hb HBt1.out)
 replace Ht2:=Xa (Ht2.out.ext hb)
 replace HBt2:=Xa (Xh hb HBt2.out)
 clear hb
 go_wp2_with fail
 refine(Ua 2 0 v3 (by decide)).mono ?_
 rintro e w25 ⟨rfl,hb⟩
 replace HK:=Xa (Xh hb HK.out)
 replace HT:=Xa (HT.out.ext hb)
 replace HG:=Xa (HG.out.ext hb)
 replace HB:=Xa (Xb HB.out hb)
 replace HItwo:=Xa (HItwo.out.ext hb)
 replace Ht1:=Xa (Ht1.out.ext hb)
 replace HBt1:=Xa (Xh hb HBt1.out)
 replace Ht2:=Xa (Ht2.out.ext hb)
 replace HBt2:=Xa (Xh hb HBt2.out)
 clear hb
 go_wp2_with fail
 refine(Ua 1 1 w25 (by decide)).mono ?_
 rintro e w26 ⟨rfl,hb⟩
 replace HK:=Xa (Xh hb HK.out)
 replace HT:=Xa (HT.out.ext hb)
 replace HG:=Xa (HG.out.ext hb)
 replace HB:=Xa (Xb HB.out hb)
 replace HItwo:=Xa (HItwo.out.ext hb)
 replace Ht1:=Xa (Ht1.out.ext hb)
 replace HBt1:=Xa (Xh hb HBt1.out)
 replace Ht2:=Xa (Ht2.out.ext hb)
 replace HBt2:=Xa (Xh hb HBt2.out)
 clear hb
 obtain⟨w27,hw⟩:∃v,(w26.alloc (.cells #[.int .i64 (-1),.int .i64 2,.int .i64 0,.int .i64 1,.slice none 0 0,.int .i64 (-1),.int .i64 1,.int .i64 1,.int .i64 2,.slice none 0 0] 37)).alloc (.cells #[.int .i64 0,.int .i64 (-1),.int .i64 0,.int .i64 2,.slice (some ⟨w26.heap.size,0,none⟩) 2 2] 37)=v:=⟨_,rfl⟩
 have hb:Below w26.heap.size w26 w27:=by rw[← hw];exact Xe (Xe (Below.refl _ _) _) _
 have hkb:w27.heap[w26.heap.size]? = some (.cells #[.int .i64 (-1),.int .i64 2,.int .i64 0,.int .i64 1,.slice none 0 0,.int .i64 (-1),.int .i64 1,.int .i64 1,.int .i64 2,.slice none 0 0] 37 (0,0)):=by rw[← hw];exact(Below.heap_alloc _ _ _ (by simp)).trans (World.alloc_heap_new _ _)
 have HBwant:Hid (w27.heap[w26.heap.size+1]? = some (.cells #[.int .i64 0,.int .i64 (-1),.int .i64 0,.int .i64 2,.slice (some ⟨w26.heap.size,0,none⟩) 2 2] 37 (0,0))):=by show _=_;rw[← hw];exact X0 _ _ _ (by simp)
 replace HK:=Xa (Xh hb HK.out)
 replace HT:=Xa (HT.out.ext hb)
 replace HG:=Xa (HG.out.ext hb)
 replace HB:=Xa (Xb HB.out hb)
 replace HItwo:=Xa (HItwo.out.ext hb)
 replace Ht1:=Xa (Ht1.out.ext hb)
 replace HBt1:=Xa (Xh hb HBt1.out)
 replace Ht2:=Xa (Ht2.out.ext hb)
 replace HBt2:=Xa (Xh hb HBt2.out)
 have Hwant:Hid (TreeAt w27 (fun b=>b<w27.heap.size) Xby [.int .i64 0,.int .i64 (-1),.int .i64 0,.int .i64 2,.slice (some ⟨w26.heap.size,0,none⟩) 2 2]):=Xi8 (fun b=>b<w27.heap.size) 0 (-1) 0 2 hkb (Xc hkb) rfl (by decide) rfl (Xfe (Xcd _ _ 2 0 1) (Xcd _ _ 1 1 2))
 obtain⟨kwant,hbn⟩:∃b,w26.heap.size=b:=⟨_,rfl⟩
 rw[hbn] at HBwant Hwant hw
 clear hb hkb
 have hNW:w27.heap.size≤w27.heap.size:=Nat.le_refl _
 go_wp2_with fail
 clear hw hbn
 refine(Ua 2 2 w27 (by decide)).mono ?_
 rintro e w28 ⟨rfl,hb⟩
 replace HK:=Xa (Xh hb HK.out)
 replace HT:=Xa (HT.out.ext hb)
 replace HG:=Xa (HG.out.ext hb)
 replace HB:=Xa (Xb HB.out hb)
 replace HItwo:=Xa (HItwo.out.ext hb)
 replace Ht1:=Xa (Ht1.out.ext hb)
 replace HBt1:=Xa (Xh hb HBt1.out)
 replace Ht2:=Xa (Ht2.out.ext hb)
 replace HBt2:=Xa (Xh hb HBt2.out)
 replace Hwant:=Xa (Hwant.out.ext hb)
 replace HBwant:=Xa (Xh hb HBwant.out)
 replace hNW:=Nat.le_trans hNW hb.size
 clear hb
 go_wp2_with fail
 refine(Ua 4 4 w28 (by decide)).mono ?_
 rintro e w29 ⟨rfl,hb⟩
 replace HK:=Xa (Xh hb HK.out)
 replace HT:=Xa (HT.out.ext hb)
 replace HG:=Xa (HG.out.ext hb)
 replace HB:=Xa (Xb HB.out hb)
 replace HItwo:=Xa (HItwo.out.ext hb)
 replace Ht1:=Xa (Ht1.out.ext hb)
 replace HBt1:=Xa (Xh hb HBt1.out)
 replace Ht2:=Xa (Ht2.out.ext hb)
 replace HBt2:=Xa (Xh hb HBt2.out)
 replace Hwant:=Xa (Hwant.out.ext hb)
 replace HBwant:=Xa (Xh hb HBwant.out)
 replace hNW:=Nat.le_trans hNW hb.size
 clear hb
 obtain⟨w30,hw⟩:∃v,(w29.alloc (.cells #[.int .i64 (-1),.int .i64 2,.int .i64 2,.int .i64 3,.slice none 0 0,.int .i64 (-1),.int .i64 4,.int .i64 4,.int .i64 5,.slice none 0 0] 37)).alloc (.cells #[.int .i64 2,.int .i64 (-1),.int .i64 2,.int .i64 5,.slice (some ⟨w29.heap.size,0,none⟩) 2 2] 37)=v:=⟨_,rfl⟩
 have hb:Below w29.heap.size w29 w30:=by rw[← hw];exact Xe (Xe (Below.refl _ _) _) _
 have hkb:w30.heap[w29.heap.size]? = some (.cells #[.int .i64 (-1),.int .i64 2,.int .i64 2,.int .i64 3,.slice none 0 0,.int .i64 (-1),.int .i64 4,.int .i64 4,.int .i64 5,.slice none 0 0] 37 (0,0)):=by rw[← hw];exact(Below.heap_alloc _ _ _ (by simp)).trans (World.alloc_heap_new _ _)
 have HBback:Hid (w30.heap[w29.heap.size+1]? = some (.cells #[.int .i64 2,.int .i64 (-1),.int .i64 2,.int .i64 5,.slice (some ⟨w29.heap.size,0,none⟩) 2 2] 37 (0,0))):=by show _=_;rw[← hw];exact X0 _ _ _ (by simp)
 replace HK:=Xa (Xh hb HK.out)
 replace HT:=Xa (HT.out.ext hb)
 replace HG:=Xa (HG.out.ext hb)
 replace HB:=Xa (Xb HB.out hb)
 replace HItwo:=Xa (HItwo.out.ext hb)
 replace Ht1:=Xa (Ht1.out.ext hb)
 replace HBt1:=Xa (Xh hb HBt1.out)
 replace Ht2:=Xa (Ht2.out.ext hb)
 replace HBt2:=Xa (Xh hb HBt2.out)
 replace Hwant:=Xa (Hwant.out.ext hb)
 replace HBwant:=Xa (Xh hb HBwant.out)
 replace hNW:=Nat.le_trans hNW hb.size
 have Hback:Hid (TreeAt w30 (anyB) Xj9 [.int .i64 2,.int .i64 (-1),.int .i64 2,.int .i64 5,.slice (some ⟨w29.heap.size,0,none⟩) 2 2]):=Xi8 (anyB) 2 (-1) 2 5 hkb trivial rfl (by decide) rfl (Xfe (Xcd _ _ 2 2 3) (Xcd _ _ 4 4 5))
 obtain⟨kback,hbn⟩:∃b,w29.heap.size=b:=⟨_,rfl⟩
 rw[hbn] at HBback Hback hw
 clear hb hkb
 go_wp2_with fail
 clear hw hbn
 refine wpIn_wide (n:=0) |>.1 ?_
 refine Td (fun (y:(Nat→Value)×Nat) a=>{a with tmps:=(((((((a.tmps.setIfInBounds 151 (y.1 0)).setIfInBounds 152 (y.1 1)).setIfInBounds 153 (y.1 2)).setIfInBounds 154 (y.1 3)).setIfInBounds 155 (y.1 4)).setIfInBounds 156 (y.1 5)).setIfInBounds 33 (.pointer (some ⟨y.2,0,none⟩)))}) (RightF w30) ?_ ?_
 ·refine Xo (fun V=>Below w30.heap.size w30 V) (by kernel_rfl) ?_
  refine Xd (i:=1) (v:=.agg #[.int .i64 2,.int .i64 (-1),.int .i64 2,.int .i64 5,.slice (some ⟨kback,0,none⟩) 2 2]) rfl (by kernel_rfl) (fun _ _ _ h=>h) (fun V hV=>(by have hk:=Xh hV HBback.out;have c0:=gblk hk 0;have c1:=gblk hk 1;have c2:=gblk hk 2;have c3:=gblk hk 3;have c4:=gblk hk 4;go_simp)) ?_
  refine Xs (rs:=[0,6]) (Xi (Below.refl _ _)) (by kernel_rfl) (by simp) (AllC.cons rfl (fun K hK=>?_) (AllC.cons rfl (fun K hK=>?_) AllC.nil))
  ·go_simp
   refine⟨trivial,rfl,callsIn_wide.2 ((Ua 0 0 _ (by decide)).mono ?_)⟩
   rintro e v1 ⟨rfl,hv1⟩
   refine hK _ _ ?_
   clear hK K
   have C1:Below w30.heap.size w30 v1:=Xb (Xi (Below.refl _ _)) hv1
   refine Xs (rs:=[2,6]) C1 (by kernel_rfl) (by simp) (AllC.cons rfl (fun K hK=>?_) (AllC.cons rfl (fun K hK=>?_) AllC.nil))
   ·go_simp
    refine hK _ _ ?_
    clear hK K
    refine Xd (i:=3) rfl (by kernel_rfl) (fun _ _ _ h=>h) (fun V hV=>(by skip;go_simp<;>rfl)) ?_
    refine Xs (rs:=[4,6]) (Xe C1 _) (by kernel_rfl) (by simp) (AllC.cons rfl (fun K hK=>?_) (AllC.cons rfl (fun K hK=>?_) AllC.nil))
    ·go_simp
     refine hK _ _ ?_
     clear hK K
     refine Xd (i:=5) rfl (by kernel_rfl) (fun _ _ _ h=>h) (fun V hV=>(by skip;go_simp<;>rfl)) ?_
     refine Xg (i:=6) (Xe (Xe C1 _) _) (by kernel_rfl) rfl (fun K hK=>?_)
     go_simp
     refine hK _ _ ?_
     clear hK K
     refine Xg (i:=7) (Xe (Xe (Xe C1 _) _) _) (by kernel_rfl) rfl (fun K hK=>?_)
     go_simp
     refine hK _ _ ?_
     clear hK K
     have hh:=Y5 [(.cells #[.int .i64 (-1),.int .i64 0,.int .i64 0,.int .i64 1,.slice none 0 0,.int .i64 2,.int .i64 (-1),.int .i64 2,.int .i64 5,.slice (some ⟨kback,0,none⟩) 2 2] 37),(.cells #[.int .i64 2,.int .i64 (-1),.int .i64 0,.int .i64 5,.slice (some ⟨v1.heap.size,0,none⟩) 2 2] 37),(.cells #[.int .i64 1,.int .i64 (-1),.int .i64 0,.int .i64 5,.slice (some ⟨v1.heap.size+1,0,none⟩) 1 1] 37)] v1
     have C9:Below w30.heap.size w30 (Xcb v1 [(.cells #[.int .i64 (-1),.int .i64 0,.int .i64 0,.int .i64 1,.slice none 0 0,.int .i64 2,.int .i64 (-1),.int .i64 2,.int .i64 5,.slice (some ⟨kback,0,none⟩) 2 2] 37),(.cells #[.int .i64 2,.int .i64 (-1),.int .i64 0,.int .i64 5,.slice (some ⟨v1.heap.size,0,none⟩) 2 2] 37),(.cells #[.int .i64 1,.int .i64 (-1),.int .i64 0,.int .i64 5,.slice (some ⟨v1.heap.size+1,0,none⟩) 1 1] 37)]):=Xb C1 (Vj _ v1)
     refine Xl C9 (by kernel_rfl) ?_ _
     refine⟨((fun k=>match k with|0 => .agg #[.int .i64 (-1),.int .i64 0,.int .i64 0,.int .i64 1,.slice none 0 0]|1 => .agg #[.int .i64 2,.int .i64 (-1),.int .i64 2,.int .i64 5,.slice (some ⟨kback,0,none⟩) 2 2]|2 => .slice (some ⟨v1.heap.size,0,none⟩) 2 2|3 => .agg #[.int .i64 2,.int .i64 (-1),.int .i64 0,.int .i64 5,.slice (some ⟨v1.heap.size,0,none⟩) 2 2]|4 => .slice (some ⟨v1.heap.size+1,0,none⟩) 1 1|_ => .agg #[.int .i64 1,.int .i64 (-1),.int .i64 0,.int .i64 5,.slice (some ⟨v1.heap.size+1,0,none⟩) 1 1]),v1.heap.size+1+1),?_,v1.heap.size+1,(hh 2 (by simp)),Xcj (hh 0 (by simp)) rfl (hh 1 (by simp)) rfl (Hback.out.ext (C9)),C9⟩
     kernel_rfl
    ·go_simp
     refine hK _ _ ?_
     clear hK K
     refine Xg (i:=4) (Xe (Xe C1 _) _) (by kernel_rfl) rfl (fun K hK=>?_)
     go_simp
     refine hK _ _ ?_
     clear hK K
     refine Xd (i:=5) rfl (by kernel_rfl) (fun _ _ _ h=>h) (fun V hV=>(by skip;go_simp<;>rfl)) ?_
     obtain⟨v8,hv8⟩:∃v,((v1.alloc (.cells #[.int .i64 (-1),.int .i64 0,.int .i64 0,.int .i64 1,.slice none 0 0,.int .i64 2,.int .i64 (-1),.int .i64 2,.int .i64 5,.slice (some ⟨kback,0,none⟩) 2 2] 37)).alloc (.cells #[.int .i64 0,.int .i64 0,.int .i64 0,.int .i64 0,.slice none 0 0] 37)).alloc (.cells #[.int .i64 2,.int .i64 (-1),.int .i64 0,.int .i64 5,.slice (some ⟨v1.heap.size,0,none⟩) 2 2] 37)=v:=⟨_,rfl⟩
     have hz8:v8.heap[v1.heap.size+1]? = some (.cells #[.int .i64 0,.int .i64 0,.int .i64 0,.int .i64 0,.slice none 0 0] 37 (0,0)):=by rw[← hv8];exact Y5 [(.cells #[.int .i64 (-1),.int .i64 0,.int .i64 0,.int .i64 1,.slice none 0 0,.int .i64 2,.int .i64 (-1),.int .i64 2,.int .i64 5,.slice (some ⟨kback,0,none⟩) 2 2] 37),(.cells #[.int .i64 0,.int .i64 0,.int .i64 0,.int .i64 0,.slice none 0 0] 37),(.cells #[.int .i64 2,.int .i64 (-1),.int .i64 0,.int .i64 5,.slice (some ⟨v1.heap.size,0,none⟩) 2 2] 37)] v1 1 (by simp)
     have C8:Below w30.heap.size w30 v8:=by rw[← hv8];exact Xe (Xe (Xe C1 _) _) _
     rw[hv8]
     have h81:v8.heap[v1.heap.size]? = some (.cells #[.int .i64 (-1),.int .i64 0,.int .i64 0,.int .i64 1,.slice none 0 0,.int .i64 2,.int .i64 (-1),.int .i64 2,.int .i64 5,.slice (some ⟨kback,0,none⟩) 2 2] 37 (0,0)):=by rw[← hv8];exact Y5 [(.cells #[.int .i64 (-1),.int .i64 0,.int .i64 0,.int .i64 1,.slice none 0 0,.int .i64 2,.int .i64 (-1),.int .i64 2,.int .i64 5,.slice (some ⟨kback,0,none⟩) 2 2] 37),(.cells #[.int .i64 0,.int .i64 0,.int .i64 0,.int .i64 0,.slice none 0 0] 37),(.cells #[.int .i64 2,.int .i64 (-1),.int .i64 0,.int .i64 5,.slice (some ⟨v1.heap.size,0,none⟩) 2 2] 37)] v1 0 (by simp)
     have h82:v8.heap[v1.heap.size+1+1]? = some (.cells #[.int .i64 2,.int .i64 (-1),.int .i64 0,.int .i64 5,.slice (some ⟨v1.heap.size,0,none⟩) 2 2] 37 (0,0)):=by rw[← hv8];exact Y5 [(.cells #[.int .i64 (-1),.int .i64 0,.int .i64 0,.int .i64 1,.slice none 0 0,.int .i64 2,.int .i64 (-1),.int .i64 2,.int .i64 5,.slice (some ⟨kback,0,none⟩) 2 2] 37),(.cells #[.int .i64 0,.int .i64 0,.int .i64 0,.int .i64 0,.slice none 0 0] 37),(.cells #[.int .i64 2,.int .i64 (-1),.int .i64 0,.int .i64 5,.slice (some ⟨v1.heap.size,0,none⟩) 2 2] 37)] v1 2 (by simp)
     obtain⟨zq0,zq1,zq2,zq3,zq4⟩:=gb5 hz8
     have hzf:=fun n=>Xf hz8 n
     have hzl:=Xc hz8
     have hs5:=U7 v8 (v1.heap.size+1) ⟨1, -1,0,5,⟨some ⟨v1.heap.size+1+1,0,none⟩,1,1⟩⟩
     have h51:=(hs5.block _ (Xc h81) (by show v1.heap.size≠v1.heap.size+1;omega)).trans h81
     have h52:=(hs5.block _ (Xc h82) (by show v1.heap.size+1+1≠v1.heap.size+1;omega)).trans h82
     have h5x:=Xcl (x:=Qr) hz8 ⟨1, -1,0,5,⟨some ⟨v1.heap.size+1+1,0,none⟩,1,1⟩⟩
     have C9:=Yf C8 C8.size hs5 (by first|(have:=C1.size;omega))
     clear hv8
     refine Xg (i:=7) C8 (by kernel_rfl) rfl (fun K hK=>?_)
     go_simp
     refine hK _ _ ?_
     clear hK K
     refine Xl C9 (by kernel_rfl) ?_ _
     refine⟨((fun k=>match k with|0 => .agg #[.int .i64 (-1),.int .i64 0,.int .i64 0,.int .i64 1,.slice none 0 0]|1 => .agg #[.int .i64 2,.int .i64 (-1),.int .i64 2,.int .i64 5,.slice (some ⟨kback,0,none⟩) 2 2]|2 => .slice (some ⟨v1.heap.size,0,none⟩) 2 2|3 => .agg #[.int .i64 2,.int .i64 (-1),.int .i64 0,.int .i64 5,.slice (some ⟨v1.heap.size,0,none⟩) 2 2]|4 => .slice (some ⟨v1.heap.size+1+1,0,none⟩) 1 1|_ => .agg #[.int .i64 1,.int .i64 (-1),.int .i64 0,.int .i64 5,.slice (some ⟨v1.heap.size+1+1,0,none⟩) 1 1]),v1.heap.size+1),?_,v1.heap.size+1+1,h5x,Xcj h51 rfl h52 rfl (Hback.out.ext (C9)),C9⟩
     kernel_rfl
   ·go_simp
    refine hK _ _ ?_
    clear hK K
    refine Xg (i:=2) (Xe C1 _) (by kernel_rfl) rfl (fun K hK=>?_)
    go_simp
    refine hK _ _ ?_
    clear hK K
    refine Xd (i:=3) rfl (by kernel_rfl) (fun _ _ _ h=>h) (fun V hV=>(by skip;go_simp<;>rfl)) ?_
    refine Xg (i:=4) (Xe (Xe C1 _) _) (by kernel_rfl) rfl (fun K hK=>?_)
    go_simp
    refine hK _ _ ?_
    clear hK K
    refine Xd (i:=5) rfl (by kernel_rfl) (fun _ _ _ h=>h) (fun V hV=>(by skip;go_simp<;>rfl)) ?_
    obtain⟨v8,hv8⟩:∃v,((v1.alloc (.cells #[.int .i64 0,.int .i64 0,.int .i64 0,.int .i64 0,.slice none 0 0] 37)).alloc (.cells #[.int .i64 (-1),.int .i64 0,.int .i64 0,.int .i64 1,.slice none 0 0,.int .i64 2,.int .i64 (-1),.int .i64 2,.int .i64 5,.slice (some ⟨kback,0,none⟩) 2 2] 37)).alloc (.cells #[.int .i64 2,.int .i64 (-1),.int .i64 0,.int .i64 5,.slice (some ⟨v1.heap.size+1,0,none⟩) 2 2] 37)=v:=⟨_,rfl⟩
    have hz8:v8.heap[v1.heap.size]? = some (.cells #[.int .i64 0,.int .i64 0,.int .i64 0,.int .i64 0,.slice none 0 0] 37 (0,0)):=by rw[← hv8];exact Y5 [(.cells #[.int .i64 0,.int .i64 0,.int .i64 0,.int .i64 0,.slice none 0 0] 37),(.cells #[.int .i64 (-1),.int .i64 0,.int .i64 0,.int .i64 1,.slice none 0 0,.int .i64 2,.int .i64 (-1),.int .i64 2,.int .i64 5,.slice (some ⟨kback,0,none⟩) 2 2] 37),(.cells #[.int .i64 2,.int .i64 (-1),.int .i64 0,.int .i64 5,.slice (some ⟨v1.heap.size+1,0,none⟩) 2 2] 37)] v1 0 (by simp)
    have C8:Below w30.heap.size w30 v8:=by rw[← hv8];exact Xe (Xe (Xe C1 _) _) _
    rw[hv8]
    have h81:v8.heap[v1.heap.size+1]? = some (.cells #[.int .i64 (-1),.int .i64 0,.int .i64 0,.int .i64 1,.slice none 0 0,.int .i64 2,.int .i64 (-1),.int .i64 2,.int .i64 5,.slice (some ⟨kback,0,none⟩) 2 2] 37 (0,0)):=by rw[← hv8];exact Y5 [(.cells #[.int .i64 0,.int .i64 0,.int .i64 0,.int .i64 0,.slice none 0 0] 37),(.cells #[.int .i64 (-1),.int .i64 0,.int .i64 0,.int .i64 1,.slice none 0 0,.int .i64 2,.int .i64 (-1),.int .i64 2,.int .i64 5,.slice (some ⟨kback,0,none⟩) 2 2] 37),(.cells #[.int .i64 2,.int .i64 (-1),.int .i64 0,.int .i64 5,.slice (some ⟨v1.heap.size+1,0,none⟩) 2 2] 37)] v1 1 (by simp)
    have h82:v8.heap[v1.heap.size+1+1]? = some (.cells #[.int .i64 2,.int .i64 (-1),.int .i64 0,.int .i64 5,.slice (some ⟨v1.heap.size+1,0,none⟩) 2 2] 37 (0,0)):=by rw[← hv8];exact Y5 [(.cells #[.int .i64 0,.int .i64 0,.int .i64 0,.int .i64 0,.slice none 0 0] 37),(.cells #[.int .i64 (-1),.int .i64 0,.int .i64 0,.int .i64 1,.slice none 0 0,.int .i64 2,.int .i64 (-1),.int .i64 2,.int .i64 5,.slice (some ⟨kback,0,none⟩) 2 2] 37),(.cells #[.int .i64 2,.int .i64 (-1),.int .i64 0,.int .i64 5,.slice (some ⟨v1.heap.size+1,0,none⟩) 2 2] 37)] v1 2 (by simp)
    obtain⟨zq0,zq1,zq2,zq3,zq4⟩:=gb5 hz8
    have hzf:=fun n=>Xf hz8 n
    have hzl:=Xc hz8
    have hs5:=U7 v8 (v1.heap.size) ⟨1, -1,0,5,⟨some ⟨v1.heap.size+1+1,0,none⟩,1,1⟩⟩
    have h51:=(hs5.block _ (Xc h81) (by show v1.heap.size+1≠v1.heap.size;omega)).trans h81
    have h52:=(hs5.block _ (Xc h82) (by show v1.heap.size+1+1≠v1.heap.size;omega)).trans h82
    have h5x:=Xcl (x:=Qr) hz8 ⟨1, -1,0,5,⟨some ⟨v1.heap.size+1+1,0,none⟩,1,1⟩⟩
    have C9:=Yf C8 C8.size hs5 (by first|(have:=C1.size;omega))
    clear hv8
    refine Xg (i:=7) C8 (by kernel_rfl) rfl (fun K hK=>?_)
    go_simp
    refine hK _ _ ?_
    clear hK K
    refine Xl C9 (by kernel_rfl) ?_ _
    refine⟨((fun k=>match k with|0 => .agg #[.int .i64 (-1),.int .i64 0,.int .i64 0,.int .i64 1,.slice none 0 0]|1 => .agg #[.int .i64 2,.int .i64 (-1),.int .i64 2,.int .i64 5,.slice (some ⟨kback,0,none⟩) 2 2]|2 => .slice (some ⟨v1.heap.size+1,0,none⟩) 2 2|3 => .agg #[.int .i64 2,.int .i64 (-1),.int .i64 0,.int .i64 5,.slice (some ⟨v1.heap.size+1,0,none⟩) 2 2]|4 => .slice (some ⟨v1.heap.size+1+1,0,none⟩) 1 1|_ => .agg #[.int .i64 1,.int .i64 (-1),.int .i64 0,.int .i64 5,.slice (some ⟨v1.heap.size+1+1,0,none⟩) 1 1]),v1.heap.size),?_,v1.heap.size+1+1,h5x,Xcj h51 rfl h52 rfl (Hback.out.ext (C9)),C9⟩
    kernel_rfl
  ·go_simp
   refine hK _ _ ?_
   clear hK K
   refine Xg (i:=0) (Xe (Xi (Below.refl _ _)) _) (by kernel_rfl) rfl (fun K hK=>?_)
   go_simp
   refine⟨trivial,rfl,callsIn_wide.2 ((Ua 0 0 _ (by decide)).mono ?_)⟩
   rintro e v1 ⟨rfl,hv1⟩
   refine hK _ _ ?_
   clear hK K
   have hzz:(w30.drew.alloc (.cells #[.int .i64 0,.int .i64 0,.int .i64 0,.int .i64 0,.slice none 0 0] 37)).heap[w30.heap.size]? = some (.cells #[.int .i64 0,.int .i64 0,.int .i64 0,.int .i64 0,.slice none 0 0] 37 (0,0)):=World.alloc_heap_new _ _
   have hz1:v1.heap[w30.heap.size]? = some (.cells #[.int .i64 0,.int .i64 0,.int .i64 0,.int .i64 0,.slice none 0 0] 37 (0,0)):=Xh hv1 hzz
   have C1:Below w30.heap.size w30 v1:=Xb (Xe (Xi (Below.refl _ _)) _) hv1
   have hzl1:=Xc hz1
   clear hzz
   refine Xg (i:=2) C1 (by kernel_rfl) rfl (fun K hK=>?_)
   go_simp
   refine hK _ _ ?_
   clear hK K
   refine Xd (i:=3) rfl (by kernel_rfl) (fun _ _ _ h=>h) (fun V hV=>(by skip;go_simp<;>rfl)) ?_
   refine Xg (i:=4) (Xe C1 _) (by kernel_rfl) rfl (fun K hK=>?_)
   go_simp
   refine hK _ _ ?_
   clear hK K
   refine Xd (i:=5) rfl (by kernel_rfl) (fun _ _ _ h=>h) (fun V hV=>(by skip;go_simp<;>rfl)) ?_
   obtain⟨v8,hv8⟩:∃v,(v1.alloc (.cells #[.int .i64 (-1),.int .i64 0,.int .i64 0,.int .i64 1,.slice none 0 0,.int .i64 2,.int .i64 (-1),.int .i64 2,.int .i64 5,.slice (some ⟨kback,0,none⟩) 2 2] 37)).alloc (.cells #[.int .i64 2,.int .i64 (-1),.int .i64 0,.int .i64 5,.slice (some ⟨v1.heap.size,0,none⟩) 2 2] 37)=v:=⟨_,rfl⟩
   have hz8:v8.heap[w30.heap.size]? = some (.cells #[.int .i64 0,.int .i64 0,.int .i64 0,.int .i64 0,.slice none 0 0] 37 (0,0)):=by rw[← hv8];exact((Xe (Xe (Below.refl v1.heap.size v1) _) _).block _ hzl1).trans hz1
   have C8:Below w30.heap.size w30 v8:=by rw[← hv8];exact Xe (Xe C1 _) _
   rw[hv8]
   have h81:v8.heap[v1.heap.size]? = some (.cells #[.int .i64 (-1),.int .i64 0,.int .i64 0,.int .i64 1,.slice none 0 0,.int .i64 2,.int .i64 (-1),.int .i64 2,.int .i64 5,.slice (some ⟨kback,0,none⟩) 2 2] 37 (0,0)):=by rw[← hv8];exact Y5 [(.cells #[.int .i64 (-1),.int .i64 0,.int .i64 0,.int .i64 1,.slice none 0 0,.int .i64 2,.int .i64 (-1),.int .i64 2,.int .i64 5,.slice (some ⟨kback,0,none⟩) 2 2] 37),(.cells #[.int .i64 2,.int .i64 (-1),.int .i64 0,.int .i64 5,.slice (some ⟨v1.heap.size,0,none⟩) 2 2] 37)] v1 0 (by simp)
   have h82:v8.heap[v1.heap.size+1]? = some (.cells #[.int .i64 2,.int .i64 (-1),.int .i64 0,.int .i64 5,.slice (some ⟨v1.heap.size,0,none⟩) 2 2] 37 (0,0)):=by rw[← hv8];exact Y5 [(.cells #[.int .i64 (-1),.int .i64 0,.int .i64 0,.int .i64 1,.slice none 0 0,.int .i64 2,.int .i64 (-1),.int .i64 2,.int .i64 5,.slice (some ⟨kback,0,none⟩) 2 2] 37),(.cells #[.int .i64 2,.int .i64 (-1),.int .i64 0,.int .i64 5,.slice (some ⟨v1.heap.size,0,none⟩) 2 2] 37)] v1 1 (by simp)
   obtain⟨zq0,zq1,zq2,zq3,zq4⟩:=gb5 hz8
   have hzf:=fun n=>Xf hz8 n
   have hzl:=Xc hz8
   have hs5:=U7 v8 (w30.heap.size) ⟨1, -1,0,5,⟨some ⟨v1.heap.size+1,0,none⟩,1,1⟩⟩
   have h51:=(hs5.block _ (Xc h81) (by show v1.heap.size≠w30.heap.size;omega)).trans h81
   have h52:=(hs5.block _ (Xc h82) (by show v1.heap.size+1≠w30.heap.size;omega)).trans h82
   have h5x:=Xcl (x:=Qr) hz8 ⟨1, -1,0,5,⟨some ⟨v1.heap.size+1,0,none⟩,1,1⟩⟩
   have C9:=Yf C8 C8.size hs5 (by first|(have:=C1.size;omega))
   clear hv8
   refine Xg (i:=7) C8 (by kernel_rfl) rfl (fun K hK=>?_)
   go_simp
   refine hK _ _ ?_
   clear hK K
   refine Xl C9 (by kernel_rfl) ?_ _
   refine⟨((fun k=>match k with|0 => .agg #[.int .i64 (-1),.int .i64 0,.int .i64 0,.int .i64 1,.slice none 0 0]|1 => .agg #[.int .i64 2,.int .i64 (-1),.int .i64 2,.int .i64 5,.slice (some ⟨kback,0,none⟩) 2 2]|2 => .slice (some ⟨v1.heap.size,0,none⟩) 2 2|3 => .agg #[.int .i64 2,.int .i64 (-1),.int .i64 0,.int .i64 5,.slice (some ⟨v1.heap.size,0,none⟩) 2 2]|4 => .slice (some ⟨v1.heap.size+1,0,none⟩) 1 1|_ => .agg #[.int .i64 1,.int .i64 (-1),.int .i64 0,.int .i64 5,.slice (some ⟨v1.heap.size+1,0,none⟩) 1 1]),w30.heap.size),?_,v1.heap.size+1,h5x,Xcj h51 rfl h52 rfl (Hback.out.ext (C9)),C9⟩
   kernel_rfl
 ·rintro⟨vals,bx⟩ v ⟨k2,hbx,hrt,hb⟩
  replace HK:=Xa (Xh hb HK.out)
  replace HT:=Xa (HT.out.ext hb)
  replace HG:=Xa (HG.out.ext hb)
  replace HB:=Xa (Xb HB.out hb)
  replace HItwo:=Xa (HItwo.out.ext hb)
  replace Ht1:=Xa (Ht1.out.ext hb)
  replace HBt1:=Xa (Xh hb HBt1.out)
  replace Ht2:=Xa (Ht2.out.ext hb)
  replace HBt2:=Xa (Xh hb HBt2.out)
  replace Hwant:=Xa (Hwant.out.ext hb)
  replace HBwant:=Xa (Xh hb HBwant.out)
  replace Hback:=Xa (Hback.out.ext hb)
  replace HBback:=Xa (Xh hb HBback.out)
  replace hNW:=Nat.le_trans hNW hb.size
  have HBx:=Xa hbx
  have HRt:=Xa hrt
  clear hb hbx hrt
  have hkc:=HK.out
  obtain⟨c0,c1,c2,c3,c4,c5⟩:=gb6 hkc
  have hwc:=HBwant.out
  obtain⟨d0,d1,d2,d3,d4⟩:=gb5 hwc
  clear hkc hwc
  gi_wp2_with fail
  go_wp2_with fail
  clear c0 c1 c2 c3 c4 c5 d0 d1 d2 d3 d4
  refine(Xme (its:=⟨some ⟨btwo,0,none⟩,3,[x1,x2,x3]⟩) (n:=2) (t:=Xby) (x:=⟨0, -1,0,2,⟨some ⟨kwant,0,none⟩,2,2⟩⟩) (P:=fun b=>b<w27.heap.size) HT.out HG.out Hex.out.short HItwo.out (fun b hb=>Nat.lt_of_lt_of_le hb hNW) Hwant.out (by unfold Xby Z6 Ve Ve Ve Zt Z6 Ve I6;decide) HEtwo.out.2.2).mono ?_
  rintro e w31 ⟨rfl,hb⟩
  replace HK:=Xa (Xh hb HK.out)
  replace HT:=Xa (HT.out.ext hb)
  replace HG:=Xa (HG.out.ext hb)
  replace HB:=Xa (Xb HB.out hb)
  replace HItwo:=Xa (HItwo.out.ext hb)
  replace Ht1:=Xa (Ht1.out.ext hb)
  replace HBt1:=Xa (Xh hb HBt1.out)
  replace Ht2:=Xa (Ht2.out.ext hb)
  replace HBt2:=Xa (Xh hb HBt2.out)
  replace Hwant:=Xa (Hwant.out.ext hb)
  replace HBwant:=Xa (Xh hb HBwant.out)
  replace Hback:=Xa (Hback.out.ext hb)
  replace HBback:=Xa (Xh hb HBback.out)
  replace HBx:=Xa (Xh hb HBx.out)
  replace HRt:=Xa (HRt.out.ext hb)
  replace hNW:=Nat.le_trans hNW hb.size
  have hwc:=HBwant.out
  obtain⟨d0,d1,d2,d3,d4⟩:=gb5 hwc
  have htc:=HBt1.out
  obtain⟨c0,c1,c2,c3,c4⟩:=gb5 htc
  clear hwc htc hb
  go_wp2_with fail
  clear d0 d1 d2 d3 d4 c0 c1 c2 c3 c4
  refine(Qm _ _ Xby t1 Xby ⟨0, -1,0,2,⟨some ⟨kwant,0,none⟩,2,2⟩⟩ w31 Ht1.out Hwant.out).mono ?_
  rintro e w32 ⟨b,rfl,hbq,hb⟩
  replace HK:=Xa (Xh hb HK.out)
  replace HT:=Xa (HT.out.ext hb)
  replace HG:=Xa (HG.out.ext hb)
  replace HB:=Xa (Xb HB.out hb)
  replace HItwo:=Xa (HItwo.out.ext hb)
  replace Ht1:=Xa (Ht1.out.ext hb)
  replace HBt1:=Xa (Xh hb HBt1.out)
  replace Ht2:=Xa (Ht2.out.ext hb)
  replace HBt2:=Xa (Xh hb HBt2.out)
  replace Hwant:=Xa (Hwant.out.ext hb)
  replace HBwant:=Xa (Xh hb HBwant.out)
  replace Hback:=Xa (Hback.out.ext hb)
  replace HBback:=Xa (Xh hb HBback.out)
  replace HBx:=Xa (Xh hb HBx.out)
  replace HRt:=Xa (HRt.out.ext hb)
  replace hNW:=Nat.le_trans hNW hb.size
  obtain rfl:b=true:=hbq.2 rfl
  have hwc:=HBt2.out
  obtain⟨d0,d1,d2,d3,d4⟩:=gb5 hwc
  have htc:=HBx.out
  obtain⟨c0,c1,c2,c3,c4⟩:=gb5 htc
  clear hwc htc hb hbq
  go_wp2_with fail
  clear d0 d1 d2 d3 d4 c0 c1 c2 c3 c4
  refine(Qm _ _ Xab t2 Xab ⟨1, -1,0,5,⟨some ⟨k2,0,none⟩,1,1⟩⟩ w32 Ht2.out HRt.out).mono ?_
  rintro e w33 ⟨b,rfl,hbq,hb⟩
  replace HK:=Xa (Xh hb HK.out)
  replace HT:=Xa (HT.out.ext hb)
  replace HG:=Xa (HG.out.ext hb)
  replace HB:=Xa (Xb HB.out hb)
  replace HItwo:=Xa (HItwo.out.ext hb)
  replace Ht1:=Xa (Ht1.out.ext hb)
  replace HBt1:=Xa (Xh hb HBt1.out)
  replace Ht2:=Xa (Ht2.out.ext hb)
  replace HBt2:=Xa (Xh hb HBt2.out)
  replace Hwant:=Xa (Hwant.out.ext hb)
  replace HBwant:=Xa (Xh hb HBwant.out)
  replace Hback:=Xa (Hback.out.ext hb)
  replace HBback:=Xa (Xh hb HBback.out)
  replace HBx:=Xa (Xh hb HBx.out)
  replace HRt:=Xa (HRt.out.ext hb)
  replace hNW:=Nat.le_trans hNW hb.size
  obtain rfl:b=true:=hbq.2 rfl
  clear hb hbq
  go_wp2_with fail
  go_ret
  exact⟨rfl,HB.out⟩
end Go.Proofs.YtolpbjjapodmnaaGreatDoor
namespace Go.Proofs.YtolpbjjapodmnaaGreatDoor
open Go.RowKit Go.Han
set_option maxRecDepth 100000
abbrev slC (s:KidS):List Value:=[.slice s.addr s.len s.cap]
def TreesW (X:Nat→Prop) (w:World) (l:List TreeV) (s:KidS):Prop:=TreeW X w (.node 0 0 0 0 l) ⟨0,0,0,0,s⟩
structure RowsAt (X:Nat→Prop) (w:World) (L:List (List TreeV)) (s:KidS):Prop where
 len:s.len=L.length
 cap:L.length≤s.cap
 max:s.cap≤9223372036854775807
 inp:InP (fun b=>¬X b) s.addr s.len
 rows:∃rs:List KidS,rs.length=L.length∧Rd w s.addr (rs.flatMap slC)∧∀(j:Nat) (h:j<L.length) (h':j<rs.length),TreesW X w L[j] rs[j]
structure GrewBy (o:Option Nat) (W V:World) (v:Value):Prop where
 only:Only (fun b=>o=some b) W V
 at_:v.ownBlock=o∨∃b,v.ownBlock=some b∧W.heap.size≤b
theorem GrewBy.refl (W:World) (v:Value):GrewBy v.ownBlock W W v:=⟨Only.refl _ _,.inl rfl⟩
theorem GrewBy.ext {o:Option Nat} {W V V':World} {v:Value} (h:GrewBy o W V v) (hb:Below V.heap.size V V'):GrewBy o W V' v :=
 ⟨⟨hb.os.trans h.only.os,hb.tape.trans h.only.tape,hb.output.trans h.only.output,Nat.le_trans h.only.size hb.size,fun j hj hn=>(hb.block j (Nat.lt_of_lt_of_le hj h.only.size)).trans (h.only.block j hj hn)⟩,h.at_⟩
theorem GrewBy.step {o:Option Nat} {W V V':World} {v v':Value} (h:GrewBy o W V v) (hg:V.grownBy V' v.ownBlock) (hv:v'.ownBlock=v.ownBlock∨v'.ownBlock=some V.heap.size):GrewBy o W V' v':=by
 refine⟨⟨hg.os.trans h.only.os,hg.tape.trans h.only.tape,hg.output.trans h.only.output,Nat.le_trans h.only.size hg.size,fun j hj hn=>(hg.block j (Nat.lt_of_lt_of_le hj h.only.size) fun e=>?_).trans (h.only.block j hj hn)⟩,?_⟩
 ·rcases h.at_ with h1|⟨b,h1,h2⟩
  ·exact hn (h1.symm.trans e.symm)
  ·rw[h1] at e
   injection e with e
   omega
 ·rcases hv with e|e
  ·rw[e];exact h.at_
  ·exact .inr ⟨_,e,h.only.size⟩
theorem GrewBy.trees {o:Option Nat} {W V:World} {v:Value} (h:GrewBy o W V v) {X:Nat→Prop} (hX:∀b,o=some b→X b) {l:List TreeV} {s:KidS} (ht:TreesW X W l s):TreesW (fun b=>X b∨v.ownBlock=some b) V l s :=
 TreeW.keep ht (fun b ⟨_,_,hk⟩ hx=>h.only.block b (Xc hk) fun e=>hx (hX b e)) h.only.size fun b ⟨_,_,hk⟩ hx hx'=>by
  rcases hx' with h1|h1
  ·exact hx h1
  ·rcases h.at_ with h2|⟨b',h2,h3⟩
   ·exact hx (hX b (h2.symm.trans h1))
   ·rw[h2] at h1
    injection h1 with h1
    have:=Xc hk
    omega
theorem TreesW.weaken {X X':Nat→Prop} {W:World} {l:List TreeV} {s:KidS} (h:TreesW X W l s) (hX:∀b,X' b→X b):TreesW X' W l s :=
 TreeW.keep h (fun _ _ _=>rfl) (Nat.le_refl _) fun b _ h1 h2=>h1 (hX b h2)
theorem TreesW.ext {X:Nat→Prop} {w w':World} {l:List TreeV} {s:KidS} (h:TreesW X w l s) (hb:Below w.heap.size w w'):TreesW X w' l s:=TreeW.ext h hb
theorem RowsAt.ext {X:Nat→Prop} {w w':World} {L:List (List TreeV)} {s:KidS} (h:RowsAt X w L s) (hb:Below w.heap.size w w'):RowsAt X w' L s:=by
 obtain⟨rs,h1,h2,h3⟩:=h.rows
 exact⟨h.len,h.cap,h.max,h.inp,rs,h1,h2.ext hb,fun j hj hj'=>(h3 j hj hj').ext hb⟩
theorem RowsAt.weaken {X X':Nat→Prop} {W:World} {L:List (List TreeV)} {s:KidS} (h:RowsAt X W L s) (hX:∀b,X' b→X b):RowsAt X' W L s:=by
 obtain⟨rs,h1,h2,h3⟩:=h.rows
 exact⟨h.len,h.cap,h.max,fun h0=>(by obtain⟨b,off,e,hb⟩:=h.inp h0;exact⟨b,off,e,fun hx=>hb (hX b hx)⟩),rs,h1,h2,fun j hj hj'=>(h3 j hj hj').weaken hX⟩
theorem RowsAt.zero (X:Nat→Prop) (w:World):RowsAt X w [] ⟨none,0,0⟩:=⟨rfl,Nat.le_refl _,by decide,fun h=>by simp at h,[],rfl,.inl rfl,fun j h=>by simp at h⟩
theorem TreesW.zero (X:Nat→Prop) (w:World):TreesW X w [] ⟨none,0,0⟩:=by
 unfold TreesW TreeW TreeAt
 exact⟨none,0,[],rfl,Nat.le_refl _,by decide,fun _=>rfl,fun h=>by simp at h,.inl rfl,rfl⟩
theorem TreesW.slice {X:Nat→Prop} {w:World} {l:List TreeV} {s:KidS} (h:TreesW X w l s):s.len=l.length∧l.length≤s.cap∧s.cap≤9223372036854775807:=by
 unfold TreesW TreeW TreeAt at h
 obtain⟨A,cap,css,e,h2,h3,_⟩:=h
 injection e with _ e
 injection e with _ e
 injection e with _ e
 injection e with _ e
 injection e with e _
 injection e with e1 e2 e3
 subst e3
 exact⟨e2,h2,h3⟩
theorem TreesW.get {X:Nat→Prop} {w:World} {l:List TreeV} {s:KidS} (h:TreesW X w l s) {n:Nat} (hn:n<l.length) :
  ∃(x:TreeG) (b off:Nat),TreeW X w l[n] x∧s.addr=some ⟨b,off,none⟩∧b<w.heap.size∧w.cell? ⟨b,off+n*5,none⟩=some (.int .i64 x.rule)∧w.cell? ⟨b,off+n*5+1,none⟩=some (.int .i64 x.item)∧w.cell? ⟨b,off+n*5+2,none⟩=some (.int .i64 x.frm)∧w.cell? ⟨b,off+n*5+3,none⟩=some (.int .i64 x.unt)∧w.cell? ⟨b,off+n*5+4,none⟩=some (.slice x.kids.addr x.kids.len x.kids.cap):=by
 unfold TreesW TreeW TreeAt at h
 obtain⟨A,cap,css,e,h2,h3,h4,h5,h6,h7⟩:=h
 injection e with _ e
 injection e with _ e
 injection e with _ e
 injection e with _ e
 injection e with e _
 injection e with e1 e2 e3
 obtain⟨b,off,B,cp,h8,h9,h10,c0,c1,c2,c3,c4⟩:=Uz h6 h7 hn
 exact⟨⟨l[n].rule,l[n].item,l[n].frm,l[n].unt,⟨B,l[n].kids.length,cp⟩⟩,b,off,h10,e1.trans h8,h9,c0,c1,c2,c3,c4⟩
theorem RowsAt.get {X:Nat→Prop} {w:World} {L:List (List TreeV)} {s:KidS} (h:RowsAt X w L s) {n:Nat} (hn:n<L.length) :
  ∃(r:KidS) (b off:Nat),TreesW X w L[n] r∧s.addr=some ⟨b,off,none⟩∧b<w.heap.size∧¬X b∧w.cell? ⟨b,off+n,none⟩=some (.slice r.addr r.len r.cap):=by
 obtain⟨rs,h1,h2,h3⟩:=h.rows
 have hn':n<rs.length:=by omega
 obtain⟨b,off,he,hb,hc⟩:=h2.elem (f:=slC) (fun _=>rfl) (by decide) hn'
 obtain⟨b',off',he',hx⟩:=h.inp (by have:=h.len;omega)
 rw[he] at he'
 cases he'
 have:=hc 0 (.slice rs[n].addr rs[n].len rs[n].cap) rfl
 rw[Nat.mul_one,Nat.add_zero] at this
 exact⟨rs[n],b,off,h3 n hn hn',he,hb,hx,this⟩
theorem GrewBy.rows {o:Option Nat} {W V:World} {v:Value} (h:GrewBy o W V v) {X:Nat→Prop} (hX:∀b,o=some b→X b) {L:List (List TreeV)} {s:KidS} (ht:RowsAt X W L s):RowsAt X V L s:=by
 obtain⟨rs,h1,h2,h3⟩:=ht.rows
 refine⟨ht.len,ht.cap,ht.max,ht.inp,rs,h1,?_,fun j hj hj'=>(h.trees hX (h3 j hj hj')).weaken fun b hb => .inl hb⟩
 exact Xrq (P:=fun b=>¬X b) (n:=s.len) (fun b hb hlt=>h.only.block b hlt fun e=>hb (hX b e)) h.only.size ht.inp (fun h0=>by
  have:rs=[]:=List.eq_nil_of_length_eq_zero (by have:=ht.len;omega)
  rw[this];rfl) h2
/-! ### the rows themselves -/
theorem KidsW.ext {X:Nat→Prop} {base:Nat} {v:Value} {kids:List TreeV} {ks:List TreeG} {W W':World} (h:KidsW X base v kids ks W) (hb:Below W.heap.size W W'):KidsW X base v kids ks W' :=
 h.keep hb.size fun b hh=>hb.block b (by
  rcases hh with hh|⟨⟨_,_,hk⟩,_⟩
  ·exact(h.own.lt b hh).2
  ·exact Xc hk)
theorem KidsW.push {X:Nat→Prop} {base:Nat} {v:Value} {kids:List TreeV} {ks:List TreeG} {W:World} (h:KidsW X base v kids ks W) (hb:base≤W.heap.size) {t:TreeV} {x:TreeG} (ht:TreeW (fun b=>X b∨v.ownBlock=some b) W t x) (hl:kids.length≤100000) :
  ∃A n c V',(Builtin.append_ #[30,30] 30 #[v,.slice (some ⟨W.heap.size,0,none⟩) 1 1]).run Tryz.prog (W.alloc (.cells #[.int .i64 x.rule,.int .i64 x.item,.int .i64 x.frm,.int .i64 x.unt,.slice x.kids.addr x.kids.len x.kids.cap] 37)) = .ok (.slice A n c) V'∧KidsW X base (.slice A n c) (kids++[t]) (ks++[x]) V'∧(W.alloc (.cells #[.int .i64 x.rule,.int .i64 x.item,.int .i64 x.frm,.int .i64 x.unt,.slice x.kids.addr x.kids.len x.kids.cap] 37)).grownBy V' v.ownBlock∧((Value.slice A n c).ownBlock=v.ownBlock∨(Value.slice A n c).ownBlock=some (W.alloc (.cells #[.int .i64 x.rule,.int .i64 x.item,.int .i64 x.frm,.int .i64 x.unt,.slice x.kids.addr x.kids.len x.kids.cap] 37)).heap.size):=by
 obtain⟨i0,z0,hi0,hz0,hz1,hz2,hzs⟩:=Xfl
 have hlen:=h.len
 have hb1:Below W.heap.size W (W.alloc (.cells #[.int .i64 x.rule,.int .i64 x.item,.int .i64 x.frm,.int .i64 x.unt,.slice x.kids.addr x.kids.len x.kids.cap] 37)):=Xe (Below.refl _ _) _
 obtain⟨v',V',hrun,ho,hg,hat⟩:=Xa8 (P:=Tryz.prog) (w:=W.alloc (.cells #[.int .i64 x.rule,.int .i64 x.item,.int .i64 x.frm,.int .i64 x.unt,.slice x.kids.addr x.kids.len x.kids.cap] 37)) base 30 30 37 i0 z0 5 56 Tryz.underlying30 hi0 hz0 hz1 hz2 hzs (by decide) v ks.length (ks.flatMap TreeG.cells) (h.ext hb1).own (some ⟨W.heap.size,0,none⟩) 1 1 x.cells rfl (Yw (World.alloc_heap_new _ _) (by simp[TreeG.cells])) (Xwa x) (by unfold maxLen;omega) (by omega) (by simp;omega)
 have ho':OwnK V' base v' (ks++[x]):=OwnL.snoc (f:=TreeG.cells) x ho
 have hK:=(h.ext hb1).snoc (TreeW.ext ht hb1) ho' hg hat
 obtain⟨A,c,rfl,_⟩:=ho'.form (by decide)
 exact⟨A,_,c,V',hrun,hK,hg,hat⟩
theorem KidsW.trees {X:Nat→Prop} {base:Nat} {v:Value} {kids:List TreeV} {ks:List TreeG} {W:World} (h:KidsW X base v kids ks W) (hX:∀b,X b→b<base):∃A c,v = .slice A kids.length c∧TreesW X W kids ⟨A,kids.length,c⟩:=h.tree hX 0 0 0 0
structure RowsW (X:Nat→Prop) (base:Nat) (v:Value) (L:List (List TreeV)) (rs:List KidS) (W:World):Prop where
 own:OwnL slC 30 1 W base v rs
 len:rs.length=L.length
 at_:∀(j:Nat) (h:j<L.length) (h':j<rs.length),TreesW X W L[j] rs[j]
theorem RowsW.nil (X:Nat→Prop) (base:Nat) (W:World):RowsW X base (.slice none 0 0) [] [] W:=⟨OwnL.nil _ _ _ _ _,rfl,fun j h=>by simp at h⟩
theorem RowsW.ext {X:Nat→Prop} {base:Nat} {v:Value} {L:List (List TreeV)} {rs:List KidS} {W W':World} (h:RowsW X base v L rs W) (hb:Below W.heap.size W W'):RowsW X base v L rs W' :=
 ⟨h.own.ext hb,h.len,fun j hj hj'=>(h.at_ j hj hj').ext hb⟩
theorem OwnS.notKid {W:World} {base:Nat} {v:Value} {rs:List KidS} (h:OwnL slC 30 1 W base v rs) {b:Nat} (hb:v.ownBlock=some b):¬KidP W b:=by
 rcases h.2 with ⟨h1,_⟩|⟨g9,c9,cur,h1,_,h3,_⟩
 ·rw[h1] at hb;cases hb
 ·rw[h1] at hb
  cases hb
  rintro⟨cs,fr,h⟩
  rw[h3] at h
  injection h with h
  injection h with _ e _
  exact absurd e (by decide)
theorem Xvv:(Tryz.prog.info? 30).map (fun i=>(i.size,i.bytes))=some (1,24):=by kernel_rfl
theorem Xvw:(Tryz.prog.info? 30).map (fun i=>i.zero.map fun z=>z.cells.size)=some (some 1):=by kernel_rfl
theorem Xvs:∃i z,Tryz.prog.info? 30=some i∧i.zero=some z∧i.size=1∧i.bytes=24∧z.cells.size=1:=by
 have h1:=Xvv
 have h2:=Xvw
 cases h:Tryz.prog.info? 30 with
 | none=>rw[h] at h1;cases h1
 | some i =>
  rw[h] at h1 h2
  simp only[Option.map_some,Option.some.injEq,Prod.mk.injEq] at h1 h2
  cases hz:i.zero with
  | none=>rw[hz] at h2;cases h2
  | some z =>
   rw[hz] at h2
   simp only[Option.map_some,Option.some.injEq] at h2
   exact⟨i,z,rfl,hz,h1.1,h1.2,h2⟩
theorem RowsW.push {X:Nat→Prop} {base:Nat} {v:Value} {L:List (List TreeV)} {rs:List KidS} {W:World} (h:RowsW X base v L rs W) (hb:base≤W.heap.size) {l:List TreeV} {s:KidS} (ht:TreesW X W l s) (hl:L.length≤100000) :
  ∃A n c V',(Builtin.append_ #[108,108] 108 #[v,.slice (some ⟨W.heap.size,0,none⟩) 1 1]).run Tryz.prog (W.alloc (.cells #[.slice s.addr s.len s.cap] 30)) = .ok (.slice A n c) V'∧RowsW X base (.slice A n c) (L++[l]) (rs++[s]) V'∧(W.alloc (.cells #[.slice s.addr s.len s.cap] 30)).grownBy V' v.ownBlock∧((Value.slice A n c).ownBlock=v.ownBlock∨(Value.slice A n c).ownBlock=some (W.alloc (.cells #[.slice s.addr s.len s.cap] 30)).heap.size):=by
 obtain⟨i0,z0,hi0,hz0,hz1,hz2,hzs⟩:=Xvs
 have hlen:=h.len
 have hb1:Below W.heap.size W (W.alloc (.cells #[.slice s.addr s.len s.cap] 30)):=Xe (Below.refl _ _) _
 have h1:=h.ext hb1
 obtain⟨v',V',hrun,ho,hg,hat⟩:=Xa8 (P:=Tryz.prog) (w:=W.alloc (.cells #[.slice s.addr s.len s.cap] 30)) base 108 108 30 i0 z0 1 24 Tryz.underlying108 hi0 hz0 hz1 hz2 hzs (by decide) v rs.length (rs.flatMap slC) h1.own (some ⟨W.heap.size,0,none⟩) 1 1 (slC s) rfl (Yw (World.alloc_heap_new _ _) (by simp)) (by intro u hu;simp at hu;subst hu;rfl) (by unfold maxLen;omega) (by omega) (by simp;omega)
 have ho':OwnL slC 30 1 V' base v' (rs++[s]):=OwnL.snoc (f:=slC) s ho
 have hkeep:∀(m:List TreeV) (r:KidS),TreesW X (W.alloc (.cells #[.slice s.addr s.len s.cap] 30)) m r→TreesW X V' m r:=fun m r hm =>
  TreeW.keep hm (fun b hk _=>hg.block b (by obtain⟨_,_,hk⟩:=hk;exact Xc hk) fun e=>OwnS.notKid h1.own e.symm hk) hg.size fun _ _ hx=>hx
 obtain⟨A,c,rfl,_⟩:=ho'.form (by decide)
 refine⟨A,_,c,V',hrun,⟨ho',by rw[List.length_append,List.length_append,hlen];rfl,fun j hj hj'=>?_⟩,hg,hat⟩
 by_cases hjl:j<L.length
 ·rw[List.getElem_append_left hjl,List.getElem_append_left (by omega)]
  exact hkeep _ _ (h1.at_ j hjl (by omega))
 ·obtain rfl:j=L.length:=by rw[List.length_append] at hj;simp at hj;omega
  rw[List.getElem_append_right (Nat.le_refl _),List.getElem_append_right (by omega)]
  simp only[Nat.sub_self,hlen,List.getElem_cons_zero]
  exact hkeep _ _ (ht.ext hb1)
theorem RowsW.rows {X:Nat→Prop} {base:Nat} {v:Value} {L:List (List TreeV)} {rs:List KidS} {W:World} (h:RowsW X base v L rs W) (hX:∀b,X b→b<base):∃A c,v = .slice A L.length c∧RowsAt X W L ⟨A,L.length,c⟩:=by
 have hlen:=h.len
 obtain⟨A,c,rfl,hr,hn⟩:=h.own.form (by decide)
 have hb:rs.length≤c∧c≤9223372036854775807∧(0<rs.length→∃b off,A=some ⟨b,off,none⟩∧base≤b):=by
  rcases h.own.2 with ⟨h1,h2⟩|⟨g9,c9,cur,h1,h2,h3,h4,h5,_⟩
  ·injection h1 with _ e2 e3
   exact⟨by omega,by omega,fun h0=>by omega⟩
  ·injection h1 with e1 _ e3
   subst e3
   exact⟨h4,by unfold maxLen at h5;omega,fun _=>⟨g9,0,e1,h2⟩⟩
 rw[hlen] at hb
 refine⟨A,c,by rw[hlen],rfl,hb.1,hb.2.1,fun h0=>?_,rs,hlen,hr,h.at_⟩
 obtain⟨b,off,e,h1⟩:=hb.2.2 h0
 exact⟨b,off,e,fun hx=>by have:=hX b hx;omega⟩
end Go.Proofs.YtolpbjjapodmnaaGreatDoor
namespace Go.Proofs.YtolpbjjapodmnaaGreatDoor
open Go.RowKit Go.Han
attribute [local irreducible] wpStill wpQuiet
set_option maxRecDepth 100000
def AllRP (l:List Dv) (w:World) (e:Ending) (w':World):Prop:=∃(s:KidS) (ok:Bool),e = .returned (.tuple #[.slice s.addr s.len s.cap,.bool ok])∧Below w.heap.size w w'∧(ok=true→TreesW (fun b=>b<w.heap.size) w' (l.map (·.2)) s∧l.length≤200)
def LayRP (l:List Dk) (w:World) (e:Ending) (w':World):Prop:=∃(s:KidS) (ok:Bool),e = .returned (.tuple #[.slice s.addr s.len s.cap,.bool ok])∧Below w.heap.size w w'∧(ok=true→RowsAt (fun b=>b<w.heap.size) w' (l.map (·.2)) s∧l.length≤200)
theorem LayRP.fail {l:List Dk} {w w':World} (h:Below w.heap.size w w'):LayRP l w (.returned (.tuple #[.slice none 0 0,.bool false])) w':=⟨⟨none,0,0⟩,false,rfl,h,fun h=>by cases h⟩
theorem LayRP.none_ {l:List Dk} {w w':World} (h:Below w.heap.size w w') (hl:l=[]):LayRP l w (.returned (.tuple #[.slice none 0 0,.bool true])) w':=by
 subst hl
 exact⟨⟨none,0,0⟩,true,rfl,h,fun _=>⟨RowsAt.zero _ _,by simp⟩⟩
structure LayE (g:Gram) (its:SlS ItemG) (w:World):Prop where
 g:g.lies w
 its:ItemsAt w its
theorem LayE.ext {g:Gram} {its:SlS ItemG} {w w':World} (h:LayE g its w) (hb:Below w.heap.size w w'):LayE g its w':=⟨h.g.ext hb,h.its.ext hb⟩
def AllC (g:Gram) (its:SlS ItemG) (c:Int) (u v:Nat):Prop:=∀V,LayE g its V→Calls Tryz.prog 17 #[.agg #[.string g.name,.slice g.cats.addr g.cats.xs.length g.cats.cap,.string g.start,.int .i64 g.startNo,.slice g.entries.addr g.entries.xs.length g.entries.cap,.slice g.rules.addr g.rules.xs.length g.rules.cap],.slice its.addr its.xs.length its.cap,.int .i64 c,.int .i64 (u:Int),.int .i64 (v:Int)] V (AllRP (derG g its.xs c u v) V)
def LayC (g:Gram) (its:SlS ItemG) (ps:List PartG):Prop:=∀(A:Option Addr) (cp i k:Nat) (w:World),ps.length≤4→i≤k→k≤16→LayE g its w→SlS.lies PartG.cells w ⟨A,cp,ps⟩ →
 (∀q∈ps,q.text.size=0→∀u v,i≤u→u<v→v≤k→(v-u)+ps.length≤(k-i)+1→AllC g its q.no u v) →
 Calls Tryz.prog 64 #[.agg #[.string g.name,.slice g.cats.addr g.cats.xs.length g.cats.cap,.string g.start,.int .i64 g.startNo,.slice g.entries.addr g.entries.xs.length g.entries.cap,.slice g.rules.addr g.rules.xs.length g.rules.cap],.slice its.addr its.xs.length its.cap,.slice A ps.length cp,.int .i64 (i:Int),.int .i64 (k:Int)] w (LayRP (Ye (Xm its.xs) (derG g its.xs) ps i k) w)
theorem Xv4 (X:Nat→Prop) (V:World) (b:Nat) (h:V.heap[b]? = some (.cells #[.slice none 0 0] 30 (0,0))) (hb:¬X b):RowsAt X V [[]] ⟨some ⟨b,0,none⟩,1,1⟩ :=
 ⟨rfl,Nat.le_refl _,by show (1:Nat)≤_;omega,fun _=>⟨b,0,rfl,hb⟩,[⟨none,0,0⟩],rfl,Yw h (by simp),fun j hj hj'=>by
  obtain rfl:j=0:=by simpa using hj
  exact TreesW.zero X V⟩
set_option maxHeartbeats 4000000 in
theorem Xwb (g:Gram) (its:SlS ItemG):LayC g its []:=by
 intro A cp i k w _ hik hk hE hp _
 obtain⟨W1,hW1⟩:∃W1,w.alloc (.cells #[.string g.name,.slice g.cats.addr g.cats.xs.length g.cats.cap,.string g.start,.int .i64 g.startNo,.slice g.entries.addr g.entries.xs.length g.entries.cap,.slice g.rules.addr g.rules.xs.length g.rules.cap] 26)=W1:=⟨_,rfl⟩
 have HB:=Xa (Yn hW1)
 have Hs:Hid (W1.heap.size=w.heap.size+1):=by show _=_;rw[← hW1];simp
 clear hE hp
 rw[List.length_nil]
 by_cases h:i=k
 ·subst h
  have g1:((i:Int) == (i:Int))=true:=by simp
  obtain⟨W2,hW2⟩:∃v,W1.alloc (.cells #[.slice none 0 0] 30)=v:=⟨_,rfl⟩
  have HB2:=Xa (Xb HB.out (Yn hW2))
  have HN:=Xa (Yv hW2)
  go_enter Tryz.func64,Tryz.ntmps64
  go_wp2_with fail
  refine bodyPost_ret (v:=.tuple #[.slice (some ⟨W1.heap.size,0,none⟩) 1 1,.bool true]) (by simp[results,Tryz.results64,go_sem]) rfl ⟨⟨some ⟨W1.heap.size,0,none⟩,1,1⟩,true,rfl,HB2.out,fun _=>⟨?_,?_⟩⟩
  ·unfold Ye
   rw[if_pos rfl]
   exact Xv4 _ _ _ HN.out (by have:=Hs.out;omega)
  ·unfold Ye
   simp
 ·have g1:((i:Int) == (k:Int))=false:=by simp;omega
  have HK:Hid (Ye (Xm its.xs) (derG g its.xs) [] i k=[]):=by show _=_;unfold Ye;rw[if_neg h]
  clear h
  go_enter Tryz.func64,Tryz.ntmps64
  go_wp2_with fail
  exact bodyPost_ret (v:=.tuple #[.slice none 0 0,.bool true]) (by simp[results,Tryz.results64,go_sem]) rfl (LayRP.none_ HB.out HK.out)
/-! ### the parts behind the first one -/
theorem Xvi (A:Option Addr) (cp n:Nat) (W:World) (h:1≤n) :
  (Instr.slice 76 (.slice A n cp) (some (.int .i64 1)) none none).run Tryz.prog W = .ok (.slice (subA A cp 1 3) (n-1) (cp-1)) W:=by
 have e:=run_slice_l (P:=Tryz.prog) (w:=W) 76 A n cp (by rw[Tryz.underlying76];rfl) .i64 (1:Int) (by omega) (by omega)
 rw[e]
 have h3:(Go.sizeOf (Tryz.prog.elem 76)).run Tryz.prog W = .ok 3 W:=by kernel_rfl
 rw[h3]
 rfl
theorem Xvg {w:World} {A:Option Addr} {cp:Nat} {q:PartG} {ps:List PartG} (h:SlS.lies PartG.cells w ⟨A,cp,q :: ps⟩):SlS.lies PartG.cells w ⟨subA A cp 1 3,cp-1,ps⟩:=by
 have hc:=h.cap
 simp only[List.length_cons] at hc
 refine⟨?_,by show ps.length≤cp-1;omega,by have:=h.max;show cp-1≤_;simp only at this;omega,fun h0=>?_⟩
 ·have:=Rd.cut (f:=PartG.cells) (s:=3) (by decide) PartG.size_cells h.rd (cp:=cp) (i:=1) (n:=ps.length) (by simp;omega) (by simpa using hc)
  simpa using this
 ·show ps=[]
  unfold subA at h0
  split at h0
  ·have:=h.nil h0
   cases this
  ·cases A with
   | none=>have:=h.nil rfl;cases this
   | some a=>cases h0
end Go.Proofs.YtolpbjjapodmnaaGreatDoor
