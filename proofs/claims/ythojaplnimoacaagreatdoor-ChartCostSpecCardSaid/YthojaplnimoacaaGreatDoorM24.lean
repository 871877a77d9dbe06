/- Texts of this claim, one after the other: Law29b, R26n, R29f, R29g. -/
import Derived.Test.YthojaplnimoacaaGreatDoorM23
import Derived.Test.YthojaplnimoacaaGreatDoorM6
import Derived.Test.YthojaplnimoacaaGreatDoorM11
import Derived.Test.YthojaplnimoacaaGreatDoorM3
import Derived.Test.YthojaplnimoacaaGreatDoorM21
import Derived.Test.YthojaplnimoacaaGreatDoorM9
import Derived.Test.YthojaplnimoacaaGreatDoorM10
import Derived.Test.YthojaplnimoacaaGreatDoorM15
namespace Go.Proofs.YthojaplnimoacaaGreatDoor
open Go.RowKit Go.Han
attribute [local irreducible] wpStill wpQuiet
set_option maxRecDepth 100000
theorem Q4 {W:World} {b n:Nat} {cs:Array Value} {its:List ItemG} (h:W.heap[b]? = some (.cells cs 47 (0,0))) (hc:cs.toList=its.flatMap ItemG.cells) (hl:∀x∈its,x.tgt.lies W) (hn:its.length=n) (hm:n≤1024):ItemsAt W ⟨some ⟨b,0,none⟩,n,its⟩ :=
 ⟨⟨Yw h hc,by show its.length≤n;omega,by show n≤_;omega,fun h=>by cases h⟩,hl⟩
theorem Qe (w:World):ItemsAt w ⟨none,0,[]⟩:=⟨⟨Rd.nil _ _,Nat.le_refl _,by show (0:Nat)≤_;omega,fun _=>rfl⟩,fun x hx=>(by cases hx)⟩
def anyB (_:Nat):Prop:=True
theorem Xcd (w:World) (P:Nat→Prop) (j:Nat) (i k:Int):TreeAt w P (Zt j i k) [.int .i64 (-1),.int .i64 j,.int .i64 i,.int .i64 k,.slice none 0 0]:=by
 unfold Zt TreeAt
 exact⟨none,0,[],rfl,Nat.le_refl _,by omega,fun _=>rfl,fun h=>by simp at h,.inl rfl,rfl⟩
theorem Xmk {w:World} {b n:Nat} {cs:Array Value} {l:List TreeV} {css:List (List Value)} (r j i k:Int) (h:w.heap[b]? = some (.cells cs 32 (0,0))) (hn:l.length=n) (hm:n≤1024) (hc:cs.toList=css.flatten) (hk:KidsAt w anyB l css) :
  TreeAt w anyB (.node r j i k l) [.int .i64 r,.int .i64 j,.int .i64 i,.int .i64 k,.slice (some ⟨b,0,none⟩) n n]:=by
 subst hn
 unfold TreeAt
 exact⟨some ⟨b,0,none⟩,l.length,css,rfl,Nat.le_refl _,by omega,fun h=>(by cases h),fun _=>⟨b,0,rfl,trivial⟩,Yw h hc,hk⟩
theorem Xi8 (P:Nat→Prop) {w:World} {b n:Nat} {cs:Array Value} {l:List TreeV} {css:List (List Value)} (r j i k:Int) (h:w.heap[b]? = some (.cells cs 32 (0,0))) (hP:P b) (hn:l.length=n) (hm:n≤1024) (hc:cs.toList=css.flatten) (hk:KidsAt w P l css) :
  TreeAt w P (.node r j i k l) [.int .i64 r,.int .i64 j,.int .i64 i,.int .i64 k,.slice (some ⟨b,0,none⟩) n n]:=by
 subst hn
 unfold TreeAt
 exact⟨some ⟨b,0,none⟩,l.length,css,rfl,Nat.le_refl _,by omega,fun h=>(by cases h),fun _=>⟨b,0,rfl,hP⟩,Yw h hc,hk⟩
theorem Xfe {w:World} {P:Nat→Prop} {t u:TreeV} {cs ds:List Value} (ht:TreeAt w P t cs) (hu:TreeAt w P u ds):KidsAt w P [t,u] [cs,ds]:=by
 unfold KidsAt
 refine⟨cs,[ds],rfl,ht,?_⟩
 unfold KidsAt
 exact⟨ds,[],rfl,hu,by unfold KidsAt;rfl⟩
theorem Xp4 {w:World} {P:Nat→Prop} {t:TreeV} {cs:List Value} (ht:TreeAt w P t cs):KidsAt w P [t] [cs]:=by
 unfold KidsAt
 exact⟨cs,[],rfl,ht,by unfold KidsAt;rfl⟩
theorem Xcj {v:World} {k1 k2 bk:Nat} {c1 c2:Array Value} (h1:v.heap[k1]? = some (.cells c1 32 (0,0))) (e1:c1=#[.int .i64 (-1),.int .i64 0,.int .i64 0,.int .i64 1,.slice none 0 0,.int .i64 2,.int .i64 (-1),.int .i64 2,.int .i64 5,.slice (some ⟨bk,0,none⟩) 2 2])
  (h2:v.heap[k2]? = some (.cells c2 32 (0,0))) (e2:c2=#[.int .i64 2,.int .i64 (-1),.int .i64 0,.int .i64 5,.slice (some ⟨k1,0,none⟩) 2 2]) (hb:TreeAt v anyB Xj9 [.int .i64 2,.int .i64 (-1),.int .i64 2,.int .i64 5,.slice (some ⟨bk,0,none⟩) 2 2]) :
  TreeAt v anyB Xab [.int .i64 1,.int .i64 (-1),.int .i64 0,.int .i64 5,.slice (some ⟨k2,0,none⟩) 1 1]:=by
 subst e1 e2
 exact Xmk 1 (-1) 0 5 h2 rfl (by decide) rfl (Xp4 (Xmk 2 (-1) 0 5 h1 rfl (by decide) rfl (Xfe (Xcd v anyB 0 0 1) hb)))
def RightF (w0:World) (y:(Nat→Value)×Nat) (v:World):Prop :=
 ∃k2,v.heap[y.2]? = some (.cells #[.int .i64 1,.int .i64 (-1),.int .i64 0,.int .i64 5,.slice (some ⟨k2,0,none⟩) 1 1] 32 (0,0))∧TreeAt v anyB Xab [.int .i64 1,.int .i64 (-1),.int .i64 0,.int .i64 5,.slice (some ⟨k2,0,none⟩) 1 1]∧Below w0.heap.size w0 v
structure Ex29 (g:Gram):Prop where
 short:g.short
 two:∀x y z:ItemG,(∃a,x=Vp a 1 0 3)→(∃a,y=Vp a 2 1 4)→(∃a,z=Vp a 1 0 2)→Zk g [x,y,z] 2=(Xby,7,true,0)∧Vy g [x,y,z] 2=(2,0)∧Vv g [x,y,z] 2 Xby=(7,true,0)
 long:∀x y z u v:ItemG,(∃a,x=Vp a 1 0 0)→(∃a,y=undI a 1)→(∃a,z=Vp a 1 2 0)→(∃a,u=undI a 3)→(∃a,v=Vp a 1 4 0)→Zk g [x,y,z,u,v] 5=(Xab,4,true,0)∧Vy g [x,y,z,u,v] 5=(2,0)
 none1:Zk g [] 1=(Un,0,false,0)∧Vy g [] 1=(0,0)∧Vv g [] 1 Un=(0,false,0)
 none17:Zk g [] 17=(Un,0,false,1)
 odd:∀x:ItemG,(∃a,x=Vp a 3 0 0)→Vy g [x] 1=(0,280)
theorem Xkl (A:Nat→Option Addr):Ex29 (Z4 A):=by
 refine⟨Xjj A,?_,?_,⟨by kernel_rfl,by kernel_rfl,by kernel_rfl⟩,by kernel_rfl,?_⟩
 ·rintro x y z ⟨a,rfl⟩ ⟨b,rfl⟩ ⟨c,rfl⟩
  exact⟨by kernel_rfl,by kernel_rfl,by kernel_rfl⟩
 ·rintro x y z u v ⟨a,rfl⟩ ⟨b,rfl⟩ ⟨c,rfl⟩ ⟨d,rfl⟩ ⟨e,rfl⟩
  exact⟨by kernel_rfl,by kernel_rfl⟩
 ·rintro x ⟨a,rfl⟩
  kernel_rfl
theorem Xb4 {g:Gram} {its:SlS ItemG} {n:Int} {w:World} {t:TreeV} {c:Int} {ok:Bool} {e:Int} (hT:TabsG w) (hg:g.lies w) (hs:g.short) (hi:ItemsAt w its) (h:Zk g its.xs n=(t,c,ok,e)) :
  Calls Tryz.prog 17 #[.agg #[.string g.name,.slice g.cats.addr g.cats.xs.length g.cats.cap,.string g.start,.int .i64 g.startNo,.slice g.entries.addr g.entries.xs.length g.entries.cap,.slice g.rules.addr g.rules.xs.length g.rules.cap],.slice its.addr its.xs.length its.cap,.int .i64 n] w fun E w'=>∃x:TreeG,E = .returned (.tuple #[.agg #[.int .i64 x.rule,.int .i64 x.item,.int .i64 x.frm,.int .i64 x.unt,.slice x.kids.addr x.kids.len x.kids.cap],.int .i64 c,.bool ok,.int .i64 e])∧TreeW (fun _=>False) w' t x∧Below w.heap.size w w':=by
 have hb:=Xia g its n w hT hg hs hi
 unfold Xeh at hb
 rw[h] at hb
 refine hb.mono ?_
 rintro E w' ⟨x,he,ht,hB⟩
 exact⟨x,he,ht.keep (fun _ _ _=>rfl) (Nat.le_refl _) (fun _ _ _ h=>h),hB⟩
theorem Xb5 {g:Gram} {its:SlS ItemG} {n:Int} {w:World} {c e:Int} (hT:TabsG w) (hg:g.lies w) (hs:g.short) (hi:ItemsAt w its) (h:Vy g its.xs n=(c,e)) :
  Calls Tryz.prog 23 #[.agg #[.string g.name,.slice g.cats.addr g.cats.xs.length g.cats.cap,.string g.start,.int .i64 g.startNo,.slice g.entries.addr g.entries.xs.length g.entries.cap,.slice g.rules.addr g.rules.xs.length g.rules.cap],.slice its.addr its.xs.length its.cap,.int .i64 n] w fun E w'=>E = .returned (.tuple #[.int .i64 c,.int .i64 e])∧Below w.heap.size w w':=by
 have hb:=Xms g its n w hT hg hs hi
 unfold Xgi at hb
 rw[h] at hb
 exact hb
theorem Xme {g:Gram} {its:SlS ItemG} {n:Int} {P:Nat→Prop} {t:TreeV} {x:TreeG} {w:World} {c:Int} {ok:Bool} {e:Int} (hT:TabsG w) (hg:g.lies w) (hs:g.short) (hi:ItemsAt w its) (hP:∀b,P b→b<w.heap.size) (ht:TreeAt w P t [.int .i64 x.rule,.int .i64 x.item,.int .i64 x.frm,.int .i64 x.unt,.slice x.kids.addr x.kids.len x.kids.cap]) (hf:Z6 t) (h:Vv g its.xs n t=(c,ok,e)) :
  Calls Tryz.prog 21 #[.agg #[.string g.name,.slice g.cats.addr g.cats.xs.length g.cats.cap,.string g.start,.int .i64 g.startNo,.slice g.entries.addr g.entries.xs.length g.entries.cap,.slice g.rules.addr g.rules.xs.length g.rules.cap],.slice its.addr its.xs.length its.cap,.int .i64 n,.agg #[.int .i64 x.rule,.int .i64 x.item,.int .i64 x.frm,.int .i64 x.unt,.slice x.kids.addr x.kids.len x.kids.cap]] w fun E w'=>E = .returned (.tuple #[.int .i64 c,.bool ok,.int .i64 e])∧Below w.heap.size w w':=by
 have hb:=Xo7 g its n P t x w hT hg hs hi hP ht hf
 unfold Xej at hb
 rw[h] at hb
 exact hb
set_option maxHeartbeats 16000000 in
theorem Xlu (w:World) (hT:TabsG w):Calls Tryz.prog 15 #[] w fun e w'=>e = .returned (.bool true)∧Below w.heap.size w w':=by
 go_enter Tryz.func15,Tryz.ntmps15
 go_wp2_with fail
 refine(Xji _).mono ?_
 rintro e w1 ⟨g,rfl,hgl,hb1,A,hgA⟩
 have hex:Ex29 g:=by rw[hgA];exact Xkl A
 have Hex:=Xa hex
 obtain⟨w2,hw⟩:∃v,w1.alloc (.cells #[.string g.name,.slice g.cats.addr g.cats.xs.length g.cats.cap,.string g.start,.int .i64 g.startNo,.slice g.entries.addr g.entries.xs.length g.entries.cap,.slice g.rules.addr g.rules.xs.length g.rules.cap] 26)=v:=⟨_,rfl⟩
 have hb2:=Yn hw
 have HK:=Xa (Yv hw)
 have HT:=Xa (hT.ext (Xb hb1 hb2))
 have HG:=Xa (hgl.ext hb2)
 have HB:=Xa (Xb hb1 hb2)
 obtain⟨gb,hgb⟩:∃gb,w1.heap.size=gb:=⟨_,rfl⟩
 rw[hgb] at HK
 clear hT hgl hb1 hb2 hex hgA
 go_wp2_with fail
 clear hw hgb
 refine(Zg 1 0 3 w2 (by decide)).mono ?_
 rintro e w3 ⟨x1,rfl,hx1,hb,ex1⟩
 replace HK:=Xa (Xh hb HK.out)
 replace HT:=Xa (HT.out.ext hb)
 replace HG:=Xa (HG.out.ext hb)
 replace HB:=Xa (Xb HB.out hb)
 have Hx1:=Xa hx1
 have Ex1:=Xa ex1
 clear hb hx1 ex1
 go_wp2_with fail
 refine(Zg 2 1 4 w3 (by decide)).mono ?_
 rintro e w4 ⟨x2,rfl,hx2,hb,ex2⟩
 replace HK:=Xa (Xh hb HK.out)
 replace HT:=Xa (HT.out.ext hb)
 replace HG:=Xa (HG.out.ext hb)
 replace HB:=Xa (Xb HB.out hb)
 replace Hx1:=Xa (StrS.lies.ext Hx1.out hb)
 have Hx2:=Xa hx2
 have Ex2:=Xa ex2
 clear hb hx2 ex2
 go_wp2_with fail
 refine(Zg 1 0 2 w4 (by decide)).mono ?_
 rintro e w5 ⟨x3,rfl,hx3,hb,ex3⟩
 replace HK:=Xa (Xh hb HK.out)
 replace HT:=Xa (HT.out.ext hb)
 replace HG:=Xa (HG.out.ext hb)
 replace HB:=Xa (Xb HB.out hb)
 replace Hx1:=Xa (StrS.lies.ext Hx1.out hb)
 replace Hx2:=Xa (StrS.lies.ext Hx2.out hb)
 have Hx3:=Xa hx3
 have Ex3:=Xa ex3
 clear hb hx3 ex3
 obtain⟨w6,hw⟩:∃v,w5.alloc (.cells #[.int .i64 x1.cat,.int .i64 x1.frm,.int .i64 x1.unt,.int .i64 x1.cost,.slice x1.tgt.addr x1.tgt.xs.length x1.tgt.cap,.int .i64 x1.term,.int .i64 x2.cat,.int .i64 x2.frm,.int .i64 x2.unt,.int .i64 x2.cost,.slice x2.tgt.addr x2.tgt.xs.length x2.tgt.cap,.int .i64 x2.term,.int .i64 x3.cat,.int .i64 x3.frm,.int .i64 x3.unt,.int .i64 x3.cost,.slice x3.tgt.addr x3.tgt.xs.length x3.tgt.cap,.int .i64 x3.term] 47)=v:=⟨_,rfl⟩
 have hb:=Yn hw
 replace HK:=Xa (Xh hb HK.out)
 replace HT:=Xa (HT.out.ext hb)
 replace HG:=Xa (HG.out.ext hb)
 replace HB:=Xa (Xb HB.out hb)
 replace Hx1:=Xa (StrS.lies.ext Hx1.out hb)
 replace Hx2:=Xa (StrS.lies.ext Hx2.out hb)
 replace Hx3:=Xa (StrS.lies.ext Hx3.out hb)
 have HItwo:Hid (ItemsAt w6 ⟨some ⟨w5.heap.size,0,none⟩,3,[x1,x2,x3]⟩):=Q4 (by rw[← hw];exact World.alloc_heap_new _ _) rfl (fun q hq=>(by
  simp only[List.mem_cons,List.not_mem_nil,or_false] at hq
  rcases hq with rfl|rfl|rfl
  ·exact Hx1.out
  ·exact Hx2.out
  ·exact Hx3.out)) rfl (by decide)
 have HEtwo:=Xa (Hex.out.two x1 x2 x3 Ex1.out Ex2.out Ex3.out)
 obtain⟨btwo,hbn⟩:∃b,w5.heap.size=b:=⟨_,rfl⟩
 rw[hbn] at HItwo
 clear Hx1 Hx2 Hx3 Ex1 Ex2 Ex3 hb
 have hkc:=HK.out
 have c0:=gblk hkc 0
 have c1:=gblk hkc 1
 have c2:=gblk hkc 2
 have c3:=gblk hkc 3
 have c4:=gblk hkc 4
 have c5:=gblk hkc 5
 clear hkc
 go_wp2_with fail
 clear hw hbn c0 c1 c2 c3 c4 c5
 refine(Xb4 (its:=⟨some ⟨btwo,0,none⟩,3,[x1,x2,x3]⟩) (n:=2) HT.out HG.out Hex.out.short (HItwo.out) (HEtwo.out.1)).mono ?_
 rintro e w7 ⟨t1,rfl,ht1,hb⟩
 replace HK:=Xa (Xh hb HK.out)
 replace HT:=Xa (HT.out.ext hb)
 replace HG:=Xa (HG.out.ext hb)
 replace HB:=Xa (Xb HB.out hb)
 replace HItwo:=Xa (HItwo.out.ext hb)
 have Ht1:=Xa ht1
 clear hb ht1
 obtain⟨w8,hw⟩:∃v,w7.alloc (.cells #[.int .i64 t1.rule,.int .i64 t1.item,.int .i64 t1.frm,.int .i64 t1.unt,.slice t1.kids.addr t1.kids.len t1.kids.cap] 32)=v:=⟨_,rfl⟩
 have hb:=Yn hw
 replace HK:=Xa (Xh hb HK.out)
 replace HT:=Xa (HT.out.ext hb)
 replace HG:=Xa (HG.out.ext hb)
 replace HB:=Xa (Xb HB.out hb)
 replace HItwo:=Xa (HItwo.out.ext hb)
 replace Ht1:=Xa (Ht1.out.ext hb)
 have HBt1:=Xa (Yv hw)
 obtain⟨bt1,hbn⟩:∃b,w7.heap.size=b:=⟨_,rfl⟩
 rw[hbn] at HBt1
 clear hb
 have hkc:=HK.out
 have c0:=gblk hkc 0
 have c1:=gblk hkc 1
 have c2:=gblk hkc 2
 have c3:=gblk hkc 3
 have c4:=gblk hkc 4
 have c5:=gblk hkc 5
 clear hkc
 go_wp2_with fail
 clear hw hbn c0 c1 c2 c3 c4 c5
 refine(Xb5 (its:=⟨some ⟨btwo,0,none⟩,3,[x1,x2,x3]⟩) (n:=2) HT.out HG.out Hex.out.short (HItwo.out) (HEtwo.out.2.1)).mono ?_
 rintro e w9 ⟨rfl,hb⟩
 replace HK:=Xa (Xh hb HK.out)
 replace HT:=Xa (HT.out.ext hb)
 replace HG:=Xa (HG.out.ext hb)
 replace HB:=Xa (Xb HB.out hb)
 replace HItwo:=Xa (HItwo.out.ext hb)
 replace Ht1:=Xa (Ht1.out.ext hb)
 replace HBt1:=Xa (Xh hb HBt1.out)
 clear hb
 go_wp2_with fail
 refine(Zg 1 0 0 w9 (by decide)).mono ?_
 rintro e w10 ⟨y1,rfl,hy1,hb,ey1⟩
 replace HK:=Xa (Xh hb HK.out)
 replace HT:=Xa (HT.out.ext hb)
 replace HG:=Xa (HG.out.ext hb)
 replace HB:=Xa (Xb HB.out hb)
 replace HItwo:=Xa (HItwo.out.ext hb)
 replace Ht1:=Xa (Ht1.out.ext hb)
 replace HBt1:=Xa (Xh hb HBt1.out)
 have Hy1:=Xa hy1
 have Ey1:=Xa ey1
 clear hb hy1 ey1
 go_wp2_with fail
 refine(Xhi 1 w10 (by decide)).mono ?_
 rintro e w11 ⟨y2,rfl,hy2,hb,ey2⟩
 replace HK:=Xa (Xh hb HK.out)
 replace HT:=Xa (HT.out.ext hb)
 replace HG:=Xa (HG.out.ext hb)
 replace HB:=Xa (Xb HB.out hb)
 replace HItwo:=Xa (HItwo.out.ext hb)
 replace Ht1:=Xa (Ht1.out.ext hb)
 replace HBt1:=Xa (Xh hb HBt1.out)
 replace Hy1:=Xa (StrS.lies.ext Hy1.out hb)
 have Hy2:=Xa hy2
 have Ey2:=Xa ey2
 clear hb hy2 ey2
 go_wp2_with fail
 refine(Zg 1 2 0 w11 (by decide)).mono ?_
 rintro e w12 ⟨y3,rfl,hy3,hb,ey3⟩
 replace HK:=Xa (Xh hb HK.out)
 replace HT:=Xa (HT.out.ext hb)
 replace HG:=Xa (HG.out.ext hb)
 replace HB:=Xa (Xb HB.out hb)
 replace HItwo:=Xa (HItwo.out.ext hb)
 replace Ht1:=Xa (Ht1.out.ext hb)
 replace HBt1:=Xa (Xh hb HBt1.out)
 replace Hy1:=Xa (StrS.lies.ext Hy1.out hb)
 replace Hy2:=Xa (StrS.lies.ext Hy2.out hb)
 have Hy3:=Xa hy3
 have Ey3:=Xa ey3
 clear hb hy3 ey3
 go_wp2_with fail
 refine(Xhi 3 w12 (by decide)).mono ?_
 rintro e w13 ⟨y4,rfl,hy4,hb,ey4⟩
 replace HK:=Xa (Xh hb HK.out)
 replace HT:=Xa (HT.out.ext hb)
 replace HG:=Xa (HG.out.ext hb)
 replace HB:=Xa (Xb HB.out hb)
 replace HItwo:=Xa (HItwo.out.ext hb)
 replace Ht1:=Xa (Ht1.out.ext hb)
 replace HBt1:=Xa (Xh hb HBt1.out)
 replace Hy1:=Xa (StrS.lies.ext Hy1.out hb)
 replace Hy2:=Xa (StrS.lies.ext Hy2.out hb)
 replace Hy3:=Xa (StrS.lies.ext Hy3.out hb)
 have Hy4:=Xa hy4
 have Ey4:=Xa ey4
 clear hb hy4 ey4
 go_wp2_with fail
 refine(Zg 1 4 0 w13 (by decide)).mono ?_
 rintro e w14 ⟨y5,rfl,hy5,hb,ey5⟩
 replace HK:=Xa (Xh hb HK.out)
 replace HT:=Xa (HT.out.ext hb)
 replace HG:=Xa (HG.out.ext hb)
 replace HB:=Xa (Xb HB.out hb)
 replace HItwo:=Xa (HItwo.out.ext hb)
 replace Ht1:=Xa (Ht1.out.ext hb)
 replace HBt1:=Xa (Xh hb HBt1.out)
 replace Hy1:=Xa (StrS.lies.ext Hy1.out hb)
 replace Hy2:=Xa (StrS.lies.ext Hy2.out hb)
 replace Hy3:=Xa (StrS.lies.ext Hy3.out hb)
 replace Hy4:=Xa (StrS.lies.ext Hy4.out hb)
 have Hy5:=Xa hy5
 have Ey5:=Xa ey5
 clear hb hy5 ey5
 obtain⟨w15,hw⟩:∃v,w14.alloc (.cells #[.int .i64 y1.cat,.int .i64 y1.frm,.int .i64 y1.unt,.int .i64 y1.cost,.slice y1.tgt.addr y1.tgt.xs.length y1.tgt.cap,.int .i64 y1.term,.int .i64 y2.cat,.int .i64 y2.frm,.int .i64 y2.unt,.int .i64 y2.cost,.slice y2.tgt.addr y2.tgt.xs.length y2.tgt.cap,.int .i64 y2.term,.int .i64 y3.cat,.int .i64 y3.frm,.int .i64 y3.unt,.int .i64 y3.cost,.slice y3.tgt.addr y3.tgt.xs.length y3.tgt.cap,.int .i64 y3.term,.int .i64 y4.cat,.int .i64 y4.frm,.int .i64 y4.unt,.int .i64 y4.cost,.slice y4.tgt.addr y4.tgt.xs.length y4.tgt.cap,.int .i64 y4.term,.int .i64 y5.cat,.int .i64 y5.frm,.int .i64 y5.unt,.int .i64 y5.cost,.slice y5.tgt.addr y5.tgt.xs.length y5.tgt.cap,.int .i64 y5.term] 47)=v:=⟨_,rfl⟩
 have hb:=Yn hw
 replace HK:=Xa (Xh hb HK.out)
 replace HT:=Xa (HT.out.ext hb)
 replace HG:=Xa (HG.out.ext hb)
 replace HB:=Xa (Xb HB.out hb)
 replace HItwo:=Xa (HItwo.out.ext hb)
 replace Ht1:=Xa (Ht1.out.ext hb)
 replace HBt1:=Xa (Xh hb HBt1.out)
 replace Hy1:=Xa (StrS.lies.ext Hy1.out hb)
 replace Hy2:=Xa (StrS.lies.ext Hy2.out hb)
 replace Hy3:=Xa (StrS.lies.ext Hy3.out hb)
 replace Hy4:=Xa (StrS.lies.ext Hy4.out hb)
 replace Hy5:=Xa (StrS.lies.ext Hy5.out hb)
 have HIlong:Hid (ItemsAt w15 ⟨some ⟨w14.heap.size,0,none⟩,5,[y1,y2,y3,y4,y5]⟩):=Q4 (by rw[← hw];exact World.alloc_heap_new _ _) rfl (fun q hq=>(by
  simp only[List.mem_cons,List.not_mem_nil,or_false] at hq
  rcases hq with rfl|rfl|rfl|rfl|rfl
  ·exact Hy1.out
  ·exact Hy2.out
  ·exact Hy3.out
  ·exact Hy4.out
  ·exact Hy5.out)) rfl (by decide)
 have HElong:=Xa (Hex.out.long y1 y2 y3 y4 y5 Ey1.out Ey2.out Ey3.out Ey4.out Ey5.out)
 obtain⟨blong,hbn⟩:∃b,w14.heap.size=b:=⟨_,rfl⟩
 rw[hbn] at HIlong
 clear Hy1 Hy2 Hy3 Hy4 Hy5 Ey1 Ey2 Ey3 Ey4 Ey5 hb
 have hkc:=HK.out
 have c0:=gblk hkc 0
 have c1:=gblk hkc 1
 have c2:=gblk hkc 2
 have c3:=gblk hkc 3
 have c4:=gblk hkc 4
 have c5:=gblk hkc 5
 clear hkc
 go_wp2_with fail
 clear hw hbn c0 c1 c2 c3 c4 c5
 refine(Xb4 (its:=⟨some ⟨blong,0,none⟩,5,[y1,y2,y3,y4,y5]⟩) (n:=5) HT.out HG.out Hex.out.short (HIlong.out) (HElong.out.1)).mono ?_
 rintro e w16 ⟨t2,rfl,ht2,hb⟩
 replace HK:=Xa (Xh hb HK.out)
 replace HT:=Xa (HT.out.ext hb)
 replace HG:=Xa (HG.out.ext hb)
 replace HB:=Xa (Xb HB.out hb)
 replace HItwo:=Xa (HItwo.out.ext hb)
 replace Ht1:=Xa (Ht1.out.ext hb)
 replace HBt1:=Xa (Xh hb HBt1.out)
 replace HIlong:=Xa (HIlong.out.ext hb)
 have Ht2:=Xa ht2
 clear hb ht2
 obtain⟨w17,hw⟩:∃v,w16.alloc (.cells #[.int .i64 t2.rule,.int .i64 t2.item,.int .i64 t2.frm,.int .i64 t2.unt,.slice t2.kids.addr t2.kids.len t2.kids.cap] 32)=v:=⟨_,rfl⟩
 have hb:=Yn hw
 replace HK:=Xa (Xh hb HK.out)
 replace HT:=Xa (HT.out.ext hb)
 replace HG:=Xa (HG.out.ext hb)
 replace HB:=Xa (Xb HB.out hb)
 replace HItwo:=Xa (HItwo.out.ext hb)
 replace Ht1:=Xa (Ht1.out.ext hb)
 replace HBt1:=Xa (Xh hb HBt1.out)
 replace HIlong:=Xa (HIlong.out.ext hb)
 replace Ht2:=Xa (Ht2.out.ext hb)
 have HBt2:=Xa (Yv hw)
 obtain⟨bt2,hbn⟩:∃b,w16.heap.size=b:=⟨_,rfl⟩
 rw[hbn] at HBt2
 clear hb
 have hkc:=HK.out
 have c0:=gblk hkc 0
 have c1:=gblk hkc 1
 have c2:=gblk hkc 2
 have c3:=gblk hkc 3
 have c4:=gblk hkc 4
 have c5:=gblk hkc 5
 clear hkc
 go_wp2_with fail
 clear hw hbn c0 c1 c2 c3 c4 c5
 refine(Xb5 (its:=⟨some ⟨blong,0,none⟩,5,[y1,y2,y3,y4,y5]⟩) (n:=5) HT.out HG.out Hex.out.short (HIlong.out) (HElong.out.2)).mono ?_
 rintro e w18 ⟨rfl,hb⟩
 replace HK:=Xa (Xh hb HK.out)
 replace HT:=Xa (HT.out.ext hb)
 replace HG:=Xa (HG.out.ext hb)
 replace HB:=Xa (Xb HB.out hb)
 replace HItwo:=Xa (HItwo.out.ext hb)
 replace Ht1:=Xa (Ht1.out.ext hb)
 replace HBt1:=Xa (Xh hb HBt1.out)
 replace HIlong:=Xa (HIlong.out.ext hb)
 replace Ht2:=Xa (Ht2.out.ext hb)
 replace HBt2:=Xa (Xh hb HBt2.out)
 clear hb
 have hkc:=HK.out
 have c0:=gblk hkc 0
 have c1:=gblk hkc 1
 have c2:=gblk hkc 2
 have c3:=gblk hkc 3
 have c4:=gblk hkc 4
 have c5:=gblk hkc 5
 clear hkc
 go_wp2_with fail
 clear c0 c1 c2 c3 c4 c5
 clear HIlong HElong
 refine(Xb4 (its:=⟨none,0,[]⟩) (n:=1) HT.out HG.out Hex.out.short (Qe _) (Hex.out.none1.1)).mono ?_
 rintro e w19 ⟨t3,rfl,ht3,hb⟩
 replace HK:=Xa (Xh hb HK.out)
 replace HT:=Xa (HT.out.ext hb)
 replace HG:=Xa (HG.out.ext hb)
 replace HB:=Xa (Xb HB.out hb)
 replace HItwo:=Xa (HItwo.out.ext hb)
 replace Ht1:=Xa (Ht1.out.ext hb)
 replace HBt1:=Xa (Xh hb HBt1.out)
 replace Ht2:=Xa (Ht2.out.ext hb)
 replace HBt2:=Xa (Xh hb HBt2.out)
 have Ht3:=Xa ht3
 clear hb ht3
 obtain⟨w20,hw⟩:∃v,w19.alloc (.cells #[.int .i64 t3.rule,.int .i64 t3.item,.int .i64 t3.frm,.int .i64 t3.unt,.slice t3.kids.addr t3.kids.len t3.kids.cap] 32)=v:=⟨_,rfl⟩
 have hb:=Yn hw
 replace HK:=Xa (Xh hb HK.out)
 replace HT:=Xa (HT.out.ext hb)
 replace HG:=Xa (HG.out.ext hb)
 replace HB:=Xa (Xb HB.out hb)
 replace HItwo:=Xa (HItwo.out.ext hb)
 replace Ht1:=Xa (Ht1.out.ext hb)
 replace HBt1:=Xa (Xh hb HBt1.out)
 replace Ht2:=Xa (Ht2.out.ext hb)
 replace HBt2:=Xa (Xh hb HBt2.out)
 replace Ht3:=Xa (Ht3.out.ext hb)
 have HBt3:=Xa (Yv hw)
 obtain⟨bt3,hbn⟩:∃b,w19.heap.size=b:=⟨_,rfl⟩
 rw[hbn] at HBt3
 clear hb
 have hkc:=HK.out
 have c0:=gblk hkc 0
 have c1:=gblk hkc 1
 have c2:=gblk hkc 2
 have c3:=gblk hkc 3
 have c4:=gblk hkc 4
 have c5:=gblk hkc 5
 clear hkc
 go_wp2_with fail
 clear hw hbn c0 c1 c2 c3 c4 c5
 clear Ht3 HBt3
 refine(Xb4 (its:=⟨none,0,[]⟩) (n:=17) HT.out HG.out Hex.out.short (Qe _) (Hex.out.none17)).mono ?_
 rintro e w21 ⟨t4,rfl,ht4,hb⟩
 replace HK:=Xa (Xh hb HK.out)
 replace HT:=Xa (HT.out.ext hb)
 replace HG:=Xa (HG.out.ext hb)
 replace HB:=Xa (Xb HB.out hb)
 replace HItwo:=Xa (HItwo.out.ext hb)
 replace Ht1:=Xa (Ht1.out.ext hb)
 replace HBt1:=Xa (Xh hb HBt1.out)
 replace Ht2:=Xa (Ht2.out.ext hb)
 replace HBt2:=Xa (Xh hb HBt2.out)
 have Ht4:=Xa ht4
 clear hb ht4
 obtain⟨w22,hw⟩:∃v,w21.alloc (.cells #[.int .i64 t4.rule,.int .i64 t4.item,.int .i64 t4.frm,.int .i64 t4.unt,.slice t4.kids.addr t4.kids.len t4.kids.cap] 32)=v:=⟨_,rfl⟩
 have hb:=Yn hw
 replace HK:=Xa (Xh hb HK.out)
 replace HT:=Xa (HT.out.ext hb)
 replace HG:=Xa (HG.out.ext hb)
 replace HB:=Xa (Xb HB.out hb)
 replace HItwo:=Xa (HItwo.out.ext hb)
 replace Ht1:=Xa (Ht1.out.ext hb)
 replace HBt1:=Xa (Xh hb HBt1.out)
 replace Ht2:=Xa (Ht2.out.ext hb)
 replace HBt2:=Xa (Xh hb HBt2.out)
 replace Ht4:=Xa (Ht4.out.ext hb)
 have HBt4:=Xa (Yv hw)
 obtain⟨bt4,hbn⟩:∃b,w21.heap.size=b:=⟨_,rfl⟩
 rw[hbn] at HBt4
 clear hb
 have hkc:=HK.out
 have c0:=gblk hkc 0
 have c1:=gblk hkc 1
 have c2:=gblk hkc 2
 have c3:=gblk hkc 3
 have c4:=gblk hkc 4
 have c5:=gblk hkc 5
 clear hkc
 go_wp2_with fail
 clear hw hbn c0 c1 c2 c3 c4 c5
 clear Ht4 HBt4
 refine(Xb5 (its:=⟨none,0,[]⟩) (n:=1) HT.out HG.out Hex.out.short (Qe _) (Hex.out.none1.2.1)).mono ?_
 rintro e w23 ⟨rfl,hb⟩
 replace HK:=Xa (Xh hb HK.out)
 replace HT:=Xa (HT.out.ext hb)
 replace HG:=Xa (HG.out.ext hb)
 replace HB:=Xa (Xb HB.out hb)
 replace HItwo:=Xa (HItwo.out.ext hb)
 replace Ht1:=Xa (Ht1.out.ext hb)
 replace HBt1:=Xa (Xh hb HBt1.out)
 replace Ht2:=Xa (Ht2.out.ext hb)
 replace HBt2:=Xa (Xh hb HBt2.out)
 clear hb
 have hkc:=HK.out
 have c0:=gblk hkc 0
 have c1:=gblk hkc 1
 have c2:=gblk hkc 2
 have c3:=gblk hkc 3
 have c4:=gblk hkc 4
 have c5:=gblk hkc 5
 clear hkc
 go_wp2_with fail
 clear c0 c1 c2 c3 c4 c5
 refine(Xme (its:=⟨none,0,[]⟩) (n:=1) (t:=Un) (x:=Qr) (P:=fun b=>KidP w23 b∧¬False) HT.out HG.out Hex.out.short (Qe _) (fun b hb=>(by obtain⟨⟨cs,fr,hb⟩,_⟩:=hb;exact Xc hb)) (Xb1 (fun _=>False) w23) (by unfold Un Z6 I6 Ve;decide) Hex.out.none1.2.2).mono ?_
 rintro e w24 ⟨rfl,hb⟩
 replace HK:=Xa (Xh hb HK.out)
 replace HT:=Xa (HT.out.ext hb)
 replace HG:=Xa (HG.out.ext hb)
 replace HB:=Xa (Xb HB.out hb)
 replace HItwo:=Xa (HItwo.out.ext hb)
 replace Ht1:=Xa (Ht1.out.ext hb)
 replace HBt1:=Xa (Xh hb HBt1.out)
 replace Ht2:=Xa (Ht2.out.ext hb)
 replace HBt2:=Xa (Xh hb HBt2.out)
 clear hb
 go_wp2_with fail
 refine wpIn_wide (n:=0) |>.1 ?_
 refine Y4 _ ?_ (fun _ _ h=>h)
 refine Xo (fun V=>Below w24.heap.size w24 V) (by kernel_rfl) ?_
 refine Xd (i:=0) (v:=.agg #[.string g.name,.slice g.cats.addr g.cats.xs.length g.cats.cap,.string g.start,.int .i64 g.startNo,.slice g.entries.addr g.entries.xs.length g.entries.cap,.slice g.rules.addr g.rules.xs.length g.rules.cap]) rfl (by kernel_rfl) (fun _ _ _ h=>h) (fun V hV=>(by have hk:=Xh hV HK.out;have c0:=gblk hk 0;have c1:=gblk hk 1;have c2:=gblk hk 2;have c3:=gblk hk 3;have c4:=gblk hk 4;have c5:=gblk hk 5;go_simp)) ?_
 refine Xg (i:=1) (Xi (Below.refl _ _)) (by kernel_rfl) rfl (fun K hK=>?_)
 go_simp
 refine⟨trivial,rfl,callsIn_wide.2 ((Zg 3 0 0 _ (by decide)).mono ?_)⟩
 rintro e v1 ⟨z1,rfl,hz1,hb1,ez1⟩
 refine hK _ _ ?_
 clear hK K
 have hC1:Below w24.heap.size w24 v1:=Xb (Xi (Below.refl _ _)) hb1
 refine Xg (i:=2) hC1 (by kernel_rfl) rfl (fun K hK=>?_)
 go_simp
 refine hK _ _ ?_
 clear hK K
 obtain⟨v2,hw⟩:∃v,v1.alloc (.cells #[.int .i64 z1.cat,.int .i64 z1.frm,.int .i64 z1.unt,.int .i64 z1.cost,.slice z1.tgt.addr z1.tgt.xs.length z1.tgt.cap,.int .i64 z1.term] 47)=v:=⟨_,rfl⟩
 have hC2:Below w24.heap.size w24 v2:=by rw[← hw];exact Xe hC1 _
 have hI2:ItemsAt v2 ⟨some ⟨v1.heap.size,0,none⟩,1,[z1]⟩:=Q4 (by rw[← hw];exact World.alloc_heap_new _ _) rfl (fun q hq=>(by
  simp only[List.mem_cons,List.not_mem_nil,or_false] at hq
  subst hq
  rw[← hw]
  exact StrS.lies.ext hz1 (Xe (Below.refl _ _) _))) rfl (by decide)
 have hct:=Xb5 (its:=⟨some ⟨v1.heap.size,0,none⟩,1,[z1]⟩) (n:=1) (HT.out.ext hC2) (HG.out.ext hC2) Hex.out.short hI2 (Hex.out.odd z1 ez1)
 rw[hw]
 refine Xg (i:=3) hC2 (by kernel_rfl) rfl (fun K hK=>?_)
 go_simp
 refine⟨trivial,rfl,callsIn_wide.2 (hct.mono ?_)⟩
 rintro e v3 ⟨rfl,hb3⟩
 refine hK _ _ ?_
 clear hK K
 have hb:=Xb hC2 hb3
 refine Xd (i:=4) rfl (by kernel_rfl) (fun _ _ _ h=>h) (fun V hV=>(by skip;go_simp<;>rfl)) ?_
 refine Xd (i:=5) rfl (by kernel_rfl) (fun _ _ _ h=>h) (fun V hV=>(by skip;go_simp<;>rfl)) ?_
 refine Xd (i:=6) rfl (by kernel_rfl) (fun _ _ _ h=>h) (fun V hV=>(by skip;go_simp<;>rfl)) ?_
 refine Xd (i:=7) rfl (by kernel_rfl) (fun _ _ _ h=>h) (fun V hV=>(by skip;go_simp<;>rfl)) ?_
 refine Xd (i:=8) rfl (by kernel_rfl) (fun _ _ _ h=>h) (fun V hV=>(by skip;go_simp<;>rfl)) ?_
 refine Xl hb (by kernel_rfl) ?_ _
 clear hct hw hI2 hC1 hC2 hz1 ez1 hb1 hb3
 replace HK:=Xa (Xh hb HK.out)
 replace HT:=Xa (HT.out.ext hb)
 replace HG:=Xa (HG.out.ext hb)
 replace HB:=Xa (Xb HB.out hb)
 replace HItwo:=Xa (HItwo.out.ext hb)
 replace Ht1:=Xa (Ht1.out.ext hb)
 replace HBt1:=Xa (Xh hb HBt1.out)
 replace Ht2:=Xa (Ht2.out.ext hb)
 replace HBt2:=Xa (Xh hb HBt2.out)
 clear hb
 go_wp2_with fail
 refine(Ua 2 0 v3 (by decide)).mono ?_
 rintro e w25 ⟨rfl,hb⟩
 replace HK:=Xa (Xh hb HK.out)
 replace HT:=Xa (HT.out.ext hb)
 replace HG:=Xa (HG.out.ext hb)
 replace HB:=Xa (Xb HB.out hb)
 replace HItwo:=Xa (HItwo.out.ext hb)
 replace Ht1:=Xa (Ht1.out.ext hb)
 replace HBt1:=Xa (Xh hb HBt1.out)
 replace Ht2:=Xa (Ht2.out.ext hb)
 replace HBt2:=Xa (Xh hb HBt2.out)
 clear hb
 go_wp2_with fail
 refine(Ua 1 1 w25 (by decide)).mono ?_
 rintro e w26 ⟨rfl,hb⟩
 replace HK:=Xa (Xh hb HK.out)
 replace HT:=Xa (HT.out.ext hb)
 replace HG:=Xa (HG.out.ext hb)
 replace HB:=Xa (Xb HB.out hb)
 replace HItwo:=Xa (HItwo.out.ext hb)
 replace Ht1:=Xa (Ht1.out.ext hb)
 replace HBt1:=Xa (Xh hb HBt1.out)
 replace Ht2:=Xa (Ht2.out.ext hb)
 replace HBt2:=Xa (Xh hb HBt2.out)
 clear hb
 obtain⟨w27,hw⟩:∃v,(w26.alloc (.cells #[.int .i64 (-1),.int .i64 2,.int .i64 0,.int .i64 1,.slice none 0 0,.int .i64 (-1),.int .i64 1,.int .i64 1,.int .i64 2,.slice none 0 0] 32)).alloc (.cells #[.int .i64 0,.int .i64 (-1),.int .i64 0,.int .i64 2,.slice (some ⟨w26.heap.size,0,none⟩) 2 2] 32)=v:=⟨_,rfl⟩
 have hb:Below w26.heap.size w26 w27:=by rw[← hw];exact Xe (Xe (Below.refl _ _) _) _
 have hkb:w27.heap[w26.heap.size]? = some (.cells #[.int .i64 (-1),.int .i64 2,.int .i64 0,.int .i64 1,.slice none 0 0,.int .i64 (-1),.int .i64 1,.int .i64 1,.int .i64 2,.slice none 0 0] 32 (0,0)):=by rw[← hw];exact(Below.heap_alloc _ _ _ (by simp)).trans (World.alloc_heap_new _ _)
 have HBwant:Hid (w27.heap[w26.heap.size+1]? = some (.cells #[.int .i64 0,.int .i64 (-1),.int .i64 0,.int .i64 2,.slice (some ⟨w26.heap.size,0,none⟩) 2 2] 32 (0,0))):=by show _=_;rw[← hw];exact X0 _ _ _ (by simp)
 replace HK:=Xa (Xh hb HK.out)
 replace HT:=Xa (HT.out.ext hb)
 replace HG:=Xa (HG.out.ext hb)
 replace HB:=Xa (Xb HB.out hb)
 replace HItwo:=Xa (HItwo.out.ext hb)
 replace Ht1:=Xa (Ht1.out.ext hb)
 replace HBt1:=Xa (Xh hb HBt1.out)
 replace Ht2:=Xa (Ht2.out.ext hb)
 replace HBt2:=Xa (Xh hb HBt2.out)
 have Hwant:Hid (TreeAt w27 (fun b=>b<w27.heap.size) Xby [.int .i64 0,.int .i64 (-1),.int .i64 0,.int .i64 2,.slice (some ⟨w26.heap.size,0,none⟩) 2 2]):=Xi8 (fun b=>b<w27.heap.size) 0 (-1) 0 2 hkb (Xc hkb) rfl (by decide) rfl (Xfe (Xcd _ _ 2 0 1) (Xcd _ _ 1 1 2))
 obtain⟨kwant,hbn⟩:∃b,w26.heap.size=b:=⟨_,rfl⟩
 rw[hbn] at HBwant Hwant hw
 clear hb hkb
 have hNW:w27.heap.size≤w27.heap.size:=Nat.le_refl _
 go_wp2_with fail
 clear hw hbn
 refine(Ua 2 2 w27 (by decide)).mono ?_
 rintro e w28 ⟨rfl,hb⟩
 replace HK:=Xa (Xh hb HK.out)
 replace HT:=Xa (HT.out.ext hb)
 replace HG:=Xa (HG.out.ext hb)
 replace HB:=Xa (Xb HB.out hb)
 replace HItwo:=Xa (HItwo.out.ext hb)
 replace Ht1:=Xa (Ht1.out.ext hb)
 replace HBt1:=Xa (Xh hb HBt1.out)
 replace Ht2:=Xa (Ht2.out.ext hb)
 replace HBt2:=Xa (Xh hb HBt2.out)
 replace Hwant:=Xa (Hwant.out.ext hb)
 replace HBwant:=Xa (Xh hb HBwant.out)
 replace hNW:=Nat.le_trans hNW hb.size
 clear hb
 go_wp2_with fail
 refine(Ua 4 4 w28 (by decide)).mono ?_
 rintro e w29 ⟨rfl,hb⟩
 replace HK:=Xa (Xh hb HK.out)
 replace HT:=Xa (HT.out.ext hb)
 replace HG:=Xa (HG.out.ext hb)
 replace HB:=Xa (Xb HB.out hb)
 replace HItwo:=Xa (HItwo.out.ext hb)
 replace Ht1:=Xa (Ht1.out.ext hb)
 replace HBt1:=Xa (Xh hb HBt1.out)
 replace Ht2:=Xa (Ht2.out.ext hb)
 replace HBt2:=Xa (Xh hb HBt2.out)
 replace Hwant:=Xa (Hwant.out.ext hb)
 replace HBwant:=Xa (Xh hb HBwant.out)
 replace hNW:=Nat.le_trans hNW hb.size
 clear hb
 obtain⟨w30,hw⟩:∃v,(w29.alloc (.cells #[.int .i64 (-1),.int .i64 2,.int .i64 2,.int .i64 3,.slice none 0 0,.int .i64 (-1),.int .i64 4,.int .i64 4,.int .i64 5,.slice none 0 0] 32)).alloc (.cells #[.int .i64 2,.int .i64 (-1),.int .i64 2,.int .i64 5,.slice (some ⟨w29.heap.size,0,none⟩) 2 2] 32)=v:=⟨_,rfl⟩
 have hb:Below w29.heap.size w29 w30:=by rw[← hw];exact Xe (Xe (Below.refl _ _) _) _
 have hkb:w30.heap[w29.heap.size]? = some (.cells #[.int .i64 (-1),.int .i64 2,.int .i64 2,.int .i64 3,.slice none 0 0,.int .i64 (-1),.int .i64 4,.int .i64 4,.int .i64 5,.slice none 0 0] 32 (0,0)):=by rw[← hw];exact(Below.heap_alloc _ _ _ (by simp)).trans (World.alloc_heap_new _ _)
 have HBback:Hid (w30.heap[w29.heap.size+1]? = some (.cells #[.int .i64 2,.int .i64 (-1),.int .i64 2,.int .i64 5,.slice (some ⟨w29.heap.size,0,none⟩) 2 2] 32 (0,0))):=by show _=_;rw[← hw];exact X0 _ _ _ (by simp)
 replace HK:=Xa (Xh hb HK.out)
 replace HT:=Xa (HT.out.ext hb)
 replace HG:=Xa (HG.out.ext hb)
 replace HB:=Xa (Xb HB.out hb)
 replace HItwo:=Xa (HItwo.out.ext hb)
 replace Ht1:=Xa (Ht1.out.ext hb)
 replace HBt1:=Xa (Xh hb HBt1.out)
 replace Ht2:=Xa (Ht2.out.ext hb)
 replace HBt2:=Xa (Xh hb HBt2.out)
 replace Hwant:=Xa (Hwant.out.ext hb)
 replace HBwant:=Xa (Xh hb HBwant.out)
 replace hNW:=Nat.le_trans hNW hb.size
 have Hback:Hid (TreeAt w30 (anyB) Xj9 [.int .i64 2,.int .i64 (-1),.int .i64 2,.int .i64 5,.slice (some ⟨w29.heap.size,0,none⟩) 2 2]):=Xi8 (anyB) 2 (-1) 2 5 hkb trivial rfl (by decide) rfl (Xfe (Xcd _ _ 2 2 3) (Xcd _ _ 4 4 5))
 obtain⟨kback,hbn⟩:∃b,w29.heap.size=b:=⟨_,rfl⟩
 rw[hbn] at HBback Hback hw
 clear hb hkb
 go_wp2_with fail
 clear hw hbn
 refine wpIn_wide (n:=0) |>.1 ?_
 refine Td (fun (y:(Nat→Value)×Nat) a=>{a with tmps:=(((((((a.tmps.setIfInBounds 151 (y.1 0)).setIfInBounds 152 (y.1 1)).setIfInBounds 153 (y.1 2)).setIfInBounds 154 (y.1 3)).setIfInBounds 155 (y.1 4)).setIfInBounds 156 (y.1 5)).setIfInBounds 33 (.pointer (some ⟨y.2,0,none⟩)))}) (RightF w30) ?_ ?_
 ·refine Xo (fun V=>Below w30.heap.size w30 V) (by kernel_rfl) ?_
  refine Xd (i:=1) (v:=.agg #[.int .i64 2,.int .i64 (-1),.int .i64 2,.int .i64 5,.slice (some ⟨kback,0,none⟩) 2 2]) rfl (by kernel_rfl) (fun _ _ _ h=>h) (fun V hV=>(by have hk:=Xh hV HBback.out;have c0:=gblk hk 0;have c1:=gblk hk 1;have c2:=gblk hk 2;have c3:=gblk hk 3;have c4:=gblk hk 4;go_simp)) ?_
  refine Xs (rs:=[0,6]) (Xi (Below.refl _ _)) (by kernel_rfl) (by simp) (AllC.cons rfl (fun K hK=>?_) (AllC.cons rfl (fun K hK=>?_) AllC.nil))
  ·go_simp
   refine⟨trivial,rfl,callsIn_wide.2 ((Ua 0 0 _ (by decide)).mono ?_)⟩
   rintro e v1 ⟨rfl,hv1⟩
   refine hK _ _ ?_
   clear hK K
   have C1:Below w30.heap.size w30 v1:=Xb (Xi (Below.refl _ _)) hv1
   refine Xs (rs:=[2,6]) C1 (by kernel_rfl) (by simp) (AllC.cons rfl (fun K hK=>?_) (AllC.cons rfl (fun K hK=>?_) AllC.nil))
   ·go_simp
    refine hK _ _ ?_
    clear hK K
    refine Xd (i:=3) rfl (by kernel_rfl) (fun _ _ _ h=>h) (fun V hV=>(by skip;go_simp<;>rfl)) ?_
    refine Xs (rs:=[4,6]) (Xe C1 _) (by kernel_rfl) (by simp) (AllC.cons rfl (fun K hK=>?_) (AllC.cons rfl (fun K hK=>?_) AllC.nil))
    ·go_simp
     refine hK _ _ ?_
     clear hK K
     refine Xd (i:=5) rfl (by kernel_rfl) (fun _ _ _ h=>h) (fun V hV=>(by skip;go_simp<;>rfl)) ?_
     refine Xg (i:=6) (Xe (Xe C1 _) _) (by kernel_rfl) rfl (fun K hK=>?_)
     go_simp
     refine hK _ _ ?_
     clear hK K
     refine Xg (i:=7) (Xe (Xe (Xe C1 _) _) _) (by kernel_rfl) rfl (fun K hK=>?_)
     go_simp
     refine hK _ _ ?_
     clear hK K
     have hh:=Y5 [(.cells #[.int .i64 (-1),.int .i64 0,.int .i64 0,.int .i64 1,.slice none 0 0,.int .i64 2,.int .i64 (-1),.int .i64 2,.int .i64 5,.slice (some ⟨kback,0,none⟩) 2 2] 32),(.cells #[.int .i64 2,.int .i64 (-1),.int .i64 0,.int .i64 5,.slice (some ⟨v1.heap.size,0,none⟩) 2 2] 32),(.cells #[.int .i64 1,.int .i64 (-1),.int .i64 0,.int .i64 5,.slice (some ⟨v1.heap.size+1,0,none⟩) 1 1] 32)] v1
     have C9:Below w30.heap.size w30 (Xcb v1 [(.cells #[.int .i64 (-1),.int .i64 0,.int .i64 0,.int .i64 1,.slice none 0 0,.int .i64 2,.int .i64 (-1),.int .i64 2,.int .i64 5,.slice (some ⟨kback,0,none⟩) 2 2] 32),(.cells #[.int .i64 2,.int .i64 (-1),.int .i64 0,.int .i64 5,.slice (some ⟨v1.heap.size,0,none⟩) 2 2] 32),(.cells #[.int .i64 1,.int .i64 (-1),.int .i64 0,.int .i64 5,.slice (some ⟨v1.heap.size+1,0,none⟩) 1 1] 32)]):=Xb C1 (Vj _ v1)
     refine Xl C9 (by kernel_rfl) ?_ _
     refine⟨((fun k=>match k with|0 => .agg #[.int .i64 (-1),.int .i64 0,.int .i64 0,.int .i64 1,.slice none 0 0]|1 => .agg #[.int .i64 2,.int .i64 (-1),.int .i64 2,.int .i64 5,.slice (some ⟨kback,0,none⟩) 2 2]|2 => .slice (some ⟨v1.heap.size,0,none⟩) 2 2|3 => .agg #[.int .i64 2,.int .i64 (-1),.int .i64 0,.int .i64 5,.slice (some ⟨v1.heap.size,0,none⟩) 2 2]|4 => .slice (some ⟨v1.heap.size+1,0,none⟩) 1 1|_ => .agg #[.int .i64 1,.int .i64 (-1),.int .i64 0,.int .i64 5,.slice (some ⟨v1.heap.size+1,0,none⟩) 1 1]),v1.heap.size+1+1),?_,v1.heap.size+1,(hh 2 (by simp)),Xcj (hh 0 (by simp)) rfl (hh 1 (by simp)) rfl (Hback.out.ext (C9)),C9⟩
     kernel_rfl
    ·go_simp
     refine hK _ _ ?_
     clear hK K
     refine Xg (i:=4) (Xe (Xe C1 _) _) (by kernel_rfl) rfl (fun K hK=>?_)
     go_simp
     refine hK _ _ ?_
     clear hK K
     refine Xd (i:=5) rfl (by kernel_rfl) (fun _ _ _ h=>h) (fun V hV=>(by skip;go_simp<;>rfl)) ?_
     obtain⟨v8,hv8⟩:∃v,((v1.alloc (.cells #[.int .i64 (-1),.int .i64 0,.int .i64 0,.int .i64 1,.slice none 0 0,.int .i64 2,.int .i64 (-1),.int .i64 2,.int .i64 5,.slice (some ⟨kback,0,none⟩) 2 2] 32)).alloc (.cells #[.int .i64 0,.int .i64 0,.int .i64 0,.int .i64 0,.slice none 0 0] 32)).alloc (.cells #[.int .i64 2,.int .i64 (-1),.int .i64 0,.int .i64 5,.slice (some ⟨v1.heap.size,0,none⟩) 2 2] 32)=v:=⟨_,rfl⟩
     have hz8:v8.heap[v1.heap.size+1]? = some (.cells #[.int .i64 0,.int .i64 0,.int .i64 0,.int .i64 0,.slice none 0 0] 32 (0,0)):=by rw[← hv8];exact Y5 [(.cells #[.int .i64 (-1),.int .i64 0,.int .i64 0,.int .i64 1,.slice none 0 0,.int .i64 2,.int .i64 (-1),.int .i64 2,.int .i64 5,.slice (some ⟨kback,0,none⟩) 2 2] 32),(.cells #[.int .i64 0,.int .i64 0,.int .i64 0,.int .i64 0,.slice none 0 0] 32),(.cells #[.int .i64 2,.int .i64 (-1),.int .i64 0,.int .i64 5,.slice (some ⟨v1.heap.size,0,none⟩) 2 2] 32)] v1 1 (by simp)
     have C8:Below w30.heap.size w30 v8:=by rw[← hv8];exact Xe (Xe (Xe C1 _) _) _
     rw[hv8]
     have h81:v8.heap[v1.heap.size]? = some (.cells #[.int .i64 (-1),.int .i64 0,.int .i64 0,.int .i64 1,.slice none 0 0,.int .i64 2,.int .i64 (-1),.int .i64 2,.int .i64 5,.slice (some ⟨kback,0,none⟩) 2 2] 32 (0,0)):=by rw[← hv8];exact Y5 [(.cells #[.int .i64 (-1),.int .i64 0,.int .i64 0,.int .i64 1,.slice none 0 0,.int .i64 2,.int .i64 (-1),.int .i64 2,.int .i64 5,.slice (some ⟨kback,0,none⟩) 2 2] 32),(.cells #[.int .i64 0,.int .i64 0,.int .i64 0,.int .i64 0,.slice none 0 0] 32),(.cells #[.int .i64 2,.int .i64 (-1),.int .i64 0,.int .i64 5,.slice (some ⟨v1.heap.size,0,none⟩) 2 2] 32)] v1 0 (by simp)
     have h82:v8.heap[v1.heap.size+1+1]? = some (.cells #[.int .i64 2,.int .i64 (-1),.int .i64 0,.int .i64 5,.slice (some ⟨v1.heap.size,0,none⟩) 2 2] 32 (0,0)):=by rw[← hv8];exact Y5 [(.cells #[.int .i64 (-1),.int .i64 0,.int .i64 0,.int .i64 1,.slice none 0 0,.int .i64 2,.int .i64 (-1),.int .i64 2,.int .i64 5,.slice (some ⟨kback,0,none⟩) 2 2] 32),(.cells #[.int .i64 0,.int .i64 0,.int .i64 0,.int .i64 0,.slice none 0 0] 32),(.cells #[.int .i64 2,.int .i64 (-1),.int .i64 0,.int .i64 5,.slice (some ⟨v1.heap.size,0,none⟩) 2 2] 32)] v1 2 (by simp)
     have zq0:=gblk hz8 0
     have zq1:=gblk hz8 1
     have zq2:=gblk hz8 2
     have zq3:=gblk hz8 3
     have zq4:=gblk hz8 4
     have hzf:=fun n=>Xf hz8 n
     have hzl:=Xc hz8
     have hs5:=U7 v8 (v1.heap.size+1) ⟨1, -1,0,5,⟨some ⟨v1.heap.size+1+1,0,none⟩,1,1⟩⟩
     have h51:=(hs5.block _ (Xc h81) (by show v1.heap.size≠v1.heap.size+1;omega)).trans h81
     have h52:=(hs5.block _ (Xc h82) (by show v1.heap.size+1+1≠v1.heap.size+1;omega)).trans h82
     have h5x:=Xcl (x:=Qr) hz8 ⟨1, -1,0,5,⟨some ⟨v1.heap.size+1+1,0,none⟩,1,1⟩⟩
     have C9:=Yf C8 C8.size hs5 (by first|(have:=C1.size;omega))
     clear hv8
     refine Xg (i:=7) C8 (by kernel_rfl) rfl (fun K hK=>?_)
     go_simp
     refine hK _ _ ?_
     clear hK K
     refine Xl C9 (by kernel_rfl) ?_ _
     refine⟨((fun k=>match k with|0 => .agg #[.int .i64 (-1),.int .i64 0,.int .i64 0,.int .i64 1,.slice none 0 0]|1 => .agg #[.int .i64 2,.int .i64 (-1),.int .i64 2,.int .i64 5,.slice (some ⟨kback,0,none⟩) 2 2]|2 => .slice (some ⟨v1.heap.size,0,none⟩) 2 2|3 => .agg #[.int .i64 2,.int .i64 (-1),.int .i64 0,.int .i64 5,.slice (some ⟨v1.heap.size,0,none⟩) 2 2]|4 => .slice (some ⟨v1.heap.size+1+1,0,none⟩) 1 1|_ => .agg #[.int .i64 1,.int .i64 (-1),.int .i64 0,.int .i64 5,.slice (some ⟨v1.heap.size+1+1,0,none⟩) 1 1]),v1.heap.size+1),?_,v1.heap.size+1+1,h5x,Xcj h51 rfl h52 rfl (Hback.out.ext (C9)),C9⟩
     kernel_rfl
   ·go_simp
    refine hK _ _ ?_
    clear hK K
    refine Xg (i:=2) (Xe C1 _) (by kernel_rfl) rfl (fun K hK=>?_)
    go_simp
    refine hK _ _ ?_
    clear hK K
    refine Xd (i:=3) rfl (by kernel_rfl) (fun _ _ _ h=>h) (fun V hV=>(by skip;go_simp<;>rfl)) ?_
    refine Xg (i:=4) (Xe (Xe C1 _) _) (by kernel_rfl) rfl (fun K hK=>?_)
    go_simp
    refine hK _ _ ?_
    clear hK K
    refine Xd (i:=5) rfl (by kernel_rfl) (fun _ _ _ h=>h) (fun V hV=>(by skip;go_simp<;>rfl)) ?_
    obtain⟨v8,hv8⟩:∃v,((v1.alloc (.cells #[.int .i64 0,.int .i64 0,.int .i64 0,.int .i64 0,.slice none 0 0] 32)).alloc (.cells #[.int .i64 (-1),.int .i64 0,.int .i64 0,.int .i64 1,.slice none 0 0,.int .i64 2,.int .i64 (-1),.int .i64 2,.int .i64 5,.slice (some ⟨kback,0,none⟩) 2 2] 32)).alloc (.cells #[.int .i64 2,.int .i64 (-1),.int .i64 0,.int .i64 5,.slice (some ⟨v1.heap.size+1,0,none⟩) 2 2] 32)=v:=⟨_,rfl⟩
    have hz8:v8.heap[v1.heap.size]? = some (.cells #[.int .i64 0,.int .i64 0,.int .i64 0,.int .i64 0,.slice none 0 0] 32 (0,0)):=by rw[← hv8];exact Y5 [(.cells #[.int .i64 0,.int .i64 0,.int .i64 0,.int .i64 0,.slice none 0 0] 32),(.cells #[.int .i64 (-1),.int .i64 0,.int .i64 0,.int .i64 1,.slice none 0 0,.int .i64 2,.int .i64 (-1),.int .i64 2,.int .i64 5,.slice (some ⟨kback,0,none⟩) 2 2] 32),(.cells #[.int .i64 2,.int .i64 (-1),.int .i64 0,.int .i64 5,.slice (some ⟨v1.heap.size+1,0,none⟩) 2 2] 32)] v1 0 (by simp)
    have C8:Below w30.heap.size w30 v8:=by rw[← hv8];exact Xe (Xe (Xe C1 _) _) _
    rw[hv8]
    have h81:v8.heap[v1.heap.size+1]? = some (.cells #[.int .i64 (-1),.int .i64 0,.int .i64 0,.int .i64 1,.slice none 0 0,.int .i64 2,.int .i64 (-1),.int .i64 2,.int .i64 5,.slice (some ⟨kback,0,none⟩) 2 2] 32 (0,0)):=by rw[← hv8];exact Y5 [(.cells #[.int .i64 0,.int .i64 0,.int .i64 0,.int .i64 0,.slice none 0 0] 32),(.cells #[.int .i64 (-1),.int .i64 0,.int .i64 0,.int .i64 1,.slice none 0 0,.int .i64 2,.int .i64 (-1),.int .i64 2,.int .i64 5,.slice (some ⟨kback,0,none⟩) 2 2] 32),(.cells #[.int .i64 2,.int .i64 (-1),.int .i64 0,.int .i64 5,.slice (some ⟨v1.heap.size+1,0,none⟩) 2 2] 32)] v1 1 (by simp)
    have h82:v8.heap[v1.heap.size+1+1]? = some (.cells #[.int .i64 2,.int .i64 (-1),.int .i64 0,.int .i64 5,.slice (some ⟨v1.heap.size+1,0,none⟩) 2 2] 32 (0,0)):=by rw[← hv8];exact Y5 [(.cells #[.int .i64 0,.int .i64 0,.int .i64 0,.int .i64 0,.slice none 0 0] 32),(.cells #[.int .i64 (-1),.int .i64 0,.int .i64 0,.int .i64 1,.slice none 0 0,.int .i64 2,.int .i64 (-1),.int .i64 2,.int .i64 5,.slice (some ⟨kback,0,none⟩) 2 2] 32),(.cells #[.int .i64 2,.int .i64 (-1),.int .i64 0,.int .i64 5,.slice (some ⟨v1.heap.size+1,0,none⟩) 2 2] 32)] v1 2 (by simp)
    have zq0:=gblk hz8 0
    have zq1:=gblk hz8 1
    have zq2:=gblk hz8 2
    have zq3:=gblk hz8 3
    have zq4:=gblk hz8 4
    have hzf:=fun n=>Xf hz8 n
    have hzl:=Xc hz8
    have hs5:=U7 v8 (v1.heap.size) ⟨1, -1,0,5,⟨some ⟨v1.heap.size+1+1,0,none⟩,1,1⟩⟩
    have h51:=(hs5.block _ (Xc h81) (by show v1.heap.size+1≠v1.heap.size;omega)).trans h81
    have h52:=(hs5.block _ (Xc h82) (by show v1.heap.size+1+1≠v1.heap.size;omega)).trans h82
    have h5x:=Xcl (x:=Qr) hz8 ⟨1, -1,0,5,⟨some ⟨v1.heap.size+1+1,0,none⟩,1,1⟩⟩
    have C9:=Yf C8 C8.size hs5 (by first|(have:=C1.size;omega))
    clear hv8
    refine Xg (i:=7) C8 (by kernel_rfl) rfl (fun K hK=>?_)
    go_simp
    refine hK _ _ ?_
    clear hK K
    refine Xl C9 (by kernel_rfl) ?_ _
    refine⟨((fun k=>match k with|0 => .agg #[.int .i64 (-1),.int .i64 0,.int .i64 0,.int .i64 1,.slice none 0 0]|1 => .agg #[.int .i64 2,.int .i64 (-1),.int .i64 2,.int .i64 5,.slice (some ⟨kback,0,none⟩) 2 2]|2 => .slice (some ⟨v1.heap.size+1,0,none⟩) 2 2|3 => .agg #[.int .i64 2,.int .i64 (-1),.int .i64 0,.int .i64 5,.slice (some ⟨v1.heap.size+1,0,none⟩) 2 2]|4 => .slice (some ⟨v1.heap.size+1+1,0,none⟩) 1 1|_ => .agg #[.int .i64 1,.int .i64 (-1),.int .i64 0,.int .i64 5,.slice (some ⟨v1.heap.size+1+1,0,none⟩) 1 1]),v1.heap.size),?_,v1.heap.size+1+1,h5x,Xcj h51 rfl h52 rfl (Hback.out.ext (C9)),C9⟩
    kernel_rfl
  ·go_simp
   refine hK _ _ ?_
   clear hK K
   refine Xg (i:=0) (Xe (Xi (Below.refl _ _)) _) (by kernel_rfl) rfl (fun K hK=>?_)
   go_simp
   refine⟨trivial,rfl,callsIn_wide.2 ((Ua 0 0 _ (by decide)).mono ?_)⟩
   rintro e v1 ⟨rfl,hv1⟩
   refine hK _ _ ?_
   clear hK K
   have hzz:(w30.drew.alloc (.cells #[.int .i64 0,.int .i64 0,.int .i64 0,.int .i64 0,.slice none 0 0] 32)).heap[w30.heap.size]? = some (.cells #[.int .i64 0,.int .i64 0,.int .i64 0,.int .i64 0,.slice none 0 0] 32 (0,0)):=World.alloc_heap_new _ _
   have hz1:v1.heap[w30.heap.size]? = some (.cells #[.int .i64 0,.int .i64 0,.int .i64 0,.int .i64 0,.slice none 0 0] 32 (0,0)):=Xh hv1 hzz
   have C1:Below w30.heap.size w30 v1:=Xb (Xe (Xi (Below.refl _ _)) _) hv1
   have hzl1:=Xc hz1
   clear hzz
   refine Xg (i:=2) C1 (by kernel_rfl) rfl (fun K hK=>?_)
   go_simp
   refine hK _ _ ?_
   clear hK K
   refine Xd (i:=3) rfl (by kernel_rfl) (fun _ _ _ h=>h) (fun V hV=>(by skip;go_simp<;>rfl)) ?_
   refine Xg (i:=4) (Xe C1 _) (by kernel_rfl) rfl (fun K hK=>?_)
   go_simp
   refine hK _ _ ?_
   clear hK K
   refine Xd (i:=5) rfl (by kernel_rfl) (fun _ _ _ h=>h) (fun V hV=>(by skip;go_simp<;>rfl)) ?_
   obtain⟨v8,hv8⟩:∃v,(v1.alloc (.cells #[.int .i64 (-1),.int .i64 0,.int .i64 0,.int .i64 1,.slice none 0 0,.int .i64 2,.int .i64 (-1),.int .i64 2,.int .i64 5,.slice (some ⟨kback,0,none⟩) 2 2] 32)).alloc (.cells #[.int .i64 2,.int .i64 (-1),.int .i64 0,.int .i64 5,.slice (some ⟨v1.heap.size,0,none⟩) 2 2] 32)=v:=⟨_,rfl⟩
   have hz8:v8.heap[w30.heap.size]? = some (.cells #[.int .i64 0,.int .i64 0,.int .i64 0,.int .i64 0,.slice none 0 0] 32 (0,0)):=by rw[← hv8];exact((Xe (Xe (Below.refl v1.heap.size v1) _) _).block _ hzl1).trans hz1
   have C8:Below w30.heap.size w30 v8:=by rw[← hv8];exact Xe (Xe C1 _) _
   rw[hv8]
   have h81:v8.heap[v1.heap.size]? = some (.cells #[.int .i64 (-1),.int .i64 0,.int .i64 0,.int .i64 1,.slice none 0 0,.int .i64 2,.int .i64 (-1),.int .i64 2,.int .i64 5,.slice (some ⟨kback,0,none⟩) 2 2] 32 (0,0)):=by rw[← hv8];exact Y5 [(.cells #[.int .i64 (-1),.int .i64 0,.int .i64 0,.int .i64 1,.slice none 0 0,.int .i64 2,.int .i64 (-1),.int .i64 2,.int .i64 5,.slice (some ⟨kback,0,none⟩) 2 2] 32),(.cells #[.int .i64 2,.int .i64 (-1),.int .i64 0,.int .i64 5,.slice (some ⟨v1.heap.size,0,none⟩) 2 2] 32)] v1 0 (by simp)
   have h82:v8.heap[v1.heap.size+1]? = some (.cells #[.int .i64 2,.int .i64 (-1),.int .i64 0,.int .i64 5,.slice (some ⟨v1.heap.size,0,none⟩) 2 2] 32 (0,0)):=by rw[← hv8];exact Y5 [(.cells #[.int .i64 (-1),.int .i64 0,.int .i64 0,.int .i64 1,.slice none 0 0,.int .i64 2,.int .i64 (-1),.int .i64 2,.int .i64 5,.slice (some ⟨kback,0,none⟩) 2 2] 32),(.cells #[.int .i64 2,.int .i64 (-1),.int .i64 0,.int .i64 5,.slice (some ⟨v1.heap.size,0,none⟩) 2 2] 32)] v1 1 (by simp)
   have zq0:=gblk hz8 0
   have zq1:=gblk hz8 1
   have zq2:=gblk hz8 2
   have zq3:=gblk hz8 3
   have zq4:=gblk hz8 4
   have hzf:=fun n=>Xf hz8 n
   have hzl:=Xc hz8
   have hs5:=U7 v8 (w30.heap.size) ⟨1, -1,0,5,⟨some ⟨v1.heap.size+1,0,none⟩,1,1⟩⟩
   have h51:=(hs5.block _ (Xc h81) (by show v1.heap.size≠w30.heap.size;omega)).trans h81
   have h52:=(hs5.block _ (Xc h82) (by show v1.heap.size+1≠w30.heap.size;omega)).trans h82
   have h5x:=Xcl (x:=Qr) hz8 ⟨1, -1,0,5,⟨some ⟨v1.heap.size+1,0,none⟩,1,1⟩⟩
   have C9:=Yf C8 C8.size hs5 (by first|(have:=C1.size;omega))
   clear hv8
   refine Xg (i:=7) C8 (by kernel_rfl) rfl (fun K hK=>?_)
   go_simp
   refine hK _ _ ?_
   clear hK K
   refine Xl C9 (by kernel_rfl) ?_ _
   refine⟨((fun k=>match k with|0 => .agg #[.int .i64 (-1),.int .i64 0,.int .i64 0,.int .i64 1,.slice none 0 0]|1 => .agg #[.int .i64 2,.int .i64 (-1),.int .i64 2,.int .i64 5,.slice (some ⟨kback,0,none⟩) 2 2]|2 => .slice (some ⟨v1.heap.size,0,none⟩) 2 2|3 => .agg #[.int .i64 2,.int .i64 (-1),.int .i64 0,.int .i64 5,.slice (some ⟨v1.heap.size,0,none⟩) 2 2]|4 => .slice (some ⟨v1.heap.size+1,0,none⟩) 1 1|_ => .agg #[.int .i64 1,.int .i64 (-1),.int .i64 0,.int .i64 5,.slice (some ⟨v1.heap.size+1,0,none⟩) 1 1]),w30.heap.size),?_,v1.heap.size+1,h5x,Xcj h51 rfl h52 rfl (Hback.out.ext (C9)),C9⟩
   kernel_rfl
 ·rintro⟨vals,bx⟩ v ⟨k2,hbx,hrt,hb⟩
  replace HK:=Xa (Xh hb HK.out)
  replace HT:=Xa (HT.out.ext hb)
  replace HG:=Xa (HG.out.ext hb)
  replace HB:=Xa (Xb HB.out hb)
  replace HItwo:=Xa (HItwo.out.ext hb)
  replace Ht1:=Xa (Ht1.out.ext hb)
  replace HBt1:=Xa (Xh hb HBt1.out)
  replace Ht2:=Xa (Ht2.out.ext hb)
  replace HBt2:=Xa (Xh hb HBt2.out)
  replace Hwant:=Xa (Hwant.out.ext hb)
  replace HBwant:=Xa (Xh hb HBwant.out)
  replace Hback:=Xa (Hback.out.ext hb)
  replace HBback:=Xa (Xh hb HBback.out)
  replace hNW:=Nat.le_trans hNW hb.size
  have HBx:=Xa hbx
  have HRt:=Xa hrt
  clear hb hbx hrt
  have hkc:=HK.out
  have c0:=gblk hkc 0
  have c1:=gblk hkc 1
  have c2:=gblk hkc 2
  have c3:=gblk hkc 3
  have c4:=gblk hkc 4
  have c5:=gblk hkc 5
  have hwc:=HBwant.out
  have d0:=gblk hwc 0
  have d1:=gblk hwc 1
  have d2:=gblk hwc 2
  have d3:=gblk hwc 3
  have d4:=gblk hwc 4
  clear hkc hwc
  gi_wp2_with fail
  go_wp2_with fail
  clear c0 c1 c2 c3 c4 c5 d0 d1 d2 d3 d4
  refine(Xme (its:=⟨some ⟨btwo,0,none⟩,3,[x1,x2,x3]⟩) (n:=2) (t:=Xby) (x:=⟨0, -1,0,2,⟨some ⟨kwant,0,none⟩,2,2⟩⟩) (P:=fun b=>b<w27.heap.size) HT.out HG.out Hex.out.short HItwo.out (fun b hb=>Nat.lt_of_lt_of_le hb hNW) Hwant.out (by unfold Xby Z6 Ve Ve Ve Zt Z6 Ve I6;decide) HEtwo.out.2.2).mono ?_
  rintro e w31 ⟨rfl,hb⟩
  replace HK:=Xa (Xh hb HK.out)
  replace HT:=Xa (HT.out.ext hb)
  replace HG:=Xa (HG.out.ext hb)
  replace HB:=Xa (Xb HB.out hb)
  replace HItwo:=Xa (HItwo.out.ext hb)
  replace Ht1:=Xa (Ht1.out.ext hb)
  replace HBt1:=Xa (Xh hb HBt1.out)
  replace Ht2:=Xa (Ht2.out.ext hb)
  replace HBt2:=Xa (Xh hb HBt2.out)
  replace Hwant:=Xa (Hwant.out.ext hb)
  replace HBwant:=Xa (Xh hb HBwant.out)
  replace Hback:=Xa (Hback.out.ext hb)
  replace HBback:=Xa (Xh hb HBback.out)
  replace HBx:=Xa (Xh hb HBx.out)
  replace HRt:=Xa (HRt.out.ext hb)
  replace hNW:=Nat.le_trans hNW hb.size
  have hwc:=HBwant.out
  have d0:=gblk hwc 0
  have d1:=gblk hwc 1
  have d2:=gblk hwc 2
  have d3:=gblk hwc 3
  have d4:=gblk hwc 4
  have htc:=HBt1.out
  have c0:=gblk htc 0
  have c1:=gblk htc 1
  have c2:=gblk htc 2
  have c3:=gblk htc 3
  have c4:=gblk htc 4
  clear hwc htc hb
  go_wp2_with fail
  clear d0 d1 d2 d3 d4 c0 c1 c2 c3 c4
  refine(Qm _ _ Xby t1 Xby ⟨0, -1,0,2,⟨some ⟨kwant,0,none⟩,2,2⟩⟩ w31 Ht1.out Hwant.out).mono ?_
  rintro e w32 ⟨b,rfl,hbq,hb⟩
  replace HK:=Xa (Xh hb HK.out)
  replace HT:=Xa (HT.out.ext hb)
  replace HG:=Xa (HG.out.ext hb)
  replace HB:=Xa (Xb HB.out hb)
  replace HItwo:=Xa (HItwo.out.ext hb)
  replace Ht1:=Xa (Ht1.out.ext hb)
  replace HBt1:=Xa (Xh hb HBt1.out)
  replace Ht2:=Xa (Ht2.out.ext hb)
  replace HBt2:=Xa (Xh hb HBt2.out)
  replace Hwant:=Xa (Hwant.out.ext hb)
  replace HBwant:=Xa (Xh hb HBwant.out)
  replace Hback:=Xa (Hback.out.ext hb)
  replace HBback:=Xa (Xh hb HBback.out)
  replace HBx:=Xa (Xh hb HBx.out)
  replace HRt:=Xa (HRt.out.ext hb)
  replace hNW:=Nat.le_trans hNW hb.size
  obtain rfl:b=true:=hbq.2 rfl
  have hwc:=HBt2.out
  have d0:=gblk hwc 0
  have d1:=gblk hwc 1
  have d2:=gblk hwc 2
  have d3:=gblk hwc 3
  have d4:=gblk hwc 4
  have htc:=HBx.out
  have c0:=gblk htc 0
  have c1:=gblk htc 1
  have c2:=gblk htc 2
  have c3:=gblk htc 3
  have c4:=gblk htc 4
  clear hwc htc hb hbq
  go_wp2_with fail
  clear d0 d1 d2 d3 d4 c0 c1 c2 c3 c4
  refine(Qm _ _ Xab t2 Xab ⟨1, -1,0,5,⟨some ⟨k2,0,none⟩,1,1⟩⟩ w32 Ht2.out HRt.out).mono ?_
  rintro e w33 ⟨b,rfl,hbq,hb⟩
  replace HK:=Xa (Xh hb HK.out)
  replace HT:=Xa (HT.out.ext hb)
  replace HG:=Xa (HG.out.ext hb)
  replace HB:=Xa (Xb HB.out hb)
  replace HItwo:=Xa (HItwo.out.ext hb)
  replace Ht1:=Xa (Ht1.out.ext hb)
  replace HBt1:=Xa (Xh hb HBt1.out)
  replace Ht2:=Xa (Ht2.out.ext hb)
  replace HBt2:=Xa (Xh hb HBt2.out)
  replace Hwant:=Xa (Hwant.out.ext hb)
  replace HBwant:=Xa (Xh hb HBwant.out)
  replace Hback:=Xa (Hback.out.ext hb)
  replace HBback:=Xa (Xh hb HBback.out)
  replace HBx:=Xa (Xh hb HBx.out)
  replace HRt:=Xa (HRt.out.ext hb)
  replace hNW:=Nat.le_trans hNW hb.size
  obtain rfl:b=true:=hbq.2 rfl
  clear hb hbq
  go_wp2_with fail
  go_ret
  exact⟨rfl,HB.out⟩
def SomeB (w:World) (e:Ending) (w':World):Prop:=∃b:Bool,e = .returned (.bool b)∧Below w.heap.size w w'
set_option maxHeartbeats 8000000 in
theorem Xm9 (g : Gram) (w : World) (hg : g.lies w) : Calls Tryz.prog 51 #[.agg #[.string g.name, .slice g.cats.addr g.cats.xs.length g.cats.cap, .string g.start, .int .i64 g.startNo, .slice g.entries.addr g.entries.xs.length g.entries.cap, .slice g.rules.addr g.rules.xs.length g.rules.cap]] w (SomeB w) := by
  obtain ⟨W1, hW1⟩ : ∃ W1, w.alloc (.cells #[.string g.name, .slice g.cats.addr g.cats.xs.length g.cats.cap, .string g.start, .int .i64 g.startNo, .slice g.entries.addr g.entries.xs.length g.entries.cap, .slice g.rules.addr g.rules.xs.length g.rules.cap] 26) = W1 := ⟨_, rfl⟩
  have hB1 := Yn hW1
  have hk := Yv hW1
  have hg1 := hg.ext hB1
  have hme : g.entries.xs.length ≤ 9223372036854775807 := Nat.le_trans hg.entries.cap hg.entries.max
  have hmr : g.rules.xs.length ≤ 9223372036854775807 := Nat.le_trans hg.rules.cap hg.rules.max
  have c0 := gblk hk 0
  have c1 := gblk hk 1
  have c2 := gblk hk 2
  have c3 := gblk hk 3
  have c4 := gblk hk 4
  have c5 := gblk hk 5
  have HE : Hid (∀ k (hk : k < g.entries.xs.length), ∃ b off n cp, g.entries.addr = some ⟨b, off, none⟩ ∧ W1.cell? ⟨b, off + k * 5 + 3, none⟩ = some (.slice n g.entries.xs[k].gives.xs.length cp)) := by
    intro k hk
    obtain ⟨b, off, hA, hb, hc⟩ := hg1.entries.at_ EntryG.size_cells (by omega) hk
    exact ⟨b, off, g.entries.xs[k].gives.addr, g.entries.xs[k].gives.cap, hA, hc k hk W1 (Below.refl _ _) 3 _ rfl⟩
  have HR : Hid (∀ k (hk : k < g.rules.xs.length), ∃ b off n cp n' cp', g.rules.addr = some ⟨b, off, none⟩ ∧ W1.cell? ⟨b, off + k * 5 + 2, none⟩ = some (.slice n g.rules.xs[k].parts.xs.length cp) ∧ W1.cell? ⟨b, off + k * 5 + 3, none⟩ = some (.slice n' g.rules.xs[k].gives.xs.length cp')) := by
    intro k hk
    obtain ⟨b, off, hA, hb, hc⟩ := hg1.rules.at_ RuleG.size_cells (by omega) hk
    exact ⟨b, off, _, _, _, _, hA, hc k hk W1 (Below.refl _ _) 2 _ rfl, hc k hk W1 (Below.refl _ _) 3 _ rfl⟩
  have HB1 := Xa hB1
  clear hk hg hg1 hB1
  have key : True := trivial
  go_enter Tryz.func51, Tryz.ntmps51
  go_wp2_with fail
  all_goals first
    | (go_ret
       exact ⟨_, rfl, HB1.out⟩)
    | skip
  all_goals
    go_loopw [3] (fun iv wr => ∃ k : Nat, k ≤ g.entries.xs.length ∧ iv = .int .i64 k ∧ wr = W1) (fun iv _ => g.entries.xs.length - (intOf iv).toNat)
    case atStart => exact ⟨0, Nat.zero_le _, rfl, rfl⟩
    case round =>
      obtain ⟨k, hk, rfl, rfl⟩ := hrel
      by_cases hlt : k < g.entries.xs.length
      · obtain ⟨b, off, n, cp, hA, hc⟩ := HE.out k hlt
        rw [hA] at c4
        try rw [hA]
        clear hA
        go_wp2_with fail
        · go_ret
          exact ⟨_, rfl, HB1.out⟩
        · go_roundw
          case rel => exact ⟨k + 1, by omega, by go_num, by first | rfl | trivial⟩
          case measure => simp [intOf]; omega
      · go_wp2_with fail
        clear hlt
        go_loopw [4] (fun iv wr2 => ∃ k : Nat, k ≤ g.rules.xs.length ∧ iv = .int .i64 k ∧ wr2 = wr) (fun iv _ => g.rules.xs.length - (intOf iv).toNat)
        case atStart => exact ⟨0, Nat.zero_le _, rfl, rfl⟩
        case round =>
          obtain ⟨k, hk, rfl, rfl⟩ := hrel
          by_cases hlt : k < g.rules.xs.length
          · obtain ⟨b, off, n, cp, n', cp', hA, hc, hc'⟩ := HR.out k hlt
            rw [hA] at c5
            try rw [hA]
            clear hA
            go_wp2_with fail
            all_goals first
              | (go_ret
                 exact ⟨_, rfl, HB1.out⟩)
              | skip
            go_roundw
            case rel => exact ⟨k + 1, by omega, by go_num, by first | rfl | trivial⟩
            case measure => simp [intOf]; omega
          · go_wp2_with fail
            go_ret
            exact ⟨_, rfl, HB1.out⟩
def FewC (g:Gram) (its:List ItemG) (n:Int):Prop:=(g.cats.xs.length≤6∨32<g.cats.xs.length)∧(its.length≤50∨16384<its.length)∧(n≤7∨16<n)
def FewPost29 (g:Gram) (its:List ItemG) (n:Int) (w:World) (e:Ending) (w':World):Prop:=∃b:Bool,e = .returned (.bool b)∧Below w.heap.size w w'∧(b=true→FewC g its n)
theorem FewPost29.no {g:Gram} {its:List ItemG} {n:Int} {w w':World} (hb:Below w.heap.size w w'):FewPost29 g its n w (.returned (.bool false)) w':=⟨false,rfl,hb,fun h=>by cases h⟩
set_option maxHeartbeats 4000000 in
theorem Xna (g:Gram) (its:SlS ItemG) (n:Int) (w:World) (hg:g.lies w) (hi:ItemsAt w its):Calls Tryz.prog 16 #[.agg #[.string g.name,.slice g.cats.addr g.cats.xs.length g.cats.cap,.string g.start,.int .i64 g.startNo,.slice g.entries.addr g.entries.xs.length g.entries.cap,.slice g.rules.addr g.rules.xs.length g.rules.cap],.slice its.addr its.xs.length its.cap,.int .i64 n] w (FewPost29 g its.xs n w):=by
 obtain⟨W1,hW1⟩:∃W1,w.alloc (.cells #[.string g.name,.slice g.cats.addr g.cats.xs.length g.cats.cap,.string g.start,.int .i64 g.startNo,.slice g.entries.addr g.entries.xs.length g.entries.cap,.slice g.rules.addr g.rules.xs.length g.rules.cap] 26)=W1:=⟨_,rfl⟩
 have hB1:=Yn hW1
 have hk:=Yv hW1
 have HG:=Xa (hg.ext hB1)
 have HI:=Xa (hi.ext hB1)
 have hml:its.xs.length≤9223372036854775807:=Nat.le_trans hi.lies.cap hi.lies.max
 have hmc:g.cats.xs.length≤9223372036854775807:=Nat.le_trans hg.cats.cap hg.cats.max
 have Hk:=Xa hk
 have HB1:=Xa hB1
 clear hk hg hi hB1
 go_enter Tryz.func16,Tryz.ntmps16
 go_wp2_with fail
 clear hW1
 go_loopw [7] (fun iv wr=>∃k:Nat,k≤its.xs.length∧k≤60∧iv = .int .i64 k∧Below W1.heap.size W1 wr) (fun iv _=>its.xs.length-(intOf iv).toNat)
 case atStart=>exact⟨0,Nat.zero_le _,by omega,rfl,Below.refl _ _⟩
 case round =>
  obtain⟨k,hk,hk6,rfl,hB⟩:=hrel
  have hBw:=Xb HB1.out hB
  by_cases hlt:k<its.xs.length∧k<60
  ·obtain⟨hl1,hl2⟩:=hlt
   obtain⟨bi,oi,hAi,hbi,hci⟩:=(HI.out.ext hB).lies.at_ ItemG.size_cells (by omega) hl1
   have d4:wr.cell? ⟨bi,oi+k*6+4,none⟩=some (.slice its.xs[k].tgt.addr its.xs[k].tgt.xs.length its.xs[k].tgt.cap):=hci k hl1 wr (Below.refl _ _) 4 _ rfl
   rw[hAi]
   clear hci hAi
   generalize its.xs[k]=z at *
   by_cases h8:8<z.tgt.xs.length
   ·go_wp2_with fail
    go_ret
    exact .no hBw
   ·go_wp2_with fail
    go_roundw
    case rel=>exact⟨k+1,by omega,by omega,by go_num,hB⟩
    case measure=>simp[intOf];omega
  ·have F1:=Xa (Xm9 g wr (HG.out.ext hB))
   have hkr:=Xh hB Hk.out
   have HBw:=Xa hBw
   have Hkr:=Xa hkr
   have c0:=gblk hkr 0
   have c1:=gblk hkr 1
   have c2:=gblk hkr 2
   have c3:=gblk hkr 3
   have c4:=gblk hkr 4
   have c5:=gblk hkr 5
   have hn60:¬(k<its.xs.length∧k<60):=hlt
   clear hkr hB hBw
   by_cases h1:k<its.xs.length
   ·have h2:¬k<60:=fun h=>hlt ⟨h1,h⟩
    go_wp2_with fail
    refine F1.out.mono ?_
    rintro e w2 ⟨b1,rfl,hb2⟩
    have hk2:=Xh hb2 Hkr.out
    have HB2:=Xa (Xb HBw.out hb2)
    clear c0 c1 c2 c3 c4 c5
    have c0:=gblk hk2 0
    have c1:=gblk hk2 1
    have c2:=gblk hk2 2
    have c3:=gblk hk2 3
    have c4:=gblk hk2 4
    have c5:=gblk hk2 5
    clear F1 hk2 hb2 hn60 hlt h1 hk hk6 h2
    cases b1
    ·go_wp2_with fail
     go_ret
     exact .no HB2.out
    go_wp2_with fail
    all_goals
     go_ret
     refine⟨_,rfl,HB2.out,fun h=>?_⟩
     first
      | (cases h;done)
      | (simp at h;exact⟨by omega,by omega,by omega⟩)
      | exact⟨by omega,by omega,by omega⟩
   ·have h2:=h1
    go_wp2_with fail
    refine F1.out.mono ?_
    rintro e w2 ⟨b1,rfl,hb2⟩
    have hk2:=Xh hb2 Hkr.out
    have HB2:=Xa (Xb HBw.out hb2)
    clear c0 c1 c2 c3 c4 c5
    have c0:=gblk hk2 0
    have c1:=gblk hk2 1
    have c2:=gblk hk2 2
    have c3:=gblk hk2 3
    have c4:=gblk hk2 4
    have c5:=gblk hk2 5
    clear F1 hk2 hb2 hn60 hlt h1 hk hk6 h2
    cases b1
    ·go_wp2_with fail
     go_ret
     exact .no HB2.out
    go_wp2_with fail
    all_goals
     go_ret
     refine⟨_,rfl,HB2.out,fun h=>?_⟩
     first
      | (cases h;done)
      | (simp at h;exact⟨by omega,by omega,by omega⟩)
      | exact⟨by omega,by omega,by omega⟩
def Xmu (g:Gram) (its:List ItemG) (n:Int) (w:World) (e:Ending) (w':World):Prop:=e = .returned (.int .i64 (errC g its n))∧Below w.heap.size w w'
set_option maxHeartbeats 4000000 in
theorem Xir (g:Gram) (its:SlS ItemG) (n:Int) (w:World) (hg:g.lies w) (hi:ItemsAt w its):Calls Tryz.prog 28 #[.agg #[.string g.name,.slice g.cats.addr g.cats.xs.length g.cats.cap,.string g.start,.int .i64 g.startNo,.slice g.entries.addr g.entries.xs.length g.entries.cap,.slice g.rules.addr g.rules.xs.length g.rules.cap],.slice its.addr its.xs.length its.cap,.int .i64 n] w (Xmu g its.xs n w):=by
 obtain⟨W1,hW1⟩:∃W1,w.alloc (.cells #[.string g.name,.slice g.cats.addr g.cats.xs.length g.cats.cap,.string g.start,.int .i64 g.startNo,.slice g.entries.addr g.entries.xs.length g.entries.cap,.slice g.rules.addr g.rules.xs.length g.rules.cap] 26)=W1:=⟨_,rfl⟩
 have hB1:=Yn hW1
 have hk:=Yv hW1
 have HG:=Xa (hg.ext hB1)
 have HI:=Xa (hi.ext hB1)
 have F1:=Xa (Xho g W1 (hg.ext hB1))
 have hml:its.xs.length≤9223372036854775807:=Nat.le_trans hi.lies.cap hi.lies.max
 have Hk:=Xa hk
 have HB1:=Xa hB1
 have HE:Hid (errC g its.xs n=if Ys g≠0 then Ys g else if n<1∨16<n then 1 else if 16384<its.xs.length then 2 else if its.xs.all (Zo g n) then 0 else 280):=rfl
 have c0:=gblk hk 0
 have c1:=gblk hk 1
 have c2:=gblk hk 2
 have c3:=gblk hk 3
 have c4:=gblk hk 4
 have c5:=gblk hk 5
 clear hk hg hi hB1
 go_enter Tryz.func28,Tryz.ntmps28
 go_wp2_with fail
 refine F1.out.mono ?_
 rintro e w2 ⟨rfl,hb2⟩
 have HB2:=Xa (Xb HB1.out hb2)
 have Hb12:=Xa hb2
 clear F1 hb2 c0 c1 c2 c3 c4 c5 hW1
 by_cases h0:Ys g=0
 rotate_left
 ·have q0:(Ys g != 0)=true:=by simpa using h0
  have q1:(Ys g == 0)=false:=by simpa using h0
  have HR:=Xa (HE.out.trans (if_pos h0))
  clear HE h0
  go_wp2_with fail
  go_ret
  exact⟨by rw[HR.out];rfl,HB2.out⟩
 have hfc:=(Xgs h0).few
 have HE1:=HE.out.trans (if_neg (by simpa using h0))
 rw[h0]
 by_cases hn:n<1∨16<n
 ·have HR:=Xa (HE1.trans (if_pos hn))
  clear HE HE1 h0
  by_cases h1:n<1
  ·go_wp2_with fail
   go_ret
   exact⟨by rw[HR.out];rfl,HB2.out⟩
  ·have h2:16<n:=by omega
   go_wp2_with fail
   go_ret
   exact⟨by rw[HR.out];rfl,HB2.out⟩
 have h1:¬n<1:=by omega
 have h2:¬16<n:=by omega
 have HE2:=HE1.trans (if_neg hn)
 by_cases hl:16384<its.xs.length
 ·have HR:=Xa (HE2.trans (if_pos hl))
  clear HE HE1 HE2 h0
  go_wp2_with fail
  go_ret
  exact⟨by rw[HR.out];rfl,HB2.out⟩
 have HE3:=Xa (HE2.trans (if_neg hl))
 clear HE HE1 HE2 h0 hn
 go_wp2_with fail
 go_loopw [8] (fun iv wr=>∃k:Nat,k≤its.xs.length∧iv = .int .i64 k∧Below W1.heap.size W1 wr∧Hid (∀x∈its.xs.take k,Zo g n x=true)) (fun iv _=>its.xs.length-(intOf iv).toNat)
 case atStart=>exact⟨0,Nat.zero_le _,rfl,Hb12.out,fun x hx=>by simp at hx⟩
 case round =>
  obtain⟨k,hk,rfl,hB,Hall⟩:=hrel
  have HBw:=Xa (Xb HB1.out hB)
  by_cases hlt:k<its.xs.length
  ·obtain⟨bi,oi,hAi,hbi,hci⟩:=(HI.out.ext hB).lies.at_ ItemG.size_cells (by omega) hlt
   have HC:Hid (∀V,Below wr.heap.size wr V→(V.cell? ⟨w.heap.size,0,none⟩=some (.string g.name)∧V.cell? ⟨w.heap.size,1,none⟩=some (.slice g.cats.addr g.cats.xs.length g.cats.cap)∧V.cell? ⟨w.heap.size,2,none⟩=some (.string g.start)∧V.cell? ⟨w.heap.size,3,none⟩=some (.int .i64 g.startNo)∧V.cell? ⟨w.heap.size,4,none⟩=some (.slice g.entries.addr g.entries.xs.length g.entries.cap)∧V.cell? ⟨w.heap.size,5,none⟩=some (.slice g.rules.addr g.rules.xs.length g.rules.cap))∧V.cell? ⟨bi,oi+k*6,none⟩=some (.int .i64 its.xs[k].cat)∧V.cell? ⟨bi,oi+k*6+1,none⟩=some (.int .i64 its.xs[k].frm)∧V.cell? ⟨bi,oi+k*6+2,none⟩=some (.int .i64 its.xs[k].unt)∧V.cell? ⟨bi,oi+k*6+3,none⟩=some (.int .i64 its.xs[k].cost)∧V.cell? ⟨bi,oi+k*6+4,none⟩=some (.slice its.xs[k].tgt.addr its.xs[k].tgt.xs.length its.xs[k].tgt.cap)∧V.cell? ⟨bi,oi+k*6+5,none⟩=some (.int .i64 its.xs[k].term)):=fun V hV=>by
    have h:=((Xb hB hV).block _ (Xc Hk.out)).trans Hk.out
    exact⟨⟨gblk h 0,gblk h 1,gblk h 2,gblk h 3,gblk h 4,gblk h 5⟩,hci k hlt V hV 0 _ rfl,hci k hlt V hV 1 _ rfl,hci k hlt V hV 2 _ rfl,hci k hlt V hV 3 _ rfl,hci k hlt V hV 4 _ rfl,hci k hlt V hV 5 _ rfl⟩
   have hR:=Xa (Xjo g n its.xs[k] wr.drew (by omega) (((HI.out.ext hB).tgt _ (List.getElem_mem hlt)).ext (Xi (Below.refl _ _))) hfc)
   have Hsn:=Xa (List.take_succ_eq_append_getElem hlt)
   have hmem:=Xa (List.getElem_mem hlt)
   rw[hAi]
   clear hci hAi
   generalize its.xs[k]=z at *
   have HB:=Xa hB
   cases hz:Zo g n z
   ·rw[hz] at hR
    have HR:=Xa (HE3.out.trans (if_neg (by rw[List.all_eq_true];intro h;rw[h z hmem.out] at hz;cases hz)))
    clear hz Hsn hmem HE3 Hall hB
    go_wp2_with fail
    refine wpIn_wide (n:=0) |>.1 ?_
    refine Y4 _ ?_ (fun _ _ h=>h)
    refine Xo (fun V=>Below wr.heap.size wr V) (by kernel_rfl) ?_
    refine Xd (i:=0) (v:=.agg #[.string g.name,.slice g.cats.addr g.cats.xs.length g.cats.cap,.string g.start,.int .i64 g.startNo,.slice g.entries.addr g.entries.xs.length g.entries.cap,.slice g.rules.addr g.rules.xs.length g.rules.cap]) rfl (by kernel_rfl) (fun _ _ _ h=>h) (fun V hV=>(by obtain⟨⟨m0,m1,m2,m3,m4,m5⟩,r0,r1,r2,r3,r4,r5⟩:=HC.out V hV;go_simp)) ?_
    refine Xd (i:=1) rfl (by kernel_rfl) (fun _ _ _ h=>h) (fun V hV=>(by skip;go_simp<;>rfl)) ?_
    refine Xd (i:=2) rfl (by kernel_rfl) (fun _ _ _ h=>h) (fun V hV=>(by skip;go_simp<;>rfl)) ?_
    refine Xd (i:=3) rfl (by kernel_rfl) (fun _ _ _ h=>h) (fun V hV=>(by skip;go_simp<;>rfl)) ?_
    refine Xd (i:=4) rfl (by kernel_rfl) (fun _ _ _ h=>h) (fun V hV=>(by skip;go_simp<;>rfl)) ?_
    refine Xd (i:=5) (v:=.agg #[.int .i64 z.cat,.int .i64 z.frm,.int .i64 z.unt,.int .i64 z.cost,.slice z.tgt.addr z.tgt.xs.length z.tgt.cap,.int .i64 z.term]) rfl (by kernel_rfl) (fun _ _ _ h=>h) (fun V hV=>(by obtain⟨⟨m0,m1,m2,m3,m4,m5⟩,r0,r1,r2,r3,r4,r5⟩:=HC.out V hV;go_simp)) ?_
    refine Xg (i:=6) (Xi (Below.refl _ _)) (by kernel_rfl) rfl (fun K hK=>?_)
    go_simp
    refine⟨trivial,rfl,callsIn_wide.2 (hR.out.mono ?_)⟩
    rintro e w4 ⟨rfl,hB4⟩
    refine hK _ _ ?_
    clear hK K
    have hb4:=Xb (Xi (Below.refl wr.heap.size wr)) hB4
    refine Xd (i:=7) rfl (by kernel_rfl) (fun _ _ _ h=>h) (fun V hV=>(by skip;go_simp<;>rfl)) ?_
    refine Xl hb4 (by kernel_rfl) ?_ _
    clear hR HC
    go_wp2_with fail
    go_ret
    exact⟨by rw[HR.out];rfl,Xb HBw.out hb4⟩
   ·rw[hz] at hR
    have Hz:=Xa hz
    clear hz hmem hB
    go_wp2_with fail
    refine wpIn_wide (n:=0) |>.1 ?_
    refine Y4 _ ?_ (fun _ _ h=>h)
    refine Xo (fun V=>Below wr.heap.size wr V) (by kernel_rfl) ?_
    refine Xd (i:=0) (v:=.agg #[.string g.name,.slice g.cats.addr g.cats.xs.length g.cats.cap,.string g.start,.int .i64 g.startNo,.slice g.entries.addr g.entries.xs.length g.entries.cap,.slice g.rules.addr g.rules.xs.length g.rules.cap]) rfl (by kernel_rfl) (fun _ _ _ h=>h) (fun V hV=>(by obtain⟨⟨m0,m1,m2,m3,m4,m5⟩,r0,r1,r2,r3,r4,r5⟩:=HC.out V hV;go_simp)) ?_
    refine Xd (i:=1) rfl (by kernel_rfl) (fun _ _ _ h=>h) (fun V hV=>(by skip;go_simp<;>rfl)) ?_
    refine Xd (i:=2) rfl (by kernel_rfl) (fun _ _ _ h=>h) (fun V hV=>(by skip;go_simp<;>rfl)) ?_
    refine Xd (i:=3) rfl (by kernel_rfl) (fun _ _ _ h=>h) (fun V hV=>(by skip;go_simp<;>rfl)) ?_
    refine Xd (i:=4) rfl (by kernel_rfl) (fun _ _ _ h=>h) (fun V hV=>(by skip;go_simp<;>rfl)) ?_
    refine Xd (i:=5) (v:=.agg #[.int .i64 z.cat,.int .i64 z.frm,.int .i64 z.unt,.int .i64 z.cost,.slice z.tgt.addr z.tgt.xs.length z.tgt.cap,.int .i64 z.term]) rfl (by kernel_rfl) (fun _ _ _ h=>h) (fun V hV=>(by obtain⟨⟨m0,m1,m2,m3,m4,m5⟩,r0,r1,r2,r3,r4,r5⟩:=HC.out V hV;go_simp)) ?_
    refine Xg (i:=6) (Xi (Below.refl _ _)) (by kernel_rfl) rfl (fun K hK=>?_)
    go_simp
    refine⟨trivial,rfl,callsIn_wide.2 (hR.out.mono ?_)⟩
    rintro e w4 ⟨rfl,hB4⟩
    refine hK _ _ ?_
    clear hK K
    have hb4:=Xb (Xi (Below.refl wr.heap.size wr)) hB4
    refine Xd (i:=7) rfl (by kernel_rfl) (fun _ _ _ h=>h) (fun V hV=>(by skip;go_simp<;>rfl)) ?_
    refine Xl hb4 (by kernel_rfl) ?_ _
    clear hR HC
    go_wp2_with fail
    go_roundw
    case rel =>
     refine⟨k+1,by omega,by go_num,Xb HB.out hb4,fun x hx=>?_⟩
     rw[Hsn.out] at hx
     rcases List.mem_append.1 hx with hx|hx
     ·exact Hall.out x hx
     ·rw[List.mem_singleton.1 hx];exact Hz.out
    case measure=>simp[intOf];omega
  ·have hkl:k=its.xs.length:=by omega
   subst hkl
   have HR:=Xa (HE3.out.trans (if_pos (by rw[List.all_eq_true];have h:=Hall.out;rw[List.take_length] at h;exact h)))
   clear HE3 Hall
   go_wp2_with fail
   go_ret
   exact⟨by rw[HR.out];rfl,HBw.out⟩
end Go.Proofs.YthojaplnimoacaaGreatDoor
