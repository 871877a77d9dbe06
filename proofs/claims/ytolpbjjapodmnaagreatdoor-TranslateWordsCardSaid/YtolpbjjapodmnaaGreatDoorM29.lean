/- Texts of this claim, one after the other: Law30d, R26n, Law30e, TrV, Opg1g, Opg2g, Opg3g, Opg4g, Opg5. -/
import Derived.Test.YtolpbjjapodmnaaGreatDoorM28
import Derived.Test.YtolpbjjapodmnaaGreatDoorM4
import Derived.Test.YtolpbjjapodmnaaGreatDoorM9
import Derived.Test.YtolpbjjapodmnaaGreatDoorM3
import Derived.Test.YtolpbjjapodmnaaGreatDoorM27
import Derived.Test.YtolpbjjapodmnaaGreatDoorTie
import Derived.Test.YtolpbjjapodmnaaGreatDoorM13
import Derived.Test.YtolpbjjapodmnaaGreatDoorM19
import Derived.Test.YtolpbjjapodmnaaGreatDoorM12
import Derived.Lib.LaidU8T
import Derived.PinnedBridge
import Derived.OpenVars
import Derived.Deep.Slices
import Derived.Deep.Fields
import Derived.Lib.SmallJoins
import Derived.ProofKit
import Derived.LaidMore
import Derived.OpenShut
import Derived.Lay
import Derived.Stop.Joined
import Derived.Below
import Derived.ChangeSame
import Derived.Carry
import Derived.Lib.LaidTab
namespace Go.Proofs.YtolpbjjapodmnaaGreatDoor
open Go.RowKit Go.Han
attribute [local irreducible] wpStill wpQuiet
set_option maxRecDepth 100000
theorem X9k {w:World} {b ty:Nat} {cs:Array Value} {fr:Nat×Nat} {l:List Int} (h:w.heap[b]? = some (.cells cs ty fr)) (hc:∀(j:Nat) (x:Int),l[j]? = some x→cs[j]? = some (.int .i64 x)):NumAt w (some ⟨b,0,none⟩) l:=fun k hk=>by
 refine⟨b,0,rfl,Xc h,fun j hj=>?_⟩
 rw[Nat.zero_add,gblk h j]
 exact hc j _ (List.getElem?_eq_getElem hj)
theorem Xx4 {w:World} {b ty:Nat} {cs:Array Value} {fr:Nat×Nat} {l:List Int} (h:w.heap[b]? = some (.cells cs ty fr)) (hc:cs.toList=l.map (Value.int .i64)):NumAt w (some ⟨b,0,none⟩) l:=X9k h fun j x hx=>by
 rw[← Array.getElem?_toList,hc,List.getElem?_map,hx]
 rfl
theorem X3r {s t:SlS TgG} {w:World} (hs:TgsAt w s) (ht:TgsAt w t) (hm:s.xs.map TgG.c=t.xs.map TgG.c):Calls Tryz.prog 39 #[.slice s.addr s.xs.length s.cap,.slice t.addr t.xs.length t.cap] w fun e w'=>e = .returned (.bool true)∧Below w.heap.size w w':=by
 have h:=X5u s t w hs ht
 rw[decide_eq_true hm] at h
 exact h
theorem X9j (V:World):StrS.lies V ⟨none,0,[]⟩:=⟨Rd.nil _ _,Nat.le_refl _,by show (0:Nat)≤_;omega,fun _=>rfl⟩
theorem X7a (V:World):ItemsAt V ⟨none,0,[]⟩:=⟨⟨Rd.nil _ _,Nat.le_refl _,by show (0:Nat)≤_;omega,fun _=>rfl⟩,fun x hx=>by cases hx⟩
theorem X8s {V:World} {b:Nat} (h:V.heap[b]? = some (.cells #[.string bS] 9 (0,0))):(s30 b).lies V :=
 ⟨Xx0 h rfl (by decide) rfl,⟨Rd.nil _ _,Nat.le_refl _,by show (0:Nat)≤_;omega,fun _=>rfl⟩,fun x hx=>(by cases hx),⟨Rd.nil _ _,Nat.le_refl _,by show (0:Nat)≤_;omega,fun _=>rfl⟩,fun x hx=>(by cases hx)⟩
theorem X88 (b:Nat):Xx9 (g30 b) [] 1 (.node (-1) 5 0 0 [])=([],290):=by kernel_rfl
theorem X0y (s:ByteArray) (A:Option Addr) (n c:Nat) (w:World):Calls Tryz.prog 95 #[.string s,.slice A n c] w fun e w'=>e = .returned (.agg #[.string s,.slice A n c,.int .i64 (-1)])∧Below w.heap.size w w' :=
 (X3s s A n c w).mono fun _ _ ⟨h1,h2⟩=>⟨h1,h2 ▸ Xe (Below.refl _ _) _⟩
def X30:Prop:=∀W:World,TabsG W→Calls Tryz.prog 33 #[] W fun e w'=>e = .returned (.bool true)∧Below W.heap.size W w'
set_option maxHeartbeats 4000000 in
theorem X5v:X30:=by
 intro W hT
 have HT:=Xa (fun V (hV:Below W.heap.size W V)=>hT.ext hV)
 clear hT
 go_enter Tryz.func33,Tryz.ntmps33
 go_wp2_with fail
 refine(Xzq W).mono ?_
 rintro e p1 ⟨G1,rfl,hI1,hg1,hb1⟩
 have B1:=Xa (Xb (Below.refl W.heap.size W) hb1)
 obtain⟨q1,hq1⟩:∃q1,p1.alloc (.cells #[.string ⟨#[104,117,110,100]⟩,.string ⟨#[117,110,100]⟩,.string ⟨#[107,97,116,122,101]⟩] 9)=q1:=⟨_,rfl⟩
 have hc1:=Yn hq1
 have hk1:=Yv hq1
 have C1:=Xa (Xb B1.out hc1)
 have F1:=Xa (X6j (ws:=⟨some ⟨p1.heap.size,0,none⟩,3,[X1c,bUnd,Xy5]⟩) (by obtain⟨b,rfl⟩:=hI1;exact X74 b) (by obtain⟨b,rfl⟩:=hI1;exact ex1_tr b) (by decide) q1 (HT.out _ C1.out) (hg1.ext hc1) (X05 hI1) (Xx0 hk1 rfl (by decide) rfl))
 have P1:=Xa (Xb hb1 hc1)
 clear hI1 hg1 hb1 hc1 hk1
 go_wp2_with fail
 refine F1.out.mono ?_
 rintro e r1 ⟨A1,c1,L1,rfl,hl1,ht1,hd1⟩
 have D1:=Xa (Xb C1.out hd1)
 have M1:=Xa hl1
 have T1:=Xa ht1
 have X1:=Xa (Xb P1.out hd1)
 clear F1 hl1 ht1 hd1
 go_wp2_with fail
 refine(Xzq r1).mono ?_
 rintro e p2 ⟨G2,rfl,hI2,hg2,hb2⟩
 have B2:=Xa (Xb D1.out hb2)
 have C2:=B2
 have F2:=Xa (X6j (ws:=⟨none,0,[]⟩) (by obtain⟨b,rfl⟩:=hI2;exact X75 b) (X3v rfl) (by decide) p2 (HT.out _ C2.out) hg2 (X05 hI2) (X9j _))
 have P2:=Xa hb2
 clear hI2 hg2 hb2
 go_wp2_with fail
 refine F2.out.mono ?_
 rintro e r2 ⟨A2,c2,L2,rfl,hl2,ht2,hd2⟩
 have D2:=Xa (Xb C2.out hd2)
 have M2:=Xa hl2
 have T2:=Xa ht2
 obtain rfl:L2=[]:=List.map_eq_nil_iff.1 hl2
 have X2:=Xa (Xb P2.out hd2)
 clear F2 hl2 ht2 hd2
 go_wp2_with fail
 refine(Xzq r2).mono ?_
 rintro e p3 ⟨G3,rfl,hI3,hg3,hb3⟩
 have B3:=Xa (Xb D2.out hb3)
 obtain⟨q3,hq3⟩:∃q3,p3.alloc (.cells #[.string ⟨#[107,97,116,122,101]⟩,.string ⟨#[104,117,110,100]⟩] 9)=q3:=⟨_,rfl⟩
 have hc3:=Yn hq3
 have hk3:=Yv hq3
 have C3:=Xa (Xb B3.out hc3)
 have F3:=Xa (X6j (ws:=⟨some ⟨p3.heap.size,0,none⟩,2,[Xy5,X1c]⟩) (by obtain⟨b,rfl⟩:=hI3;exact X76 b) (by obtain⟨b,rfl⟩:=hI3;exact ex3_tr b) (by decide) q3 (HT.out _ C3.out) (hg3.ext hc3) (X05 hI3) (Xx0 hk3 rfl (by decide) rfl))
 have P3:=Xa (Xb hb3 hc3)
 clear hI3 hg3 hb3 hc3 hk3
 go_wp2_with fail
 refine F3.out.mono ?_
 rintro e r3 ⟨A3,c3,L3,rfl,hl3,ht3,hd3⟩
 have D3:=Xa (Xb C3.out hd3)
 have M3:=Xa hl3
 have T3:=Xa ht3
 have X3:=Xa (Xb P3.out hd3)
 clear F3 hl3 ht3 hd3
 go_upto_region 5 with fail
 obtain⟨u1,hu1⟩:∃u1,r3.alloc (.cells #[.string ⟨#[115]⟩] 9)=u1:=⟨_,rfl⟩
 obtain⟨u2,hu2⟩:∃u2,u1.alloc (.cells #[.string ⟨#[103,101,114,109,97,110]⟩,.slice (some ⟨r3.heap.size,0,none⟩) 1 1,.string ⟨#[115]⟩,.int .i64 0,.slice none 0 0,.slice none 0 0] 26)=u2:=⟨_,rfl⟩
 rw[hu1,hu2]
 have hz1:u1.heap.size=r3.heap.size+1:=by rw[← hu1,World.size_alloc]
 have ha1:=Yn hu1
 have ha2:=Yn hu2
 have hk1:=Yv hu1
 have hk2:u2.heap[r3.heap.size+1]? = some (.cells #[.string ⟨#[103,101,114,109,97,110]⟩,.slice (some ⟨r3.heap.size,0,none⟩) 1 1,.string ⟨#[115]⟩,.int .i64 0,.slice none 0 0,.slice none 0 0] 26 (0,0)):=by rw[← hu2,← hz1];exact World.alloc_heap_new _ _
 have hk3:=Xh ha2 hk1
 obtain⟨z0,z1,z2,z3,z4,z5⟩:=gb6 hk2
 obtain⟨u3,hu3⟩:∃u3,u2.alloc (.cells #[.string ⟨#[111,106,101]⟩] 9)=u3:=⟨_,rfl⟩
 have ha3:=Yn hu3
 have hk4:=Yv hu3
 have hk5:=Xh ha3 hk3
 have C4:=Xa (Xb D3.out (Xb ha1 (Xb ha2 ha3)))
 have F4:=Xa (X6j (G:=s30 r3.heap.size) (ws:=⟨some ⟨u2.heap.size,0,none⟩,1,[bOje]⟩) (X77 _) (ex4_tr _) (by decide) u3 (HT.out _ C4.out) (X8s hk5) (shortS _) (Xx0 hk4 rfl (by decide) rfl))
 have P4:=Xa (Xb ha1 (Xb ha2 ha3))
 clear hk1 hk2 hk3 hk4 hk5 ha1 ha2 ha3 hu1 hu2 hz1
 go_wp2_with fail
 refine F4.out.mono ?_
 rintro e r4 ⟨A4,c4,L4,rfl,hl4,ht4,hd4⟩
 have D4:=Xa (Xb C4.out hd4)
 have M4:=Xa hl4
 have T4:=Xa ht4
 have X4:=Xa (Xb P4.out hd4)
 clear F4 hl4 ht4 hd4 z0 z1 z2 z3 z4 z5 hu3
 go_wp2_with fail
 refine(Xzq r4).mono ?_
 rintro e p5 ⟨G5,rfl,hI5,hg5,hb5⟩
 have B5:=Xa (Xb D4.out hb5)
 have hY:Xx9 G5 [] 1 (.node (-1) 5 0 0 [])=([],290):=by obtain⟨b,rfl⟩:=hI5;exact X88 b
 have F5:=Xa (X6p G5 ⟨none,0,[]⟩ 1 (fun _=>False) (.node (-1) 5 0 0 []) (Xzp 5) p5 (HT.out _ B5.out) hg5 (X05 hI5) (X7a _) (fun _ h=>h.elim) (X1s _ _ 5) (by simp[Z6,Ve,I6]))
 have HY:=Xa hY
 have P5:=Xa hb5
 clear hI5 hg5 hb5 hY
 go_wp2_with fail
 refine F5.out.mono ?_
 rintro e r5 ⟨hb5,A5,k5,c5,L5,rfl,_,_,_⟩
 rw[HY.out]
 have D5:=Xa (Xb B5.out hb5)
 have X5:=Xa (Xb P5.out hb5)
 clear F5 hb5
 obtain⟨ap0,hap0⟩:∃ap0,r5.alloc (.cells #[.int .i64 1,.int .i64 2] 3)=ap0:=⟨_,rfl⟩
 have bap0:=Yn hap0
 have Nap0:Hid (NumAt ap0 (some ⟨r5.heap.size,0,none⟩) [1,2]):=Xx4 (show ap0.heap[r5.heap.size]? = some (.cells #[.int .i64 1,.int .i64 2] 3 (0,0)) by rw[← hap0];exact World.alloc_heap_new _ _) rfl
 have Eap0:=Xa (Xb D5.out bap0)
 have Fap0:=Xa bap0
 clear bap0
 go_wp2_with fail
 refine(X0y ⟨#[99,97,116]⟩ (some ⟨r5.heap.size,0,none⟩) 2 2 ap0).mono ?_
 rintro e vp0 ⟨rfl,bvp0⟩
 have Evp0:=Xa (Xb Eap0.out bvp0)
 have Fvp0:=Xa bvp0
 clear bvp0 hap0
 obtain⟨ap1,hap1⟩:∃ap1,vp0.alloc (.cells #[.int .i64 0,.int .i64 1,.int .i64 2] 3)=ap1:=⟨_,rfl⟩
 have bap1:=Yn hap1
 have Nap1:Hid (NumAt ap1 (some ⟨vp0.heap.size,0,none⟩) [0,1,2]):=Xx4 (show ap1.heap[vp0.heap.size]? = some (.cells #[.int .i64 0,.int .i64 1,.int .i64 2] 3 (0,0)) by rw[← hap1];exact World.alloc_heap_new _ _) rfl
 have Eap1:=Xa (Xb Evp0.out bap1)
 have Fap1:=Xa bap1
 clear bap1
 go_wp2_with fail
 refine(X0y ⟨#[97,110,100]⟩ (some ⟨vp0.heap.size,0,none⟩) 3 3 ap1).mono ?_
 rintro e vp1 ⟨rfl,bvp1⟩
 have Evp1:=Xa (Xb Eap1.out bvp1)
 have Fvp1:=Xa bvp1
 clear bvp1 hap1
 obtain⟨ap2,hap2⟩:∃ap2,vp1.alloc (.cells #[.int .i64 0,.int .i64 1] 3)=ap2:=⟨_,rfl⟩
 have bap2:=Yn hap2
 have Nap2:Hid (NumAt ap2 (some ⟨vp1.heap.size,0,none⟩) [0,1]):=Xx4 (show ap2.heap[vp1.heap.size]? = some (.cells #[.int .i64 0,.int .i64 1] 3 (0,0)) by rw[← hap2];exact World.alloc_heap_new _ _) rfl
 have Eap2:=Xa (Xb Evp1.out bap2)
 have Fap2:=Xa bap2
 clear bap2
 go_wp2_with fail
 refine(X0y ⟨#[116,104,101]⟩ (some ⟨vp1.heap.size,0,none⟩) 2 2 ap2).mono ?_
 rintro e vp2 ⟨rfl,bvp2⟩
 have Evp2:=Xa (Xb Eap2.out bvp2)
 have Fvp2:=Xa bvp2
 clear bvp2 hap2
 obtain⟨ap3,hap3⟩:∃ap3,vp2.alloc (.cells #[.int .i64 0,.int .i64 1] 3)=ap3:=⟨_,rfl⟩
 have bap3:=Yn hap3
 have Nap3:Hid (NumAt ap3 (some ⟨vp2.heap.size,0,none⟩) [0,1]):=Xx4 (show ap3.heap[vp2.heap.size]? = some (.cells #[.int .i64 0,.int .i64 1] 3 (0,0)) by rw[← hap3];exact World.alloc_heap_new _ _) rfl
 have Eap3:=Xa (Xb Evp2.out bap3)
 have Fap3:=Xa bap3
 clear bap3
 go_wp2_with fail
 refine(X0y ⟨#[100,111,103]⟩ (some ⟨vp2.heap.size,0,none⟩) 2 2 ap3).mono ?_
 rintro e vp3 ⟨rfl,bvp3⟩
 have Evp3:=Xa (Xb Eap3.out bvp3)
 have Fvp3:=Xa bvp3
 clear bvp3 hap3
 obtain⟨xp,hxp⟩:∃xp,vp3.alloc (.cells #[.string ⟨#[99,97,116]⟩,.slice (some ⟨r5.heap.size,0,none⟩) 2 2,.int .i64 (-1),.string ⟨#[97,110,100]⟩,.slice (some ⟨vp0.heap.size,0,none⟩) 3 3,.int .i64 (-1),.string ⟨#[116,104,101]⟩,.slice (some ⟨vp1.heap.size,0,none⟩) 2 2,.int .i64 (-1),.string ⟨#[100,111,103]⟩,.slice (some ⟨vp2.heap.size,0,none⟩) 2 2,.int .i64 (-1)] 75)=xp:=⟨_,rfl⟩
 have bxp:=Yn hxp
 have kxp:=Yv hxp
 have Exp:=Xa (Xb Evp3.out bxp)
 have Txp:Hid (TgsAt xp ⟨some ⟨vp3.heap.size,0,none⟩,4,[⟨bCat,some ⟨r5.heap.size,0,none⟩,2,[1,2], -1⟩,⟨bAnd,some ⟨vp0.heap.size,0,none⟩,3,[0,1,2], -1⟩,⟨bThe,some ⟨vp1.heap.size,0,none⟩,2,[0,1], -1⟩,⟨bDog,some ⟨vp2.heap.size,0,none⟩,2,[0,1], -1⟩]⟩):=⟨⟨Yw kxp rfl,Nat.le_refl _,by show 4≤_;omega,fun h=>by cases h⟩,fun y hy=>by
  simp only[List.mem_cons,List.not_mem_nil,or_false] at hy
  rcases hy with rfl|rfl|rfl|rfl
  ·exact⟨Nap0.out.ext (Xb (Xb (Xb (Xb Fvp0.out (Xb Fap1.out Fvp1.out)) (Xb Fap2.out Fvp2.out)) (Xb Fap3.out Fvp3.out)) bxp),by show 2≤_;omega⟩
  ·exact⟨Nap1.out.ext (Xb (Xb (Xb Fvp1.out (Xb Fap2.out Fvp2.out)) (Xb Fap3.out Fvp3.out)) bxp),by show 3≤_;omega⟩
  ·exact⟨Nap2.out.ext (Xb (Xb Fvp2.out (Xb Fap3.out Fvp3.out)) bxp),by show 2≤_;omega⟩
  ·exact⟨Nap3.out.ext (Xb Fvp3.out bxp),by show 2≤_;omega⟩⟩
 have Sxp:=X3r (s:=⟨A1,c1,L1⟩) (T1.out.ext (Xb (Xb (Xb (Xb (Xb (Xb X2.out (Xb X3.out (Xb X4.out X5.out))) (Xb Fap0.out Fvp0.out)) (Xb Fap1.out Fvp1.out)) (Xb Fap2.out Fvp2.out)) (Xb Fap3.out Fvp3.out)) bxp)) Txp.out (M1.out.trans rfl)
 have HSxp:=Xa Sxp
 have Fxp:=Xa bxp
 clear Sxp bxp kxp
 go_wp2_with fail
 refine HSxp.out.mono ?_
 rintro e yp ⟨rfl,byp⟩
 have Eyp:=Xa (Xb Exp.out byp)
 have Fyp:=Xa byp
 clear byp hxp HSxp
 obtain⟨aq0,haq0⟩:∃aq0,yp.alloc (.cells #[.int .i64 0] 3)=aq0:=⟨_,rfl⟩
 have baq0:=Yn haq0
 have Naq0:Hid (NumAt aq0 (some ⟨yp.heap.size,0,none⟩) [0]):=Xx4 (show aq0.heap[yp.heap.size]? = some (.cells #[.int .i64 0] 3 (0,0)) by rw[← haq0];exact World.alloc_heap_new _ _) rfl
 have Eaq0:=Xa (Xb Eyp.out baq0)
 have Faq0:=Xa baq0
 clear baq0
 go_wp2_with fail
 refine(X0y ⟨#[99,97,116]⟩ (some ⟨yp.heap.size,0,none⟩) 1 1 aq0).mono ?_
 rintro e vq0 ⟨rfl,bvq0⟩
 have Evq0:=Xa (Xb Eaq0.out bvq0)
 have Fvq0:=Xa bvq0
 clear bvq0 haq0
 obtain⟨aq1,haq1⟩:∃aq1,vq0.alloc (.cells #[.int .i64 1] 3)=aq1:=⟨_,rfl⟩
 have baq1:=Yn haq1
 have Naq1:Hid (NumAt aq1 (some ⟨vq0.heap.size,0,none⟩) [1]):=Xx4 (show aq1.heap[vq0.heap.size]? = some (.cells #[.int .i64 1] 3 (0,0)) by rw[← haq1];exact World.alloc_heap_new _ _) rfl
 have Eaq1:=Xa (Xb Evq0.out baq1)
 have Faq1:=Xa baq1
 clear baq1
 go_wp2_with fail
 refine(X0y ⟨#[116,104,101]⟩ (some ⟨vq0.heap.size,0,none⟩) 1 1 aq1).mono ?_
 rintro e vq1 ⟨rfl,bvq1⟩
 have Evq1:=Xa (Xb Eaq1.out bvq1)
 have Fvq1:=Xa bvq1
 clear bvq1 haq1
 obtain⟨aq2,haq2⟩:∃aq2,vq1.alloc (.cells #[.int .i64 1] 3)=aq2:=⟨_,rfl⟩
 have baq2:=Yn haq2
 have Naq2:Hid (NumAt aq2 (some ⟨vq1.heap.size,0,none⟩) [1]):=Xx4 (show aq2.heap[vq1.heap.size]? = some (.cells #[.int .i64 1] 3 (0,0)) by rw[← haq2];exact World.alloc_heap_new _ _) rfl
 have Eaq2:=Xa (Xb Evq1.out baq2)
 have Faq2:=Xa baq2
 clear baq2
 go_wp2_with fail
 refine(X0y ⟨#[100,111,103]⟩ (some ⟨vq1.heap.size,0,none⟩) 1 1 aq2).mono ?_
 rintro e vq2 ⟨rfl,bvq2⟩
 have Evq2:=Xa (Xb Eaq2.out bvq2)
 have Fvq2:=Xa bvq2
 clear bvq2 haq2
 obtain⟨xq,hxq⟩:∃xq,vq2.alloc (.cells #[.string ⟨#[99,97,116]⟩,.slice (some ⟨yp.heap.size,0,none⟩) 1 1,.int .i64 (-1),.string ⟨#[116,104,101]⟩,.slice (some ⟨vq0.heap.size,0,none⟩) 1 1,.int .i64 (-1),.string ⟨#[100,111,103]⟩,.slice (some ⟨vq1.heap.size,0,none⟩) 1 1,.int .i64 (-1)] 75)=xq:=⟨_,rfl⟩
 have bxq:=Yn hxq
 have kxq:=Yv hxq
 have Exq:=Xa (Xb Evq2.out bxq)
 have Txq:Hid (TgsAt xq ⟨some ⟨vq2.heap.size,0,none⟩,3,[⟨bCat,some ⟨yp.heap.size,0,none⟩,1,[0], -1⟩,⟨bThe,some ⟨vq0.heap.size,0,none⟩,1,[1], -1⟩,⟨bDog,some ⟨vq1.heap.size,0,none⟩,1,[1], -1⟩]⟩):=⟨⟨Yw kxq rfl,Nat.le_refl _,by show 3≤_;omega,fun h=>by cases h⟩,fun y hy=>by
  simp only[List.mem_cons,List.not_mem_nil,or_false] at hy
  rcases hy with rfl|rfl|rfl
  ·exact⟨Naq0.out.ext (Xb (Xb (Xb Fvq0.out (Xb Faq1.out Fvq1.out)) (Xb Faq2.out Fvq2.out)) bxq),by show 1≤_;omega⟩
  ·exact⟨Naq1.out.ext (Xb (Xb Fvq1.out (Xb Faq2.out Fvq2.out)) bxq),by show 1≤_;omega⟩
  ·exact⟨Naq2.out.ext (Xb Fvq2.out bxq),by show 1≤_;omega⟩⟩
 have Sxq:=X3r (s:=⟨A3,c3,L3⟩) (T3.out.ext (Xb (Xb (Xb (Xb (Xb X4.out (Xb X5.out (Xb (Xb (Xb (Xb (Xb (Xb Fap0.out Fvp0.out) (Xb Fap1.out Fvp1.out)) (Xb Fap2.out Fvp2.out)) (Xb Fap3.out Fvp3.out)) Fxp.out) Fyp.out))) (Xb Faq0.out Fvq0.out)) (Xb Faq1.out Fvq1.out)) (Xb Faq2.out Fvq2.out)) bxq)) Txq.out (M3.out.trans rfl)
 have HSxq:=Xa Sxq
 have Fxq:=Xa bxq
 clear Sxq bxq kxq
 go_wp2_with fail
 refine HSxq.out.mono ?_
 rintro e yq ⟨rfl,byq⟩
 have Eyq:=Xa (Xb Exq.out byq)
 have Fyq:=Xa byq
 clear byq hxq HSxq
 obtain⟨ar0,har0⟩:∃ar0,yq.alloc (.cells #[.int .i64 0] 3)=ar0:=⟨_,rfl⟩
 have bar0:=Yn har0
 have Nar0:Hid (NumAt ar0 (some ⟨yq.heap.size,0,none⟩) [0]):=Xx4 (show ar0.heap[yq.heap.size]? = some (.cells #[.int .i64 0] 3 (0,0)) by rw[← har0];exact World.alloc_heap_new _ _) rfl
 have Ear0:=Xa (Xb Eyq.out bar0)
 have Far0:=Xa bar0
 clear bar0
 go_wp2_with fail
 refine(X0y ⟨#[111,106,101]⟩ (some ⟨yq.heap.size,0,none⟩) 1 1 ar0).mono ?_
 rintro e vr0 ⟨rfl,bvr0⟩
 have Evr0:=Xa (Xb Ear0.out bvr0)
 have Fvr0:=Xa bvr0
 clear bvr0 har0
 obtain⟨xr,hxr⟩:∃xr,vr0.alloc (.cells #[.string ⟨#[111,106,101]⟩,.slice (some ⟨yq.heap.size,0,none⟩) 1 1,.int .i64 (-1)] 75)=xr:=⟨_,rfl⟩
 have bxr:=Yn hxr
 have kxr:=Yv hxr
 have Exr:=Xa (Xb Evr0.out bxr)
 have Txr:Hid (TgsAt xr ⟨some ⟨vr0.heap.size,0,none⟩,1,[⟨bOje,some ⟨yq.heap.size,0,none⟩,1,[0], -1⟩]⟩):=⟨⟨Yw kxr rfl,Nat.le_refl _,by show 1≤_;omega,fun h=>by cases h⟩,fun y hy=>by
  simp only[List.mem_cons,List.not_mem_nil,or_false] at hy
  rcases hy with rfl
  ·exact⟨Nar0.out.ext (Xb Fvr0.out bxr),by show 1≤_;omega⟩⟩
 have Sxr:=X3r (s:=⟨A4,c4,L4⟩) (T4.out.ext (Xb (Xb (Xb X5.out (Xb (Xb (Xb (Xb (Xb (Xb (Xb Fap0.out Fvp0.out) (Xb Fap1.out Fvp1.out)) (Xb Fap2.out Fvp2.out)) (Xb Fap3.out Fvp3.out)) Fxp.out) Fyp.out) (Xb (Xb (Xb (Xb (Xb Faq0.out Fvq0.out) (Xb Faq1.out Fvq1.out)) (Xb Faq2.out Fvq2.out)) Fxq.out) Fyq.out))) (Xb Far0.out Fvr0.out)) bxr)) Txr.out (M4.out.trans rfl)
 have HSxr:=Xa Sxr
 have Fxr:=Xa bxr
 clear Sxr bxr kxr
 go_wp2_with fail
 refine HSxr.out.mono ?_
 rintro e yr ⟨rfl,byr⟩
 have Eyr:=Xa (Xb Exr.out byr)
 have Fyr:=Xa byr
 clear byr hxr HSxr
 go_wp2_with fail
 go_ret
 exact⟨rfl,Eyr.out⟩
def SomeB (w:World) (e:Ending) (w':World):Prop:=∃b:Bool,e = .returned (.bool b)∧Below w.heap.size w w'
set_option maxHeartbeats 8000000 in
theorem Xm9 (g : Gram) (w : World) (hg : g.lies w) : Calls Tryz.prog 34 #[.agg #[.string g.name, .slice g.cats.addr g.cats.xs.length g.cats.cap, .string g.start, .int .i64 g.startNo, .slice g.entries.addr g.entries.xs.length g.entries.cap, .slice g.rules.addr g.rules.xs.length g.rules.cap]] w (SomeB w) := by
  obtain ⟨W1, hW1⟩ : ∃ W1, w.alloc (.cells #[.string g.name, .slice g.cats.addr g.cats.xs.length g.cats.cap, .string g.start, .int .i64 g.startNo, .slice g.entries.addr g.entries.xs.length g.entries.cap, .slice g.rules.addr g.rules.xs.length g.rules.cap] 26) = W1 := ⟨_, rfl⟩
  have hB1 := Yn hW1
  have hk := Yv hW1
  have hg1 := hg.ext hB1
  have hme : g.entries.xs.length ≤ 9223372036854775807 := Nat.le_trans hg.entries.cap hg.entries.max
  have hmr : g.rules.xs.length ≤ 9223372036854775807 := Nat.le_trans hg.rules.cap hg.rules.max
  obtain ⟨c0, c1, c2, c3, c4, c5⟩ := gb6 hk
  have HE : Hid (∀ k (hk : k < g.entries.xs.length), ∃ b off n cp, g.entries.addr = some ⟨b, off, none⟩ ∧ W1.cell? ⟨b, off + k * 5 + 3, none⟩ = some (.slice n g.entries.xs[k].gives.xs.length cp)) := by
    intro k hk
    obtain ⟨b, off, hA, hb, hc⟩ := hg1.entries.at_ EntryG.size_cells (by omega) hk
    exact ⟨b, off, g.entries.xs[k].gives.addr, g.entries.xs[k].gives.cap, hA, hc k hk W1 (Below.refl _ _) 3 _ rfl⟩
  have HR : Hid (∀ k (hk : k < g.rules.xs.length), ∃ b off n cp n' cp', g.rules.addr = some ⟨b, off, none⟩ ∧ W1.cell? ⟨b, off + k * 5 + 2, none⟩ = some (.slice n g.rules.xs[k].parts.xs.length cp) ∧ W1.cell? ⟨b, off + k * 5 + 3, none⟩ = some (.slice n' g.rules.xs[k].gives.xs.length cp')) := by
    intro k hk
    obtain ⟨b, off, hA, hb, hc⟩ := hg1.rules.at_ RuleG.size_cells (by omega) hk
    exact ⟨b, off, _, _, _, _, hA, hc k hk W1 (Below.refl _ _) 2 _ rfl, hc k hk W1 (Below.refl _ _) 3 _ rfl⟩
  have HB1 := Xa hB1
  clear hk hg hg1 hB1
  have key : True := trivial
  go_enter Tryz.func34, Tryz.ntmps34
  go_wp2_with fail
  all_goals first
    | (go_ret
       exact ⟨_, rfl, HB1.out⟩)
    | skip
  all_goals
    go_loopw [3] (fun iv wr => ∃ k : Nat, k ≤ g.entries.xs.length ∧ iv = .int .i64 k ∧ wr = W1) (fun iv _ => g.entries.xs.length - (intOf iv).toNat)
    case atStart => exact ⟨0, Nat.zero_le _, rfl, rfl⟩
    case round =>
      obtain ⟨k, hk, rfl, rfl⟩ := hrel
      by_cases hlt : k < g.entries.xs.length
      · obtain ⟨b, off, n, cp, hA, hc⟩ := HE.out k hlt
        rw [hA] at c4
        try rw [hA]
        clear hA
        go_wp2_with fail
        · go_ret
          exact ⟨_, rfl, HB1.out⟩
        · go_roundw
          case rel => exact ⟨k + 1, by omega, by go_num, by first | rfl | trivial⟩
          case measure => simp [intOf]; omega
      · go_wp2_with fail
        clear hlt
        go_loopw [4] (fun iv wr2 => ∃ k : Nat, k ≤ g.rules.xs.length ∧ iv = .int .i64 k ∧ wr2 = wr) (fun iv _ => g.rules.xs.length - (intOf iv).toNat)
        case atStart => exact ⟨0, Nat.zero_le _, rfl, rfl⟩
        case round =>
          obtain ⟨k, hk, rfl, rfl⟩ := hrel
          by_cases hlt : k < g.rules.xs.length
          · obtain ⟨b, off, n, cp, n', cp', hA, hc, hc'⟩ := HR.out k hlt
            rw [hA] at c5
            try rw [hA]
            clear hA
            go_wp2_with fail
            all_goals first
              | (go_ret
                 exact ⟨_, rfl, HB1.out⟩)
              | skip
            go_roundw
            case rel => exact ⟨k + 1, by omega, by go_num, by first | rfl | trivial⟩
            case measure => simp [intOf]; omega
          · go_wp2_with fail
            go_ret
            exact ⟨_, rfl, HB1.out⟩
set_option maxHeartbeats 4000000 in
theorem X6y (g:Gram) (A:Option Addr) (cp:Nat) (l:List Term) (B:Option Addr) (n c:Nat) (w:World) (hg:g.lies w) (hm:l.length≤9223372036854775807) (hn:n≤9223372036854775807):Calls Tryz.prog 40 #[.agg #[.string g.name,.slice g.cats.addr g.cats.xs.length g.cats.cap,.string g.start,.int .i64 g.startNo,.slice g.entries.addr g.entries.xs.length g.entries.cap,.slice g.rules.addr g.rules.xs.length g.rules.cap],.slice A l.length cp,.slice B n c] w (SomeB w):=by
 obtain⟨W1,hW1⟩:∃W1,w.alloc (.cells #[.string g.name,.slice g.cats.addr g.cats.xs.length g.cats.cap,.string g.start,.int .i64 g.startNo,.slice g.entries.addr g.entries.xs.length g.entries.cap,.slice g.rules.addr g.rules.xs.length g.rules.cap] 26)=W1:=⟨_,rfl⟩
 have hB1:=Yn hW1
 have hk:=Yv hW1
 have F1:=Xa (Xm9 g W1 (hg.ext hB1))
 have Hk:=Xa hk
 obtain⟨c0,c1,c2,c3,c4,c5⟩:=gb6 hk
 clear hk hg
 go_enter Tryz.func40,Tryz.ntmps40
 go_wp2_with fail
 refine F1.out.mono ?_
 rintro e w2 ⟨b1,rfl,hb2⟩
 have hB2:=Xb hB1 hb2
 have F2:=Xa (X78 A cp l w2 hm)
 have hk2:=Xh hb2 Hk.out
 clear c0 c1 c2 c3 c4 c5 F1 hW1
 obtain⟨c0,c1,c2,c3,c4,c5⟩:=gb6 hk2
 clear hk2 Hk
 cases b1
 ·go_wp2_with fail
  go_ret
  exact⟨_,rfl,hB2⟩
 by_cases h20:g.rules.xs.length≤20
 rotate_left
 ·have k1:decide ((g.rules.xs.length:Int)≤20)=false:=decide_eq_false (by omega)
  clear h20
  go_wp2_with fail
  go_ret
  exact⟨_,rfl,hB2⟩
 have k1:decide ((g.rules.xs.length:Int)≤20)=true:=decide_eq_true (by omega)
 clear h20
 go_wp2_with fail
 refine F2.out.mono ?_
 rintro e w3 ⟨rfl,rfl⟩
 clear F2
 generalize (decide (l.length≤30) || decide (1024<l.length) && decide (l.length≤1100))=b2
 cases b2
 ·go_wp2_with fail
  go_ret
  exact⟨_,rfl,hB2⟩
 by_cases h7:n≤7
 ·have k2:decide ((n:Int)≤7)=true:=decide_eq_true (by omega)
  clear h7
  go_wp2_with fail
  go_ret
  exact⟨_,rfl,hB2⟩
 have k2:decide ((n:Int)≤7)=false:=decide_eq_false (by omega)
 by_cases h16:16<n
 rotate_left
 ·have k3:decide ((16:Int)<(n:Int))=false:=decide_eq_false (by omega)
  clear h7 h16
  go_wp2_with fail
  go_ret
  exact⟨_,rfl,hB2⟩
 have k3:decide ((16:Int)<(n:Int))=true:=decide_eq_true (by omega)
 clear h7 h16
 go_wp2_with fail
 go_ret
 exact⟨_,rfl,hB2⟩
end Go.Proofs.YtolpbjjapodmnaaGreatDoor
namespace Go.Proofs.YtolpbjjapodmnaaGreatDoor
open Go.RowKit Go.Han
set_option maxRecDepth 100000
theorem X5x {g:Gram} {l:List Term} {lang t u:Int} {ws:List ByteArray} (h:Xwu g l lang ws t u=0) (i:Int) (h0:0≤i) (h1:i<ws.length):∃x∈Xxc g (Xwo l lang t u) ws,0≤x.cat∧x.frm=i:=by
 obtain⟨hc,hs,_⟩:=Xyi h
 have hk:=Xx5 hs
 have hw:=Xz7 hc (Xya hk.1 lang t u) (Xyh hk.1 lang t u) ws 0 rfl
 obtain⟨n,rfl⟩:∃n:Nat,i=(n:Int):=⟨i.toNat,by omega⟩
 have hn:n<ws.length:=by omega
 have hone:=(hw.2 n ws[n] (Nat.zero_le _) (List.getElem?_eq_getElem hn)).2 (by have:=(Xgs hc).start;omega)
 unfold Xy2 at hone
 obtain⟨x,hx,hp⟩:=List.countP_pos_iff.1 hone
 rw[Bool.and_eq_true,decide_eq_true_eq] at hp
 have hf:=hw.1 x hx
 unfold Xxw X0j at hf
 simp only[Bool.and_eq_true,decide_eq_true_eq] at hf
 refine⟨x,?_,?_,hp.2⟩
 ·unfold Xxc
  exact List.mem_append_right _ hx
 ·omega
theorem X81 {g:Gram} {l:List Term} {lang t u:Int} {ws:List ByteArray} {its:List ItemG} (h:Xwu g l lang ws t u=0) (h0:ws≠[]) (hm:its.map ItemG.c=Xxc g (Xwo l lang t u) ws):(trE g l lang ws t u).2=(Zk g its ws.length).2.2.1:=by
 rw[X3u h h0 hm]
 have he:=Xys h h0 hm
 cases hb:Xdl g its ws.length with
 | none=>rw[X18 hb,Xy6 he hb]
 | some y=>rw[X19 hb,Xy7 he hb]
theorem X80 {g:Gram} {l:List Term} {lang t u:Int} {ws:List ByteArray} {its:List ItemG} (h:Xwu g l lang ws t u=0) (h0:ws≠[]) (hm:its.map ItemG.c=Xxc g (Xwo l lang t u) ws):TransOk 0 ws.length [] (trE g l lang ws t u).1:=by
 have ha:=Vz (Xys h h0 hm)
 have hr:∀x∈its,Xz9 ws.length g.cats.xs.length x.c:=fun x hx=>Xzd h x.c (by rw[← hm];exact List.mem_map_of_mem hx)
 have ht:∀x∈its,1≤x.tgt.xs.length∧∀s∈x.tgt.xs,s.size≠0:=fun x hx=>⟨(hr x hx).some_.1,fun s hs e=>by
  have:=(hr x hx).word s hs
  obtain rfl:s=⟨#[]⟩:=by cases s with|mk d=>exact congrArg ByteArray.mk (Array.eq_empty_of_size_eq_zero e)
  exact absurd this (by decide)⟩
 have hp:0<ws.length:=List.length_pos_iff.2 h0
 have hi:Zr ws.length g.cats.xs.length its:=by have:=ha.items;rwa [Int.toNat_natCast] at this
 rw[X3u h h0 hm]
 cases hb:Xdl g its ws.length with
 | none =>
  rw[X18 hb]
  exact X86 hi ht (fun i a b=>by
   obtain⟨x,hx,h1,h2⟩:=X5x h i a b
   rw[← hm] at hx
   obtain⟨y,hy,rfl⟩:=List.mem_map.1 hx
   exact⟨y,hy,h1,h2⟩) ws.length 0 (Int.le_refl _) (by omega) (by omega)
 | some y =>
  rw[X19 hb]
  obtain⟨h1,h2,h3,_⟩:=Xgq ha hb
  have:=X82 ha.gram (Xxh ha.check) hi ht y.2 g.startNo [] (by rw[h1])
  rw[h2,h3] at this
  exact this
theorem X3k:∀(l:List Int) (i k:Int),IncI l→l≠[]→(∀n∈l,i≤n∧n<k)→(l.length:Int)≤k-i
 | [],_,_,_,h,_=>absurd rfl h
 | [x],i,k,_,_,h=>by
  have:=h x (List.mem_cons_self ..)
  simp
  omega
 | x :: y :: l,i,k,hi,_,h=>by
  have h1:=h x (List.mem_cons_self ..)
  have h2:=List.pairwise_cons.1 hi
  have ih:=X3k (y :: l) (x+1) k h2.2 (by simp) fun n hn=>⟨by have:=h2.1 n hn;omega,(h n (List.mem_cons_of_mem _ hn)).2⟩
  rw[List.length_cons]
  push_cast
  omega
theorem X7e {n:Nat} {l:List TgP} (h:TransOk 0 n [] l) (hn:n≤1000):∀p∈l,p.deps.length≤1000000:=fun p hp=>by
 obtain⟨h1,h2,h3⟩:=h.inside p hp
 have:=X3k p.deps 0 n h1 h2 fun m hm=>(h3 m hm).resolve_left (by simp)
 omega
end Go.Proofs.YtolpbjjapodmnaaGreatDoor
namespace Go.Proofs.YtolpbjjapodmnaaGreatDoor
open Go.RowKit Go.Han Go.ChangeShapes Go.WideShapes Go.ChangeAt Go.Deep
set_option maxRecDepth 100000
def uren:Go.Shelf.Ren:=⟨fun n=>n,fun|5=>5|119=>327|138=>329|139=>330|n=>n,fun|3=>1|4=>2|n=>n⟩
theorem Xqj:ownKnob Tryz.prog.godebug=none:=by kernel_rfl
theorem Xrw:U8Types Tryz.prog uren:=⟨by kernel_rfl,by kernel_rfl,by kernel_rfl,by kernel_rfl⟩
theorem Xrv:U8Extra Tryz.prog uren:=⟨by kernel_rfl,by kernel_rfl,by kernel_rfl,by kernel_rfl,by kernel_rfl,by kernel_rfl,by kernel_rfl⟩
theorem Xmy:(Rows.laid_unicode_utf8_acceptRanges:DataW Unit)=Lib.acceptData:=by kernel_rfl
abbrev Q5 : List (String × DataW Unit) := [("unicode/utf8.acceptRanges", Rows.laid_unicode_utf8_acceptRanges), ("unicode.White_Space", Rows.laid_unicode_White_Space), ("strings.asciiSpace", Rows.laid_strings_asciiSpace), ("unicode/utf8.first", Rows.laid_unicode_utf8_first)]
theorem Xru {W:World} (h:laidMetH Tryz.prog Q5 W):Tabs W:=by
 rw[MakeChecks.laidMetH_plain _ _ _ (by kernel_rfl)] at h
 have h1 := Lib.laidMet.reads h (n := "unicode/utf8.acceptRanges") (d := Rows.laid_unicode_utf8_acceptRanges) (by simp [Q5])
 have h2 := Lib.laidMet.reads h (n := "unicode/utf8.first") (d := Rows.laid_unicode_utf8_first) (by simp [Q5])
 rw[Xmy] at h1
 rw[show (Rows.laid_unicode_utf8_first:DataW Unit)=Lib.firstData from Pinned.utf8First_eq] at h2
 exact utf8Tabs_of_readsT Xrw Xrv h2 h1
theorem Xqu:(Rows.laid_strings_asciiSpace:DataW Unit)=Lib.tabData .u8 Lib.asciiSpaceTab:=by kernel_rfl
theorem Xqy {W:World} (h:laidMetH Tryz.prog Q5 W):TabsG W:=by
 refine⟨Xru h,?_⟩
 rw[MakeChecks.laidMetH_plain _ _ _ (by kernel_rfl)] at h
 have h1 := Lib.laidMet.reads h (n := "strings.asciiSpace") (d := Rows.laid_strings_asciiSpace) (by simp [Q5])
 rw[Xqu] at h1
 obtain⟨g,t,cs,fuel,p,hg,ht,hvar,hd⟩:=h1
 obtain rfl := Option.some.inj ((show Tryz.prog.globalNamed "strings.asciiSpace" = some 3 by kernel_rfl).symm.trans hg)
 obtain rfl:=Option.some.inj ((show (Tryz.prog.globals[3]?).map (·.type)=some 327 by kernel_rfl).symm.trans ht)
 show W.var? Tryz.prog "strings.asciiSpace" = _
 have h2:=Lib.cells_of_tab Tryz.underlying327 Tryz.underlying5 (by kernel_rfl) (by kernel_rfl) hd
 rw[hvar,← h2]
section
variable {H:Type} {enc:TypeId×Value→H} {w:World} {base:Nat} {spare:Nat→Bool} {held:Bool}
theorem Yz:Tryz.prog.cellsOf 3=1:=by kernel_rfl
theorem Y0:Tryz.prog.cellsOf 9=1:=by kernel_rfl
theorem X3 {fs:Array Field} {l:List (TypeId×Nat)} (h:fs.toList.map (fun f=>(f.type,f.offset))=l) {i:Nat} {t o:Nat} (hi:l[i]? = some (t,o)):∃f,fs[i]? = some f∧f.type=t∧f.offset=o:=by
 rw[← h,List.getElem?_map] at hi
 cases hf:fs.toList[i]? with
 | none=>rw[hf] at hi;cases hi
 | some f =>
  rw[hf] at hi
  simp only[Option.map_some,Option.some.injEq,Prod.mk.injEq] at hi
  exact⟨f,by simpa using hf,hi.1,hi.2⟩
theorem Xli {P:Program} {f:Func} {s:ChangeSpec} {apart fresh handsOn again:Bool} {W W':World} {args:Array Value} {v:Value} {ds gs:List (DataW H)} {before pa pv:List MemPlace}
  (hW:DataW.Whole enc P f.params.toList s.vars apart W args.toList ds gs before)
  (hres:∀(b:Nat) (sp:Nat→Bool) (hd:Bool),DataW.TrodAll enc P W' b sp hd f.resultTypes.toList (v.resultList f.resultTypes.size) (s.fn H (ds++gs)).results [])
  (hargs:∀sp:Nat→Bool,(∀p∈before,sp p.block=true)→DataW.TrodAll enc P W' 0 sp true f.params.toList args.toList (s.fn H (ds++gs)).args pa)
  (hvars:∀sp:Nat→Bool,(∀p∈before,sp p.block=true)→DataW.TrodVars enc P W' sp s.vars (s.fn H (ds++gs)).vars pv)
  (hps:before=pa++pv) (hb:Below W.heap.size W W')
  (hok:∀(j:Nat) (t:TypeId) (r:Value),f.resultTypes[j]? = some t→(v.resultList f.resultTypes.size)[j]? = some r→Value.okWide P W' .any 0 t r) :
  s.post enc P f apart fresh handsOn again W args v W':=by
 have hlt:∀p∈before,p.block<W.heap.size:=fun p hp=>hW.lt p hp
 have hold:∀p∈before,(fun b=>decide (b<W.heap.size)) p.block=true:=fun p hp=>by simpa using hlt p hp
 refine⟨ds,gs,before,[],pa,pv,hW,hres _ _ _,hargs _ hold,hvars _ hold,World.keptBut_mono (fun p hp=>⟨hp,?_⟩) (hb.frame (· ∈ before)),fun _=>?_⟩
 ·rw[hps,List.mem_append] at hp
  exact Or.inr hp
 ·obtain⟨_,_,_,_,_,hz,hn⟩:=hW
  refine⟨hok,_,_,([]++pa)++pv,⟨[]++pa,pv,trodAll_append (hargs _ (fun _ _=>rfl)) (hres _ _ _),hvars _ (fun _ _=>rfl),rfl,?_,?_⟩,?_⟩
  ·intro b off hp
   have hin:MemPlace.cell b off∈before:=by rw[hps];simpa using hp
   rw[hb.frozen (hlt _ hin)]
   exact hz b off hin
  ·intro ha
   have:=hn ha
   rw[hps] at this
   simpa using this
  ·intro p hp _
   rw[hps]
   simpa using hp
end
theorem Xp7:laidOutB Tryz.prog=true:=by kernel_rfl
theorem Xh9 (os:Os) (args:Array Value):laidMetH Tryz.prog Q5 ((World.laidAll Tryz.prog os Q5).forCall (fun _ _=>0) ⟨#[],args,[]⟩).memory:=by
 rw[MakeChecks.laidMetH_plain _ _ _ (by kernel_rfl)]
 exact laidMet_laidAll _ (by kernel_rfl) (by kernel_rfl)
section
variable {H:Type} {enc:TypeId×Value→H} {P:Program} {w:World} {base:Nat} {spare:Nat→Bool} {held:Bool}
theorem Xbc (hl:laidOutB P=true) {W W':World} (hb:Below W.heap.size W W') {sp:Nat→Bool}:∀ {ts:List TypeId} {vs:List Value} {ds:List (DataW H)} {ps:List MemPlace},(ts.all fun t=>P.readableRec t && decide (t<P.types.size))=true →
  DataW.TrodAll enc P W 0 (fun _=>true) true ts vs ds ps→(∀x∈ps,x.block<W.heap.size)→(∀x∈ps,sp x.block=true)→DataW.TrodAll enc P W' 0 sp true ts vs ds ps
 | [],vs,ds,ps,_,h,_,_=>by
  obtain⟨rfl,rfl,rfl⟩:=trodAll_nil h
  exact trodAll_mk0
 | t :: ts,vs,ds,ps,hr,h,hlt,hsp=>by
  simp only[List.all_cons,Bool.and_eq_true,decide_eq_true_eq] at hr
  obtain⟨v,vs',d,ds',p,q,rfl,rfl,rfl,hd,hrest⟩:=trodAll_cons h
  exact trodAll_cons_mk (WideElems.Trod_stays hl hr.1.1 hr.1.2 hd (fun x hx=>hb.same (hlt x (by simp[hx]))) (fun x hx=>hsp x (by simp[hx])))
   (Xbc hl hb hr.2 hrest (fun x hx=>hlt x (by simp[hx])) (fun x hx=>hsp x (by simp[hx])))
theorem X71 {t0 t1 t2 t3 t4 t5:TypeId} {args:Array Value} {ds:List (DataW H)} {ps:List MemPlace} (h:DataW.TrodAll enc P w base spare held [t0,t1,t2,t3,t4,t5] args.toList ds ps) :
  ∃v0 v1 v2 v3 v4 v5 d0 d1 d2 d3 d4 d5 p0 p1 p2 p3 p4 p5,args=#[v0,v1,v2,v3,v4,v5]∧ds=[d0,d1,d2,d3,d4,d5]∧DataW.Trod enc P w base spare held t0 v0 d0 p0∧DataW.Trod enc P w base spare held t1 v1 d1 p1∧DataW.Trod enc P w base spare held t2 v2 d2 p2∧DataW.Trod enc P w base spare held t3 v3 d3 p3∧DataW.Trod enc P w base spare held t4 v4 d4 p4∧DataW.Trod enc P w base spare held t5 v5 d5 p5:=by
 obtain⟨v0,s0,d0,e0,p0,q0,hargs,rfl,rfl,h0,r0⟩:=trodAll_cons h
 obtain⟨v1,s1,d1,e1,p1,q1,rfl,rfl,rfl,h1,r1⟩:=trodAll_cons r0
 obtain⟨v2,s2,d2,e2,p2,q2,rfl,rfl,rfl,h2,r2⟩:=trodAll_cons r1
 obtain⟨v3,s3,d3,e3,p3,q3,rfl,rfl,rfl,h3,r3⟩:=trodAll_cons r2
 obtain⟨v4,s4,d4,e4,p4,q4,rfl,rfl,rfl,h4,r4⟩:=trodAll_cons r3
 obtain⟨v5,s5,d5,e5,p5,q5,rfl,rfl,rfl,h5,r5⟩:=trodAll_cons r4
 obtain⟨rfl,rfl,rfl⟩:=trodAll_nil r5
 exact⟨v0,v1,v2,v3,v4,v5,d0,d1,d2,d3,d4,d5,p0,p1,p2,p3,p4,p5,by cases args;simp_all,rfl,h0,h1,h2,h3,h4,h5⟩
end
section
variable {H:Type} {enc:TypeId×Value→H} {w:World} {base:Nat} {spare:Nat→Bool} {held:Bool}
theorem Ub {α:Type} (f:α→List Value) (s:Nat) (d0:α) {t e:TypeId} (ht:Tryz.prog.underlying t=some (.slice e)) (hs:Tryz.prog.cellsOf e=s) (hs0:0<s) (hf:∀y,(f y).length=s)
  (R:α→Prop) (hel:∀(fuel:Nat) (cs:List Value) (x:DataW H×List MemPlace),DataW.trod enc Tryz.prog w 0 spare held fuel e cs=some x→∃y:α,cs=f y∧R y)
  {fuel:Nat} {cs:List Value} {x:DataW H×List MemPlace} (h:DataW.trod enc Tryz.prog w 0 spare held fuel t cs=some x) :
  ∃(A:Option Addr) (cp:Nat) (l:List α),cs=[.slice A l.length cp]∧Rd w A (l.flatMap f)∧(A=none→l=[])∧l.length≤maxLen∧l.length≤cp∧cp≤maxLen∧∀x∈l,R x:=by
 rcases open_slice ht h with ⟨rfl,_⟩|⟨a,len,cap,m,n,D,Pl,rfl,_,hl,hm,hmm,_,hi⟩
 ·exact⟨none,0,[],rfl,Rd.nil _ _,fun _=>rfl,Nat.zero_le _,Nat.le_refl _,Nat.zero_le _,fun x hx=>by cases hx⟩
 ·have hlm:len≤m:=by rw[hmm];split<;>omega
  have each:∀i,i<len→∃y:α,R y∧∀j u,(f y)[j]? = some u→w.cell? (a.add (i*s+j))=some u:=by
   intro i hil
   obtain⟨cs',hc,htr⟩:=hi i (by omega)
   obtain⟨y,rfl,hRy⟩:=hel _ _ _ htr
   refine⟨y,hRy,fun j u hu=>?_⟩
   rw[hs] at hc
   obtain⟨_,hcl,hat⟩:=World.cells?_some hc
   have hj:j<s:=by rw[← hf y];exact(List.getElem?_eq_some_iff.1 hu).1
   rw[← Go.Deep.add_add,hat j hj,hu]
  refine⟨some a,cap,(List.range len).map (fun i=>if h:i<len then Classical.choose (each i h) else d0),by rw[List.length_map,List.length_range],?_,(fun h=>by cases h),by rw[List.length_map,List.length_range];omega,by rw[List.length_map,List.length_range];omega,by omega,fun x hx=>?_⟩
  rotate_left
  ·obtain⟨i,hi,rfl⟩:=List.mem_map.1 hx
   rw[dif_pos (List.mem_range.1 hi)]
   exact(Classical.choose_spec (each i (List.mem_range.1 hi))).1
  rcases Nat.eq_zero_or_pos len with rfl|hpos
  ·exact .inl (by simp)
  ·have hsp:a.spot=none∧a.block<w.heap.size:=by
    obtain⟨y0,_,h0⟩:=each 0 hpos
    have hl0:0<(f y0).length:=by rw[hf];exact hs0
    have:=h0 0 _ (List.getElem?_eq_getElem hl0)
    rw[Nat.zero_mul,Nat.zero_add] at this
    have hc:w.cell? a=some _:=this
    refine⟨?_,Ug hc⟩
    unfold World.cell? at hc
    split at hc
    ·split at hc
     ·cases hc
     ·rename_i hn;simpa using hn
    ·cases hc
   obtain⟨b,off,sp⟩:=a
   obtain⟨rfl,hb⟩:=hsp
   refine .inr ⟨b,off,rfl,hb,fun j u hu=>?_⟩
   have hj:j<len*s:=by
    have:=(List.getElem?_eq_some_iff.1 hu).1
    rwa [Z7 f s hf,List.length_map,List.length_range] at this
   have hk:j / s<len:=by rw[Nat.div_lt_iff_lt_mul hs0];exact hj
   have hjs:j % s<s:=Nat.mod_lt _ hs0
   have e:j / s*s+j % s=j:=by rw[Nat.mul_comm];exact Nat.div_add_mod j s
   have hg:=Xe5 f s hf ((List.range len).map (fun i=>if h:i<len then Classical.choose (each i h) else d0)) (j / s) (j % s) (by simpa using hk) hjs
   rw[e,hu,List.getElem_map,List.getElem_range,dif_pos hk] at hg
   have:=(Classical.choose_spec (each (j / s) hk)).2 (j % s) u hg.symm
   rw[e] at this
   unfold Addr.add at this
   split at this
   ·rename_i h0;subst h0;exact this
   ·exact this
theorem Xhe:∀l:List ByteArray,strs l=l.flatMap (fun b:ByteArray=>[Value.string b])
 | []=>rfl
 | b :: l=>by rw[List.flatMap_cons,← Xhe l];rfl
theorem X0k {fuel:Nat} {cs:List Value} {x:DataW H×List MemPlace} (h:DataW.trod enc Tryz.prog w 0 spare held fuel 22 cs=some x):∃s:StrS,cs=[s.val]∧s.lies w:=by
 obtain⟨A,cp,l,rfl,hr,hn,hm,hl,hc,_⟩:=Ub (fun b:ByteArray=>[Value.string b]) 1 ⟨#[]⟩ Tryz.underlying22 (by kernel_rfl) (by decide) (fun _=>rfl) (fun _=>True) (fun fuel cs x h=>by
  obtain⟨s,hs,_⟩:=DataW.trod_string Tryz.underlying9 h
  exact⟨s,hs,trivial⟩) h
 refine⟨⟨A,cp,l⟩,rfl,⟨?_,hl,by unfold maxLen at hc;show cp≤_;omega,hn⟩⟩
 show Rd w A (strs l)
 rw[Xhe];exact hr
theorem X8z:∃fs:Array Field,Tryz.prog.underlying 56=some (.struct fs)∧fs.toList.map (fun f=>(f.type,f.offset))=[(3,0),(3,1),(3,2),(3,3),(22,4),(22,5),(9,6),(4,7)]∧Tryz.prog.cellsOf 56=8:=⟨_,Tryz.underlying56,by kernel_rfl,by kernel_rfl⟩
theorem Xbe:Tryz.prog.cellsOf 22=1:=by kernel_rfl
theorem X5b:Tryz.prog.cellsOf 4=1:=by kernel_rfl
theorem X7q {fuel:Nat} {cs:List Value} {x:DataW H×List MemPlace} (h:DataW.trod enc Tryz.prog w 0 spare held fuel 56 cs=some x):∃y:Term,cs=y.cells∧y.lies w:=by
 obtain⟨fs,hu,hf,hc⟩:=X8z
 obtain⟨xs,n,_,_,hlen,hxl,hat⟩:=DataW.trod_struct hu h
 rw[hc] at hlen
 have hsz:fs.size=8:=by have:=congrArg List.length hf;simpa using this
 obtain⟨f0,e0,t0,o0⟩:=X3 hf (i:=0) rfl
 obtain⟨f1,e1,t1,o1⟩:=X3 hf (i:=1) rfl
 obtain⟨f2,e2,t2,o2⟩:=X3 hf (i:=2) rfl
 obtain⟨f3,e3,t3,o3⟩:=X3 hf (i:=3) rfl
 obtain⟨f4,e4,t4,o4⟩:=X3 hf (i:=4) rfl
 obtain⟨f5,e5,t5,o5⟩:=X3 hf (i:=5) rfl
 obtain⟨f6,e6,t6,o6⟩:=X3 hf (i:=6) rfl
 obtain⟨f7,e7,t7,o7⟩:=X3 hf (i:=7) rfl
 have h0:=hat 0 f0 e0
 have h1:=hat 1 f1 e1
 have h2:=hat 2 f2 e2
 have h3:=hat 3 f3 e3
 have h4:=hat 4 f4 e4
 have h5:=hat 5 f5 e5
 have h6:=hat 6 f6 e6
 have h7:=hat 7 f7 e7
 rw[t0,o0,Yz,List.getElem?_eq_getElem (by omega)] at h0
 rw[t1,o1,Yz,List.getElem?_eq_getElem (by omega)] at h1
 rw[t2,o2,Yz,List.getElem?_eq_getElem (by omega)] at h2
 rw[t3,o3,Yz,List.getElem?_eq_getElem (by omega)] at h3
 rw[t4,o4,Xbe,List.getElem?_eq_getElem (by omega)] at h4
 rw[t5,o5,Xbe,List.getElem?_eq_getElem (by omega)] at h5
 rw[t6,o6,Y0,List.getElem?_eq_getElem (by omega)] at h6
 rw[t7,o7,X5b,List.getElem?_eq_getElem (by omega)] at h7
 obtain⟨a,ha,_⟩:=DataW.trod_int Tryz.underlying3 h0
 obtain⟨b,hb,_⟩:=DataW.trod_int Tryz.underlying3 h1
 obtain⟨c,hc',_⟩:=DataW.trod_int Tryz.underlying3 h2
 obtain⟨d,hd,_⟩:=DataW.trod_int Tryz.underlying3 h3
 obtain⟨e,he,le⟩:=X0k h4
 obtain⟨f,hf',lf⟩:=X0k h5
 obtain⟨g,hg,_⟩:=DataW.trod_string Tryz.underlying9 h6
 obtain⟨i,hi,_⟩:=DataW.trod_bool Tryz.underlying4 h7
 match cs,hlen with
 | [c0,c1,c2,c3,c4,c5,c6,c7],_ =>
  simp at ha hb hc' hd he hf' hg hi
  exact⟨⟨a,b,c,d,e,f,g,i⟩,by rw[ha,hb,hc',hd,he,hf',hg,hi];rfl,le,lf⟩
theorem X5n {fuel:Nat} {cs:List Value} {x:DataW H×List MemPlace} (h:DataW.trod enc Tryz.prog w 0 spare held fuel 43 cs=some x) :
  ∃(A:Option Addr) (cp:Nat) (l:List Term),cs=[.slice A l.length cp]∧TermsAt w A l∧(A=none→l=[])∧l.length≤maxLen:=by
 obtain⟨A,cp,l,rfl,hr,hn,hm,hl,hc,hR⟩:=Ub Term.cells 8 ⟨0,0,0,0,⟨none,0,[]⟩,⟨none,0,[]⟩,⟨#[]⟩,false⟩ Tryz.underlying43 (by kernel_rfl) (by decide) Term.size_cells (fun y=>y.lies w) (fun _ _ _ h=>X7q h) h
 exact⟨A,cp,l,rfl,⟨hr,hR⟩,hn,hm⟩
end
section
variable {H:Type} {enc:TypeId×Value→H} {w:World} {base:Nat} {spare:Nat→Bool} {held:Bool}
end
section
variable {H:Type} {enc:TypeId×Value→H} {w:World} {base:Nat} {spare:Nat→Bool} {held:Bool}
theorem Xih:Tryz.prog.cellsOf 76=1:=by kernel_rfl
theorem Xig:Tryz.prog.cellsOf 77=1:=by kernel_rfl
theorem Xf4:Tryz.prog.cellsOf 23=1:=by kernel_rfl
theorem Xii:Tryz.prog.cellsOf 24=1:=by kernel_rfl
theorem Xbw {fuel:Nat} {cs:List Value} {x:DataW H×List MemPlace} (h:DataW.trod enc Tryz.prog w 0 spare held fuel 22 cs=some x):∃s:StrS,cs=[s.val]∧s.lies w∧∀b∈s.xs,b.size≤maxLen:=by
 obtain⟨A,cp,l,rfl,hr,hn,hm,hl,hc,hR⟩:=Ub (fun b:ByteArray=>[Value.string b]) 1 ⟨#[]⟩ Tryz.underlying22 (by kernel_rfl) (by decide) (fun _=>rfl) (fun b=>b.size≤maxLen) (fun fuel cs x h=>by
  obtain⟨s,hs,_,hz⟩:=DataW.trod_string Tryz.underlying9 h
  exact⟨s,hs,hz⟩) h
 refine⟨⟨A,cp,l⟩,rfl,⟨?_,hl,by unfold maxLen at hc;show cp≤_;omega,hn⟩,hR⟩
 show Rd w A (strs l)
 rw[Xhe];exact hr
theorem Xpa:∃fs:Array Field,Tryz.prog.underlying 81=some (.struct fs)∧fs.toList.map (fun f=>(f.type,f.offset))=[(9,0),(3,1),(9,2)]∧Tryz.prog.cellsOf 81=3:=⟨_,Tryz.underlying81,by kernel_rfl,by kernel_rfl⟩
theorem Xoq {fuel:Nat} {cs:List Value} {x:DataW H×List MemPlace} (h:DataW.trod enc Tryz.prog w 0 spare held fuel 81 cs=some x):∃y:PartG,cs=y.cells∧y.cat.size≤maxLen:=by
 obtain⟨fs,hu,hf,hc⟩:=Xpa
 obtain⟨xs,n,_,_,hlen,hxl,hat⟩:=DataW.trod_struct hu h
 rw[hc] at hlen
 have hsz:fs.size=3:=by have:=congrArg List.length hf;simpa using this
 obtain⟨f0,e0,t0,o0⟩:=X3 hf (i:=0) rfl
 obtain⟨f1,e1,t1,o1⟩:=X3 hf (i:=1) rfl
 obtain⟨f2,e2,t2,o2⟩:=X3 hf (i:=2) rfl
 have h0:=hat 0 f0 e0
 have h1:=hat 1 f1 e1
 have h2:=hat 2 f2 e2
 rw[t0,o0,Y0,List.getElem?_eq_getElem (by omega)] at h0
 rw[t1,o1,Yz,List.getElem?_eq_getElem (by omega)] at h1
 rw[t2,o2,Y0,List.getElem?_eq_getElem (by omega)] at h2
 obtain⟨a0,g0,_,z0⟩:=DataW.trod_string Tryz.underlying9 h0
 obtain⟨a1,g1,_⟩:=DataW.trod_int Tryz.underlying3 h1
 obtain⟨a2,g2,_,z2⟩:=DataW.trod_string Tryz.underlying9 h2
 match cs,hlen with
 | [c0,c1,c2],_ =>
  simp at g0 g1 g2
  exact⟨⟨a0,a1,a2⟩,by rw[g0,g1,g2];rfl,z0⟩
theorem Xla {fuel:Nat} {cs:List Value} {x:DataW H×List MemPlace} (h:DataW.trod enc Tryz.prog w 0 spare held fuel 76 cs=some x) :
  ∃s:SlS PartG,cs=[s.val]∧s.lies PartG.cells w∧∀y∈s.xs,y.cat.size≤maxLen:=by
 obtain⟨A,cp,l,rfl,hr,hn,hm,hl,hc,hR⟩:=Ub PartG.cells 3 ⟨⟨#[]⟩,0,⟨#[]⟩⟩ Tryz.underlying76 (by kernel_rfl) (by decide) PartG.size_cells (fun y=>y.cat.size≤maxLen) (fun _ _ _ h=>Xoq h) h
 exact⟨⟨A,cp,l⟩,rfl,⟨hr,hl,by unfold maxLen at hc;show cp≤_;omega,hn⟩,hR⟩
theorem Xo8:∃fs:Array Field,Tryz.prog.underlying 176=some (.struct fs)∧fs.toList.map (fun f=>(f.type,f.offset))=[(3,0),(9,1)]∧Tryz.prog.cellsOf 176=2:=⟨_,Tryz.underlying176,by kernel_rfl,by kernel_rfl⟩
theorem Xop {fuel:Nat} {cs:List Value} {x:DataW H×List MemPlace} (h:DataW.trod enc Tryz.prog w 0 spare held fuel 176 cs=some x):∃y:GiveG,cs=y.cells∧True:=by
 obtain⟨fs,hu,hf,hc⟩:=Xo8
 obtain⟨xs,n,_,_,hlen,hxl,hat⟩:=DataW.trod_struct hu h
 rw[hc] at hlen
 have hsz:fs.size=2:=by have:=congrArg List.length hf;simpa using this
 obtain⟨f0,e0,t0,o0⟩:=X3 hf (i:=0) rfl
 obtain⟨f1,e1,t1,o1⟩:=X3 hf (i:=1) rfl
 have h0:=hat 0 f0 e0
 have h1:=hat 1 f1 e1
 rw[t0,o0,Yz,List.getElem?_eq_getElem (by omega)] at h0
 rw[t1,o1,Y0,List.getElem?_eq_getElem (by omega)] at h1
 obtain⟨a0,g0,_⟩:=DataW.trod_int Tryz.underlying3 h0
 obtain⟨a1,g1,_,z1⟩:=DataW.trod_string Tryz.underlying9 h1
 match cs,hlen with
 | [c0,c1],_ =>
  simp at g0 g1
  exact⟨⟨a0,a1⟩,by rw[g0,g1];rfl,trivial⟩
theorem Xk9 {fuel:Nat} {cs:List Value} {x:DataW H×List MemPlace} (h:DataW.trod enc Tryz.prog w 0 spare held fuel 77 cs=some x) :
  ∃s:SlS GiveG,cs=[s.val]∧s.lies GiveG.cells w∧∀y∈s.xs,True:=by
 obtain⟨A,cp,l,rfl,hr,hn,hm,hl,hc,hR⟩:=Ub GiveG.cells 2 ⟨0,⟨#[]⟩⟩ Tryz.underlying77 (by kernel_rfl) (by decide) GiveG.size_cells (fun y=>True) (fun _ _ _ h=>Xop h) h
 exact⟨⟨A,cp,l⟩,rfl,⟨hr,hl,by unfold maxLen at hc;show cp≤_;omega,hn⟩,hR⟩
theorem Xmt:∃fs:Array Field,Tryz.prog.underlying 60=some (.struct fs)∧fs.toList.map (fun f=>(f.type,f.offset))=[(9,0),(9,1),(3,2),(22,3),(3,4)]∧Tryz.prog.cellsOf 60=5:=⟨_,Tryz.underlying60,by kernel_rfl,by kernel_rfl⟩
theorem Xl1 {fuel:Nat} {cs:List Value} {x:DataW H×List MemPlace} (h:DataW.trod enc Tryz.prog w 0 spare held fuel 60 cs=some x):∃y:EntryG,cs=y.cells∧y.lies w∧y.cat.size≤maxLen:=by
 obtain⟨fs,hu,hf,hc⟩:=Xmt
 obtain⟨xs,n,_,_,hlen,hxl,hat⟩:=DataW.trod_struct hu h
 rw[hc] at hlen
 have hsz:fs.size=5:=by have:=congrArg List.length hf;simpa using this
 obtain⟨f0,e0,t0,o0⟩:=X3 hf (i:=0) rfl
 obtain⟨f1,e1,t1,o1⟩:=X3 hf (i:=1) rfl
 obtain⟨f2,e2,t2,o2⟩:=X3 hf (i:=2) rfl
 obtain⟨f3,e3,t3,o3⟩:=X3 hf (i:=3) rfl
 obtain⟨f4,e4,t4,o4⟩:=X3 hf (i:=4) rfl
 have h0:=hat 0 f0 e0
 have h1:=hat 1 f1 e1
 have h2:=hat 2 f2 e2
 have h3:=hat 3 f3 e3
 have h4:=hat 4 f4 e4
 rw[t0,o0,Y0,List.getElem?_eq_getElem (by omega)] at h0
 rw[t1,o1,Y0,List.getElem?_eq_getElem (by omega)] at h1
 rw[t2,o2,Yz,List.getElem?_eq_getElem (by omega)] at h2
 rw[t3,o3,Xbe,List.getElem?_eq_getElem (by omega)] at h3
 rw[t4,o4,Yz,List.getElem?_eq_getElem (by omega)] at h4
 obtain⟨a0,g0,_,z0⟩:=DataW.trod_string Tryz.underlying9 h0
 obtain⟨a1,g1,_,z1⟩:=DataW.trod_string Tryz.underlying9 h1
 obtain⟨a2,g2,_⟩:=DataW.trod_int Tryz.underlying3 h2
 obtain⟨a3,g3,l3,z3⟩:=Xbw h3
 obtain⟨a4,g4,_⟩:=DataW.trod_int Tryz.underlying3 h4
 match cs,hlen with
 | [c0,c1,c2,c3,c4],_ =>
  simp at g0 g1 g2 g3 g4
  exact⟨⟨a0,a1,a2,a3,a4⟩,by rw[g0,g1,g2,g3,g4];rfl,l3,z1⟩
theorem Xjc {fuel:Nat} {cs:List Value} {x:DataW H×List MemPlace} (h:DataW.trod enc Tryz.prog w 0 spare held fuel 23 cs=some x) :
  ∃s:SlS EntryG,cs=[s.val]∧s.lies EntryG.cells w∧∀y∈s.xs,y.lies w∧y.cat.size≤maxLen:=by
 obtain⟨A,cp,l,rfl,hr,hn,hm,hl,hc,hR⟩:=Ub EntryG.cells 5 ⟨⟨#[]⟩,⟨#[]⟩,0,⟨none,0,[]⟩,0⟩ Tryz.underlying23 (by kernel_rfl) (by decide) EntryG.size_cells (fun y=>y.lies w∧y.cat.size≤maxLen) (fun _ _ _ h=>Xl1 h) h
 exact⟨⟨A,cp,l⟩,rfl,⟨hr,hl,by unfold maxLen at hc;show cp≤_;omega,hn⟩,hR⟩
theorem Xpb:∃fs:Array Field,Tryz.prog.underlying 79=some (.struct fs)∧fs.toList.map (fun f=>(f.type,f.offset))=[(9,0),(3,1),(76,2),(77,3),(3,4)]∧Tryz.prog.cellsOf 79=5:=⟨_,Tryz.underlying79,by kernel_rfl,by kernel_rfl⟩
theorem Xor {fuel:Nat} {cs:List Value} {x:DataW H×List MemPlace} (h:DataW.trod enc Tryz.prog w 0 spare held fuel 79 cs=some x):∃y:RuleG,cs=y.cells∧(y.lies w∧y.cat.size≤maxLen∧∀p∈y.parts.xs,p.cat.size≤maxLen):=by
 obtain⟨fs,hu,hf,hc⟩:=Xpb
 obtain⟨xs,n,_,_,hlen,hxl,hat⟩:=DataW.trod_struct hu h
 rw[hc] at hlen
 have hsz:fs.size=5:=by have:=congrArg List.length hf;simpa using this
 obtain⟨f0,e0,t0,o0⟩:=X3 hf (i:=0) rfl
 obtain⟨f1,e1,t1,o1⟩:=X3 hf (i:=1) rfl
 obtain⟨f2,e2,t2,o2⟩:=X3 hf (i:=2) rfl
 obtain⟨f3,e3,t3,o3⟩:=X3 hf (i:=3) rfl
 obtain⟨f4,e4,t4,o4⟩:=X3 hf (i:=4) rfl
 have h0:=hat 0 f0 e0
 have h1:=hat 1 f1 e1
 have h2:=hat 2 f2 e2
 have h3:=hat 3 f3 e3
 have h4:=hat 4 f4 e4
 rw[t0,o0,Y0,List.getElem?_eq_getElem (by omega)] at h0
 rw[t1,o1,Yz,List.getElem?_eq_getElem (by omega)] at h1
 rw[t2,o2,Xih,List.getElem?_eq_getElem (by omega)] at h2
 rw[t3,o3,Xig,List.getElem?_eq_getElem (by omega)] at h3
 rw[t4,o4,Yz,List.getElem?_eq_getElem (by omega)] at h4
 obtain⟨a0,g0,_,z0⟩:=DataW.trod_string Tryz.underlying9 h0
 obtain⟨a1,g1,_⟩:=DataW.trod_int Tryz.underlying3 h1
 obtain⟨a2,g2,l2,z2⟩:=Xla h2
 obtain⟨a3,g3,l3,z3⟩:=Xk9 h3
 obtain⟨a4,g4,_⟩:=DataW.trod_int Tryz.underlying3 h4
 match cs,hlen with
 | [c0,c1,c2,c3,c4],_ =>
  simp at g0 g1 g2 g3 g4
  exact⟨⟨a0,a1,a2,a3,a4⟩,by rw[g0,g1,g2,g3,g4];rfl,⟨l2,l3⟩,z0,z2⟩
theorem Xlb {fuel:Nat} {cs:List Value} {x:DataW H×List MemPlace} (h:DataW.trod enc Tryz.prog w 0 spare held fuel 24 cs=some x) :
  ∃s:SlS RuleG,cs=[s.val]∧s.lies RuleG.cells w∧∀y∈s.xs,(y.lies w∧y.cat.size≤maxLen∧∀p∈y.parts.xs,p.cat.size≤maxLen):=by
 obtain⟨A,cp,l,rfl,hr,hn,hm,hl,hc,hR⟩:=Ub RuleG.cells 5 ⟨⟨#[]⟩,0,⟨none,0,[]⟩,⟨none,0,[]⟩,0⟩ Tryz.underlying24 (by kernel_rfl) (by decide) RuleG.size_cells (fun y=>(y.lies w∧y.cat.size≤maxLen∧∀p∈y.parts.xs,p.cat.size≤maxLen)) (fun _ _ _ h=>Xor h) h
 exact⟨⟨A,cp,l⟩,rfl,⟨hr,hl,by unfold maxLen at hc;show cp≤_;omega,hn⟩,hR⟩
theorem Xp0:∃fs:Array Field,Tryz.prog.underlying 26=some (.struct fs)∧fs.toList.map (fun f=>(f.type,f.offset))=[(9,0),(22,1),(9,2),(3,3),(23,4),(24,5)]∧Tryz.prog.cellsOf 26=6:=⟨_,Tryz.underlying26,by kernel_rfl,by kernel_rfl⟩
theorem Xos {fuel:Nat} {cs:List Value} {x:DataW H×List MemPlace} (h:DataW.trod enc Tryz.prog w 0 spare held fuel 26 cs=some x):∃y:Gram,cs=y.cells∧y.lies w∧y.short:=by
 obtain⟨fs,hu,hf,hc⟩:=Xp0
 obtain⟨xs,n,_,_,hlen,hxl,hat⟩:=DataW.trod_struct hu h
 rw[hc] at hlen
 have hsz:fs.size=6:=by have:=congrArg List.length hf;simpa using this
 obtain⟨f0,e0,t0,o0⟩:=X3 hf (i:=0) rfl
 obtain⟨f1,e1,t1,o1⟩:=X3 hf (i:=1) rfl
 obtain⟨f2,e2,t2,o2⟩:=X3 hf (i:=2) rfl
 obtain⟨f3,e3,t3,o3⟩:=X3 hf (i:=3) rfl
 obtain⟨f4,e4,t4,o4⟩:=X3 hf (i:=4) rfl
 obtain⟨f5,e5,t5,o5⟩:=X3 hf (i:=5) rfl
 have h0:=hat 0 f0 e0
 have h1:=hat 1 f1 e1
 have h2:=hat 2 f2 e2
 have h3:=hat 3 f3 e3
 have h4:=hat 4 f4 e4
 have h5:=hat 5 f5 e5
 rw[t0,o0,Y0,List.getElem?_eq_getElem (by omega)] at h0
 rw[t1,o1,Xbe,List.getElem?_eq_getElem (by omega)] at h1
 rw[t2,o2,Y0,List.getElem?_eq_getElem (by omega)] at h2
 rw[t3,o3,Yz,List.getElem?_eq_getElem (by omega)] at h3
 rw[t4,o4,Xf4,List.getElem?_eq_getElem (by omega)] at h4
 rw[t5,o5,Xii,List.getElem?_eq_getElem (by omega)] at h5
 obtain⟨a0,g0,_,z0⟩:=DataW.trod_string Tryz.underlying9 h0
 obtain⟨a1,g1,l1,z1⟩:=Xbw h1
 obtain⟨a2,g2,_,z2⟩:=DataW.trod_string Tryz.underlying9 h2
 obtain⟨a3,g3,_⟩:=DataW.trod_int Tryz.underlying3 h3
 obtain⟨a4,g4,l4,z4⟩:=Xjc h4
 obtain⟨a5,g5,l5,z5⟩:=Xlb h5
 match cs,hlen with
 | [c0,c1,c2,c3,c4,c5],_ =>
  simp at g0 g1 g2 g3 g4 g5
  exact⟨⟨a0,a1,a2,a3,a4,a5⟩,by rw[g0,g1,g2,g3,g4,g5];rfl,⟨l1,l4,fun x hx=>(z4 x hx).1,l5,fun x hx=>(z5 x hx).1⟩,⟨z1,z2,fun x hx=>(z4 x hx).2,fun x hx=>(z5 x hx).2.1,fun x hx=>(z5 x hx).2.2⟩⟩
theorem Xj0 {t:Int} (h:(Lit.int .u8 t).wf=true):t=(t.toNat:Int)∧t.toNat≤255:=by
 have h1:=h
 simp only[Lit.wf,Bool.and_eq_true,decide_eq_true_eq] at h1
 have e1:IntKind.u8.min=0:=by decide
 have e2:IntKind.u8.max=255:=by decide
 rw[e1,e2] at h1
 omega
end
end Go.Proofs.YtolpbjjapodmnaaGreatDoor
