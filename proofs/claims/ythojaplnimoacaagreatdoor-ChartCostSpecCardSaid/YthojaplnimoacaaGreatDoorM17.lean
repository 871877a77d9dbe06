/- Texts of this claim, one after the other: Chwo, Chwb, ChaX, ChwP, LoopAt, Chwc, Chwe. -/
import Derived.Test.YthojaplnimoacaaGreatDoorM15
import Derived.Test.YthojaplnimoacaaGreatDoorM16
import Derived.Test.YthojaplnimoacaaGreatDoorM14
import Derived.Test.YthojaplnimoacaaGreatDoorM10
namespace Go.Proofs.YthojaplnimoacaaGreatDoor
open Go.RowKit Go.Han
attribute [local irreducible] wpStill wpQuiet
set_option maxRecDepth 100000
theorem Xbu:∀ {l:List TreeV} {t:TreeV},t∈l→X5 t≤Xp l
 | x :: l,t,h=>by
  unfold Xp
  rcases List.mem_cons.1 h with rfl|h
  ·omega
  ·have:=Xbu h;omega
set_option maxHeartbeats 8000000 in
theorem Xpt {g:Gram} {its:SlS ItemG} {N:Nat} (hg:Yu g) (hI:Zr N g.cats.xs.length its.xs) {e0:World} (hgl:g.lies e0) (cb kb wb top:Nat) (P:Nat→Prop) (rn:Nat) (hlt:rn<g.rules.xs.length) (xi xu:Int) (l:List TreeV) (xa:Option Addr) (xc:Nat) (css:List (List Value)) (c:Int) (w:World) (hE:ChEnv e0 cb kb wb top g its N w)
  (hno:g.rules.xs[rn].no=c) (hcap1:l.length≤xc) (hr:Rd w xa css.flatten) (hkids:KidsAt w P l css) (fi:I6 xi) (fu:I6 xu) (fl:Ve l) (hnod:1+Xp l≤1024)
  (ih:∀t∈l,∀(x:TreeG) (c:Int) (w:World),ChEnv e0 cb kb wb top g its N w→TreeAt w P t [.int .i64 x.rule,.int .i64 x.item,.int .i64 x.frm,.int .i64 x.unt,.slice x.kids.addr x.kids.len x.kids.cap]→Z6 t→X5 t≤1024→Calls Tryz.prog 58 #[.pointer (some ⟨cb,0,none⟩),.agg #[.int .i64 x.rule,.int .i64 x.item,.int .i64 x.frm,.int .i64 x.unt,.slice x.kids.addr x.kids.len x.kids.cap],.int .i64 c] w (T5 g its.xs t c w)) :
  Calls Tryz.prog 58 #[.pointer (some ⟨cb,0,none⟩),.agg #[.int .i64 (rn:Int),.int .i64 (-1),.int .i64 xi,.int .i64 xu,.slice xa l.length xc],.int .i64 c] w (T5 g its.xs (.node (rn:Int) (-1) xi xu l) c w):=by
 obtain⟨w1,hw1⟩:∃w1,w.alloc (.cells #[.int .i64 (rn:Int),.int .i64 (-1),.int .i64 xi,.int .i64 xu,.slice xa l.length xc] 32)=w1:=⟨_,rfl⟩
 have hB1:=Yn hw1
 have hz1:=Yv hw1
 have y0:=gblk hz1 0
 have y1:=gblk hz1 1
 have y2:=gblk hz1 2
 have y3:=gblk hz1 3
 have y4:=gblk hz1 4
 have hE1:=hE.ext hB1
 have hch:=hE1.chart
 have c0:=gblk hch 0
 have c1:=gblk hch 1
 have c2:=gblk hch 2
 have c3:=gblk hch 3
 have c4:=gblk hch 4
 have c5:=gblk hch 5
 have c6:=gblk hch 6
 have c7:=gblk hch 7
 have c8:=gblk hch 8
 have c9:=gblk hch 9
 have HE1:=Xa hE1
 have HB1:=Xa hB1
 have Hz1:=Xa hz1
 have hlz:=Xc hz1
 clear hz1 hB1 hch hE
 have k0:((rn:Int) == -1)=false:=by simp
 have q1:decide ((rn:Int)<0)=false:=decide_eq_false (by omega)
 have q3:decide ((g.rules.xs.length:Int)≤(rn:Int))=false:=decide_eq_false (by omega)
 have HR0:X6 g its.xs (.node (rn:Int) (-1) xi xu l) c=Z9 (Xm its.xs) g.rules.xs[rn].parts.xs (Yl g its.xs l) xi xu g.rules.xs[rn].cost:=by
  rw[X6,if_neg (by omega),if_neg (by omega),show ((rn:Int)).toNat=rn by omega,List.getElem?_eq_getElem hlt]
  exact if_pos hno
 have Hih:=Xa ih
 have Hr:=Xa hr
 have Hkids:=Xa hkids
 have Hfl:=Xa fl
 have Hnod:=Xa hnod
 clear ih hr hkids fl hnod
 obtain⟨bR,oR,hRa,hbR,hRc⟩:=hgl.rules.at_ RuleG.size_cells (by omega) hlt
 have d0:w1.cell? ⟨bR,oR+rn*5,none⟩=some (.string g.rules.xs[rn].cat):=hRc rn hlt w1 HE1.out.low 0 _ rfl
 have d1:w1.cell? ⟨bR,oR+rn*5+1,none⟩=some (.int .i64 g.rules.xs[rn].no):=hRc rn hlt w1 HE1.out.low 1 _ rfl
 have d2:w1.cell? ⟨bR,oR+rn*5+2,none⟩=some (.slice g.rules.xs[rn].parts.addr g.rules.xs[rn].parts.xs.length g.rules.xs[rn].parts.cap):=hRc rn hlt w1 HE1.out.low 2 _ rfl
 have d3:w1.cell? ⟨bR,oR+rn*5+3,none⟩=some (.slice g.rules.xs[rn].gives.addr g.rules.xs[rn].gives.xs.length g.rules.xs[rn].gives.cap):=hRc rn hlt w1 HE1.out.low 3 _ rfl
 have d4:w1.cell? ⟨bR,oR+rn*5+4,none⟩=some (.int .i64 g.rules.xs[rn].cost):=hRc rn hlt w1 HE1.out.low 4 _ rfl
 have hrl:=hgl.rule _ (List.getElem_mem hlt)
 have hgr:=hg.rule _ (List.getElem_mem hlt)
 have hbR1:bR<w1.heap.size:=Nat.lt_of_lt_of_le hbR HE1.out.low.size
 rw[hRa] at c5
 clear hRc
 generalize g.rules.xs[rn]=ru at *
 have Hgr:=Xa hgr
 clear hgr
 have k1:(ru.no != c)=false:=by simpa using hno
 have k1b:(ru.no == c)=true:=by simpa using hno
 have HR1:=HR0
 have hcap0:l.length≤xc:=hcap1
 have hst0:=LiesSt.start (g:=g) (items:=its.xs) (ps:=ru.parts.xs) (l:=l) (k:=xu) Hgr.out.2.2.1 Hgr.out.2.2.2.1 fi
 rw[← HR1] at hst0
 have hpl:=Hgr.out.2.2.2.2
 obtain⟨R,hR⟩:∃R,X6 g its.xs (.node (rn:Int) (-1) xi xu l) c=R:=⟨_,rfl⟩
 rw[hR] at hst0
 have HR:=Xa hR
 have Hst0:=Xa hst0
 obtain⟨bP,oP,hPa,hbP,hPc⟩:=hrl.1.at_ PartG.size_cells (by omega) (k:=0) (by omega)
 have HPc:=Xa hPc
 rw[hPa] at d2
 have hpn:ru.parts.xs.length≤4:=hpl.2
 have HC:Hid (∀V,Below w1.heap.size w1 V→V.cell? ⟨cb,5,none⟩=some (.slice (some ⟨bR,oR,none⟩) g.rules.xs.length g.rules.cap)∧(V.cell? ⟨w.heap.size,0,none⟩=some (.int .i64 (rn:Int))∧V.cell? ⟨w.heap.size,2,none⟩=some (.int .i64 xi)∧V.cell? ⟨w.heap.size,4,none⟩=some (.slice xa l.length xc))∧V.cell? ⟨bR,oR+rn*5,none⟩=some (.string ru.cat)∧V.cell? ⟨bR,oR+rn*5+1,none⟩=some (.int .i64 ru.no)∧V.cell? ⟨bR,oR+rn*5+2,none⟩=some (.slice (some ⟨bP,oP,none⟩) ru.parts.xs.length ru.parts.cap)∧V.cell? ⟨bR,oR+rn*5+3,none⟩=some (.slice ru.gives.addr ru.gives.xs.length ru.gives.cap)∧V.cell? ⟨bR,oR+rn*5+4,none⟩=some (.int .i64 ru.cost)):=fun V hV=>by
  have hh:=(HE1.out.ext hV).chart
  have hz:=Xh hV Hz1.out
  refine⟨by rw[← hRa];exact gblk hh 5,⟨gblk hz 0,gblk hz 2,gblk hz 4⟩,?_⟩
  have hcl:=fun k=>hV.cell (p:=⟨bR,oR+rn*5+k,none⟩) hbR1
  exact⟨(hcl 0).trans d0,(hcl 1).trans d1,(hcl 2).trans d2,(hcl 3).trans d3,(hcl 4).trans d4⟩
 have hlw:=Xa (Xi (Xi (Below.refl w1.heap.size w1)))
 clear HR0 HR1 hR hst0 hPc hPa hrl hpl hRa hbR1
 go_enter Tryz.func58,Tryz.ntmps58
 go_wp2_with fail
 go_still (by kernel_rfl)
 go_wp2_with fail
 refine wpIn_wide (n:=0) |>.1 ?_
 refine Y4 _ ?_ (fun _ _ h=>h)
 refine Xo (fun V=>Below w1.heap.size w1 V) (by kernel_rfl) ?_
 refine Xd (i:=0) rfl (by kernel_rfl) (fun _ _ _ h=>h) (fun V hV=>(by obtain⟨m0,⟨m1,m2,m3⟩,r0,r1,r2,r3,r4⟩:=HC.out V hV;go_simp<;>rfl)) ?_
 refine Xd (i:=1) rfl (by kernel_rfl) (fun _ _ _ h=>h) (fun V hV=>(by obtain⟨m0,⟨m1,m2,m3⟩,r0,r1,r2,r3,r4⟩:=HC.out V hV;go_simp<;>rfl)) ?_
 refine Xd (i:=2) rfl (by kernel_rfl) (fun _ _ _ h=>h) (fun V hV=>(by obtain⟨m0,⟨m1,m2,m3⟩,r0,r1,r2,r3,r4⟩:=HC.out V hV;go_simp<;>rfl)) ?_
 refine Xd (i:=3) rfl (by kernel_rfl) (fun _ _ _ h=>h) (fun V hV=>(by obtain⟨m0,⟨m1,m2,m3⟩,r0,r1,r2,r3,r4⟩:=HC.out V hV;go_simp<;>rfl)) ?_
 refine Xd (i:=4) rfl (by kernel_rfl) (fun _ _ _ h=>h) (fun V hV=>(by obtain⟨m0,⟨m1,m2,m3⟩,r0,r1,r2,r3,r4⟩:=HC.out V hV;go_simp<;>rfl)) ?_
 refine Xd (i:=5) rfl (by kernel_rfl) (fun _ _ _ h=>h) (fun V hV=>(by obtain⟨m0,⟨m1,m2,m3⟩,r0,r1,r2,r3,r4⟩:=HC.out V hV;go_simp<;>rfl)) ?_
 refine Xd (i:=6) rfl (by kernel_rfl) (fun _ _ _ h=>h) (fun V hV=>(by obtain⟨m0,⟨m1,m2,m3⟩,r0,r1,r2,r3,r4⟩:=HC.out V hV;go_simp<;>rfl)) ?_
 refine Xd (i:=7) rfl (by kernel_rfl) (fun _ _ _ h=>h) (fun V hV=>(by obtain⟨m0,⟨m1,m2,m3⟩,r0,r1,r2,r3,r4⟩:=HC.out V hV;go_simp<;>rfl)) ?_
 refine Xd (i:=8) (v:=.agg #[.string ru.cat,.int .i64 ru.no,.slice (some ⟨bP,oP,none⟩) ru.parts.xs.length ru.parts.cap,.slice ru.gives.addr ru.gives.xs.length ru.gives.cap,.int .i64 ru.cost]) rfl (by kernel_rfl) (fun _ _ _ h=>h) (fun V hV=>(by obtain⟨m0,⟨m1,m2,m3⟩,r0,r1,r2,r3,r4⟩:=HC.out V hV;go_simp)) ?_
 refine Xg (i:=9) hlw.out (by kernel_rfl) rfl (fun K hK=>?_)
 go_simp
 refine hK _ _ ?_
 clear hK K
 have hB8:=Xe hlw.out (.cells #[.string ⟨#[]⟩,.int .i64 0,.slice none 0 0,.slice none 0 0,.int .i64 0] 104)
 refine Xg (i:=10) hB8 (by kernel_rfl) rfl (fun K hK=>?_)
 go_simp
 refine hK _ _ ?_
 clear hK K
 obtain⟨w2,hw2⟩:∃w2,(w1.alloc (.cells #[.string ru.cat,.int .i64 c,.slice (some ⟨bP,oP,none⟩) ru.parts.xs.length ru.parts.cap,.slice ru.gives.addr ru.gives.xs.length ru.gives.cap,.int .i64 ru.cost] 104)).drew.drew=w2:=⟨_,rfl⟩
 have hb2:Below w1.heap.size w1 w2:=by rw[← hw2];exact Xi (Xi (Xe (Below.refl _ _) _))
 have hz2:w2.heap[w1.heap.size]? = some (.cells #[.string ru.cat,.int .i64 c,.slice (some ⟨bP,oP,none⟩) ru.parts.xs.length ru.parts.cap,.slice ru.gives.addr ru.gives.xs.length ru.gives.cap,.int .i64 ru.cost] 104 (0,0)):=by rw[← hw2];exact World.alloc_heap_new _ _
 rw[hw2]
 refine Xl hb2 (by kernel_rfl) ?_ _
 have hz12:=Xh hb2 Hz1.out
 clear hw2 hB8 hlw HC y0 y1 y2 y3 y4 c0 c1 c2 c3 c4 c5 c6 c7 c8 c9 d0 d1 d2 d3 d4
 have e0:=gblk hz2 0
 have e1:=gblk hz2 1
 have e2:=gblk hz2 2
 have e3:=gblk hz2 3
 have e4:=gblk hz2 4
 have v0:=gblk hz12 0
 have v1:=gblk hz12 1
 have v2:=gblk hz12 2
 have v3:=gblk hz12 3
 have v4:=gblk hz12 4
 have HB2:=Xa (Xb HB1.out hb2)
 have Hb12:=Xa hb2
 have HE2:=Xa (HE1.out.ext hb2)
 clear hz2 hz12 hb2
 go_wp2_with fail
 go_still (by kernel_rfl)
 go_wp2_with fail
 go_loopw [6,10,11,117] (fun va vb vd iv wr=>∃(p:Nat) (ks:List TreeV) (B:Option Addr) (cB:Nat) (css':List (List Value)) (at_ cost:Int),p≤ru.parts.xs.length∧va = .int .i64 cost∧vb = .int .i64 at_∧vd = .slice B ks.length cB∧iv = .int .i64 p∧Below w2.heap.size w2 wr∧Hid (LiesSt g its.xs R ru.parts.xs l xu p ks at_ cost)∧Hid (KidsAt w P ks css'∧Rd w B css'.flatten∧ks.length≤cB)) (fun _ _ _ iv _=>ru.parts.xs.length-(intOf iv).toNat)
 case atStart=>exact⟨0,l,xa,xc,css,xi,ru.cost,Nat.zero_le _,rfl,rfl,rfl,rfl,Xi (Below.refl _ _),Hst0.out,Hkids.out,Hr.out,hcap0⟩
 case round =>
  obtain⟨p,ks,B,cB,css',at_,cost,hp,rfl,rfl,rfl,rfl,hB,Hst,Hk⟩:=hrel
  have hBw:=Xb HB2.out hB
  by_cases hlt:p<ru.parts.xs.length
  ·have hmarkP:=hlt
   have f0:wr.cell? ⟨bP,oP+p*3,none⟩=some (.string ru.parts.xs[p].cat):=HPc.out p hlt wr (Xb HE2.out.low hB) 0 _ rfl
   have f1:wr.cell? ⟨bP,oP+p*3+1,none⟩=some (.int .i64 ru.parts.xs[p].no):=HPc.out p hlt wr (Xb HE2.out.low hB) 1 _ rfl
   have f2:wr.cell? ⟨bP,oP+p*3+2,none⟩=some (.string ru.parts.xs[p].text):=HPc.out p hlt wr (Xb HE2.out.low hB) 2 _ rfl
   have S1:=Xa (fun ht hn=>Hst.out.text_no hlt ht hn)
   have S2:=Xa (fun ht hn hw=>Hst.out.text hlt ht hn hw fu)
   have S3:=Xa (fun (e:ks=[]) ht=>(show R=(0,false) by have h:=Hst.out;rw[e] at h;exact h.none hlt ht))
   have S4:=Xa (fun t ks' (e:ks=t :: ks') ht hn=>(show R=(0,false) by have h:=Hst.out;rw[e] at h;exact h.cat_frm hlt ht hn))
   have S5:=Xa (fun t ks' (e:ks=t :: ks') ht hf hn=>(show R=(0,false) by have h:=Hst.out;rw[e] at h;exact h.cat_no hlt ht hf hn))
   have S6:=Xa (fun t ks' (e:ks=t :: ks') ht hf cc hn=>(show LiesSt g its.xs R ru.parts.xs l xu (p+1) ks' t.unt (cost+cc) by have h:=Hst.out;rw[e] at h;exact h.cat hg hI (Qb Hfl.out) hlt ht hf hn))
   have hfa:=Hst.out.fit
   have hlo:=Hst.out.lo
   have hhi:=Hst.out.hi
   have hsub:=Xa Hst.out.sub
   generalize ru.parts.xs[p]=q at *
   obtain⟨w3,hw3⟩:∃w3,wr.alloc (.cells #[.string q.cat,.int .i64 q.no,.string q.text] 150)=w3:=⟨_,rfl⟩
   have hb3:=Yn hw3
   have hz3:=Yv hw3
   have s0:=gblk hz3 0
   have s1:=gblk hz3 1
   have s2:=gblk hz3 2
   have hz3l:=Xc hz3
   have hB3:=Xb hB hb3
   have HE3:=Xa (HE2.out.ext hB3)
   have hch3:=HE3.out.chart
   have c9:=gblk hch3 9
   have hz13:=((Xb Hb12.out hB3).block _ (Xc Hz1.out)).trans Hz1.out
   have v0:=gblk hz13 0
   have v1:=gblk hz13 1
   have v2:=gblk hz13 2
   have v3:=gblk hz13 3
   have v4:=gblk hz13 4
   have Hb3:=Xa (Xb hBw hb3)
   have HB3:=Xa hB3
   clear hz3 hz13 hB hb3 hB3 hch3
   by_cases ht:q.text.size≠0
   ·have k2:=Xkb ht
    have k3:=Zp (s:=q.text) (by omega)
    have k4:¬q.text.toList=[]:=by intro h;rw[h] at k3;cases k3
    by_cases ha:at_<xu
    rotate_left
    ·have g1:decide (xu≤at_)=true:=decide_eq_true (by omega)
     have HR9:=Xa (HR.out.trans (S1.out ht (fun h=>ha h.1)))
     clear S1 S2 S3 S4 S5 S6 hfa hlo hhi ha
     go_wp2_with fail
     go_still (by kernel_rfl)
     go_wp2_with fail
     exact bodyPost_ret (v:=.tuple #[.int .i64 0,.bool false]) (by simp[results,Tryz.results58,go_sem]) rfl ⟨by rw[HR9.out],Xb Hb3.out (Xi (Below.refl _ _))⟩
    ·have g1:decide (xu≤at_)=false:=decide_eq_false (by omega)
     obtain⟨A2,cp2,xs2,hlook,hlie,hany⟩:=HE3.out.words.lookW hfa
     have hlk:=hlook w3.drew rfl
     have hl2:=hlie w3.drew (fun _ _=>rfl) (Nat.le_refl _)
     have hC:=Xcw A2 cp2 xs2 q.text w3.drew (by have h:=hl2.rd;rwa [show strs xs2=xs2.flatMap (fun b:ByteArray=>[Value.string b]) from by unfold strs;rw[List.map_eq_flatMap]] at h) (Nat.le_trans hl2.cap hl2.max)
     rw[hany q.text] at hC
     cases hst:Xm its.xs at_ q.text
     ·rw[hst] at hC
      have HC:=Xa hC
      have HR9:=Xa (HR.out.trans (S1.out ht (fun h=>by rw[hst] at h;exact absurd h.2 (by simp))))
      clear S1 S2 S3 S4 S5 S6 hfa hlo hhi ha hC hlie hlook hl2 hany hst
      go_wp2_with fail
      refine wp_region_still_lit (by kernel_rfl) (by kernel_rfl) ?_
      repeat still_step
      still_call HC.out
      repeat still_step
      refine wpStill_nil ?_
      go_wp2_with fail
      exact bodyPost_ret (v:=.tuple #[.int .i64 0,.bool false]) (by simp[results,Tryz.results58,go_sem]) rfl ⟨by rw[HR9.out],Xb Hb3.out (Xi (Below.refl _ _))⟩
     ·rw[hst] at hC
      have HC:=Xa hC
      have Hnx:=Xa (S2.out ht ha hst)
      have hwa:IntKind.i64.wrap (at_+1)=at_+1:=IntWalk.i64_in _ (by unfold I6 at hfa fu;omega)
      clear S1 S2 S3 S4 S5 S6 hfa hlo hhi ha hC hlie hlook hl2 hany hst
      go_wp2_with fail
      refine wp_region_still_lit (by kernel_rfl) (by kernel_rfl) ?_
      repeat still_step
      still_call HC.out
      repeat still_step
      refine wpStill_nil ?_
      go_wp2_with fail
      go_roundw
      case rel=>exact⟨p+1,ks,B,cB,css',at_+1,cost,by omega,by go_num,by go_num,rfl,by go_num,Xi HB3.out,Hnx.out,Hk.out⟩
      case measure=>simp[intOf];omega
   ·have k2:=Xka ht
    have k3:=Zq (s:=q.text) (by omega)
    have k4:q.text.toList=[]:=List.isEmpty_iff.1 k3
    cases ks with
    | nil =>
     have HR9:=Xa (HR.out.trans (S3.out rfl ht))
     clear S1 S2 S3 S4 S5 S6 hfa hlo hhi
     go_wp2_with fail
     exact bodyPost_ret (v:=.tuple #[.int .i64 0,.bool false]) (by simp[results,Tryz.results58,go_sem]) rfl ⟨by rw[HR9.out],Hb3.out⟩
    | cons t ks' =>
     obtain⟨b0,off0,B',cp',rfl,hb0,ht0,n0,n1,n2,n3,n4⟩:=Uz Hk.out.2.1 Hk.out.1 (n:=0) (by simp)
     simp only[List.getElem_cons_zero,Nat.zero_mul,Nat.add_zero] at ht0 n0 n1 n2 n3 n4
     have hbl:=Hb3.out.block b0 hb0
     have m0:=(World.cell?_of_block (a:=⟨b0,off0,none⟩) hbl).trans n0
     have m1:=(World.cell?_of_block (a:=⟨b0,off0+1,none⟩) hbl).trans n1
     have m2:=(World.cell?_of_block (a:=⟨b0,off0+2,none⟩) hbl).trans n2
     have m3:=(World.cell?_of_block (a:=⟨b0,off0+3,none⟩) hbl).trans n3
     have m4:=(World.cell?_of_block (a:=⟨b0,off0+4,none⟩) hbl).trans n4
     have l0:(((ks'.length:Nat):Int)+1 == 0)=false:=by simp;omega
     have hb3w:b0<w3.heap.size:=Nat.lt_of_lt_of_le hb0 Hb3.out.size
     have HC:Hid (∀V,Below w3.heap.size w3 V→(V.cell? ⟨b0,off0,none⟩=some (.int .i64 t.rule)∧V.cell? ⟨b0,off0+1,none⟩=some (.int .i64 t.item)∧V.cell? ⟨b0,off0+2,none⟩=some (.int .i64 t.frm)∧V.cell? ⟨b0,off0+3,none⟩=some (.int .i64 t.unt)∧V.cell? ⟨b0,off0+4,none⟩=some (.slice B' t.kids.length cp'))∧V.cell? ⟨wr.heap.size,1,none⟩=some (.int .i64 q.no)):=fun V hV=>by
      have hbV:=hV.block b0 hb3w
      exact⟨⟨(World.cell?_of_block (a:=⟨b0,off0,none⟩) hbV).trans m0,(World.cell?_of_block (a:=⟨b0,off0+1,none⟩) hbV).trans m1,(World.cell?_of_block (a:=⟨b0,off0+2,none⟩) hbV).trans m2,(World.cell?_of_block (a:=⟨b0,off0+3,none⟩) hbV).trans m3,(World.cell?_of_block (a:=⟨b0,off0+4,none⟩) hbV).trans m4⟩,(World.cell?_of_block (a:=⟨wr.heap.size,1,none⟩) (hV.block _ hz3l)).trans s1⟩
     clear n0 n1 n2 n3 n4 hbl
     by_cases hf:t.frm=at_
     rotate_left
     ·have g1:(t.frm != at_)=true:=by simpa using hf
      have g2:(t.frm == at_)=false:=by simpa using hf
      have HR9:=Xa (HR.out.trans (S4.out t ks' rfl ht hf))
      clear S1 S2 S3 S4 S5 S6 hfa hlo hhi hf ht0 hsub
      generalize t.rule=a0 at *
      generalize t.item=a1 at *
      generalize t.frm=a2 at *
      generalize t.unt=a3 at *
      generalize t.kids.length=a4 at *
      go_wp2_with fail
      exact bodyPost_ret (v:=.tuple #[.int .i64 0,.bool false]) (by simp[results,Tryz.results58,go_sem]) rfl ⟨by rw[HR9.out],Hb3.out⟩
     ·have g1:(t.frm != at_)=false:=by simpa using hf
      have g2:(t.frm == at_)=true:=by simpa using hf
      have htl:=hsub.out t (List.mem_cons_self ..)
      have hc:=Hih.out t htl ⟨t.rule,t.item,t.frm,t.unt,⟨B',t.kids.length,cp'⟩⟩ q.no w3.drew (HE3.out.ext (Xi (Below.refl _ _))) (ht0.ext (Xb Hb3.out (Xi (Below.refl _ _)))) (Qb Hfl.out t htl) (by have:=Xbu htl;have:=Hnod.out;omega)
      obtain⟨⟨cc,bb⟩,hcc⟩:∃x,X6 g its.xs t q.no=x:=⟨_,rfl⟩
      unfold T5 at hc
      rw[hcc] at hc
      have Hc:=Xa hc
      clear hc ht0
      cases bb
      ·have HR9:=Xa (HR.out.trans (S5.out t ks' rfl ht hf (by rw[hcc])))
       clear S1 S2 S3 S4 S5 S6 hfa hlo hhi hf hcc htl hsub
       generalize t.rule=a0 at *
       generalize t.item=a1 at *
       generalize t.frm=a2 at *
       generalize t.unt=a3 at *
       generalize t.kids.length=a4 at *
       go_wp2_with fail
       refine wpIn_wide (n:=0) |>.1 ?_
       refine Y4 _ ?_ (fun _ _ h=>h)
       refine Xo (fun V=>Below w3.heap.size w3 V) (by kernel_rfl) ?_
       refine Xd (i:=0) rfl (by kernel_rfl) (fun _ _ _ h=>h) (fun V hV=>(by skip;go_simp<;>rfl)) ?_
       refine Xd (i:=1) rfl (by kernel_rfl) (fun _ _ _ h=>h) (fun V hV=>(by skip;go_simp<;>rfl)) ?_
       refine Xd (i:=2) rfl (by kernel_rfl) (fun _ _ _ h=>h) (fun V hV=>(by skip;go_simp<;>rfl)) ?_
       refine Xd (i:=3) (v:=.agg #[.int .i64 a0,.int .i64 a1,.int .i64 a2,.int .i64 a3,.slice B' a4 cp']) rfl (by kernel_rfl) (fun _ _ _ h=>h) (fun V hV=>(by obtain⟨⟨m0,m1,m2,m3,m4⟩,m5⟩:=HC.out V hV;go_simp)) ?_
       refine Xd (i:=4) rfl (by kernel_rfl) (fun _ _ _ h=>h) (fun V hV=>(by obtain⟨⟨m0,m1,m2,m3,m4⟩,m5⟩:=HC.out V hV;go_simp<;>rfl)) ?_
       refine Xd (i:=5) rfl (by kernel_rfl) (fun _ _ _ h=>h) (fun V hV=>(by obtain⟨⟨m0,m1,m2,m3,m4⟩,m5⟩:=HC.out V hV;go_simp<;>rfl)) ?_
       refine Xg (i:=6) (Xi (Below.refl _ _)) (by kernel_rfl) rfl (fun K hK=>?_)
       go_simp
       refine⟨trivial,rfl,callsIn_wide.2 (Hc.out.mono ?_)⟩
       rintro e w4 ⟨rfl,hB4⟩
       refine hK _ _ ?_
       clear hK K
       have hB4':=Xb (Xi (Below.refl w3.heap.size w3)) hB4
       refine Xd (i:=7) rfl (by kernel_rfl) (fun _ _ _ h=>h) (fun V hV=>(by skip;go_simp<;>rfl)) ?_
       refine Xd (i:=8) rfl (by kernel_rfl) (fun _ _ _ h=>h) (fun V hV=>(by skip;go_simp<;>rfl)) ?_
       refine Xd (i:=9) rfl (by kernel_rfl) (fun _ _ _ h=>h) (fun V hV=>(by skip;go_simp<;>rfl)) ?_
       refine Xd (i:=10) rfl (by kernel_rfl) (fun _ _ _ h=>h) (fun V hV=>(by skip;go_simp<;>rfl)) ?_
       refine Xd (i:=11) rfl (by kernel_rfl) (fun _ _ _ h=>h) (fun V hV=>(by skip;go_simp<;>rfl)) ?_
       refine Xl hB4' (by kernel_rfl) ?_ _
       go_wp2_with fail
       exact bodyPost_ret (v:=.tuple #[.int .i64 0,.bool false]) (by simp[results,Tryz.results58,go_sem]) rfl ⟨by rw[HR9.out],Xb Hb3.out (Xb (Xi (Below.refl _ _)) hB4)⟩
      ·have hbd:=Xdp hg hI hcc
       have Hnx:=Xa (S6.out t ks' rfl ht hf cc hcc)
       have hwc:IntKind.i64.wrap (cost+cc)=cost+cc:=by
        have h1:=Hnx.out.lo
        have h2:=Hnx.out.hi
        have h3:=Hnod.out
        exact IntWalk.i64_in _ (by omega)
       have hrs:∀V:World,_:=fun V=>Xoh (some ⟨b0,off0,none⟩) cB (ks'.length+1) V (by omega)
       clear S1 S2 S3 S4 S5 S6 hfa hlo hhi hf hcc htl hbd hsub
       generalize t.rule=a0 at *
       generalize t.item=a1 at *
       generalize t.frm=a2 at *
       generalize t.unt=a3 at *
       generalize t.kids.length=a4 at *
       go_wp2_with fail
       refine wpIn_wide (n:=0) |>.1 ?_
       refine Y4 _ ?_ (fun _ _ h=>h)
       refine Xo (fun V=>Below w3.heap.size w3 V) (by kernel_rfl) ?_
       refine Xd (i:=0) rfl (by kernel_rfl) (fun _ _ _ h=>h) (fun V hV=>(by skip;go_simp<;>rfl)) ?_
       refine Xd (i:=1) rfl (by kernel_rfl) (fun _ _ _ h=>h) (fun V hV=>(by skip;go_simp<;>rfl)) ?_
       refine Xd (i:=2) rfl (by kernel_rfl) (fun _ _ _ h=>h) (fun V hV=>(by skip;go_simp<;>rfl)) ?_
       refine Xd (i:=3) (v:=.agg #[.int .i64 a0,.int .i64 a1,.int .i64 a2,.int .i64 a3,.slice B' a4 cp']) rfl (by kernel_rfl) (fun _ _ _ h=>h) (fun V hV=>(by obtain⟨⟨m0,m1,m2,m3,m4⟩,m5⟩:=HC.out V hV;go_simp)) ?_
       refine Xd (i:=4) rfl (by kernel_rfl) (fun _ _ _ h=>h) (fun V hV=>(by obtain⟨⟨m0,m1,m2,m3,m4⟩,m5⟩:=HC.out V hV;go_simp<;>rfl)) ?_
       refine Xd (i:=5) rfl (by kernel_rfl) (fun _ _ _ h=>h) (fun V hV=>(by obtain⟨⟨m0,m1,m2,m3,m4⟩,m5⟩:=HC.out V hV;go_simp<;>rfl)) ?_
       refine Xg (i:=6) (Xi (Below.refl _ _)) (by kernel_rfl) rfl (fun K hK=>?_)
       go_simp
       refine⟨trivial,rfl,callsIn_wide.2 (Hc.out.mono ?_)⟩
       rintro e w4 ⟨rfl,hB4⟩
       refine hK _ _ ?_
       clear hK K
       have hB4':=Xb (Xi (Below.refl w3.heap.size w3)) hB4
       refine Xd (i:=7) rfl (by kernel_rfl) (fun _ _ _ h=>h) (fun V hV=>(by skip;go_simp<;>rfl)) ?_
       refine Xd (i:=8) rfl (by kernel_rfl) (fun _ _ _ h=>h) (fun V hV=>(by skip;go_simp<;>rfl)) ?_
       refine Xd (i:=9) rfl (by kernel_rfl) (fun _ _ _ h=>h) (fun V hV=>(by skip;go_simp<;>rfl)) ?_
       refine Xd (i:=10) rfl (by kernel_rfl) (fun _ _ _ h=>h) (fun V hV=>(by skip;go_simp<;>rfl)) ?_
       refine Xd (i:=11) rfl (by kernel_rfl) (fun _ _ _ h=>h) (fun V hV=>(by skip;go_simp<;>rfl)) ?_
       refine Xl hB4' (by kernel_rfl) ?_ _
       have o3:=(World.cell?_of_block (a:=⟨b0,off0+3,none⟩) (hB4'.block b0 hb3w)).trans m3
       have HB4:=Xa hB4'
       clear m0 m1 m2 m3 m4 hB4 hB4'
       go_wp2_with fail
       go_still (by kernel_rfl)
       go_wp2_with fail
       go_roundw
       case rel =>
        obtain⟨css2,hk2,hr2⟩:=Xqn (cp:=cB) Hk.out.2.1 Hk.out.1 (by have:=Hk.out.2.2;simpa using this)
        exact⟨p+1,ks',subA (some ⟨b0,off0,none⟩) cB 1 5,cB-1,css2,a3,cost+cc,by omega,by go_num,rfl,rfl,by go_num,Xi (Xb HB3.out HB4.out),Hnx.out,hk2,hr2,by have:=Hk.out.2.2;simp at this;omega⟩
       case measure=>simp[intOf];omega
  ·have hpl:p=ru.parts.xs.length:=by omega
   subst hpl
   have hdn:=Hst.out.done
   have HRd:=Xa (HR.out.trans hdn)
   have hz19:=((Xb Hb12.out hB).block _ (Xc Hz1.out)).trans Hz1.out
   have v0:=gblk hz19 0
   have v1:=gblk hz19 1
   have v2:=gblk hz19 2
   have v3:=gblk hz19 3
   have v4:=gblk hz19 4
   have HBw:=Xa hBw
   clear hz19 hdn hB hBw
   cases ks with
   | nil =>
    by_cases ha:at_=xu
    ·have g1:(at_ == xu)=true:=by simpa using ha
     have HR9:=Xa (show X6 g its.xs (.node (rn:Int) (-1) xi xu l) c=(cost,true) by rw[HRd.out,decide_eq_true ha];rfl)
     clear HRd ha
     go_wp2_with fail
     go_still (by kernel_rfl)
     go_wp2_with fail
     exact bodyPost_ret (v:=.tuple #[.int .i64 cost,.bool true]) (by simp[results,Tryz.results58,go_sem]) rfl ⟨by rw[HR9.out],Xb HBw.out (Xi (Below.refl _ _))⟩
    ·have g1:(at_ == xu)=false:=by simpa using ha
     have HR9:=Xa (show X6 g its.xs (.node (rn:Int) (-1) xi xu l) c=(cost,false) by rw[HRd.out,decide_eq_false ha];rfl)
     clear HRd ha
     go_wp2_with fail
     go_still (by kernel_rfl)
     go_wp2_with fail
     exact bodyPost_ret (v:=.tuple #[.int .i64 cost,.bool false]) (by simp[results,Tryz.results58,go_sem]) rfl ⟨by rw[HR9.out],Xb HBw.out (Xi (Below.refl _ _))⟩
   | cons t ks' =>
    have l0:(((ks'.length:Nat):Int)+1 == 0)=false:=by simp;omega
    have HR9:=Xa (show X6 g its.xs (.node (rn:Int) (-1) xi xu l) c=(cost,false) by rw[HRd.out];rfl)
    clear HRd
    go_wp2_with fail
    go_still (by kernel_rfl)
    go_wp2_with fail
    exact bodyPost_ret (v:=.tuple #[.int .i64 cost,.bool false]) (by simp[results,Tryz.results58,go_sem]) rfl ⟨by rw[HR9.out],Xb HBw.out (Xi (Below.refl _ _))⟩
theorem Xiq {g:Gram} {its:SlS ItemG} {N:Nat} (hg:Yu g) (hI:Zr N g.cats.xs.length its.xs) {e0:World} (hgl:g.lies e0) (hil:ItemsAt e0 its) (hfew:its.xs.length≤16384) (cb kb wb top:Nat) (P:Nat→Prop) :
  ∀(t:TreeV) (x:TreeG) (c:Int) (w:World),ChEnv e0 cb kb wb top g its N w→TreeAt w P t [.int .i64 x.rule,.int .i64 x.item,.int .i64 x.frm,.int .i64 x.unt,.slice x.kids.addr x.kids.len x.kids.cap]→Z6 t→X5 t≤1024 →
  Calls Tryz.prog 58 #[.pointer (some ⟨cb,0,none⟩),.agg #[.int .i64 x.rule,.int .i64 x.item,.int .i64 x.frm,.int .i64 x.unt,.slice x.kids.addr x.kids.len x.kids.cap],.int .i64 c] w (T5 g its.xs t c w) :=
 TreeV.ind fun r j i u l ih x c w hE ht hfit hnod=>by
  unfold TreeAt at ht
  obtain⟨A,cap,css,e,hcap1,hcap2,hA0,hIn,hr,hkids⟩:=ht
  obtain⟨xr,xj,xi,xu,⟨xa,xl,xc⟩⟩:=x
  simp only[List.cons.injEq,Value.int.injEq,Value.slice.injEq,true_and,and_true] at e
  obtain⟨rfl,rfl,rfl,rfl,rfl,rfl,rfl⟩:=e
  unfold Z6 at hfit
  obtain⟨fr,fj,fi,fu,fl⟩:=hfit
  rw[X5] at hnod
  by_cases hr1:xr = -1
  ·subst hr1
   exact Xpr hil hfew cb kb wb top xj xi xu l xa xc c w hE
  ·by_cases hok:xj = -1∧∃(rn:Nat) (h:rn<g.rules.xs.length),xr=(rn:Int)∧g.rules.xs[rn].no=c
   ·obtain⟨rfl,rn,hlt,rfl,hno⟩:=hok
    exact Xpt hg hI hgl cb kb wb top P rn hlt xi xu l xa xc css c w hE hno hcap1 hr hkids fi fu fl hnod fun t ht x c w=>ih t ht x c w
   ·exact Xre hgl cb kb wb top xr xj xi xu l xa xc c w hE hr1 fun rn h h1 h2 h3=>hok ⟨h1,rn,h,h2,h3⟩
end Go.Proofs.YthojaplnimoacaaGreatDoor
namespace Go.Proofs.YthojaplnimoacaaGreatDoor
open Go.RowKit Go.Han
attribute [local irreducible] wpStill wpQuiet
attribute [local go_sem] Oper.semAt_some
set_option maxRecDepth 100000
def LayR (D kb fb b:Nat):Prop:=b<D∧b≠kb∧b≠fb
theorem lays2 {e0 w w0:World} {cb kb wb top fb:Nat} {g:Gram} {its:SlS ItemG} {n:Nat} {A:Option Addr} {cp:Nat} {parts:List PartG} {i k:Nat} {e:Ending} (hE:ChEnv e0 cb kb wb top g its n w) (hA:Rd w A (parts.flatMap PartG.cells)) (hfar:∀b off,A=some ⟨b,off,none⟩→b<top∧b≠kb) (hL:Xel cb A parts.length cp i k w e w0)
  (hf:top≤fb∧fb<w.heap.size) (h4:parts.length≤4) (hk:k≤16) (hi:i≤k) :
  IterV Tryz.prog 183 #[.pointer (some ⟨w.heap.size+1+1+1+1+1,0,none⟩),.pointer (some ⟨w.heap.size+1+1,0,none⟩)] EncW (LayR w0.heap.size kb fb) (fun b=>b=w.heap.size+1+1+1+1) (X9 (Xm its.xs) parts i k) w0:=by
 obtain⟨rfl,hB,hends,hb,hz⟩:=hL
 have hE0:=hE.ext hb
 have hkt:=hE.hk
 have htw:=hE.top
 have henv:LayEnv w0 w.heap.size cb kb wb top g its n A cp parts i k (LayR w0.heap.size kb fb) :=
  ⟨hB,hE0.chart,hE0.words,hA.ext hb,hfar,fun b h1 h2=>⟨by omega,by omega,by omega⟩,fun b h1 h2=>⟨by omega,h2,by omega⟩,htw,⟨hE.hc.2,hE.kc⟩,⟨hE.hw.2,Ne.symm hE.kw⟩⟩
 intro l' B0 J Jx own₀ W hR hown hB0 hlive hJ hJx hY h0
 have hbw:w0.heap.size≤B0:=by
  have:=(hR (w.heap.size+1+1+1+1+1) ⟨by omega,by omega,by omega⟩).1
  omega
 have U:Xcr w0 w.heap.size B0 W.heap.size cb kb wb top (LayR w0.heap.size kb fb) (fun b=>b=w.heap.size+1+1+1+1) J Jx l' (X9 (Xm its.xs) parts i k) g its n A cp parts i k :=
  ⟨henv,by omega,fun b hb=>(hR b hb).1,hB0,hJ,rfl,hY,h4,hk⟩
 have hbe:W.heap[w.heap.size+1+1+1+1]? = some (.cells #[.slice none 0 0] 61 (0,0)):=(hR _ ⟨by omega,by omega,by omega⟩).2.trans hends
 have hS:LaySt w0 w.heap.size B0 W.heap.size (LayR w0.heap.size kb fb) J own₀ [] [] (.slice none 0 0) W :=
  ⟨h0,fun b hr _=>(hR b hr).2,hown,hlive,Nat.le_refl _,hbe,OwnL.nil _ _ _ _ _,fun g hg=>by simp[Value.ownBlock] at hg⟩
 have hat:=henv.at_ hS.keep (by omega)
 have cl:=Xj hat.l
 have cf:=Xj ((hR (w.heap.size+1+1) ⟨by omega,by omega,by omega⟩).2.trans hB.frm)
 have hc:=lay1 U parts 0 i own₀ [] [] (.slice none 0 0) W rfl (by simp) hi (by simpa using h4) hS (by simp)
 have hc':Calls Tryz.prog 182 #[.int .i64 0,.int .i64 (i:Int),.func (.yield l') #[] #[],.pointer (some ⟨w.heap.size+1,0,none⟩),.pointer (some ⟨w.heap.size+1+1+1,0,none⟩),.pointer (some ⟨w.heap.size+1+1+1+1,0,none⟩),.pointer (some ⟨w.heap.size,0,none⟩),.pointer (some ⟨w.heap.size+1+1+1+1+1,0,none⟩)] W (LayPost w0 w.heap.size B0 W.heap.size (LayR w0.heap.size kb fb) J Jx (X9 (Xm its.xs) parts i k) [] [] (X9 (Xm its.xs) parts i k)):=hc
 have HC:=Xa hc'
 clear U hE hA hfar hf hE0 henv hR hown hlive hJ hJx hY h0 hbe hS hat hc hc' hB hends hb hz hbw hB0
 go_enter Tryz.func183,Tryz.ntmps183
 go_wp2_with fail
 refine HC.out.mono ?_
 intro e w9 h9
 rcases h9.two with ⟨rfl,own',v',h⟩|⟨rfl,own',pre,h1,h2⟩
 ·have hj:=h.j
  rw[List.nil_append,show (fun x:List Nat=>[]++x)=id from rfl,List.map_id] at hj
  have HJ:=Xa hj
  clear hj h h9
  go_wp2_with fail
  exact bodyPost_ret (results_none rfl _ _ _) rfl (.inl ⟨rfl,⟨_,rfl⟩,own',HJ.out⟩)
 ·have H2:=Xa h2
  clear h2 h9
  go_wp2_with fail
  exact bodyPost_ret (results_none rfl _ _ _) rfl (.inr (.inl ⟨⟨_,rfl⟩,own',pre,h1,H2.out⟩))
end Go.Proofs.YthojaplnimoacaaGreatDoor
namespace Go.Proofs.YthojaplnimoacaaGreatDoor
open Go.RowKit Go.Han
set_option maxRecDepth 100000
theorem Xjm {g:Gram} (hg:Yu g) {c:Int} (h0:0≤c) (h1:c<g.cats.xs.length):Vw g c<g.cats.xs.length:=by
 obtain⟨n,rfl⟩:∃n:Nat,c=(n:Int):=⟨c.toNat,by omega⟩
 have hn:n<g.cats.xs.length:=by omega
 unfold Vw
 rw[Int.toNat_natCast,List.getElem?_eq_getElem hn]
 show Vb g.rules.xs g.cats.xs[n] _<_
 have h2:=Ty g.rules.xs g.cats.xs[n] g.cats.xs.length
 rcases Nat.lt_or_ge (Vb g.rules.xs g.cats.xs[n] g.cats.xs.length) g.cats.xs.length with h|h
 ·exact h
 ·exfalso
  have h3:=Tb g.rules.xs g.cats.xs[n] g.cats.xs.length
  rw[show Vb g.rules.xs g.cats.xs[n] g.cats.xs.length=g.cats.xs.length by omega] at h3
  have h4:=hg.circ g.cats.xs[n] (List.getElem_mem hn)
  rw[h3] at h4;cases h4
theorem Xou {g:Gram} (hg:Yu g) (items:List ItemG) (A:Int→Nat→Nat→List Dv) (c:Int) (i k:Nat)
  (h:∀(d:Int) (u v:Nat),0≤d→d<g.cats.xs.length→i≤u→u<v→v≤k→(v-u<k-i∨(u=i∧v=k∧Vw g d<Vw g c))→A d u v=derG g items d u v) :
  Xq c i k 0 items++X4 (Xm items) A c i k 0 g.rules.xs=derG g items c i k:=by
 rw[Xec hg]
 congr 1
 refine Uu _ _ _ c i k 0 g.rules.xs fun r hr hc=>?_
 refine Uj _ _ _ _ i k fun p hp ht u v h1 h2 h3 h4=>?_
 have hn:=hg.part r hr p hp ht
 have hlt:=Xee p.cat g.cats.xs
 rw[← hn.1] at hlt
 refine h p.no u v hn.2 hlt h1 h2 h3 ?_
 have h5:=(hg.rule r hr).2.2.2.2.1
 by_cases hs:r.parts.xs.length=1
 ·obtain⟨q,hq⟩:=List.length_eq_one_iff.1 hs
  have hpq:p=q:=by rw[hq] at hp;exact List.mem_singleton.1 hp
  subst hpq
  have:=Xfm hg hr hq ht
  rw[hc] at this
  rcases Nat.lt_or_ge (v-u) (k-i) with h'|h'
  ·exact .inl h'
  ·exact .inr ⟨by omega,by omega,this⟩
 ·exact .inl (by omega)
structure TabInv (g:Gram) (items:List ItemG) (n:Nat) (A:Int→Nat→Nat→List Dv) (long frm turn cat:Nat):Prop where
 less:∀(d:Int) (u v:Nat),0≤d→d<g.cats.xs.length→u<v→v≤n→(v-u<long∨(v-u=long∧u<frm))→A d u v=derG g items d u v
 here:∀(d:Int),0≤d→d<g.cats.xs.length→frm+long≤n→(Vw g d<turn∨(d<cat∧Vw g d≤turn))→A d frm (frm+long)=derG g items d frm (frm+long)
def putA (A:Int→Nat→Nat→List Dv) (c:Int) (i k:Nat) (l:List Dv):Int→Nat→Nat→List Dv:=fun d u v=>if d=c∧u=i∧v=k then l else A d u v
theorem TabInv.start {g:Gram} {items:List ItemG} {n:Nat} {A:Int→Nat→Nat→List Dv}:TabInv g items n A 1 0 0 0:=by
 refine⟨fun d u v _ _ h1 h2 h3=>?_,fun d h0 _ _ h=>?_⟩
 ·rcases h3 with h|⟨_,h⟩<;>omega
 ·rcases h with h|⟨h,_⟩<;>omega
theorem TabInv.cat {g:Gram} (hg:Yu g) {items:List ItemG} {n:Nat} {A:Int→Nat→Nat→List Dv} {long frm turn cat:Nat} (h:TabInv g items n A long frm turn cat) (_hl:0<long) (hn:frm+long≤n) (_hc:cat<g.cats.xs.length) :
  TabInv g items n (putA A cat frm (frm+long) (Xq cat frm (frm+long:Nat) 0 items++X4 (Xm items) A cat frm (frm+long) 0 g.rules.xs)) long frm turn (cat+1):=by
 refine⟨fun d u v h0 h1 h2 h3 h4=>?_,fun d h0 h1 h2 h3=>?_⟩
 ·unfold putA
  rw[if_neg (by rintro⟨_,rfl,rfl⟩;rcases h4 with h4|h4<;>omega)]
  exact h.less d u v h0 h1 h2 h3 h4
 ·unfold putA
  have key:Vw g d≤turn→d=(cat:Int)→Xq (cat:Int) frm (frm+long:Nat) 0 items++X4 (Xm items) A cat frm (frm+long) 0 g.rules.xs=derG g items d frm (frm+long):=by
   rintro hr rfl
   refine Xou hg items A cat frm (frm+long) fun d' u v h0' h1' a b c' e=>?_
   rcases e with e|⟨rfl,rfl,e⟩
   ·exact h.less d' u v h0' h1' b (by omega) (by omega)
   ·exact h.here d' h0' h1' h2 (.inl (by omega))
  by_cases e:d=(cat:Int)
  ·rw[if_pos ⟨e,rfl,rfl⟩]
   rcases h3 with h3|h3
   ·exact key (by omega) e
   ·exact key h3.2 e
  ·rw[if_neg (fun hh=>e hh.1)]
   refine h.here d h0 h1 h2 ?_
   rcases h3 with h3|⟨h3,h4⟩
   ·exact .inl h3
   ·exact .inr ⟨by omega,h4⟩
theorem TabInv.turn {g:Gram} {items:List ItemG} {n:Nat} {A:Int→Nat→Nat→List Dv} {long frm turn:Nat} (h:TabInv g items n A long frm turn g.cats.xs.length):TabInv g items n A long frm (turn+1) 0 :=
 ⟨h.less,fun d h0 h1 h2 h3=>h.here d h0 h1 h2 (by rcases h3 with h3|⟨h3,_⟩;exact .inr ⟨h1,by omega⟩;omega)⟩
theorem TabInv.frm {g:Gram} (hg:Yu g) {items:List ItemG} {n:Nat} {A:Int→Nat→Nat→List Dv} {long frm:Nat} (h:TabInv g items n A long frm g.cats.xs.length 0):TabInv g items n A long (frm+1) 0 0:=by
 refine⟨fun d u v h0 h1 h2 h3 h4=>?_,fun d h0 _ _ h=>?_⟩
 ·by_cases e:v-u=long∧u=frm
  ·obtain⟨e1,rfl⟩:=e
   obtain rfl:v=u+long:=by omega
   exact h.here d h0 h1 h3 (.inl (Xjm hg h0 h1))
  ·exact h.less d u v h0 h1 h2 h3 (by omega)
 ·rcases h with h|⟨h,_⟩<;>omega
theorem TabInv.long {g:Gram} {items:List ItemG} {n:Nat} {A:Int→Nat→Nat→List Dv} {long frm:Nat} (h:TabInv g items n A long frm 0 0) (hf:n<frm+long):TabInv g items n A (long+1) 0 0 0:=by
 refine⟨fun d u v h0 h1 h2 h3 h4=>h.less d u v h0 h1 h2 h3 (by omega),fun d h0 _ _ h=>?_⟩
 rcases h with h|⟨h,_⟩<;>omega
theorem Xqq {A:Int→Nat→Nat→List Dv} {j:Nat} {r:RuleG} {i k:Nat} {es:List Nat} {C:Int} {kids:List TreeV} {e:Nat} (h:(Yr A r.parts.xs i es).length=e∧Xv (Yr A r.parts.xs i es)=some (C,kids)) :
  Fd.of bigN (Tk A j r i k es)=⟨capN bigN e,some (r.cost+C,.node j (-1) i k kids)⟩:=by
 unfold Fd.of Tk
 rw[List.length_map,Qa (fun x:Dk=>((r.cost+x.1,.node j (-1) i k x.2):Dv)) r.cost (fun _=>rfl),h.1,h.2]
 rfl
theorem Xln {A:Int→Nat→Nat→List Dv} {j:Nat} {r:RuleG} {i k:Nat} {es:List Nat} (h:Yr A r.parts.xs i es=[]):Tk A j r i k es=[]:=by
 unfold Tk;rw[h];rfl
theorem Xlp {st:Int→ByteArray→Bool} {A:Int→Nat→Nat→List Dv} {c:Int} {i k:Nat} {rs:List RuleG} {j:Nat} (hj:j<rs.length) (hn:rs[j].no=c) (L:List Dv) :
  Fd.of bigN (L++X4 st A c i k 0 (rs.take j)++(X9 st rs[j].parts.xs i k).flatMap (Tk A j rs[j] i k))=Fd.of bigN (L++X4 st A c i k 0 (rs.take (j+1))):=by
 have htk:rs.take (j+1)=rs.take j++[rs[j]]:=List.take_succ_eq_append_getElem hj
 have hl:(rs.take j).length=j:=by rw[List.length_take];omega
 rw[htk,Xad,if_pos hn,hl,Nat.zero_add,← List.append_assoc]
 exact((SameM.refl _).append (Xlm st A j rs[j] i k)).of
theorem Xlo {st:Int→ByteArray→Bool} {A:Int→Nat→Nat→List Dv} {c:Int} {i k:Nat} {rs:List RuleG} {j:Nat} (hj:j<rs.length) (hn:rs[j].no≠c):X4 st A c i k 0 (rs.take (j+1))=X4 st A c i k 0 (rs.take j):=by
 have htk:rs.take (j+1)=rs.take j++[rs[j]]:=List.take_succ_eq_append_getElem hj
 rw[htk,Xad,if_neg hn,List.append_nil]
theorem Xps {g:Gram} (hg:Yu g) {items:List ItemG} {n m:Nat} (hi:Zr n m items) {c:Int} {i k:Nat} {x:Dv} (h:x∈derG g items c i k) (hik:i<k) (hk:k≤16):0≤x.1∧x.1≤1000000:=by
 have h1:=Xe2 hg hi _ _ _ _ _ h
 have h2:=Xaq hg _ _ _ _ _ h hik
 have h3:=Xjl g c
 have h4:=hg.few
 have h5:(2*(k-i)-2)*g.cats.xs.length≤30*32:=Nat.mul_le_mul (by omega) h4
 omega
end Go.Proofs.YthojaplnimoacaaGreatDoor
/- A loop that holds a range over a function; a function's end behind several of them. Plain theorems about the machine's steps. Conditions: none. -/
namespace Go.Han
open Go.RowKit
section
variable {P:Program} {f:FuncId} {Q:Exit→Act→World→Prop} {a:Act} {w:World}
theorem Xoz {c:Code} (I:Act→World→Prop) (mu:Act→World→Nat) (h0:I a w) (hs:∀a w,I a w→wpAt P f c (Exit.then (fun a' w'=>I a' w'∧mu a' w'<mu a w) Q) a w):wpAt P f (Code.loop c) Q a w:=by
 intro b k cs hro hb
 have key:∀(n:Nat) (a:Act) (w:World),I a w→mu a w<n→∃e a' w',Q e a' w'∧ArrivesIn (Machine.fenced P Fence.wide) P (lone (b.atR a (.code c :: .inLoop c :: k)) cs w) b k cs e a' w':=by
  intro n
  induction n with
  | zero=>intro a w _ h;omega
  | succ n ih =>
   intro a w hI hn
   obtain⟨e,a1,w1,hq,harr⟩:=hs a w hI b (.inLoop c :: k) cs hro hb
   cases e with
   | normal =>
    obtain⟨hI1,hlt⟩:=hq
    obtain⟨e2,a2,w2,hq2,harr2⟩:=ih a1 w1 hI1 (by omega)
    exact⟨e2,a2,w2,hq2,.of_steps (StepsIn.trans harr (.one (Yc _ _ _ _) stepR_inLoop)) harr2⟩
   | exit id=>exact⟨_,a1,w1,hq,.pass (x:=.inLoop c) rfl (fun _ _ => .inl (by simp)) harr⟩
   | goto l=>exact⟨_,a1,w1,hq,.pass (x:=.inLoop c) rfl (fun _ _ => .inl (by simp)) harr⟩
   | ret=>exact⟨_,a1,w1,hq,.pass (x:=.inLoop c) rfl (fun _ _ => .inl (by simp)) harr⟩
   | panic ch=>exact⟨_,a1,w1,hq,.pass (x:=.inLoop c) rfl (fun _ _ => .inl (by simp)) harr⟩
   | outgrown=>exact⟨_,a1,w1,hq,.pass (x:=.inLoop c) rfl (fun _ _ => .inl (by simp)) harr⟩
 obtain⟨e,a',w',hq,harr⟩:=key _ a w h0 (Nat.lt_succ_self _)
 exact⟨e,a',w',hq,.of_steps (.one (Yc P _ _ _) stepR_loop) harr⟩
end
def colD (D:Nat):Deferred:={target:=.collected D,args:=#[]}
theorem Xce {P:Program} {fn:Func} {tmps:Array Value} {R:Ending→World→Prop} (hn:fn.results=#[]):∀(Ds:List Nat) (W:World),(∀D∈Ds,W.heap[D]? = some (.deferred (some [])))→Ds.Nodup →
  (∀W',W'.os=W.os→W'.tape=W.tape→W'.output=W.output→W'.heap.size=W.heap.size→(∀k,k∉Ds→W'.heap[k]? = W.heap[k]?)→R (.returned (.tuple #[])) W')→LeavesInM Fence.wide 0 P fn tmps R (Ds.map colD) .returning W
 | [],W,_,_,hR=>Xgb (results_none hn _ _ _) (hR W rfl rfl rfl rfl fun _ _=>rfl)
 | D :: Ds,W,hd,hnd,hR=>by
  have hD:=hd D (List.mem_cons_self ..)
  have hn1:=(List.nodup_cons.1 hnd).1
  refine⟨by simp,.inl ⟨_,_,rfl,run_takeDeferred hD,Xce hn Ds _ (fun E hE=>?_) (List.nodup_cons.1 hnd).2 fun W' h1 h2 h3 h4 h5=>hR W' (h1.trans rfl) (h2.trans rfl) (h3.trans rfl) (h4.trans (by simp)) fun k hk=>?_⟩⟩
  ·exact(World.putObj_heap_other (by rintro rfl;exact hn1 hE)).trans (hd E (List.mem_cons_of_mem _ hE))
  ·exact(h5 k (fun h=>hk (List.mem_cons_of_mem _ h))).trans (World.putObj_heap_other (by rintro rfl;exact hk (List.mem_cons_self ..)))
end Go.Han
namespace Go.Proofs.YthojaplnimoacaaGreatDoor
open Go.RowKit Go.Han
attribute [local irreducible] wpStill wpQuiet
set_option maxRecDepth 100000
def Qw (X:Nat→Prop) (g:Gram) (items:List ItemG) (N kb:Nat) (f0:X8→Option FoundG) (c:Int) (i k m:Nat) (W:World) (e:Ending) (W':World):Prop :=
 ∃fd f',e = .returned (.agg #[.bool fd.ok,.int .i64 fd.cost,.int .i64 fd.rule,.int .i64 fd.item,.int .i64 fd.frm,.int .i64 fd.unt,.slice fd.kids.addr fd.kids.len fd.kids.cap,.int .i64 fd.many])∧FoundOk X W' fd (Fd.of bigN (derG g items c i k))∧KnownF X g items N kb f' W'∧Grew g m f0 f'∧Only (fun j=>j=kb) W W'
def Xl8 (e0:World) (cb kb wb top:Nat) (g:Gram) (its:SlS ItemG) (N:Nat) (c:Int) (i k:Nat):Prop :=
 ∀(X:Nat→Prop) (f0:X8→Option FoundG) (W:World),(∀b,X b→b<W.heap.size)→ChEnv e0 cb kb wb top g its N W→KnownF X g its.xs N kb f0 W →
  Calls Tryz.prog 54 #[.pointer (some ⟨cb,0,none⟩),.agg #[.int .i64 c,.int .i64 (i:Int),.int .i64 (k:Int)]] W (Qw X g its.xs N kb f0 c i k (muG g c i k+1) W)
theorem Xge (bi bx bk:Nat) (j i k c:Int) (v:Value) (A:Option Addr) (n cp:Nat) (w:World) (hi:w.heap[bi]? = some (.cells #[.int .i64 j] 3 (0,0))) (hx:w.heap[bx]? = some (.cells #[.int .i64 c,.int .i64 i,.int .i64 k] 91 (0,0))) (hk:w.heap[bk]? = some (.cells #[v] 30 (0,0))) (hv:v = .slice A n cp) :
  Calls Tryz.prog 150 #[.pointer (some ⟨bi,0,none⟩),.pointer (some ⟨bx,0,none⟩),.pointer (some ⟨bk,0,none⟩)] w fun e w'=>e = .returned (.agg #[.int .i64 j,.int .i64 (-1),.int .i64 i,.int .i64 k,.slice A n cp])∧Below w.heap.size w w':=by
 subst hv
 have a0:=Xj hi
 have k0:=Xj hk
 have b0:=gblk hx 0
 have b1:=gblk hx 1
 have b2:=gblk hx 2
 have hli:=Xc hi
 have hlx:=Xc hx
 have hlk:=Xc hk
 have hni:bi≠w.heap.size:=by omega
 have hnx:bx≠w.heap.size:=by omega
 have hnk:bk≠w.heap.size:=by omega
 have hB:Below w.heap.size w (w.alloc (.cells #[.int .i64 j,.int .i64 (-1),.int .i64 i,.int .i64 k,.slice A n cp] 32)):=Xe (Below.refl _ _) _
 clear hi hx hk
 go_enter Tryz.func150,Tryz.ntmps150
 go_wp2_with fail
 exact bodyPost_ret (v:=.agg #[.int .i64 j,.int .i64 (-1),.int .i64 i,.int .i64 k,.slice A n cp]) (by simp[results,Tryz.results150,go_sem]) rfl ⟨rfl,hB⟩
theorem Xkt {X:Nat→Prop} {W:World} {fd:FoundG} {g:Gram} {items:List ItemG} {c:Int} {i k:Nat} (h:FoundOk X W fd (Fd.of bigN (derG g items c i k))) :
  (Xv (derG g items c i k)=none∧fd.ok=false)∨∃cc t,Xv (derG g items c i k)=some (cc,t)∧fd.ok=true∧fd.cost=cc∧TreeW X W t fd.tree∧fd.many=(capN bigN (derG g items c i k).length:Nat):=by
 have hb:=h.best
 have hm:=h.many
 change match Xv (derG g items c i k) with|none=>_|some (c,t)=>_ at hb
 cases hf:Xv (derG g items c i k) with
 | none=>rw[hf] at hb;exact .inl ⟨rfl,hb.1⟩
 | some y =>
  obtain⟨cc,t⟩:=y
  rw[hf] at hb
  exact .inr ⟨cc,t,rfl,hb.1,hb.2.1,hb.2.2,hm⟩
theorem Xon (e n:Nat):Zj bigN (capN bigN e) (capN bigN n)=capN bigN (e*n):=Xkd bigN e n
section
variable {e0:World} {cb kb wb top fb:Nat} {g:Gram} {its:SlS ItemG} {N:Nat} {X:Nat→Prop} {f0:X8→Option FoundG} {c:Int} {i k:Nat}
structure RuSt (e0:World) (cb kb wb top fb:Nat) (g:Gram) (its:SlS ItemG) (N:Nat) (X:Nat→Prop) (f0:X8→Option FoundG) (c:Int) (i k:Nat) (W1:World) (l:List Dv) (W:World):Prop where
 env:ChEnv e0 cb kb wb top g its N W
 found:∃fd f',W.heap[fb]? = some (.cells #[.bool fd.ok,.int .i64 fd.cost,.int .i64 fd.rule,.int .i64 fd.item,.int .i64 fd.frm,.int .i64 fd.unt,.slice fd.kids.addr fd.kids.len fd.kids.cap,.int .i64 fd.many] 86 (0,0))∧FoundOk X W fd (Fd.of bigN l)∧KnownF X g its.xs N kb f' W∧Grew g (muG g c i k) f0 f'
 only:Only (fun j=>j=kb∨j=fb) W1 W
def XR (X:Nat→Prop) (M B0:Nat) (own:Nat→Prop) (b:Nat):Prop:=X b∨b=M∨(B0≤b∧¬own b)
structure WaSt (e0:World) (cb kb wb top fb:Nat) (g:Gram) (its:SlS ItemG) (N:Nat) (X:Nat→Prop) (f0:X8→Option FoundG) (c:Int) (i k:Nat) (W0:World) (M:Nat) (L:List Dv) (r:Nat→List Nat→List Dv) (j:Nat) (own:Nat→Prop) (ys:List (List Nat)) (W:World):Prop where
 os:W.os=W0.os
 tape:W.tape=W0.tape
 output:W.output=W0.output
 size:W0.heap.size≤W.heap.size
 keep:∀b,b<W0.heap.size→b≠kb→b≠fb→b≠M→W.heap[b]? = W0.heap[b]?
 okb:own kb
 ofb:own fb
 found:∃fd f',W.heap[fb]? = some (.cells #[.bool fd.ok,.int .i64 fd.cost,.int .i64 fd.rule,.int .i64 fd.item,.int .i64 fd.frm,.int .i64 fd.unt,.slice fd.kids.addr fd.kids.len fd.kids.cap,.int .i64 fd.many] 86 (0,0))∧FoundOk (XR X M W0.heap.size own) W fd (Fd.of bigN (L++ys.flatMap (r j)))∧KnownF (XR X M W0.heap.size own) g its.xs N kb f' W∧Grew g (muG g c i k) f0 f'
theorem WaSt.stable {W0:World} {M:Nat} {L:List Dv} {r:Nat→List Nat→List Dv} {j:Nat} (hkb:kb<W0.heap.size):Zn W0.heap.size (fun b=>b=M) (WaSt e0 cb kb wb top fb g its N X f0 c i k W0 M L r j):=by
 intro own ys W W' h st
 have hz:=h.size
 have hkeep:∀b,KidP W b→¬XR X M W0.heap.size own b→W'.heap[b]? = W.heap[b]? := fun b ⟨cs,fr,hb⟩ hx=>by
  refine st.block b (Xc hb) ?_
  by_cases ho:own b
  ·exact .inr ho
  ·refine .inl ⟨?_,fun hm=>hx (.inr (.inl hm))⟩
   rcases Nat.lt_or_ge b W0.heap.size with h1|h1
   ·exact h1
   ·exact absurd (.inr (.inr ⟨h1,ho⟩)) hx
 have ht:∀t x,TreeW (XR X M W0.heap.size own) W t x→TreeW (XR X M W0.heap.size own) W' t x:=fun t x ht=>ht.keep hkeep st.size fun _ _ h=>h
 obtain⟨fd,f',h1,h2,h3,h4⟩:=h.found
 exact⟨st.os.trans h.os,st.tape.trans h.tape,st.output.trans h.output,Nat.le_trans hz st.size,fun b hb h1 h2 h3=>(st.block b (Nat.lt_of_lt_of_le hb hz) (.inl ⟨hb,h3⟩)).trans (h.keep b hb h1 h2 h3),h.okb,h.ofb,
  fd,f',(st.block fb (Xc h1) (.inr h.ofb)).trans h1,h2.keep ht,h3.keep (st.block kb (by omega) (.inr h.okb)) ht,h4⟩
end
theorem Xrf {es:List Nat} {Ad:Option Addr} {n cp:Nat} {V:World} (h:EncW es #[.slice Ad n cp] V) (h0:0<es.length) :
  n=es.length∧∃b off,Ad=some ⟨b,off,none⟩∧(∃cs fr,V.heap[b]? = some (.cells cs 3 fr))∧∀W:World,W.heap[b]? = V.heap[b]? → ∀(q:Nat) (hq:q<es.length),W.cell? ⟨b,off+q,none⟩=some (.int .i64 (es[q]:Nat)):=by
 obtain⟨A',cp',e,hr,hc,hb⟩:=h
 obtain⟨rfl,rfl,rfl⟩:Ad=A'∧n=es.length∧cp=cp':=by simpa using e
 refine⟨rfl,?_⟩
 rcases hr with hn|⟨b,off,h1,h2,h3⟩
 ·have:=Xfc (es.map fun m:Nat=>(m:Int))
  rw[hn] at this
  simp at this
  omega
 ·refine⟨b,off,h1,hb b off h1 h0,fun W hW q hq=>?_⟩
  refine(World.cell?_of_block (w:=V) hW).trans (h3 q _ ?_)
  have hl:∀(l:List Int) (q:Nat) (hq:q<l.length),(l.flatMap intC)[q]? = some (.int .i64 l[q]):=by
   intro l
   induction l with
   | nil=>intro q hq;simp at hq
   | cons x l ih =>
    intro q hq
    cases q with
    | zero=>rfl
    | succ q =>
     have:=ih q (by simpa using hq)
     simpa[intC] using this
  have:=hl (es.map fun m:Nat=>(m:Int)) q (by simpa using hq)
  simpa using this
theorem Xl6:((Tryz.prog.info? 32).bind (fun i=>i.zero)).map (fun z=>z.cells.size)=some 5:=by kernel_rfl
theorem Xfl:∃i z,Tryz.prog.info? 32=some i∧i.zero=some z∧i.size=5∧i.bytes=56∧z.cells.size=5:=by
 have h1:=Xk0
 have h2:=Xl6
 cases h:Tryz.prog.info? 32 with
 | none=>rw[h] at h1;cases h1
 | some i =>
  rw[h] at h1 h2
  cases hz:i.zero with
  | none=>simp[hz] at h2
  | some z =>
   simp[hz] at h1 h2
   exact⟨i,z,rfl,hz,h1.1,h1.2,h2⟩
section
variable {e0:World} {cb kb wb top fb:Nat} {g:Gram} {its:SlS ItemG} {N:Nat} {X:Nat→Prop} {f0:X8→Option FoundG} {c:Int} {i k:Nat}
def XO (X:Nat→Prop) (M B0 B:Nat) (own:Nat→Prop) (b:Nat):Prop:=X b∨b=M∨(B0≤b∧b<B∧¬own b)
theorem WaSt.done {W0:World} {M:Nat} {L:List Dv} {r:Nat→List Nat→List Dv} {j:Nat} {own:Nat→Prop} {pre:List (List Nat)} {es:List Nat} {V W':World} {fd:FoundG} {f':X8→Option FoundG}
  (h:WaSt e0 cb kb wb top fb g its N X f0 c i k W0 M L r j own pre V) (hlive:∀b,own b→b<V.heap.size) (hO:Only (fun b=>b=kb∨b=fb) V W')
  (h1:W'.heap[fb]? = some (.cells #[.bool fd.ok,.int .i64 fd.cost,.int .i64 fd.rule,.int .i64 fd.item,.int .i64 fd.frm,.int .i64 fd.unt,.slice fd.kids.addr fd.kids.len fd.kids.cap,.int .i64 fd.many] 86 (0,0))) (h2:FoundOk (XO X M W0.heap.size V.heap.size own) W' fd (Fd.of bigN (L++(pre++[es]).flatMap (r j)))) (h3:KnownF (XO X M W0.heap.size V.heap.size own) g its.xs N kb f' W') (h4:Grew g (muG g c i k) f0 f') :
  ∃own',BodyStep own own' V W'∧WaSt e0 cb kb wb top fb g its N X f0 c i k W0 M L r j own' (pre++[es]) W':=by
 have hz:=h.size
 have hzz:=hO.size
 have ht:∀t x,TreeW (XO X M W0.heap.size V.heap.size own) W' t x→TreeW (XR X M W0.heap.size (fun b=>own b∨(V.heap.size≤b∧b<W'.heap.size))) W' t x:=fun t x ht=>ht.keep (fun _ _ _=>rfl) (Nat.le_refl _) fun b ⟨cs,fr,hb⟩ hn hx=>by
  have hlt:=Xc hb
  rcases hx with hx|hx|⟨hx,hx2⟩
  ·exact hn (.inl hx)
  ·exact hn (.inr (.inl hx))
  ·refine hn (.inr (.inr ⟨hx,?_,fun ho=>hx2 (.inl ho)⟩))
   rcases Nat.lt_or_ge b V.heap.size with h5|h5
   ·exact h5
   ·exact absurd (.inr ⟨h5,hlt⟩) hx2
 refine⟨fun b=>own b∨(V.heap.size≤b∧b<W'.heap.size),⟨hO.os,hO.tape,hO.output,hzz,fun b hb hn=>hO.block b hb fun hm=>hn ?_,fun b hb=>hb.imp id fun h=>h.1,fun b hb=>?_⟩,⟨hO.os.trans h.os,hO.tape.trans h.tape,hO.output.trans h.output,Nat.le_trans hz hzz,fun b hb e1 e2 e3=>(hO.block b (by omega) fun hm=>by rcases hm with hm|hm;exact e1 hm;exact e2 hm).trans (h.keep b hb e1 e2 e3),.inl h.okb,.inl h.ofb,fd,f',h1,h2.keep ht,h3.keep rfl ht,h4⟩⟩
 ·rcases hm with rfl|rfl
  ·exact h.okb
  ·exact h.ofb
 ·rcases hb with hb|hb
  ·have:=hlive b hb;omega
  ·exact hb.2
structure PaSt (g:Gram) (its:SlS ItemG) (N kb:Nat) (X1:Nat→Prop) (f0:X8→Option FoundG) (mu i k:Nat) (V:World) (bk:Nat) (ps:List PartG) (es:List Nat) (fd:FoundG) (L:List Dv) (p at_ q:Nat) (C:Int) (kids:List TreeV) (ks:List TreeG) (e:Nat) (vk:Value) (f':X8→Option FoundG) (W:World):Prop where
 mid:MidE (derG g its.xs) ps i es p at_ q C kids e
 way:WayE (ps.drop p) at_ k (es.drop q)
 lo:i≤at_∧p≤at_-i∧q≤p
 cost:0≤C∧C≤(q:Int)*1000000
 klen:ks.length≤q
 box:W.heap[bk]? = some (.cells #[vk] 30 (0,0))
 kids:KidsW X1 V.heap.size vk kids ks W
 known:KnownF (fun b=>X1 b∨vk.ownBlock=some b) g its.xs N kb f' W
 grew:Grew g mu f0 f'
 found:FoundOk (fun b=>X1 b∨vk.ownBlock=some b) W fd (Fd.of bigN L)
 only:Only (fun b=>b=kb) V W
theorem KidsW.below {X:Nat→Prop} {base:Nat} {v:Value} {kids:List TreeV} {ks:List TreeG} {W W':World} (h:KidsW X base v kids ks W) (hb:Below W.heap.size W W'):KidsW X base v kids ks W' :=
 h.keep hb.size fun b hx=>hb.block b (by rcases hx with hx|⟨⟨_,_,hx⟩,_⟩;exact(h.own.lt b hx).2;exact Xc hx)
theorem PaSt.ext {X1:Nat→Prop} {mu:Nat} {V:World} {bk:Nat} {ps:List PartG} {es:List Nat} {fd:FoundG} {L:List Dv} {p at_ q:Nat} {C:Int} {kids:List TreeV} {ks:List TreeG} {e:Nat} {vk:Value} {f':X8→Option FoundG} {W W':World} (h:PaSt g its N kb X1 f0 mu i k V bk ps es fd L p at_ q C kids ks e vk f' W) (hb:Below W.heap.size W W'):PaSt g its N kb X1 f0 mu i k V bk ps es fd L p at_ q C kids ks e vk f' W' :=
 ⟨h.mid,h.way,h.lo,h.cost,h.klen,(hb.block _ (Xc h.box)).trans h.box,h.kids.below hb,h.known.ext hb,h.grew,h.found.keep fun _ _ ht=>ht.ext hb,h.only.ext hb⟩
theorem PaSt.find {X1:Nat→Prop} {mu m:Nat} {V:World} {bk:Nat} {ps:List PartG} {es:List Nat} {fd:FoundG} {L:List Dv} {p at_ q:Nat} {C:Int} {kids:List TreeV} {ks:List TreeG} {e:Nat} {vk:Value} {f' f'':X8→Option FoundG} {W W':World} (h:PaSt g its N kb X1 f0 mu i k V bk ps es fd L p at_ q C kids ks e vk f' W)
  (hO:Only (fun b=>b=kb) W W') (hk:KnownF (fun b=>X1 b∨vk.ownBlock=some b) g its.xs N kb f'' W') (hg:Grew g m f' f'') (hm:m≤mu):PaSt g its N kb X1 f0 mu i k V bk ps es fd L p at_ q C kids ks e vk f'' W':=by
 obtain⟨es',c',hkm⟩:=h.known.kmap
 have hn:∀ {b:Nat} {cs:Array Value} {t:TypeId} {fr:Nat×Nat},W.heap[b]? = some (.cells cs t fr)→b≠kb:=by
  rintro b cs t fr hb rfl
  rw[hkm] at hb;cases hb
 have hkeep:∀b,KidP W b→W'.heap[b]? = W.heap[b]? := fun b ⟨cs,fr,hb⟩=>hO.block b (Xc hb) (hn hb)
 exact⟨h.mid,h.way,h.lo,h.cost,h.klen,(hO.block _ (Xc h.box) (hn h.box)).trans h.box,h.kids.keep hO.size fun b hx=>hkeep b (by rcases hx with hx|hx;exact h.kids.own.kid hx;exact hx.1),hk,h.grew.trans (hg.mono hm),h.found.keep fun _ _ ht=>ht.keep (fun b hb _=>hkeep b hb) hO.size fun _ _ h=>h,h.only.trans hO⟩
theorem Xl0 {X1:Nat→Prop} {v v':Value} {W W1:World} (hg:W.grownBy W1 v.ownBlock) (hv:v'.ownBlock=v.ownBlock∨v'.ownBlock=some W.heap.size) {t:TreeV} {x:TreeG} (ht:TreeW (fun b=>X1 b∨v.ownBlock=some b) W t x):TreeW (fun b=>X1 b∨v'.ownBlock=some b) W1 t x :=
 ht.keep (fun b ⟨_,_,hb⟩ hn=>hg.block b (Xc hb) fun e=>hn (.inr e.symm)) hg.size fun b ⟨_,_,hb⟩ hn hx=>by
  rcases hx with hx|hx
  ·exact hn (.inl hx)
  ·rcases hv with e|e
   ·exact hn (.inr (e ▸ hx))
   ·rw[e] at hx
    cases hx
    have:=Xc hb
    omega
theorem Xqz {X1:Nat→Prop} {W:World} {bk:Nat} {v u:Value} (hb:W.heap[bk]? = some (.cells #[v] 30 (0,0))) {t:TreeV} {x:TreeG} (ht:TreeW X1 W t x):TreeW X1 (W.setCell ⟨bk,0,none⟩ u) t x :=
 ht.keep (fun b ⟨cs,fr,hk⟩ _=>Below.heap_setCell _ _ _ _ (by
  intro e
  have e:b=bk:=e
  rw[e,hb] at hk
  have:=Option.some.inj hk
  injection this with _ e2 _
  exact absurd e2 (by decide))) (by simp[World.setCell]) fun _ _ h=>h
theorem PaSt.text {X1:Nat→Prop} {mu:Nat} {V:World} {bk:Nat} {ps:List PartG} {es:List Nat} {fd:FoundG} {L:List Dv} {p at_ q:Nat} {C:Int} {kids:List TreeV} {ks:List TreeG} {e:Nat} {vk:Value} {f':X8→Option FoundG} {W:World} (h:PaSt g its N kb X1 f0 mu i k V bk ps es fd L p at_ q C kids ks e vk f' W) (hl:p<ps.length) (ht:ps[p].text.size≠0):PaSt g its N kb X1 f0 mu i k V bk ps es fd L (p+1) (at_+1) q C kids ks e vk f' W:=by
 refine⟨Xn3 h.mid hl ht,?_,⟨by have:=h.lo;omega,by have:=h.lo;omega,by have:=h.lo;omega⟩,h.cost,h.klen,h.box,h.kids,h.known,h.grew,h.found,h.only⟩
 have hw:=h.way
 rw[List.drop_eq_getElem_cons hl] at hw
 unfold WayE at hw
 rw[if_pos ht] at hw
 exact hw.2
theorem PaSt.cat {X1:Nat→Prop} {mu:Nat} {V:World} {bk:Nat} {ps:List PartG} {es:List Nat} {fd:FoundG} {L:List Dv} {p at_ q:Nat} {C:Int} {kids:List TreeV} {ks:List TreeG} {e:Nat} {vk vk':Value} {f':X8→Option FoundG} {W W1:World} (h:PaSt g its N kb X1 f0 mu i k V bk ps es fd L p at_ q C kids ks e vk f' W) (hbk:V.heap.size≤bk) (hl:p<ps.length) (ht:¬ps[p].text.size≠0) (hq:q<es.length) {cc:Int} {t:TreeV} {x:TreeG}
  (hA:Xv (derG g its.xs ps[p].no at_ es[q])=some (cc,t)) (hcc:0≤cc∧cc≤1000000) (htw:TreeW (fun b=>X1 b∨vk.ownBlock=some b) W t x) (ho:OwnK W1 V.heap.size vk' (ks++[x])) (hg:W.grownBy W1 vk.ownBlock) (hv:vk'.ownBlock=vk.ownBlock∨vk'.ownBlock=some W.heap.size)
  (hway:at_<es[q]∧WayE (ps.drop (p+1)) es[q] k (es.drop (q+1))):PaSt g its N kb X1 f0 mu i k V bk ps es fd L (p+1) es[q] (q+1) (C+cc) (kids++[t]) (ks++[x]) (e*(derG g its.xs ps[p].no at_ es[q]).length) vk' f' (W1.setCell ⟨bk,0,none⟩ vk'):=by
 have hlo:=h.lo
 have hcost:=h.cost
 have hrow:∀b,vk.ownBlock=some b→V.heap.size≤b∧b<W.heap.size:=fun b hb=>h.kids.own.lt b hb
 have hne:∀b,vk.ownBlock=some b→b≠bk:=by
  rintro b hb rfl
  obtain⟨cs,fr,hk⟩:=h.kids.own.kid hb
  rw[h.box] at hk
  have:=Option.some.inj hk
  injection this with _ e2 _
  exact absurd e2 (by decide)
 have hb1:W1.heap[bk]? = some (.cells #[vk] 30 (0,0)):=(hg.block bk (Xc h.box) fun e=>hne bk e.symm rfl).trans h.box
 obtain⟨es',c',hkm⟩:=h.known.kmap
 have hk1:W1.heap[kb]? = W.heap[kb]? := hg.block kb (Xc hkm) fun e=>by
  obtain⟨cs,fr,hk⟩:=h.kids.own.kid e.symm
  rw[hkm] at hk;cases hk
 have hkb:kb≠bk:=by
  rintro rfl
  have hbx:=h.box
  rw[hkm] at hbx;cases hbx
 have htr:∀t x,TreeW (fun b=>X1 b∨vk.ownBlock=some b) W t x→TreeW (fun b=>X1 b∨vk'.ownBlock=some b) (W1.setCell ⟨bk,0,none⟩ vk') t x:=fun t x ht=>Xqz hb1 (Xl0 hg hv ht)
 have hks:=h.kids.snoc htw ho hg hv
 refine⟨Xqe h.mid hl (by omega) hq hA,hway.2,⟨by omega,by omega,by omega⟩,⟨by omega,by push_cast;omega⟩,by have:=h.klen;rw[List.length_append];simp;omega,Xr hb1 0 _,?_,h.known.keep ((Below.heap_setCell _ _ _ _ hkb).trans hk1) htr,h.grew,h.found.keep htr,?_⟩
 ·refine hks.keep (by simp[World.setCell]) fun b hx=>Below.heap_setCell _ _ _ _ ?_
  intro e
  have e:b=bk:=e
  have hkp:KidP W1 b:=by
   rcases hx with hx|hx
   ·exact ho.kid hx
   ·exact hx.1
  obtain⟨cs,fr,hk⟩:=hkp
  rw[e,hb1] at hk
  have:=Option.some.inj hk
  injection this with _ e2 _
  exact absurd e2 (by decide)
 ·have hO:=h.only
  exact⟨hg.os.trans hO.os,hg.tape.trans hO.tape,hg.output.trans hO.output,by have:=hO.size;have:=hg.size;simp[World.setCell];omega,fun b hb hn=>(Below.heap_setCell _ _ _ _ (by show b≠bk;omega)).trans ((hg.block b (by have:=hO.size;omega) fun e=>by have:=(hrow b e.symm).1;omega).trans (hO.block b hb hn))⟩
theorem PaSt.other {X1:Nat→Prop} {mu:Nat} {V:World} {bk bx:Nat} {ps:List PartG} {es:List Nat} {fd:FoundG} {L:List Dv} {p at_ q:Nat} {C:Int} {kids:List TreeV} {ks:List TreeG} {e:Nat} {vk:Value} {f':X8→Option FoundG} {W W':World} (h:PaSt g its N kb X1 f0 mu i k V bk ps es fd L p at_ q C kids ks e vk f' W)
  (hO:Only (fun b=>b=bx) W W') {cs:Array Value} {fr:Nat×Nat} (hx:W.heap[bx]? = some (.cells cs 86 fr)) (hv:V.heap.size≤bx):PaSt g its N kb X1 f0 mu i k V bk ps es fd L p at_ q C kids ks e vk f' W':=by
 obtain⟨es',c',hkm⟩:=h.known.kmap
 have hn:∀ {b:Nat} {o:Obj},W.heap[b]? = some o→(∀cs fr,o ≠ .cells cs 86 fr)→b≠bx:=by
  rintro b o hb ho rfl
  rw[hx] at hb
  exact ho _ _ (Option.some.inj hb).symm
 have hkeep:∀b,KidP W b→W'.heap[b]? = W.heap[b]? := fun b ⟨cs,fr,hb⟩=>hO.block b (Xc hb) (hn hb fun cs fr e=>by injection e with _ e2 _;exact absurd e2 (by decide))
 have ht:∀t x,TreeW (fun b=>X1 b∨vk.ownBlock=some b) W t x→TreeW (fun b=>X1 b∨vk.ownBlock=some b) W' t x:=fun t x ht=>ht.keep (fun b hb _=>hkeep b hb) hO.size fun _ _ h=>h
 have ho:=h.only
 exact⟨h.mid,h.way,h.lo,h.cost,h.klen,(hO.block _ (Xc h.box) (hn h.box fun cs fr e=>by injection e with _ e2 _;exact absurd e2 (by decide))).trans h.box,h.kids.keep hO.size fun b hx=>hkeep b (by rcases hx with hx|hx;exact h.kids.own.kid hx;exact hx.1),
  h.known.keep (hO.block _ (Xc hkm) (hn hkm fun cs fr e=>by cases e)) ht,h.grew,h.found.keep ht,⟨hO.os.trans ho.os,hO.tape.trans ho.tape,hO.output.trans ho.output,Nat.le_trans ho.size hO.size,fun b hb hne=>(hO.block b (by have:=ho.size;omega) (by show b≠bx;omega)).trans (ho.block b hb hne)⟩⟩
def set8 (V:World) (fb:Nat) (y:FoundG):World:=(((((((V.setCell ⟨fb,0,none⟩ (.bool y.ok)).setCell ⟨fb,1,none⟩ (.int .i64 y.cost)).setCell ⟨fb,2,none⟩ (.int .i64 y.rule)).setCell ⟨fb,3,none⟩ (.int .i64 y.item)).setCell ⟨fb,4,none⟩ (.int .i64 y.frm)).setCell ⟨fb,5,none⟩ (.int .i64 y.unt)).setCell ⟨fb,6,none⟩ (.slice y.kids.addr y.kids.len y.kids.cap)).setCell ⟨fb,7,none⟩ (.int .i64 y.many)
theorem Qn {V:World} {fb:Nat} {f:FoundG} (h:V.heap[fb]? = some (.cells #[.bool f.ok,.int .i64 f.cost,.int .i64 f.rule,.int .i64 f.item,.int .i64 f.frm,.int .i64 f.unt,.slice f.kids.addr f.kids.len f.kids.cap,.int .i64 f.many] 86 (0,0))) (y:FoundG):(set8 V fb y).heap[fb]? = some (.cells #[.bool y.ok,.int .i64 y.cost,.int .i64 y.rule,.int .i64 y.item,.int .i64 y.frm,.int .i64 y.unt,.slice y.kids.addr y.kids.len y.kids.cap,.int .i64 y.many] 86 (0,0)):=by
 have h1:(V.setCell ⟨fb,0,none⟩ (.bool y.ok)).heap[fb]? = some (.cells #[.bool y.ok,.int .i64 f.cost,.int .i64 f.rule,.int .i64 f.item,.int .i64 f.frm,.int .i64 f.unt,.slice f.kids.addr f.kids.len f.kids.cap,.int .i64 f.many] 86 (0,0)):=Xr h 0 _
 have h2:((V.setCell ⟨fb,0,none⟩ (.bool y.ok)).setCell ⟨fb,1,none⟩ (.int .i64 y.cost)).heap[fb]? = some (.cells #[.bool y.ok,.int .i64 y.cost,.int .i64 f.rule,.int .i64 f.item,.int .i64 f.frm,.int .i64 f.unt,.slice f.kids.addr f.kids.len f.kids.cap,.int .i64 f.many] 86 (0,0)):=Xr h1 1 _
 have h3:(((V.setCell ⟨fb,0,none⟩ (.bool y.ok)).setCell ⟨fb,1,none⟩ (.int .i64 y.cost)).setCell ⟨fb,2,none⟩ (.int .i64 y.rule)).heap[fb]? = some (.cells #[.bool y.ok,.int .i64 y.cost,.int .i64 y.rule,.int .i64 f.item,.int .i64 f.frm,.int .i64 f.unt,.slice f.kids.addr f.kids.len f.kids.cap,.int .i64 f.many] 86 (0,0)):=Xr h2 2 _
 have h4:((((V.setCell ⟨fb,0,none⟩ (.bool y.ok)).setCell ⟨fb,1,none⟩ (.int .i64 y.cost)).setCell ⟨fb,2,none⟩ (.int .i64 y.rule)).setCell ⟨fb,3,none⟩ (.int .i64 y.item)).heap[fb]? = some (.cells #[.bool y.ok,.int .i64 y.cost,.int .i64 y.rule,.int .i64 y.item,.int .i64 f.frm,.int .i64 f.unt,.slice f.kids.addr f.kids.len f.kids.cap,.int .i64 f.many] 86 (0,0)):=Xr h3 3 _
 have h5:(((((V.setCell ⟨fb,0,none⟩ (.bool y.ok)).setCell ⟨fb,1,none⟩ (.int .i64 y.cost)).setCell ⟨fb,2,none⟩ (.int .i64 y.rule)).setCell ⟨fb,3,none⟩ (.int .i64 y.item)).setCell ⟨fb,4,none⟩ (.int .i64 y.frm)).heap[fb]? = some (.cells #[.bool y.ok,.int .i64 y.cost,.int .i64 y.rule,.int .i64 y.item,.int .i64 y.frm,.int .i64 f.unt,.slice f.kids.addr f.kids.len f.kids.cap,.int .i64 f.many] 86 (0,0)):=Xr h4 4 _
 have h6:((((((V.setCell ⟨fb,0,none⟩ (.bool y.ok)).setCell ⟨fb,1,none⟩ (.int .i64 y.cost)).setCell ⟨fb,2,none⟩ (.int .i64 y.rule)).setCell ⟨fb,3,none⟩ (.int .i64 y.item)).setCell ⟨fb,4,none⟩ (.int .i64 y.frm)).setCell ⟨fb,5,none⟩ (.int .i64 y.unt)).heap[fb]? = some (.cells #[.bool y.ok,.int .i64 y.cost,.int .i64 y.rule,.int .i64 y.item,.int .i64 y.frm,.int .i64 y.unt,.slice f.kids.addr f.kids.len f.kids.cap,.int .i64 f.many] 86 (0,0)):=Xr h5 5 _
 have h7:(((((((V.setCell ⟨fb,0,none⟩ (.bool y.ok)).setCell ⟨fb,1,none⟩ (.int .i64 y.cost)).setCell ⟨fb,2,none⟩ (.int .i64 y.rule)).setCell ⟨fb,3,none⟩ (.int .i64 y.item)).setCell ⟨fb,4,none⟩ (.int .i64 y.frm)).setCell ⟨fb,5,none⟩ (.int .i64 y.unt)).setCell ⟨fb,6,none⟩ (.slice y.kids.addr y.kids.len y.kids.cap)).heap[fb]? = some (.cells #[.bool y.ok,.int .i64 y.cost,.int .i64 y.rule,.int .i64 y.item,.int .i64 y.frm,.int .i64 y.unt,.slice y.kids.addr y.kids.len y.kids.cap,.int .i64 f.many] 86 (0,0)):=Xr h6 6 _
 have h8:((((((((V.setCell ⟨fb,0,none⟩ (.bool y.ok)).setCell ⟨fb,1,none⟩ (.int .i64 y.cost)).setCell ⟨fb,2,none⟩ (.int .i64 y.rule)).setCell ⟨fb,3,none⟩ (.int .i64 y.item)).setCell ⟨fb,4,none⟩ (.int .i64 y.frm)).setCell ⟨fb,5,none⟩ (.int .i64 y.unt)).setCell ⟨fb,6,none⟩ (.slice y.kids.addr y.kids.len y.kids.cap)).setCell ⟨fb,7,none⟩ (.int .i64 y.many)).heap[fb]? = some (.cells #[.bool y.ok,.int .i64 y.cost,.int .i64 y.rule,.int .i64 y.item,.int .i64 y.frm,.int .i64 y.unt,.slice y.kids.addr y.kids.len y.kids.cap,.int .i64 y.many] 86 (0,0)):=Xr h7 7 _
 exact h8
theorem Ud (V:World) (fb:Nat) (y:FoundG):Only (fun b=>b=fb) V (set8 V fb y):=by
 unfold set8
 have st:∀(U:World) (n:Nat) (u:Value),Only (fun b=>b=fb) V U→Only (fun b=>b=fb) V (U.setCell ⟨fb,n,none⟩ u):=fun U n u h=>Only.setCell (M:=fun j=>j=fb) h (p:=⟨fb,n,none⟩) (.inl rfl) u
 exact st _ _ _ (st _ _ _ (st _ _ _ (st _ _ _ (st _ _ _ (st _ _ _ (st _ _ _ (st _ _ _ (Only.refl _ V))))))))
end
end Go.Proofs.YthojaplnimoacaaGreatDoor
