/- Texts of this claim, one after the other: Chwo, Chwk, Chwl, Chwn, R29e. -/
import Derived.Test.YtolpbjjapodmnaaGreatDoorM20
import Derived.Test.YtolpbjjapodmnaaGreatDoorM12
import Derived.Test.YtolpbjjapodmnaaGreatDoorM18
namespace Go.Proofs.YtolpbjjapodmnaaGreatDoor
open Go.RowKit Go.Han
attribute [local irreducible] wpStill wpQuiet
set_option maxRecDepth 100000
theorem Xbu:∀ {l:List TreeV} {t:TreeV},t∈l→X5 t≤Xp l
 | x :: l,t,h=>by
  unfold Xp
  rcases List.mem_cons.1 h with rfl|h
  ·omega
  ·have:=Xbu h;omega
set_option maxHeartbeats 8000000 in
theorem Xpt {g:Gram} {its:SlS ItemG} {N:Nat} (hg:Yu g) (hI:Zr N g.cats.xs.length its.xs) {e0:World} (hgl:g.lies e0) (cb kb wb top:Nat) (P:Nat→Prop) (rn:Nat) (hlt:rn<g.rules.xs.length) (xi xu:Int) (l:List TreeV) (xa:Option Addr) (xc:Nat) (css:List (List Value)) (c:Int) (w:World) (hE:ChEnv e0 cb kb wb top g its N w)
  (hno:g.rules.xs[rn].no=c) (hcap1:l.length≤xc) (hr:Rd w xa css.flatten) (hkids:KidsAt w P l css) (fi:I6 xi) (fu:I6 xu) (fl:Ve l) (hnod:1+Xp l≤1024)
  (ih:∀t∈l,∀(x:TreeG) (c:Int) (w:World),ChEnv e0 cb kb wb top g its N w→TreeAt w P t [.int .i64 x.rule,.int .i64 x.item,.int .i64 x.frm,.int .i64 x.unt,.slice x.kids.addr x.kids.len x.kids.cap]→Z6 t→X5 t≤1024→Calls Tryz.prog 69 #[.pointer (some ⟨cb,0,none⟩),.agg #[.int .i64 x.rule,.int .i64 x.item,.int .i64 x.frm,.int .i64 x.unt,.slice x.kids.addr x.kids.len x.kids.cap],.int .i64 c] w (T5 g its.xs t c w)) :
  Calls Tryz.prog 69 #[.pointer (some ⟨cb,0,none⟩),.agg #[.int .i64 (rn:Int),.int .i64 (-1),.int .i64 xi,.int .i64 xu,.slice xa l.length xc],.int .i64 c] w (T5 g its.xs (.node (rn:Int) (-1) xi xu l) c w):=by
 obtain⟨w1,hw1⟩:∃w1,w.alloc (.cells #[.int .i64 (rn:Int),.int .i64 (-1),.int .i64 xi,.int .i64 xu,.slice xa l.length xc] 37)=w1:=⟨_,rfl⟩
 have hB1:=Yn hw1
 have hz1:=Yv hw1
 obtain⟨y0,y1,y2,y3,y4⟩:=gb5 hz1
 have hE1:=hE.ext hB1
 have hch:=hE1.chart
 obtain⟨c0,c1,c2,c3,c4,c5,c6,c7,c8⟩:=gb9 hch
 have c9:=gblk hch 9
 have HE1:=Xa hE1
 have HB1:=Xa hB1
 have Hz1:=Xa hz1
 have hlz:=Xc hz1
 clear hz1 hB1 hch hE
 have k0:((rn:Int) == -1)=false:=by simp
 have q1:decide ((rn:Int)<0)=false:=decide_eq_false (by omega)
 have q3:decide ((g.rules.xs.length:Int)≤(rn:Int))=false:=decide_eq_false (by omega)
 have HR0:X6 g its.xs (.node (rn:Int) (-1) xi xu l) c=Z9 (Xm its.xs) g.rules.xs[rn].parts.xs (Yl g its.xs l) xi xu g.rules.xs[rn].cost:=by
  rw[X6,if_neg (by omega),if_neg (by omega),show ((rn:Int)).toNat=rn by omega,List.getElem?_eq_getElem hlt]
  exact if_pos hno
 have Hih:=Xa ih
 have Hr:=Xa hr
 have Hkids:=Xa hkids
 have Hfl:=Xa fl
 have Hnod:=Xa hnod
 clear ih hr hkids fl hnod
 obtain⟨bR,oR,hRa,hbR,hRc⟩:=hgl.rules.at_ RuleG.size_cells (by omega) hlt
 have d0:w1.cell? ⟨bR,oR+rn*5,none⟩=some (.string g.rules.xs[rn].cat):=hRc rn hlt w1 HE1.out.low 0 _ rfl
 have d1:w1.cell? ⟨bR,oR+rn*5+1,none⟩=some (.int .i64 g.rules.xs[rn].no):=hRc rn hlt w1 HE1.out.low 1 _ rfl
 have d2:w1.cell? ⟨bR,oR+rn*5+2,none⟩=some (.slice g.rules.xs[rn].parts.addr g.rules.xs[rn].parts.xs.length g.rules.xs[rn].parts.cap):=hRc rn hlt w1 HE1.out.low 2 _ rfl
 have d3:w1.cell? ⟨bR,oR+rn*5+3,none⟩=some (.slice g.rules.xs[rn].gives.addr g.rules.xs[rn].gives.xs.length g.rules.xs[rn].gives.cap):=hRc rn hlt w1 HE1.out.low 3 _ rfl
 have d4:w1.cell? ⟨bR,oR+rn*5+4,none⟩=some (.int .i64 g.rules.xs[rn].cost):=hRc rn hlt w1 HE1.out.low 4 _ rfl
 have hrl:=hgl.rule _ (List.getElem_mem hlt)
 have hgr:=hg.rule _ (List.getElem_mem hlt)
 have hbR1:bR<w1.heap.size:=Nat.lt_of_lt_of_le hbR HE1.out.low.size
 rw[hRa] at c5
 clear hRc
 generalize g.rules.xs[rn]=ru at *
 have Hgr:=Xa hgr
 clear hgr
 have k1:(ru.no != c)=false:=by simpa using hno
 have k1b:(ru.no == c)=true:=by simpa using hno
 have HR1:=HR0
 have hcap0:l.length≤xc:=hcap1
 have hst0:=LiesSt.start (g:=g) (items:=its.xs) (ps:=ru.parts.xs) (l:=l) (k:=xu) Hgr.out.2.2.1 Hgr.out.2.2.2.1 fi
 rw[← HR1] at hst0
 have hpl:=Hgr.out.2.2.2.2
 obtain⟨R,hR⟩:∃R,X6 g its.xs (.node (rn:Int) (-1) xi xu l) c=R:=⟨_,rfl⟩
 rw[hR] at hst0
 have HR:=Xa hR
 have Hst0:=Xa hst0
 obtain⟨bP,oP,hPa,hbP,hPc⟩:=hrl.1.at_ PartG.size_cells (by omega) (k:=0) (by omega)
 have HPc:=Xa hPc
 rw[hPa] at d2
 have hpn:ru.parts.xs.length≤4:=hpl.2
 have HC:Hid (∀V,Below w1.heap.size w1 V→V.cell? ⟨cb,5,none⟩=some (.slice (some ⟨bR,oR,none⟩) g.rules.xs.length g.rules.cap)∧(V.cell? ⟨w.heap.size,0,none⟩=some (.int .i64 (rn:Int))∧V.cell? ⟨w.heap.size,2,none⟩=some (.int .i64 xi)∧V.cell? ⟨w.heap.size,4,none⟩=some (.slice xa l.length xc))∧V.cell? ⟨bR,oR+rn*5,none⟩=some (.string ru.cat)∧V.cell? ⟨bR,oR+rn*5+1,none⟩=some (.int .i64 ru.no)∧V.cell? ⟨bR,oR+rn*5+2,none⟩=some (.slice (some ⟨bP,oP,none⟩) ru.parts.xs.length ru.parts.cap)∧V.cell? ⟨bR,oR+rn*5+3,none⟩=some (.slice ru.gives.addr ru.gives.xs.length ru.gives.cap)∧V.cell? ⟨bR,oR+rn*5+4,none⟩=some (.int .i64 ru.cost)):=fun V hV=>by
  have hh:=(HE1.out.ext hV).chart
  have hz:=Xh hV Hz1.out
  refine⟨by rw[← hRa];exact gblk hh 5,⟨gblk hz 0,gblk hz 2,gblk hz 4⟩,?_⟩
  have hcl:=fun k=>hV.cell (p:=⟨bR,oR+rn*5+k,none⟩) hbR1
  exact⟨(hcl 0).trans d0,(hcl 1).trans d1,(hcl 2).trans d2,(hcl 3).trans d3,(hcl 4).trans d4⟩
 have hlw:=Xa (Xi (Xi (Below.refl w1.heap.size w1)))
 clear HR0 HR1 hR hst0 hPc hPa hrl hpl hRa hbR1
 go_enter Tryz.func69,Tryz.ntmps69
 go_wp2_with fail
 go_still (by kernel_rfl)
 go_wp2_with fail
 refine wpIn_wide (n:=0) |>.1 ?_
 refine Y4 _ ?_ (fun _ _ h=>h)
 refine Xo (fun V=>Below w1.heap.size w1 V) (by kernel_rfl) ?_
 refine Xd (i:=0) rfl (by kernel_rfl) (fun _ _ _ h=>h) (fun V hV=>(by obtain⟨m0,⟨m1,m2,m3⟩,r0,r1,r2,r3,r4⟩:=HC.out V hV;go_simp<;>rfl)) ?_
 refine Xd (i:=1) rfl (by kernel_rfl) (fun _ _ _ h=>h) (fun V hV=>(by obtain⟨m0,⟨m1,m2,m3⟩,r0,r1,r2,r3,r4⟩:=HC.out V hV;go_simp<;>rfl)) ?_
 refine Xd (i:=2) rfl (by kernel_rfl) (fun _ _ _ h=>h) (fun V hV=>(by obtain⟨m0,⟨m1,m2,m3⟩,r0,r1,r2,r3,r4⟩:=HC.out V hV;go_simp<;>rfl)) ?_
 refine Xd (i:=3) rfl (by kernel_rfl) (fun _ _ _ h=>h) (fun V hV=>(by obtain⟨m0,⟨m1,m2,m3⟩,r0,r1,r2,r3,r4⟩:=HC.out V hV;go_simp<;>rfl)) ?_
 refine Xd (i:=4) rfl (by kernel_rfl) (fun _ _ _ h=>h) (fun V hV=>(by obtain⟨m0,⟨m1,m2,m3⟩,r0,r1,r2,r3,r4⟩:=HC.out V hV;go_simp<;>rfl)) ?_
 refine Xd (i:=5) rfl (by kernel_rfl) (fun _ _ _ h=>h) (fun V hV=>(by obtain⟨m0,⟨m1,m2,m3⟩,r0,r1,r2,r3,r4⟩:=HC.out V hV;go_simp<;>rfl)) ?_
 refine Xd (i:=6) rfl (by kernel_rfl) (fun _ _ _ h=>h) (fun V hV=>(by obtain⟨m0,⟨m1,m2,m3⟩,r0,r1,r2,r3,r4⟩:=HC.out V hV;go_simp<;>rfl)) ?_
 refine Xd (i:=7) rfl (by kernel_rfl) (fun _ _ _ h=>h) (fun V hV=>(by obtain⟨m0,⟨m1,m2,m3⟩,r0,r1,r2,r3,r4⟩:=HC.out V hV;go_simp<;>rfl)) ?_
 refine Xd (i:=8) (v:=.agg #[.string ru.cat,.int .i64 ru.no,.slice (some ⟨bP,oP,none⟩) ru.parts.xs.length ru.parts.cap,.slice ru.gives.addr ru.gives.xs.length ru.gives.cap,.int .i64 ru.cost]) rfl (by kernel_rfl) (fun _ _ _ h=>h) (fun V hV=>(by obtain⟨m0,⟨m1,m2,m3⟩,r0,r1,r2,r3,r4⟩:=HC.out V hV;go_simp)) ?_
 refine Xg (i:=9) hlw.out (by kernel_rfl) rfl (fun K hK=>?_)
 go_simp
 refine hK _ _ ?_
 clear hK K
 have hB8:=Xe hlw.out (.cells #[.string ⟨#[]⟩,.int .i64 0,.slice none 0 0,.slice none 0 0,.int .i64 0] 79)
 refine Xg (i:=10) hB8 (by kernel_rfl) rfl (fun K hK=>?_)
 go_simp
 refine hK _ _ ?_
 clear hK K
 obtain⟨w2,hw2⟩:∃w2,(w1.alloc (.cells #[.string ru.cat,.int .i64 c,.slice (some ⟨bP,oP,none⟩) ru.parts.xs.length ru.parts.cap,.slice ru.gives.addr ru.gives.xs.length ru.gives.cap,.int .i64 ru.cost] 79)).drew.drew=w2:=⟨_,rfl⟩
 have hb2:Below w1.heap.size w1 w2:=by rw[← hw2];exact Xi (Xi (Xe (Below.refl _ _) _))
 have hz2:w2.heap[w1.heap.size]? = some (.cells #[.string ru.cat,.int .i64 c,.slice (some ⟨bP,oP,none⟩) ru.parts.xs.length ru.parts.cap,.slice ru.gives.addr ru.gives.xs.length ru.gives.cap,.int .i64 ru.cost] 79 (0,0)):=by rw[← hw2];exact World.alloc_heap_new _ _
 rw[hw2]
 refine Xl hb2 (by kernel_rfl) ?_ _
 have hz12:=Xh hb2 Hz1.out
 clear hw2 hB8 hlw HC y0 y1 y2 y3 y4 c0 c1 c2 c3 c4 c5 c6 c7 c8 c9 d0 d1 d2 d3 d4
 obtain⟨e0,e1,e2,e3,e4⟩:=gb5 hz2
 obtain⟨v0,v1,v2,v3,v4⟩:=gb5 hz12
 have HB2:=Xa (Xb HB1.out hb2)
 have Hb12:=Xa hb2
 have HE2:=Xa (HE1.out.ext hb2)
 clear hz2 hz12 hb2
 go_wp2_with fail
 go_still (by kernel_rfl)
 go_wp2_with fail
 go_loopw [6,10,11,117] (fun va vb vd iv wr=>∃(p:Nat) (ks:List TreeV) (B:Option Addr) (cB:Nat) (css':List (List Value)) (at_ cost:Int),p≤ru.parts.xs.length∧va = .int .i64 cost∧vb = .int .i64 at_∧vd = .slice B ks.length cB∧iv = .int .i64 p∧Below w2.heap.size w2 wr∧Hid (LiesSt g its.xs R ru.parts.xs l xu p ks at_ cost)∧Hid (KidsAt w P ks css'∧Rd w B css'.flatten∧ks.length≤cB)) (fun _ _ _ iv _=>ru.parts.xs.length-(intOf iv).toNat)
 case atStart=>exact⟨0,l,xa,xc,css,xi,ru.cost,Nat.zero_le _,rfl,rfl,rfl,rfl,Xi (Below.refl _ _),Hst0.out,Hkids.out,Hr.out,hcap0⟩
 case round =>
  obtain⟨p,ks,B,cB,css',at_,cost,hp,rfl,rfl,rfl,rfl,hB,Hst,Hk⟩:=hrel
  have hBw:=Xb HB2.out hB
  by_cases hlt:p<ru.parts.xs.length
  ·have hmarkP:=hlt
   have f0:wr.cell? ⟨bP,oP+p*3,none⟩=some (.string ru.parts.xs[p].cat):=HPc.out p hlt wr (Xb HE2.out.low hB) 0 _ rfl
   have f1:wr.cell? ⟨bP,oP+p*3+1,none⟩=some (.int .i64 ru.parts.xs[p].no):=HPc.out p hlt wr (Xb HE2.out.low hB) 1 _ rfl
   have f2:wr.cell? ⟨bP,oP+p*3+2,none⟩=some (.string ru.parts.xs[p].text):=HPc.out p hlt wr (Xb HE2.out.low hB) 2 _ rfl
   have S1:=Xa (fun ht hn=>Hst.out.text_no hlt ht hn)
   have S2:=Xa (fun ht hn hw=>Hst.out.text hlt ht hn hw fu)
   have S3:=Xa (fun (e:ks=[]) ht=>(show R=(0,false) by have h:=Hst.out;rw[e] at h;exact h.none hlt ht))
   have S4:=Xa (fun t ks' (e:ks=t :: ks') ht hn=>(show R=(0,false) by have h:=Hst.out;rw[e] at h;exact h.cat_frm hlt ht hn))
   have S5:=Xa (fun t ks' (e:ks=t :: ks') ht hf hn=>(show R=(0,false) by have h:=Hst.out;rw[e] at h;exact h.cat_no hlt ht hf hn))
   have S6:=Xa (fun t ks' (e:ks=t :: ks') ht hf cc hn=>(show LiesSt g its.xs R ru.parts.xs l xu (p+1) ks' t.unt (cost+cc) by have h:=Hst.out;rw[e] at h;exact h.cat hg hI (Qb Hfl.out) hlt ht hf hn))
   have hfa:=Hst.out.fit
   have hlo:=Hst.out.lo
   have hhi:=Hst.out.hi
   have hsub:=Xa Hst.out.sub
   generalize ru.parts.xs[p]=q at *
   obtain⟨w3,hw3⟩:∃w3,wr.alloc (.cells #[.string q.cat,.int .i64 q.no,.string q.text] 81)=w3:=⟨_,rfl⟩
   have hb3:=Yn hw3
   have hz3:=Yv hw3
   obtain⟨s0,s1,s2⟩:=gb3 hz3
   have hz3l:=Xc hz3
   have hB3:=Xb hB hb3
   have HE3:=Xa (HE2.out.ext hB3)
   have hch3:=HE3.out.chart
   have c9:=gblk hch3 9
   have hz13:=((Xb Hb12.out hB3).block _ (Xc Hz1.out)).trans Hz1.out
   obtain⟨v0,v1,v2,v3,v4⟩:=gb5 hz13
   have Hb3:=Xa (Xb hBw hb3)
   have HB3:=Xa hB3
   clear hz3 hz13 hB hb3 hB3 hch3
   by_cases ht:q.text.size≠0
   ·have k2:=Xkb ht
    have k3:=Zp (s:=q.text) (by omega)
    have k4:¬q.text.toList=[]:=by intro h;rw[h] at k3;cases k3
    by_cases ha:at_<xu
    rotate_left
    ·have g1:decide (xu≤at_)=true:=decide_eq_true (by omega)
     have HR9:=Xa (HR.out.trans (S1.out ht (fun h=>ha h.1)))
     clear S1 S2 S3 S4 S5 S6 hfa hlo hhi ha
     go_wp2_with fail
     go_still (by kernel_rfl)
     go_wp2_with fail
     exact bodyPost_ret (v:=.tuple #[.int .i64 0,.bool false]) (by simp[results,Tryz.results69,go_sem]) rfl ⟨by rw[HR9.out],Xb Hb3.out (Xi (Below.refl _ _))⟩
    ·have g1:decide (xu≤at_)=false:=decide_eq_false (by omega)
     obtain⟨A2,cp2,xs2,hlook,hlie,hany⟩:=HE3.out.words.lookW hfa
     have hlk:=hlook w3.drew rfl
     have hl2:=hlie w3.drew (fun _ _=>rfl) (Nat.le_refl _)
     have hC:=Xcw A2 cp2 xs2 q.text w3.drew (by have h:=hl2.rd;rwa [show strs xs2=xs2.flatMap (fun b:ByteArray=>[Value.string b]) from by unfold strs;rw[List.map_eq_flatMap]] at h) (Nat.le_trans hl2.cap hl2.max)
     rw[hany q.text] at hC
     cases hst:Xm its.xs at_ q.text
     ·rw[hst] at hC
      have HC:=Xa hC
      have HR9:=Xa (HR.out.trans (S1.out ht (fun h=>by rw[hst] at h;exact absurd h.2 (by simp))))
      clear S1 S2 S3 S4 S5 S6 hfa hlo hhi ha hC hlie hlook hl2 hany hst
      go_wp2_with fail
      refine wp_region_still_lit (by kernel_rfl) (by kernel_rfl) ?_
      repeat still_step
      still_call HC.out
      repeat still_step
      refine wpStill_nil ?_
      go_wp2_with fail
      exact bodyPost_ret (v:=.tuple #[.int .i64 0,.bool false]) (by simp[results,Tryz.results69,go_sem]) rfl ⟨by rw[HR9.out],Xb Hb3.out (Xi (Below.refl _ _))⟩
     ·rw[hst] at hC
      have HC:=Xa hC
      have Hnx:=Xa (S2.out ht ha hst)
      have hwa:IntKind.i64.wrap (at_+1)=at_+1:=IntWalk.i64_in _ (by unfold I6 at hfa fu;omega)
      clear S1 S2 S3 S4 S5 S6 hfa hlo hhi ha hC hlie hlook hl2 hany hst
      go_wp2_with fail
      refine wp_region_still_lit (by kernel_rfl) (by kernel_rfl) ?_
      repeat still_step
      still_call HC.out
      repeat still_step
      refine wpStill_nil ?_
      go_wp2_with fail
      go_roundw
      case rel=>exact⟨p+1,ks,B,cB,css',at_+1,cost,by omega,by go_num,by go_num,rfl,by go_num,Xi HB3.out,Hnx.out,Hk.out⟩
      case measure=>simp[intOf];omega
   ·have k2:=Xka ht
    have k3:=Zq (s:=q.text) (by omega)
    have k4:q.text.toList=[]:=List.isEmpty_iff.1 k3
    cases ks with
    | nil =>
     have HR9:=Xa (HR.out.trans (S3.out rfl ht))
     clear S1 S2 S3 S4 S5 S6 hfa hlo hhi
     go_wp2_with fail
     exact bodyPost_ret (v:=.tuple #[.int .i64 0,.bool false]) (by simp[results,Tryz.results69,go_sem]) rfl ⟨by rw[HR9.out],Hb3.out⟩
    | cons t ks' =>
     obtain⟨b0,off0,B',cp',rfl,hb0,ht0,n0,n1,n2,n3,n4⟩:=Uz Hk.out.2.1 Hk.out.1 (n:=0) (by simp)
     simp only[List.getElem_cons_zero,Nat.zero_mul,Nat.add_zero] at ht0 n0 n1 n2 n3 n4
     have hbl:=Hb3.out.block b0 hb0
     have m0:=(World.cell?_of_block (a:=⟨b0,off0,none⟩) hbl).trans n0
     have m1:=(World.cell?_of_block (a:=⟨b0,off0+1,none⟩) hbl).trans n1
     have m2:=(World.cell?_of_block (a:=⟨b0,off0+2,none⟩) hbl).trans n2
     have m3:=(World.cell?_of_block (a:=⟨b0,off0+3,none⟩) hbl).trans n3
     have m4:=(World.cell?_of_block (a:=⟨b0,off0+4,none⟩) hbl).trans n4
     have l0:(((ks'.length:Nat):Int)+1 == 0)=false:=by simp;omega
     have hb3w:b0<w3.heap.size:=Nat.lt_of_lt_of_le hb0 Hb3.out.size
     have HC:Hid (∀V,Below w3.heap.size w3 V→(V.cell? ⟨b0,off0,none⟩=some (.int .i64 t.rule)∧V.cell? ⟨b0,off0+1,none⟩=some (.int .i64 t.item)∧V.cell? ⟨b0,off0+2,none⟩=some (.int .i64 t.frm)∧V.cell? ⟨b0,off0+3,none⟩=some (.int .i64 t.unt)∧V.cell? ⟨b0,off0+4,none⟩=some (.slice B' t.kids.length cp'))∧V.cell? ⟨wr.heap.size,1,none⟩=some (.int .i64 q.no)):=fun V hV=>by
      have hbV:=hV.block b0 hb3w
      exact⟨⟨(World.cell?_of_block (a:=⟨b0,off0,none⟩) hbV).trans m0,(World.cell?_of_block (a:=⟨b0,off0+1,none⟩) hbV).trans m1,(World.cell?_of_block (a:=⟨b0,off0+2,none⟩) hbV).trans m2,(World.cell?_of_block (a:=⟨b0,off0+3,none⟩) hbV).trans m3,(World.cell?_of_block (a:=⟨b0,off0+4,none⟩) hbV).trans m4⟩,(World.cell?_of_block (a:=⟨wr.heap.size,1,none⟩) (hV.block _ hz3l)).trans s1⟩
     clear n0 n1 n2 n3 n4 hbl
     by_cases hf:t.frm=at_
     rotate_left
     ·have g1:(t.frm != at_)=true:=by simpa using hf
      have g2:(t.frm == at_)=false:=by simpa using hf
      have HR9:=Xa (HR.out.trans (S4.out t ks' rfl ht hf))
      clear S1 S2 S3 S4 S5 S6 hfa hlo hhi hf ht0 hsub
      generalize t.rule=a0 at *
      generalize t.item=a1 at *
      generalize t.frm=a2 at *
      generalize t.unt=a3 at *
      generalize t.kids.length=a4 at *
      go_wp2_with fail
      exact bodyPost_ret (v:=.tuple #[.int .i64 0,.bool false]) (by simp[results,Tryz.results69,go_sem]) rfl ⟨by rw[HR9.out],Hb3.out⟩
     ·have g1:(t.frm != at_)=false:=by simpa using hf
      have g2:(t.frm == at_)=true:=by simpa using hf
      have htl:=hsub.out t (List.mem_cons_self ..)
      have hc:=Hih.out t htl ⟨t.rule,t.item,t.frm,t.unt,⟨B',t.kids.length,cp'⟩⟩ q.no w3.drew (HE3.out.ext (Xi (Below.refl _ _))) (ht0.ext (Xb Hb3.out (Xi (Below.refl _ _)))) (Qb Hfl.out t htl) (by have:=Xbu htl;have:=Hnod.out;omega)
      obtain⟨⟨cc,bb⟩,hcc⟩:∃x,X6 g its.xs t q.no=x:=⟨_,rfl⟩
      unfold T5 at hc
      rw[hcc] at hc
      have Hc:=Xa hc
      clear hc ht0
      cases bb
      ·have HR9:=Xa (HR.out.trans (S5.out t ks' rfl ht hf (by rw[hcc])))
       clear S1 S2 S3 S4 S5 S6 hfa hlo hhi hf hcc htl hsub
       generalize t.rule=a0 at *
       generalize t.item=a1 at *
       generalize t.frm=a2 at *
       generalize t.unt=a3 at *
       generalize t.kids.length=a4 at *
       go_wp2_with fail
       refine wpIn_wide (n:=0) |>.1 ?_
       refine Y4 _ ?_ (fun _ _ h=>h)
       refine Xo (fun V=>Below w3.heap.size w3 V) (by kernel_rfl) ?_
       refine Xd (i:=0) rfl (by kernel_rfl) (fun _ _ _ h=>h) (fun V hV=>(by skip;go_simp<;>rfl)) ?_
       refine Xd (i:=1) rfl (by kernel_rfl) (fun _ _ _ h=>h) (fun V hV=>(by skip;go_simp<;>rfl)) ?_
       refine Xd (i:=2) rfl (by kernel_rfl) (fun _ _ _ h=>h) (fun V hV=>(by skip;go_simp<;>rfl)) ?_
       refine Xd (i:=3) (v:=.agg #[.int .i64 a0,.int .i64 a1,.int .i64 a2,.int .i64 a3,.slice B' a4 cp']) rfl (by kernel_rfl) (fun _ _ _ h=>h) (fun V hV=>(by obtain⟨⟨m0,m1,m2,m3,m4⟩,m5⟩:=HC.out V hV;go_simp)) ?_
       refine Xd (i:=4) rfl (by kernel_rfl) (fun _ _ _ h=>h) (fun V hV=>(by obtain⟨⟨m0,m1,m2,m3,m4⟩,m5⟩:=HC.out V hV;go_simp<;>rfl)) ?_
       refine Xd (i:=5) rfl (by kernel_rfl) (fun _ _ _ h=>h) (fun V hV=>(by obtain⟨⟨m0,m1,m2,m3,m4⟩,m5⟩:=HC.out V hV;go_simp<;>rfl)) ?_
       refine Xg (i:=6) (Xi (Below.refl _ _)) (by kernel_rfl) rfl (fun K hK=>?_)
       go_simp
       refine⟨trivial,rfl,callsIn_wide.2 (Hc.out.mono ?_)⟩
       rintro e w4 ⟨rfl,hB4⟩
       refine hK _ _ ?_
       clear hK K
       have hB4':=Xb (Xi (Below.refl w3.heap.size w3)) hB4
       refine Xd (i:=7) rfl (by kernel_rfl) (fun _ _ _ h=>h) (fun V hV=>(by skip;go_simp<;>rfl)) ?_
       refine Xd (i:=8) rfl (by kernel_rfl) (fun _ _ _ h=>h) (fun V hV=>(by skip;go_simp<;>rfl)) ?_
       refine Xd (i:=9) rfl (by kernel_rfl) (fun _ _ _ h=>h) (fun V hV=>(by skip;go_simp<;>rfl)) ?_
       refine Xd (i:=10) rfl (by kernel_rfl) (fun _ _ _ h=>h) (fun V hV=>(by skip;go_simp<;>rfl)) ?_
       refine Xd (i:=11) rfl (by kernel_rfl) (fun _ _ _ h=>h) (fun V hV=>(by skip;go_simp<;>rfl)) ?_
       refine Xl hB4' (by kernel_rfl) ?_ _
       go_wp2_with fail
       exact bodyPost_ret (v:=.tuple #[.int .i64 0,.bool false]) (by simp[results,Tryz.results69,go_sem]) rfl ⟨by rw[HR9.out],Xb Hb3.out (Xb (Xi (Below.refl _ _)) hB4)⟩
      ·have hbd:=Xdp hg hI hcc
       have Hnx:=Xa (S6.out t ks' rfl ht hf cc hcc)
       have hwc:IntKind.i64.wrap (cost+cc)=cost+cc:=by
        have h1:=Hnx.out.lo
        have h2:=Hnx.out.hi
        have h3:=Hnod.out
        exact IntWalk.i64_in _ (by omega)
       have hrs:∀V:World,_:=fun V=>Xoh (some ⟨b0,off0,none⟩) cB (ks'.length+1) V (by omega)
       clear S1 S2 S3 S4 S5 S6 hfa hlo hhi hf hcc htl hbd hsub
       generalize t.rule=a0 at *
       generalize t.item=a1 at *
       generalize t.frm=a2 at *
       generalize t.unt=a3 at *
       generalize t.kids.length=a4 at *
       go_wp2_with fail
       refine wpIn_wide (n:=0) |>.1 ?_
       refine Y4 _ ?_ (fun _ _ h=>h)
       refine Xo (fun V=>Below w3.heap.size w3 V) (by kernel_rfl) ?_
       refine Xd (i:=0) rfl (by kernel_rfl) (fun _ _ _ h=>h) (fun V hV=>(by skip;go_simp<;>rfl)) ?_
       refine Xd (i:=1) rfl (by kernel_rfl) (fun _ _ _ h=>h) (fun V hV=>(by skip;go_simp<;>rfl)) ?_
       refine Xd (i:=2) rfl (by kernel_rfl) (fun _ _ _ h=>h) (fun V hV=>(by skip;go_simp<;>rfl)) ?_
       refine Xd (i:=3) (v:=.agg #[.int .i64 a0,.int .i64 a1,.int .i64 a2,.int .i64 a3,.slice B' a4 cp']) rfl (by kernel_rfl) (fun _ _ _ h=>h) (fun V hV=>(by obtain⟨⟨m0,m1,m2,m3,m4⟩,m5⟩:=HC.out V hV;go_simp)) ?_
       refine Xd (i:=4) rfl (by kernel_rfl) (fun _ _ _ h=>h) (fun V hV=>(by obtain⟨⟨m0,m1,m2,m3,m4⟩,m5⟩:=HC.out V hV;go_simp<;>rfl)) ?_
       refine Xd (i:=5) rfl (by kernel_rfl) (fun _ _ _ h=>h) (fun V hV=>(by obtain⟨⟨m0,m1,m2,m3,m4⟩,m5⟩:=HC.out V hV;go_simp<;>rfl)) ?_
       refine Xg (i:=6) (Xi (Below.refl _ _)) (by kernel_rfl) rfl (fun K hK=>?_)
       go_simp
       refine⟨trivial,rfl,callsIn_wide.2 (Hc.out.mono ?_)⟩
       rintro e w4 ⟨rfl,hB4⟩
       refine hK _ _ ?_
       clear hK K
       have hB4':=Xb (Xi (Below.refl w3.heap.size w3)) hB4
       refine Xd (i:=7) rfl (by kernel_rfl) (fun _ _ _ h=>h) (fun V hV=>(by skip;go_simp<;>rfl)) ?_
       refine Xd (i:=8) rfl (by kernel_rfl) (fun _ _ _ h=>h) (fun V hV=>(by skip;go_simp<;>rfl)) ?_
       refine Xd (i:=9) rfl (by kernel_rfl) (fun _ _ _ h=>h) (fun V hV=>(by skip;go_simp<;>rfl)) ?_
       refine Xd (i:=10) rfl (by kernel_rfl) (fun _ _ _ h=>h) (fun V hV=>(by skip;go_simp<;>rfl)) ?_
       refine Xd (i:=11) rfl (by kernel_rfl) (fun _ _ _ h=>h) (fun V hV=>(by skip;go_simp<;>rfl)) ?_
       refine Xl hB4' (by kernel_rfl) ?_ _
       have o3:=(World.cell?_of_block (a:=⟨b0,off0+3,none⟩) (hB4'.block b0 hb3w)).trans m3
       have HB4:=Xa hB4'
       clear m0 m1 m2 m3 m4 hB4 hB4'
       go_wp2_with fail
       go_still (by kernel_rfl)
       go_wp2_with fail
       go_roundw
       case rel =>
        obtain⟨css2,hk2,hr2⟩:=Xqn (cp:=cB) Hk.out.2.1 Hk.out.1 (by have:=Hk.out.2.2;simpa using this)
        exact⟨p+1,ks',subA (some ⟨b0,off0,none⟩) cB 1 5,cB-1,css2,a3,cost+cc,by omega,by go_num,rfl,rfl,by go_num,Xi (Xb HB3.out HB4.out),Hnx.out,hk2,hr2,by have:=Hk.out.2.2;simp at this;omega⟩
       case measure=>simp[intOf];omega
  ·have hpl:p=ru.parts.xs.length:=by omega
   subst hpl
   have hdn:=Hst.out.done
   have HRd:=Xa (HR.out.trans hdn)
   have hz19:=((Xb Hb12.out hB).block _ (Xc Hz1.out)).trans Hz1.out
   obtain⟨v0,v1,v2,v3,v4⟩:=gb5 hz19
   have HBw:=Xa hBw
   clear hz19 hdn hB hBw
   cases ks with
   | nil =>
    by_cases ha:at_=xu
    ·have g1:(at_ == xu)=true:=by simpa using ha
     have HR9:=Xa (show X6 g its.xs (.node (rn:Int) (-1) xi xu l) c=(cost,true) by rw[HRd.out,decide_eq_true ha];rfl)
     clear HRd ha
     go_wp2_with fail
     go_still (by kernel_rfl)
     go_wp2_with fail
     exact bodyPost_ret (v:=.tuple #[.int .i64 cost,.bool true]) (by simp[results,Tryz.results69,go_sem]) rfl ⟨by rw[HR9.out],Xb HBw.out (Xi (Below.refl _ _))⟩
    ·have g1:(at_ == xu)=false:=by simpa using ha
     have HR9:=Xa (show X6 g its.xs (.node (rn:Int) (-1) xi xu l) c=(cost,false) by rw[HRd.out,decide_eq_false ha];rfl)
     clear HRd ha
     go_wp2_with fail
     go_still (by kernel_rfl)
     go_wp2_with fail
     exact bodyPost_ret (v:=.tuple #[.int .i64 cost,.bool false]) (by simp[results,Tryz.results69,go_sem]) rfl ⟨by rw[HR9.out],Xb HBw.out (Xi (Below.refl _ _))⟩
   | cons t ks' =>
    have l0:(((ks'.length:Nat):Int)+1 == 0)=false:=by simp;omega
    have HR9:=Xa (show X6 g its.xs (.node (rn:Int) (-1) xi xu l) c=(cost,false) by rw[HRd.out];rfl)
    clear HRd
    go_wp2_with fail
    go_still (by kernel_rfl)
    go_wp2_with fail
    exact bodyPost_ret (v:=.tuple #[.int .i64 cost,.bool false]) (by simp[results,Tryz.results69,go_sem]) rfl ⟨by rw[HR9.out],Xb HBw.out (Xi (Below.refl _ _))⟩
theorem Xiq {g:Gram} {its:SlS ItemG} {N:Nat} (hg:Yu g) (hI:Zr N g.cats.xs.length its.xs) {e0:World} (hgl:g.lies e0) (hil:ItemsAt e0 its) (hfew:its.xs.length≤16384) (cb kb wb top:Nat) (P:Nat→Prop) :
  ∀(t:TreeV) (x:TreeG) (c:Int) (w:World),ChEnv e0 cb kb wb top g its N w→TreeAt w P t [.int .i64 x.rule,.int .i64 x.item,.int .i64 x.frm,.int .i64 x.unt,.slice x.kids.addr x.kids.len x.kids.cap]→Z6 t→X5 t≤1024 →
  Calls Tryz.prog 69 #[.pointer (some ⟨cb,0,none⟩),.agg #[.int .i64 x.rule,.int .i64 x.item,.int .i64 x.frm,.int .i64 x.unt,.slice x.kids.addr x.kids.len x.kids.cap],.int .i64 c] w (T5 g its.xs t c w) :=
 TreeV.ind fun r j i u l ih x c w hE ht hfit hnod=>by
  unfold TreeAt at ht
  obtain⟨A,cap,css,e,hcap1,hcap2,hA0,hIn,hr,hkids⟩:=ht
  obtain⟨xr,xj,xi,xu,⟨xa,xl,xc⟩⟩:=x
  simp only[List.cons.injEq,Value.int.injEq,Value.slice.injEq,true_and,and_true] at e
  obtain⟨rfl,rfl,rfl,rfl,rfl,rfl,rfl⟩:=e
  unfold Z6 at hfit
  obtain⟨fr,fj,fi,fu,fl⟩:=hfit
  rw[X5] at hnod
  by_cases hr1:xr = -1
  ·subst hr1
   exact Xpr hil hfew cb kb wb top xj xi xu l xa xc c w hE
  ·by_cases hok:xj = -1∧∃(rn:Nat) (h:rn<g.rules.xs.length),xr=(rn:Int)∧g.rules.xs[rn].no=c
   ·obtain⟨rfl,rn,hlt,rfl,hno⟩:=hok
    exact Xpt hg hI hgl cb kb wb top P rn hlt xi xu l xa xc css c w hE hno hcap1 hr hkids fi fu fl hnod fun t ht x c w=>ih t ht x c w
   ·exact Xre hgl cb kb wb top xr xj xi xu l xa xc c w hE hr1 fun rn h h1 h2 h3=>hok ⟨h1,rn,h,h2,h3⟩
def SentX (X:Nat→Prop) (g:Gram) (its:SlS ItemG) (n:Int) (W1:World) (y:Nat×Nat×FoundG) (v:World):Prop :=
 v.heap[y.1]? = some (.cells #[.bool y.2.2.ok,.int .i64 y.2.2.cost,.int .i64 y.2.2.rule,.int .i64 y.2.2.item,.int .i64 y.2.2.frm,.int .i64 y.2.2.unt,.slice y.2.2.kids.addr y.2.2.kids.len y.2.2.kids.cap,.int .i64 y.2.2.many] 114 (0,0))∧FoundOk X v y.2.2 (Fd.of bigN (derG g its.xs g.startNo 0 n.toNat))∧Below W1.heap.size W1 v
theorem Xis (X:Nat→Prop) (g:Gram) (its:SlS ItemG) (n:Int) {U V:World} {cb kb wb top:Nat} (hX:∀b,X b→b<V.heap.size) (hg:g.lies U) (hi:ItemsAt U its) (h0:errC g its.xs n=0) (hE:ChEnv U cb kb wb top g its n.toNat V) (hK:KnownF (fun _=>False) g its.xs n.toNat kb (fun _=>none) V) :
  Calls Tryz.prog 67 #[.pointer (some ⟨cb,0,none⟩),.agg #[.int .i64 g.startNo,.int .i64 0,.int .i64 n]] V fun e w'=>∃fd,e = .returned (.agg #[.bool fd.ok,.int .i64 fd.cost,.int .i64 fd.rule,.int .i64 fd.item,.int .i64 fd.frm,.int .i64 fd.unt,.slice fd.kids.addr fd.kids.len fd.kids.cap,.int .i64 fd.many])∧FoundOk X w' fd (Fd.of bigN (derG g its.xs g.startNo 0 n.toNat))∧Only (fun j=>j=kb) V w':=by
 have hA:=Vz h0
 have h1:=hA.n1
 have hn:((n.toNat:Nat):Int)=n:=by omega
 have h:=Xe3 hA.gram hA.items hg hi hA.few (by have:=hA.n16;omega) (muG g g.startNo 0 n.toNat+1) g.startNo 0 n.toNat (Nat.lt_succ_self _) hA.gram.start.1 hA.gram.start.2 (by omega) (Nat.le_refl _) X (fun _=>none) V hX hE ⟨hK.map,fun _ _ h=>by cases h⟩
 rw[hn] at h
 refine h.mono ?_
 rintro e w' ⟨fd,f',h2,h3,_,_,h4⟩
 exact⟨fd,h2,h3,h4⟩
def Xeh (g:Gram) (its:SlS ItemG) (n:Int) (w:World) (e:Ending) (w':World):Prop :=
 ∃x:TreeG,e = .returned (.tuple #[.agg #[.int .i64 x.rule,.int .i64 x.item,.int .i64 x.frm,.int .i64 x.unt,.slice x.kids.addr x.kids.len x.kids.cap],.int .i64 (Zk g its.xs n).2.1,.bool (Zk g its.xs n).2.2.1,.int .i64 (Zk g its.xs n).2.2.2])∧TreeW (fun b=>b<w.heap.size) w' (Zk g its.xs n).1 x∧Below w.heap.size w w'
theorem Xb1 (X:Nat→Prop) (w:World):TreeW X w Un Qr:=by
 unfold TreeW Un Qr TreeAt
 exact⟨none,0,[],rfl,Nat.le_refl _,by omega,fun _=>rfl,fun h=>absurd h (by simp),.inl rfl,by unfold KidsAt;rfl⟩
theorem Xiu {X:Nat→Prop} {W:World} {fd:FoundG} {g:Gram} {its:List ItemG} {n:Int} (h0:errC g its n=0) (h:FoundOk X W fd (Fd.of bigN (derG g its g.startNo 0 n.toNat))) :
  (Zk g its n).2.1=fd.cost∧(Zk g its n).2.2.1=fd.ok∧(Zk g its n).2.2.2=0∧TreeW X W (Zk g its n).1 fd.tree:=by
 have hb:=h.best
 change match Xdl g its n with|none=>_|some (c,t)=>_ at hb
 unfold Zk
 rw[if_neg (by simp[h0])]
 cases hc:Xdl g its n with
 | none =>
  rw[hc] at hb
  obtain⟨h1,h2,h3⟩:=hb
  exact⟨h2.symm,h1.symm,rfl,by rw[h3];exact Xb1 _ _⟩
 | some y =>
  rw[hc] at hb
  obtain⟨h1,h2,h3⟩:=hb
  exact⟨h2.symm,h1.symm,rfl,h3⟩
def set5 (V:World) (b:Nat) (y:TreeG):World:=(((((V.setCell ⟨b,0,none⟩ (.int .i64 y.rule)).setCell ⟨b,1,none⟩ (.int .i64 y.item)).setCell ⟨b,2,none⟩ (.int .i64 y.frm)).setCell ⟨b,3,none⟩ (.int .i64 y.unt)).setCell ⟨b,4,none⟩ (.slice y.kids.addr y.kids.len y.kids.cap))
theorem U7 (V:World) (b:Nat) (y:TreeG):Only (fun j=>j=b) V (set5 V b y):=by
 unfold set5
 have st:∀(U:World) (n:Nat) (u:Value),Only (fun j=>j=b) V U→Only (fun j=>j=b) V (U.setCell ⟨b,n,none⟩ u):=fun U n u h=>Only.setCell (M:=fun j=>j=b) h (p:=⟨b,n,none⟩) (.inl rfl) u
 exact st _ _ _ (st _ _ _ (st _ _ _ (st _ _ _ (st _ _ _ (Only.refl _ V)))))
theorem Xcl {V:World} {b:Nat} {x:TreeG} (h:V.heap[b]? = some (.cells #[.int .i64 x.rule,.int .i64 x.item,.int .i64 x.frm,.int .i64 x.unt,.slice x.kids.addr x.kids.len x.kids.cap] 37 (0,0))) (y:TreeG):(set5 V b y).heap[b]? = some (.cells #[.int .i64 y.rule,.int .i64 y.item,.int .i64 y.frm,.int .i64 y.unt,.slice y.kids.addr y.kids.len y.kids.cap] 37 (0,0)):=by
 have h1:(V.setCell ⟨b,0,none⟩ (.int .i64 y.rule)).heap[b]? = some (.cells #[.int .i64 y.rule,.int .i64 x.item,.int .i64 x.frm,.int .i64 x.unt,.slice x.kids.addr x.kids.len x.kids.cap] 37 (0,0)):=Xr h 0 _
 have h2:((V.setCell ⟨b,0,none⟩ (.int .i64 y.rule)).setCell ⟨b,1,none⟩ (.int .i64 y.item)).heap[b]? = some (.cells #[.int .i64 y.rule,.int .i64 y.item,.int .i64 x.frm,.int .i64 x.unt,.slice x.kids.addr x.kids.len x.kids.cap] 37 (0,0)):=Xr h1 1 _
 have h3:(((V.setCell ⟨b,0,none⟩ (.int .i64 y.rule)).setCell ⟨b,1,none⟩ (.int .i64 y.item)).setCell ⟨b,2,none⟩ (.int .i64 y.frm)).heap[b]? = some (.cells #[.int .i64 y.rule,.int .i64 y.item,.int .i64 y.frm,.int .i64 x.unt,.slice x.kids.addr x.kids.len x.kids.cap] 37 (0,0)):=Xr h2 2 _
 have h4:((((V.setCell ⟨b,0,none⟩ (.int .i64 y.rule)).setCell ⟨b,1,none⟩ (.int .i64 y.item)).setCell ⟨b,2,none⟩ (.int .i64 y.frm)).setCell ⟨b,3,none⟩ (.int .i64 y.unt)).heap[b]? = some (.cells #[.int .i64 y.rule,.int .i64 y.item,.int .i64 y.frm,.int .i64 y.unt,.slice x.kids.addr x.kids.len x.kids.cap] 37 (0,0)):=Xr h3 3 _
 exact Xr h4 4 _
set_option maxHeartbeats 2000000 in
theorem Xia (g:Gram) (its:SlS ItemG) (n:Int) (w:World) (hT:TabsG w) (hg:g.lies w) (hs:g.short) (hi:ItemsAt w its):Calls Tryz.prog 19 #[.agg #[.string g.name,.slice g.cats.addr g.cats.xs.length g.cats.cap,.string g.start,.int .i64 g.startNo,.slice g.entries.addr g.entries.xs.length g.entries.cap,.slice g.rules.addr g.rules.xs.length g.rules.cap],.slice its.addr its.xs.length its.cap,.int .i64 n] w (Xeh g its n w):=by
 obtain⟨W1,hW1⟩:∃W1,((w.alloc (.cells #[.string g.name,.slice g.cats.addr g.cats.xs.length g.cats.cap,.string g.start,.int .i64 g.startNo,.slice g.entries.addr g.entries.xs.length g.entries.cap,.slice g.rules.addr g.rules.xs.length g.rules.cap] 26)).alloc (.cells #[.int .i64 0,.int .i64 0,.int .i64 0,.int .i64 0,.slice none 0 0] 37)).alloc (.cells #[.int .i64 0] 33)=W1:=⟨_,rfl⟩
 have hB1:Below w.heap.size w W1:=by rw[← hW1];exact Xe (Xe (Xe (Below.refl _ _) _) _) _
 have hk:W1.heap[w.heap.size]? = some (.cells #[.string g.name,.slice g.cats.addr g.cats.xs.length g.cats.cap,.string g.start,.int .i64 g.startNo,.slice g.entries.addr g.entries.xs.length g.entries.cap,.slice g.rules.addr g.rules.xs.length g.rules.cap] 26 (0,0)):=by rw[← hW1];exact(Below.heap_alloc _ _ _ (by simp;omega)).trans ((Below.heap_alloc _ _ _ (by simp)).trans (World.alloc_heap_new _ _))
 have he:W1.heap[w.heap.size+2]? = some (.cells #[.int .i64 0] 33 (0,0)):=by rw[← hW1];exact X0 _ _ _ (by simp)
 have htb:W1.heap[w.heap.size+1]? = some (.cells #[.int .i64 0,.int .i64 0,.int .i64 0,.int .i64 0,.slice none 0 0] 37 (0,0)):=by rw[← hW1];exact(Below.heap_alloc _ _ _ (by simp)).trans (X0 _ _ _ (by simp))
 have HBo:=Xa (fun U (hU:Below W1.heap.size W1 U) h0=>Xeo g its n U (hT.ext (Xb hB1 hU)) (hg.ext (Xb hB1 hU)) hs (hi.ext (Xb hB1 hU)) h0)
 have HBe:=Xa (fun U (hU:Below W1.heap.size W1 U) h0=>Xen g its n U (hT.ext (Xb hB1 hU)) (hg.ext (Xb hB1 hU)) hs (hi.ext (Xb hB1 hU)) h0)
 have HFi:=Xa (fun U V (hU:Below W1.heap.size W1 U) (hV:Below W1.heap.size W1 V) cb kb wb top h0 hE hK=>Xis (fun b=>b<W1.heap.size) g its n (U:=U) (V:=V) (cb:=cb) (kb:=kb) (wb:=wb) (top:=top) (fun b hb=>Nat.lt_of_lt_of_le hb hV.size) (hg.ext (Xb hB1 hU)) (hi.ext (Xb hB1 hU)) h0 hE hK)
 have HB1:=Xa hB1
 have He:=Xa he
 have Htb:=Xa htb
 have hkl:=Xc hk
 have HC:Hid (∀V:World,V.heap[w.heap.size]? = W1.heap[w.heap.size]? → (V.cell? ⟨w.heap.size,0,none⟩=some (.string g.name)∧V.cell? ⟨w.heap.size,1,none⟩=some (.slice g.cats.addr g.cats.xs.length g.cats.cap)∧V.cell? ⟨w.heap.size,2,none⟩=some (.string g.start)∧V.cell? ⟨w.heap.size,3,none⟩=some (.int .i64 g.startNo)∧V.cell? ⟨w.heap.size,4,none⟩=some (.slice g.entries.addr g.entries.xs.length g.entries.cap)∧V.cell? ⟨w.heap.size,5,none⟩=some (.slice g.rules.addr g.rules.xs.length g.rules.cap))):=fun V hV=>by
  have h:=hV.trans hk
  exact⟨gblk h 0,gblk h 1,gblk h 2,gblk h 3,gblk h 4,gblk h 5⟩
 have hz1:w.heap.size+2<W1.heap.size:=Xc he
 clear hT hg hs hi hk he htb hB1
 by_cases h0:errC g its.xs n=0
 rotate_left
 ·have hR:Zk g its.xs n=(Un,0,false,errC g its.xs n):=by unfold Zk;rw[if_pos h0]
  have HR:=Xa hR
  have H0:=Xa h0
  clear hR h0
  go_enter_defers Tryz.func19,Tryz.ntmps19
  go_wp2_with fail
  refine wpIn_wide (n:=0) |>.1 ?_
  refine Xd1 10 (fun ch v=>ch=Q1 (errC g its.xs n)∧Below W1.heap.size W1 v) ?_ ?_
  ·refine Xo (fun V=>(V.cell? ⟨w.heap.size,0,none⟩=some (.string g.name)∧V.cell? ⟨w.heap.size,1,none⟩=some (.slice g.cats.addr g.cats.xs.length g.cats.cap)∧V.cell? ⟨w.heap.size,2,none⟩=some (.string g.start)∧V.cell? ⟨w.heap.size,3,none⟩=some (.int .i64 g.startNo)∧V.cell? ⟨w.heap.size,4,none⟩=some (.slice g.entries.addr g.entries.xs.length g.entries.cap)∧V.cell? ⟨w.heap.size,5,none⟩=some (.slice g.rules.addr g.rules.xs.length g.rules.cap))) (by kernel_rfl) ?_
   have hC0:=HC.out W1.drew rfl
   refine Xd (i:=0) rfl (by kernel_rfl) (fun _ _ _ h=>h.put (by kernel_rfl)) (fun V hV=>(by obtain⟨r1,r2,r3,r4,r5,r6⟩:=hV;go_simp<;>rfl)) ?_
   refine Xd (i:=1) rfl (by kernel_rfl) (fun _ _ _ h=>h.put (by kernel_rfl)) (fun V hV=>(by obtain⟨r1,r2,r3,r4,r5,r6⟩:=hV;go_simp<;>rfl)) ?_
   refine Xd (i:=2) rfl (by kernel_rfl) (fun _ _ _ h=>h.put (by kernel_rfl)) (fun V hV=>(by obtain⟨r1,r2,r3,r4,r5,r6⟩:=hV;go_simp<;>rfl)) ?_
   refine Xd (i:=4) rfl (by kernel_rfl) (fun _ _ _ h=>h.put (by kernel_rfl)) (fun V hV=>(by obtain⟨r1,r2,r3,r4,r5,r6⟩:=hV;go_simp<;>rfl)) ?_
   refine Xd (i:=5) rfl (by kernel_rfl) (fun _ _ _ h=>h.put (by kernel_rfl)) (fun V hV=>(by obtain⟨r1,r2,r3,r4,r5,r6⟩:=hV;go_simp<;>rfl)) ?_
   refine Xd (i:=6) rfl (by kernel_rfl) (fun _ _ _ h=>h.put (by kernel_rfl)) (fun V hV=>(by obtain⟨r1,r2,r3,r4,r5,r6⟩:=hV;go_simp<;>rfl)) ?_
   refine Xd (i:=7) rfl (by kernel_rfl) (fun _ _ _ h=>h.put (by kernel_rfl)) (fun V hV=>(by obtain⟨r1,r2,r3,r4,r5,r6⟩:=hV;go_simp<;>rfl)) ?_
   refine Xs (rs:=[3,9]) hC0 (by kernel_rfl) (by simp) (AllC.cons rfl (fun K hK=>?_) (AllC.cons rfl (fun K hK=>?_) AllC.nil))
   ·go_simp
    refine⟨trivial,rfl,callsIn_wide.2 ((HBe.out _ (Xi (Below.refl _ _)) H0.out).mono ?_)⟩
    rintro e9 w9 ⟨rfl,hB9⟩
    exact⟨_,rfl,KeepF.of_take rfl rfl,rfl,Xb (Xi (Below.refl _ _)) hB9⟩
   ·go_simp
    refine hK _ _ ?_
    clear hK K
    have hBz:Below W1.heap.size W1 (W1.alloc (.cells #[.bool false,.int .i64 0,.int .i64 0,.int .i64 0,.int .i64 0,.int .i64 0,.slice none 0 0,.int .i64 0] 114)).drew:=Xi (Xe (Below.refl _ _) _)
    refine Xg (i:=3) (HC.out _ (hBz.block _ hkl)) (by kernel_rfl) rfl (fun K hK=>?_)
    go_simp
    refine⟨trivial,rfl,callsIn_wide.2 ((HBe.out _ hBz H0.out).mono ?_)⟩
    rintro e9 w9 ⟨rfl,hB9⟩
    exact⟨_,rfl,KeepF.of_take rfl rfl,rfl,Xb hBz hB9⟩
  ·rintro ch a' v ⟨hd,ht⟩ ⟨rfl,hB9⟩
   show Leaves _ _ a'.tmps _ a'.defers _ _
   rw[hd]
   refine leaves_cons (f:=65) (args:=#[.pointer (some ⟨w.heap.size+2,0,none⟩)]) (by simp) (by simp[go_sem]) ?_
   have hev:v.heap[w.heap.size+2]? = some (.cells #[.int .i64 0] 33 (0,0)):=(hB9.block _ hz1).trans He.out
   refine(Us _ _ _ _ hev).mono ?_
   rintro e u' w'' ⟨rfl,rfl,rfl⟩
   have ht6:=ht 6 (by omega)
   have ht7:=ht 7 (by omega)
   have ht8:=ht 8 (by omega)
   have ht9:=ht 9 (by omega)
   have htv:=Xh hB9 Htb.out
   obtain⟨zt0,zt1,zt2,zt3,zt4⟩:=gb5 htv
   simp[Leaves,settle,results,Tryz.results19,go_sem,Xj hev,ht6,ht7,ht8,ht9,zt0,zt1,zt2,zt3,zt4]
   refine⟨Qr,?_,?_,?_⟩
   ·rw[HR.out];rfl
   ·rw[HR.out];exact Xb1 _ _
   ·exact(Xb HB1.out hB9).setCell (p:=⟨w.heap.size+2,0,none⟩) (by show w.heap.size≤w.heap.size+2;omega) _
 ·have H0:=Xa h0
  clear h0
  go_enter_defers Tryz.func19,Tryz.ntmps19
  go_wp2_with fail
  refine wpIn_wide (n:=0) |>.1 ?_
  refine Td (fun (y:Nat×Nat×FoundG) a=>{a with tmps:=(((((((((a.tmps.setIfInBounds 11 (.agg #[.string g.name,.slice g.cats.addr g.cats.xs.length g.cats.cap,.string g.start,.int .i64 g.startNo,.slice g.entries.addr g.entries.xs.length g.entries.cap,.slice g.rules.addr g.rules.xs.length g.rules.cap])).setIfInBounds 12 (.slice its.addr its.xs.length its.cap)).setIfInBounds 13 (.int .i64 n)).setIfInBounds 15 (.pointer (some ⟨w.heap.size,3,none⟩))).setIfInBounds 16 (.int .i64 g.startNo)).setIfInBounds 17 (.int .i64 n)).setIfInBounds 18 (.agg #[.int .i64 g.startNo,.int .i64 0,.int .i64 n])).setIfInBounds 14 (.pointer (some ⟨y.2.1,0,none⟩))).setIfInBounds 19 (.agg #[.bool y.2.2.ok,.int .i64 y.2.2.cost,.int .i64 y.2.2.rule,.int .i64 y.2.2.item,.int .i64 y.2.2.frm,.int .i64 y.2.2.unt,.slice y.2.2.kids.addr y.2.2.kids.len y.2.2.kids.cap,.int .i64 y.2.2.many])).setIfInBounds 10 (.pointer (some ⟨y.1,0,none⟩))}) (SentX (fun b=>b<W1.heap.size) g its n W1) ?_ ?_
  ·refine Xo (fun V=>(V.cell? ⟨w.heap.size,0,none⟩=some (.string g.name)∧V.cell? ⟨w.heap.size,1,none⟩=some (.slice g.cats.addr g.cats.xs.length g.cats.cap)∧V.cell? ⟨w.heap.size,2,none⟩=some (.string g.start)∧V.cell? ⟨w.heap.size,3,none⟩=some (.int .i64 g.startNo)∧V.cell? ⟨w.heap.size,4,none⟩=some (.slice g.entries.addr g.entries.xs.length g.entries.cap)∧V.cell? ⟨w.heap.size,5,none⟩=some (.slice g.rules.addr g.rules.xs.length g.rules.cap))) (by kernel_rfl) ?_
   have hC0:=HC.out W1.drew rfl
   refine Xd (i:=0) rfl (by kernel_rfl) (fun _ _ _ h=>h) (fun V hV=>(by obtain⟨r1,r2,r3,r4,r5,r6⟩:=hV;go_simp<;>rfl)) ?_
   refine Xd (i:=1) rfl (by kernel_rfl) (fun _ _ _ h=>h) (fun V hV=>(by obtain⟨r1,r2,r3,r4,r5,r6⟩:=hV;go_simp<;>rfl)) ?_
   refine Xd (i:=2) rfl (by kernel_rfl) (fun _ _ _ h=>h) (fun V hV=>(by obtain⟨r1,r2,r3,r4,r5,r6⟩:=hV;go_simp<;>rfl)) ?_
   refine Xd (i:=4) rfl (by kernel_rfl) (fun _ _ _ h=>h) (fun V hV=>(by obtain⟨r1,r2,r3,r4,r5,r6⟩:=hV;go_simp<;>rfl)) ?_
   refine Xd (i:=5) rfl (by kernel_rfl) (fun _ _ _ h=>h) (fun V hV=>(by obtain⟨r1,r2,r3,r4,r5,r6⟩:=hV;go_simp<;>rfl)) ?_
   refine Xd (i:=6) rfl (by kernel_rfl) (fun _ _ _ h=>h) (fun V hV=>(by obtain⟨r1,r2,r3,r4,r5,r6⟩:=hV;go_simp<;>rfl)) ?_
   refine Xd (i:=7) rfl (by kernel_rfl) (fun _ _ _ h=>h) (fun V hV=>(by obtain⟨r1,r2,r3,r4,r5,r6⟩:=hV;go_simp<;>rfl)) ?_
   refine Xs (rs:=[3,9]) hC0 (by kernel_rfl) (by simp) (AllC.cons rfl (fun K hK=>?_) (AllC.cons rfl (fun K hK=>?_) AllC.nil))
   ·go_simp
    refine⟨trivial,rfl,callsIn_wide.2 ((HBo.out _ (Xi (Below.refl _ _)) H0.out).mono ?_)⟩
    rintro e2 w2 ⟨cb,kb,wb,top,rfl,hE,hK2,hB2⟩
    refine hK _ _ ?_
    clear hK K
    have hB2':Below W1.heap.size W1 w2:=Xb (Xi (Below.refl _ _)) hB2
    have hkb:W1.heap.size≤kb∧kb<top:=hE.hk
    have htop:top≤w2.heap.size:=hE.top
    refine Xs (rs:=[8,9]) (HC.out _ (hB2'.block _ hkl)) (by kernel_rfl) (by simp) (AllC.cons rfl (fun K hK=>?_) (AllC.cons rfl (fun K hK=>?_) AllC.nil))
    ·go_simp
     refine⟨trivial,rfl,callsIn_wide.2 ((HFi.out _ _ (Xi (Below.refl _ _)) hB2' cb kb wb top H0.out hE hK2).mono ?_)⟩
     rintro e9 w9 ⟨fd,rfl,hok,hO⟩
     refine hK _ _ ?_
     clear hK K
     have hB9:Below W1.heap.size W1 w9:=Yf hB2' hB2'.size hO hkb.1
     refine Xg (i:=9) (HC.out _ (hB9.block _ hkl)) (by kernel_rfl) rfl (fun K hK=>?_)
     go_simp
     refine hK _ _ ?_
     clear hK K
     have hal:∀o,Below W1.heap.size W1 (w9.alloc o):=fun o=>Xe hB9 o
     refine Xg (i:=10) (HC.out _ ((hal _).block _ hkl)) (by kernel_rfl) rfl (fun K hK=>?_)
     go_simp
     refine hK _ _ ?_
     clear hK K
     have hBf:Below w9.heap.size w9 (w9.alloc (.cells #[.bool fd.ok,.int .i64 fd.cost,.int .i64 fd.rule,.int .i64 fd.item,.int .i64 fd.frm,.int .i64 fd.unt,.slice fd.kids.addr fd.kids.len fd.kids.cap,.int .i64 fd.many] 114)):=Xe (Below.refl _ _) _
     refine Xl (HC.out _ ((hal _).block _ hkl)) (by kernel_rfl) ?_ _
     refine⟨(w9.heap.size,cb,fd),?_,?_⟩
     ·kernel_rfl
     ·exact⟨World.alloc_heap_new _ _,hok.keep (fun _ _ h=>h.ext hBf),hal _⟩
    ·go_simp
     refine hK _ _ ?_
     clear hK K
     have hBy:Below w2.heap.size w2 (w2.alloc (.cells #[.bool false,.int .i64 0,.int .i64 0,.int .i64 0,.int .i64 0,.int .i64 0,.slice none 0 0,.int .i64 0] 114)):=Xe (Below.refl _ _) _
     have hzz0:(w2.alloc (.cells #[.bool false,.int .i64 0,.int .i64 0,.int .i64 0,.int .i64 0,.int .i64 0,.slice none 0 0,.int .i64 0] 114)).heap[w2.heap.size]? = some (.cells #[.bool false,.int .i64 0,.int .i64 0,.int .i64 0,.int .i64 0,.int .i64 0,.slice none 0 0,.int .i64 0] 114 (0,0)):=World.alloc_heap_new _ _
     have hBw:Below W1.heap.size W1 (w2.alloc (.cells #[.bool false,.int .i64 0,.int .i64 0,.int .i64 0,.int .i64 0,.int .i64 0,.slice none 0 0,.int .i64 0] 114)):=Xb hB2' hBy
     refine Xg (i:=8) (HC.out _ (hBw.block _ hkl)) (by kernel_rfl) rfl (fun K hK=>?_)
     go_simp
     refine⟨trivial,rfl,callsIn_wide.2 ((HFi.out _ _ (Xi (Below.refl _ _)) hBw cb kb wb top H0.out (hE.ext hBy) (hK2.ext hBy)).mono ?_)⟩
     rintro e9 w9 ⟨fd,rfl,hok,hO⟩
     refine hK _ _ ?_
     clear hK K
     have hnk:w2.heap.size≠kb:=by omega
     have hz9:w9.heap[w2.heap.size]? = some (.cells #[.bool false,.int .i64 0,.int .i64 0,.int .i64 0,.int .i64 0,.int .i64 0,.slice none 0 0,.int .i64 0] 114 (0,0)):=(hO.block _ (Xc hzz0) hnk).trans hzz0
     obtain⟨zq0,zq1,zq2,zq3,zq4,zq5,zq6,zq7⟩:=gb8 hz9
     have hzf:=fun n=>Xf hz9 n
     have hzl:=Xc hz9
     have hB9:Below W1.heap.size W1 w9:=Yf hBw hBw.size hO hkb.1
     have Hz9:=Xa hz9
     have Hok:=Xa hok
     clear hz9 hzz0 hok
     refine Xg (i:=10) (HC.out _ (hB9.block _ hkl)) (by kernel_rfl) rfl (fun K hK=>?_)
     go_simp
     refine hK _ _ ?_
     clear hK K
     have hs8:=Ud w9 w2.heap.size fd
     have hB8:Below W1.heap.size W1 (set8 w9 w2.heap.size fd):=Yf hB9 hB9.size hs8 (by have:=hB2'.size;show W1.heap.size≤w2.heap.size;omega)
     refine Xl (HC.out _ (hB8.block _ hkl)) (by kernel_rfl) ?_ _
     refine⟨(w2.heap.size,cb,fd),?_,?_⟩
     ·kernel_rfl
     ·exact⟨Qn (f:=⟨false,0,0,0,0,0,⟨none,0,0⟩,0⟩) Hz9.out fd,Hok.out.keep (fun _ _ h=>h.only hs8 fun b hb h=>(Ym Hz9.out) (by rw[show b=w2.heap.size from hb] at h;exact h.1)),hB8⟩
   ·go_simp
    refine hK _ _ ?_
    clear hK K
    have hBz:Below W1.heap.size W1 (W1.alloc (.cells #[.bool false,.int .i64 0,.int .i64 0,.int .i64 0,.int .i64 0,.int .i64 0,.slice none 0 0,.int .i64 0] 114)).drew:=Xi (Xe (Below.refl _ _) _)
    refine Xg (i:=3) (HC.out _ (hBz.block _ hkl)) (by kernel_rfl) rfl (fun K hK=>?_)
    go_simp
    refine⟨trivial,rfl,callsIn_wide.2 ((HBo.out _ hBz H0.out).mono ?_)⟩
    rintro e2 w2 ⟨cb,kb,wb,top,rfl,hE,hK2,hB2⟩
    refine hK _ _ ?_
    clear hK K
    have hB2':Below W1.heap.size W1 w2:=Xb hBz hB2
    have hzz1:(W1.alloc (.cells #[.bool false,.int .i64 0,.int .i64 0,.int .i64 0,.int .i64 0,.int .i64 0,.slice none 0 0,.int .i64 0] 114)).drew.heap[W1.heap.size]? = some (.cells #[.bool false,.int .i64 0,.int .i64 0,.int .i64 0,.int .i64 0,.int .i64 0,.slice none 0 0,.int .i64 0] 114 (0,0)):=World.alloc_heap_new _ _
    have hzz0:=Xh hB2 hzz1
    have hkb0:(W1.alloc (.cells #[.bool false,.int .i64 0,.int .i64 0,.int .i64 0,.int .i64 0,.int .i64 0,.slice none 0 0,.int .i64 0] 114)).drew.heap.size≤kb∧kb<top:=hE.hk
    have hkb:W1.heap.size≤kb∧kb<top:=⟨Nat.le_trans hBz.size hkb0.1,hkb0.2⟩
    have hnk:W1.heap.size≠kb:=by have:=Xc hzz1;omega
    refine Xg (i:=8) (HC.out _ (hB2'.block _ hkl)) (by kernel_rfl) rfl (fun K hK=>?_)
    go_simp
    refine⟨trivial,rfl,callsIn_wide.2 ((HFi.out _ _ hBz hB2' cb kb wb top H0.out hE hK2).mono ?_)⟩
    rintro e9 w9 ⟨fd,rfl,hok,hO⟩
    refine hK _ _ ?_
    clear hK K
    have hz9:w9.heap[W1.heap.size]? = some (.cells #[.bool false,.int .i64 0,.int .i64 0,.int .i64 0,.int .i64 0,.int .i64 0,.slice none 0 0,.int .i64 0] 114 (0,0)):=(hO.block _ (Xc hzz0) hnk).trans hzz0
    obtain⟨zq0,zq1,zq2,zq3,zq4,zq5,zq6,zq7⟩:=gb8 hz9
    have hzf:=fun n=>Xf hz9 n
    have hzl:=Xc hz9
    have hB9:Below W1.heap.size W1 w9:=Yf hB2' hB2'.size hO hkb.1
    have Hz9:=Xa hz9
    have Hok:=Xa hok
    clear hz9 hzz0 hok
    refine Xg (i:=10) (HC.out _ (hB9.block _ hkl)) (by kernel_rfl) rfl (fun K hK=>?_)
    go_simp
    refine hK _ _ ?_
    clear hK K
    have hs8:=Ud w9 W1.heap.size fd
    have hB8:Below W1.heap.size W1 (set8 w9 W1.heap.size fd):=Yf hB9 hB9.size hs8 (by have:=hB2'.size;show W1.heap.size≤W1.heap.size;omega)
    refine Xl (HC.out _ (hB8.block _ hkl)) (by kernel_rfl) ?_ _
    refine⟨(W1.heap.size,cb,fd),?_,?_⟩
    ·kernel_rfl
    ·exact⟨Qn (f:=⟨false,0,0,0,0,0,⟨none,0,0⟩,0⟩) Hz9.out fd,Hok.out.keep (fun _ _ h=>h.only hs8 fun b hb h=>(Ym Hz9.out) (by rw[show b=W1.heap.size from hb] at h;exact h.1)),hB8⟩
  ·rintro⟨bx,cb,⟨ok2,cost2,ru2,it2,fr2,un2,kd2,my2⟩⟩ v H
   obtain⟨hbx,hok,hB⟩:=H
   obtain⟨u,hu⟩:∃u,v.drew=u:=⟨_,rfl⟩
   have hbu:=show v.drew.heap[bx]? = _ from hbx
   rw[hu] at hbu
   have hoku:=hok.keep (fun _ _ h=>h.ext (Xi (Below.refl v.heap.size v)))
   rw[hu] at hoku
   have hBu:Below W1.heap.size W1 u:=by rw[← hu];exact Xi hB
   clear hbx hok hB
   obtain⟨zz0,zz1,zz2,zz3,zz4,zz5,zz6,zz7⟩:=gb8 hbu
   have hev:u.heap[w.heap.size+2]? = some (.cells #[.int .i64 0] 33 (0,0)):=(hBu.block _ hz1).trans He.out
   have htv:u.heap[w.heap.size+1]? = _:=Xh hBu Htb.out
   obtain⟨zt0,zt1,zt2,zt3,zt4⟩:=gb5 htv
   have zf:=fun n=>Xf htv n
   have ce:=Xj hev
   have fe:=Xf hev 0
   have hne:bx≠w.heap.size+1:=by
    rintro rfl
    rw[htv] at hbu
    have h:=Option.some.inj hbu
    injection h with _ h2 _
    exact absurd h2 (by decide)
   have hne2:bx≠w.heap.size+2:=by
    rintro rfl
    rw[hev] at hbu
    have h:=Option.some.inj hbu
    injection h with _ h2 _
    exact absurd h2 (by decide)
   have hlt:=Xc hbu
   have HB9:=Xa (Xb HB1.out hBu)
   have Hev:=Xa hev
   have Hok:=Xa hoku
   have Htv:=Xa htv
   have Hbx:=Xa hbu
   clear hbu hoku hBu hev htv
   gi_wp2_with fail
   go_wp2_with fail
   refine wpIn_wide (n:=0) |>.1 ?_
   apply Xbz (w':=(set5 u (w.heap.size+1) ⟨ru2,it2,fr2,un2,kd2⟩).setCell ⟨w.heap.size+2,0,none⟩ (.int .i64 0))
   ·refine Xo (fun V=>V.cell? ⟨bx,0,none⟩=some (.bool ok2)∧V.cell? ⟨bx,1,none⟩=some (.int .i64 cost2)∧V.cell? ⟨bx,2,none⟩=some (.int .i64 ru2)∧V.cell? ⟨bx,3,none⟩=some (.int .i64 it2)∧V.cell? ⟨bx,4,none⟩=some (.int .i64 fr2)∧V.cell? ⟨bx,5,none⟩=some (.int .i64 un2)∧V.cell? ⟨bx,6,none⟩=some (.slice kd2.addr kd2.len kd2.cap)) (by kernel_rfl) ?_
    rw[hu]
    refine Xd (i:=0) rfl (by kernel_rfl) (fun _ _ _ h=>h) (fun V hV=>(by obtain⟨r1,r2,r3,r4,r5,r6,r7⟩:=hV;go_simp<;>rfl)) ?_
    refine Xd (i:=1) rfl (by kernel_rfl) (fun _ _ _ h=>h) (fun V hV=>(by obtain⟨r1,r2,r3,r4,r5,r6,r7⟩:=hV;go_simp<;>rfl)) ?_
    refine Xd (i:=2) rfl (by kernel_rfl) (fun _ _ _ h=>h) (fun V hV=>(by obtain⟨r1,r2,r3,r4,r5,r6,r7⟩:=hV;go_simp<;>rfl)) ?_
    refine Xd (i:=3) rfl (by kernel_rfl) (fun _ _ _ h=>h) (fun V hV=>(by obtain⟨r1,r2,r3,r4,r5,r6,r7⟩:=hV;go_simp<;>rfl)) ?_
    refine Xd (i:=4) rfl (by kernel_rfl) (fun _ _ _ h=>h) (fun V hV=>(by obtain⟨r1,r2,r3,r4,r5,r6,r7⟩:=hV;go_simp<;>rfl)) ?_
    refine Xd (i:=5) rfl (by kernel_rfl) (fun _ _ _ h=>h) (fun V hV=>(by obtain⟨r1,r2,r3,r4,r5,r6,r7⟩:=hV;go_simp<;>rfl)) ?_
    have hC:∀V:World,V.heap[bx]? = u.heap[bx]? → (V.cell? ⟨bx,0,none⟩=some (.bool ok2)∧V.cell? ⟨bx,1,none⟩=some (.int .i64 cost2)∧V.cell? ⟨bx,2,none⟩=some (.int .i64 ru2)∧V.cell? ⟨bx,3,none⟩=some (.int .i64 it2)∧V.cell? ⟨bx,4,none⟩=some (.int .i64 fr2)∧V.cell? ⟨bx,5,none⟩=some (.int .i64 un2)∧V.cell? ⟨bx,6,none⟩=some (.slice kd2.addr kd2.len kd2.cap)):=fun V hV=>by
     have h:=hV.trans Hbx.out
     exact⟨gblk h 0,gblk h 1,gblk h 2,gblk h 3,gblk h 4,gblk h 5,gblk h 6⟩
    have HC2:=Xa hC
    clear hC
    have hs5:=U7 u (w.heap.size+1) ⟨ru2,it2,fr2,un2,kd2⟩
    have h5:=hs5.block bx hlt hne
    refine Xg (i:=6) (HC2.out _ rfl) (by kernel_rfl) rfl (fun K hK=>?_)
    go_simp
    refine hK _ _ ?_
    clear hK K
    refine Xg (i:=7) (HC2.out _ h5) (by kernel_rfl) rfl (fun K hK=>?_)
    go_simp
    refine hK _ _ ?_
    clear hK K
    refine Xg (i:=8) (HC2.out _ h5) (by kernel_rfl) rfl (fun K hK=>?_)
    go_simp
    refine hK _ _ ?_
    clear hK K
    have Hev5:=(hs5.block (w.heap.size+2) (Xc Hev.out) (by show w.heap.size+2≠w.heap.size+1;omega)).trans Hev.out
    have ce5:=Xj Hev5
    have fe5:=Xf Hev5 0
    unfold set5 at Hev5 ce5 fe5
    refine Xg (i:=9) (HC2.out _ h5) (by kernel_rfl) rfl (fun K hK=>?_)
    go_simp
    refine hK _ _ ?_
    clear hK K
    have hs6:Only (fun j=>j=w.heap.size+2) (set5 u (w.heap.size+1) ⟨ru2,it2,fr2,un2,kd2⟩) ((set5 u (w.heap.size+1) ⟨ru2,it2,fr2,un2,kd2⟩).setCell ⟨w.heap.size+2,0,none⟩ (.int .i64 0)):=Only.setCell (M:=fun j=>j=w.heap.size+2) (Only.refl _ _) (p:=⟨w.heap.size+2,0,none⟩) (.inl rfl) _
    refine Xl (HC2.out _ ((hs6.block bx (Nat.lt_of_lt_of_le hlt hs5.size) hne2).trans h5)) (by kernel_rfl) ?_ _
    exact⟨rfl,rfl⟩
   ·obtain⟨U5,hU5⟩:∃U5,set5 u (w.heap.size+1) ⟨ru2,it2,fr2,un2,kd2⟩=U5:=⟨_,rfl⟩
    have hs5:=U7 u (w.heap.size+1) ⟨ru2,it2,fr2,un2,kd2⟩
    have ht5:=Xcl (x:=⟨0,0,0,0,⟨none,0,0⟩⟩) Htv.out ⟨ru2,it2,fr2,un2,kd2⟩
    rw[hU5] at hs5 ht5 ⊢
    have hs6:Only (fun j=>j=w.heap.size+2) U5 (U5.setCell ⟨w.heap.size+2,0,none⟩ (.int .i64 0)):=Only.setCell (M:=fun j=>j=w.heap.size+2) (Only.refl _ _) (p:=⟨w.heap.size+2,0,none⟩) (.inl rfl) _
    have he5:=(hs5.block (w.heap.size+2) (Xc Hev.out) (by show w.heap.size+2≠w.heap.size+1;omega)).trans Hev.out
    have ht6:=(hs6.block (w.heap.size+1) (Xc ht5) (by show w.heap.size+1≠w.heap.size+2;omega)).trans ht5
    have ce6:=Xj (Xr he5 0 (.int .i64 0))
    have he6:=Xr he5 0 (.int .i64 0)
    obtain⟨U6,hU6⟩:∃U6,U5.setCell ⟨w.heap.size+2,0,none⟩ (.int .i64 0)=U6:=⟨_,rfl⟩
    rw[hU6] at hs6 ht6 ce6 he6 ⊢
    have HU:=Xa (And.intro hs5 hs6)
    obtain⟨q0,q1,q2,q3,q4⟩:=gb5 ht6
    clear hU5 hU6 hs5 ht5 hs6 he5 ht6 he6 hu
    go_wp2_with fail
    refine leaves_cons (f:=65) (args:=#[.pointer (some ⟨w.heap.size+2,0,none⟩)]) (by simp) (by simp[go_sem]) ?_
    refine(Zd _ _).mono ?_
    rintro e u' w'' ⟨rfl,rfl,rfl⟩
    simp[Leaves,settle,results,Tryz.results19,go_sem,ce6,q0,q1,q2,q3,q4]
    obtain⟨hs5,hs6⟩:=HU.out
    obtain⟨g1,g2,g3,g4⟩:=Xiu H0.out Hok.out
    have hB5:Below w.heap.size w U5:=Yf HB9.out HB9.out.size hs5 (by show w.heap.size≤w.heap.size+1;omega)
    refine⟨⟨ru2,it2,fr2,un2,kd2⟩,?_,?_,Yf hB5 hB5.size hs6 (by show w.heap.size≤w.heap.size+2;omega)⟩
    ·rw[g1,g2,g3]
    ·have h5:TreeW (fun b=>b<w.heap.size) U5 (Zk g its.xs n).1 ⟨ru2,it2,fr2,un2,kd2⟩:=TreeW.keep g4 (fun b ⟨_,_,hk⟩ hn=>hs5.block b (Xc hk) fun e=>hn (by show b<W1.heap.size;rw[show b=w.heap.size+1 from e];omega)) hs5.size fun b _ hn hx=>hn (Nat.lt_trans hx (by omega))
     refine h5.only hs6 fun b hb hk=>?_
     obtain⟨⟨cs,fr,hk⟩,_⟩:=hk
     rw[show b=w.heap.size+2 from hb] at hk
     have he5:=(hs5.block (w.heap.size+2) (Xc Hev.out) (by show w.heap.size+2≠w.heap.size+1;omega)).trans Hev.out
     rw[he5] at hk
     have h:=Option.some.inj hk
     injection h with _ h2 _
     exact absurd h2 (by decide)
def Xgj (t:TreeV) (k nb:Nat) (w:World) (e:Ending) (w':World):Prop :=
 Only (fun b=>b=nb) w w'∧((k+X5 t≤1024∧e = .returned (.tuple #[])∧w'.heap[nb]? = some (.cells #[.int .i64 ((k+X5 t:Nat):Int)] 3 (0,0)))∨(1024<k+X5 t∧e = .panicked (Q1 2)))
theorem Xcg (l:List TreeV) (m:Nat) (h:m<l.length):Xp (l.take (m+1))=Xp (l.take m)+X5 l[m]:=by
 induction l generalizing m with
 | nil=>simp at h
 | cons t l ih =>
  cases m with
  | zero=>simp[Xp]
  | succ m =>
   have:=ih m (by simpa using h)
   simp only[List.take_succ_cons,Xp,List.getElem_cons_succ,this]
   omega
theorem Xfk (l:List TreeV) (m:Nat):Xp (l.take m)≤Xp l:=by
 induction l generalizing m with
 | nil=>simp
 | cons t l ih =>
  cases m with
  | zero=>simp[Xp]
  | succ m =>
   have:=ih m
   simp only[List.take_succ_cons,Xp]
   omega
set_option maxHeartbeats 1000000 in
theorem Xn5 (P:Nat→Prop) (nb:Nat) (hP:∀b,P b→b≠nb):∀(t:TreeV) (x:TreeG) (k:Nat) (w:World),TreeAt w P t [.int .i64 x.rule,.int .i64 x.item,.int .i64 x.frm,.int .i64 x.unt,.slice x.kids.addr x.kids.len x.kids.cap]→w.heap[nb]? = some (.cells #[.int .i64 (k:Int)] 3 (0,0))→k≤1024 →
  Calls Tryz.prog 68 #[.agg #[.int .i64 x.rule,.int .i64 x.item,.int .i64 x.frm,.int .i64 x.unt,.slice x.kids.addr x.kids.len x.kids.cap],.pointer (some ⟨nb,0,none⟩)] w (Xgj t k nb w) :=
 TreeV.ind fun r j i u l ih x k w ht hn hk=>by
  unfold TreeAt at ht
  obtain⟨A,cap,css,e,hcap1,hcap2,hA0,hIn,hr,hkids⟩:=ht
  obtain⟨xr,xj,xi,xu,⟨xa,xl,xc⟩⟩:=x
  simp only[List.cons.injEq,Value.int.injEq,Value.slice.injEq,true_and,and_true] at e
  obtain⟨rfl,rfl,rfl,rfl,rfl,rfl,rfl⟩:=e
  have hnV:X5 (.node xr xj xi xu l)=1+Xp l:=by rw[X5]
  have HnV:=Xa hnV
  have Hr:=Xa hr
  have Hkids:=Xa hkids
  have HIn:=Xa hIn
  have Hih:=Xa ih
  have hnl:=Xc hn
  obtain⟨w1,hw1⟩:∃w1,w.alloc (.cells #[.int .i64 xr,.int .i64 xj,.int .i64 xi,.int .i64 xu,.slice xa l.length xc] 37)=w1:=⟨_,rfl⟩
  have hn1:w1.heap[nb]? = some (.cells #[.int .i64 (k:Int)] 3 (0,0)):=by rw[← hw1];exact(Below.heap_alloc _ _ _ hnl).trans hn
  have c1:=Xj hn1
  have f1:=Xf hn1 0
  clear hnV hr hkids hIn ih hA0
  go_enter Tryz.func68,Tryz.ntmps68
  go_wp2_with fail
  obtain⟨w2,hw2⟩:∃w2,w1.setCell ⟨nb,0,none⟩ (.int .i64 ((k:Int)+1))=w2:=⟨_,rfl⟩
  have hO1:Only (fun b=>b=nb) w w1:=by rw[← hw1];exact Only.alloc (Only.refl _ _) _
  have hO2:Only (fun b=>b=nb) w w2:=by rw[← hw2];exact Only.setCell (M:=fun j=>j=nb) hO1 (p:=⟨nb,0,none⟩) (.inl rfl) _
  have hn2:w2.heap[nb]? = some (.cells #[.int .i64 (((k+1+Xp (l.take 0):Nat)):Int)] 3 (0,0)):=by rw[← hw2];exact Xr hn1 0 _
  have hz1:=Yv hw1
  have hz2:w2.heap[w.heap.size]? = some (.cells #[.int .i64 xr,.int .i64 xj,.int .i64 xi,.int .i64 xu,.slice xa l.length xc] 37 (0,0)):=by
   rw[← hw2]
   exact((Only.setCell (M:=fun j=>j=nb) (Only.refl _ w1) (p:=⟨nb,0,none⟩) (.inl rfl) _).block _ (Xc hz1) (by show w.heap.size≠nb;omega)).trans hz1
  have y4:=gblk hz2 4
  rw[hw2]
  clear c1 f1 hw1 hw2 hn1 hz1 hO1 hz2
  by_cases hk1:k+1≤1024
  rotate_left
  ·refine(Yg _ _ _ (by simp;omega)).mono ?_
   rintro e w' ⟨rfl,rfl⟩
   exact⟨rfl,hO2,.inr ⟨by rw[HnV.out];omega,rfl⟩⟩
  ·refine(Zz _ _ _ (by simp;omega)).mono ?_
   rintro e w' ⟨rfl,rfl⟩
   go_wp2_with fail
   have Hk1:=Xa hk1
   clear hk1
   go_loopw [19] (fun iv wr=>∃m:Nat,m≤l.length∧iv = .int .i64 m∧Only (fun b=>b=nb) w wr∧wr.heap[nb]? = some (.cells #[.int .i64 ((k+1+Xp (l.take m):Nat):Int)] 3 (0,0))∧Hid (k+1+Xp (l.take m)≤1024)) (fun iv _=>l.length-(intOf iv).toNat)
   case atStart=>exact⟨0,Nat.zero_le _,rfl,hO2,hn2,by show k+1+Xp (l.take 0)≤1024;simpa[Xp] using Hk1.out⟩
   case round =>
    obtain⟨m,hm,rfl,hO,hnm,Hle⟩:=hrel
    by_cases hlt:m<l.length
    ·obtain⟨b,off,B,cp,rfl,hb,htm,q0,q1,q2,q3,q4⟩:=Uz Hr.out Hkids.out hlt
     obtain⟨b',off',e',hPb⟩:=HIn.out (by omega)
     cases e'
     have hbl:=hO.block b hb (hP b hPb)
     have z0:=(World.cell?_of_block (a:=⟨b,off+m*5,none⟩) hbl).trans q0
     have z1:=(World.cell?_of_block (a:=⟨b,off+m*5+1,none⟩) hbl).trans q1
     have z2:=(World.cell?_of_block (a:=⟨b,off+m*5+2,none⟩) hbl).trans q2
     have z3:=(World.cell?_of_block (a:=⟨b,off+m*5+3,none⟩) hbl).trans q3
     have z4:=(World.cell?_of_block (a:=⟨b,off+m*5+4,none⟩) hbl).trans q4
     obtain⟨w3,hw3⟩:∃w3,wr.alloc (.cells #[.int .i64 l[m].rule,.int .i64 l[m].item,.int .i64 l[m].frm,.int .i64 l[m].unt,.slice B l[m].kids.length cp] 37)=w3:=⟨_,rfl⟩
     have hO3:Only (fun b=>b=nb) w w3:=by rw[← hw3];exact hO.alloc _
     have hn3:w3.heap[nb]? = some (.cells #[.int .i64 ((k+1+Xp (l.take m):Nat):Int)] 3 (0,0)):=by rw[← hw3];exact(Below.heap_alloc _ _ _ (Xc hnm)).trans hnm
     have hz3:=Yv hw3
     obtain⟨p0,p1,p2,p3,p4⟩:=gb5 hz3
     have hc:=Hih.out l[m] (List.getElem_mem hlt) ⟨l[m].rule,l[m].item,l[m].frm,l[m].unt,⟨B,l[m].kids.length,cp⟩⟩ (k+1+Xp (l.take m)) w3 (htm.keep (fun b hb' hlt=>hO3.block b hlt (hP b hb')) hO3.size fun _ h=>h) hn3 Hle.out
     have Hc:=Xa hc
     have Htk:=Xa (Xcg l m hlt)
     have HO3:=Xa hO3
     clear q0 q1 q2 q3 q4 hbl htm hc hO3 hn3 hnm hPb hz3
     generalize l[m].rule=a0 at *
     generalize l[m].item=a1 at *
     generalize l[m].frm=a2 at *
     generalize l[m].unt=a3 at *
     generalize l[m].kids.length=a4 at *
     go_wp2_with fail
     refine Hc.out.mono ?_
     rintro e w4 ⟨hO4,h4⟩
     have hOw:Only (fun b=>b=nb) w w4:=HO3.out.trans hO4
     rcases h4 with ⟨h5,rfl,h6⟩|⟨h5,rfl⟩
     ·go_wp2
      go_roundw
      case rel =>
       refine⟨m+1,by omega,by go_num,hOw,?_,?_⟩
       ·rw[Htk.out,← Nat.add_assoc];exact h6
       ·show k+1+Xp (l.take (m+1))≤1024
        rw[Htk.out,← Nat.add_assoc];exact h5
      case measure=>simp[intOf];omega
     ·refine⟨rfl,hOw,.inr ⟨?_,rfl⟩⟩
      rw[HnV.out]
      have h7:=Xfk l (m+1)
      have h8:=Htk.out
      omega
    ·have hm':m=l.length:=by omega
     have Hm:=Xa hm'
     have HO:=Xa hO
     have Hnm:=Xa hnm
     clear hm' hO hnm hm
     go_wp2
     go_end0
     have h1:l.take m=l:=by rw[Hm.out];exact List.take_length
     have h2:=Hnm.out
     have h3:=Hle.out
     rw[h1] at h2 h3
     refine⟨HO.out,.inl ⟨by rw[HnV.out];omega,rfl,?_⟩⟩
     rw[HnV.out,← Nat.add_assoc]
     exact h2
def Xej (g:Gram) (its:SlS ItemG) (n:Int) (t:TreeV) (w:World) (e:Ending) (w':World):Prop :=
 e = .returned (.tuple #[.int .i64 (Vv g its.xs n t).1,.bool (Vv g its.xs n t).2.1,.int .i64 (Vv g its.xs n t).2.2])∧Below w.heap.size w w'
theorem Xct {s k:Nat} {A B:World} (h:Below s A B) (hk:s≤k) (v:Value):Below s A (B.setCell ⟨k,0,none⟩ v):=h.setCell (p:=⟨k,0,none⟩) hk v
set_option maxHeartbeats 4000000 in
theorem Xo7 (g:Gram) (its:SlS ItemG) (n:Int) (P:Nat→Prop) (t:TreeV) (x:TreeG) (w:World) (hT:TabsG w) (hg:g.lies w) (hs:g.short) (hi:ItemsAt w its) (hP:∀b,P b→b<w.heap.size) (ht:TreeAt w P t [.int .i64 x.rule,.int .i64 x.item,.int .i64 x.frm,.int .i64 x.unt,.slice x.kids.addr x.kids.len x.kids.cap]) (hfit:Z6 t) :
  Calls Tryz.prog 21 #[.agg #[.string g.name,.slice g.cats.addr g.cats.xs.length g.cats.cap,.string g.start,.int .i64 g.startNo,.slice g.entries.addr g.entries.xs.length g.entries.cap,.slice g.rules.addr g.rules.xs.length g.rules.cap],.slice its.addr its.xs.length its.cap,.int .i64 n,.agg #[.int .i64 x.rule,.int .i64 x.item,.int .i64 x.frm,.int .i64 x.unt,.slice x.kids.addr x.kids.len x.kids.cap]] w (Xej g its n t w):=by
 obtain⟨W1,hW1⟩:∃W1,((w.alloc (.cells #[.string g.name,.slice g.cats.addr g.cats.xs.length g.cats.cap,.string g.start,.int .i64 g.startNo,.slice g.entries.addr g.entries.xs.length g.entries.cap,.slice g.rules.addr g.rules.xs.length g.rules.cap] 26)).alloc (.cells #[.int .i64 x.rule,.int .i64 x.item,.int .i64 x.frm,.int .i64 x.unt,.slice x.kids.addr x.kids.len x.kids.cap] 37)).alloc (.cells #[.int .i64 0] 33)=W1:=⟨_,rfl⟩
 have hB1:Below w.heap.size w W1:=by rw[← hW1];exact Xe (Xe (Xe (Below.refl _ _) _) _) _
 have hk:W1.heap[w.heap.size]? = some (.cells #[.string g.name,.slice g.cats.addr g.cats.xs.length g.cats.cap,.string g.start,.int .i64 g.startNo,.slice g.entries.addr g.entries.xs.length g.entries.cap,.slice g.rules.addr g.rules.xs.length g.rules.cap] 26 (0,0)):=by rw[← hW1];exact(Below.heap_alloc _ _ _ (by simp;omega)).trans ((Below.heap_alloc _ _ _ (by simp)).trans (World.alloc_heap_new _ _))
 have hx:W1.heap[w.heap.size+1]? = some (.cells #[.int .i64 x.rule,.int .i64 x.item,.int .i64 x.frm,.int .i64 x.unt,.slice x.kids.addr x.kids.len x.kids.cap] 37 (0,0)):=by rw[← hW1];exact(Below.heap_alloc _ _ _ (by simp)).trans (X0 _ _ _ (by simp))
 have he:W1.heap[w.heap.size+2]? = some (.cells #[.int .i64 0] 33 (0,0)):=by rw[← hW1];exact X0 _ _ _ (by simp)
 have HBo:=Xa (fun h0=>Xeo g its n W1 (hT.ext hB1) (hg.ext hB1) hs (hi.ext hB1) h0)
 have HBe:=Xa (fun h0=>Xen g its n W1 (hT.ext hB1) (hg.ext hB1) hs (hi.ext hB1) h0)
 have HG:=Xa (hg.ext hB1)
 have HI:=Xa (hi.ext hB1)
 have Ht:=Xa ht
 have HB1:=Xa hB1
 have He:=Xa he
 have Hk:=Xa hk
 have Hx:=Xa hx
 have hz1:w.heap.size+2<W1.heap.size:=Xc he
 obtain⟨c0,c1,c2,c3,c4,c5⟩:=gb6 hk
 clear hT hg hs hi hk hx he hB1 ht
 by_cases h0:errC g its.xs n=0
 rotate_left
 ·have HR:=Xa (show Vv g its.xs n t=(0,false,errC g its.xs n) by unfold Vv;rw[if_pos h0])
  have H0:=Xa h0
  clear h0
  go_enter_defers Tryz.func21,Tryz.ntmps21
  go_wp2_with fail
  refine(HBe.out H0.out).mono ?_
  rintro e w2 ⟨rfl,hB2⟩
  refine leaves_cons (f:=65) (args:=#[.pointer (some ⟨w.heap.size+2,0,none⟩)]) (by simp) (by simp[go_sem]) ?_
  have hev:w2.heap[w.heap.size+2]? = some (.cells #[.int .i64 0] 33 (0,0)):=(hB2.block _ hz1).trans He.out
  refine(Us _ _ _ _ hev).mono ?_
  rintro e u' w'' ⟨rfl,rfl,rfl⟩
  simp[Leaves,settle,results,Tryz.results21,go_sem,Xj hev]
  refine⟨by rw[HR.out],?_⟩
  exact Xct (Xb HB1.out hB2) (by omega) _
 ·have hA:=Vz h0
  have HA:=Xa hA
  have H0:=Xa h0
  have HR0:=Xa (show Vv g its.xs n t=(if 1024<X5 t then (0,false,2) else if (X6 g its.xs t g.startNo).2=false∨t.frm≠0∨t.unt≠n then (0,false,0) else ((X6 g its.xs t g.startNo).1,true,0)) by unfold Vv;rw[if_neg (by simp[h0])])
  clear h0 hA
  go_enter_defers Tryz.func21,Tryz.ntmps21
  go_wp2_with fail
  refine(HBo.out H0.out).mono ?_
  rintro e w2 ⟨cb,kb,wb,top,rfl,hE,hK2,hB2⟩
  obtain⟨w3,hw3⟩:∃w3,w2.alloc (.cells #[.int .i64 0] 3)=w3:=⟨_,rfl⟩
  have hb3:=Yn hw3
  have hn3:=Yv hw3
  have hB3:=Xb hB2 hb3
  have hx3:=Xh hB3 Hx.out
  obtain⟨d0,d1,d2,d3,d4⟩:=gb5 hx3
  have hsz:=hB2.size
  have hN:=Xn5 P w2.heap.size (fun b hb=>by have:=hP b hb;omega) t x 0 w3 (Ht.out.keep (fun b hb hlt=>(Xb HB1.out hB3).block b hlt) (Xb HB1.out hB3).size fun _ h=>h) hn3 (by omega)
  have HN:Hid (Calls Tryz.prog 68 #[.agg #[.int .i64 x.rule,.int .i64 x.item,.int .i64 x.frm,.int .i64 x.unt,.slice x.kids.addr x.kids.len x.kids.cap],.pointer (some ⟨w2.heap.size,0,none⟩)] (w2.alloc (.cells #[.int .i64 0] 3)) (Xgj t 0 w2.heap.size w3)):=by
   show Calls _ _ _ _ _
   rw[hw3]
   exact hN
  rw[← hw3] at d0 d1 d2 d3 d4
  have HE3:=Xa (hE.ext hb3)
  have HB3:=Xa hB3
  have htop:=hE.top
  clear hw3
  clear hN hE hK2 hB2 hb3 hn3 hx3 hB3
  go_wp2_with fail
  refine HN.out.mono ?_
  rintro e w4 ⟨hO,h4⟩
  have he4:w4.heap[w.heap.size+2]? = some (.cells #[.int .i64 0] 33 (0,0)):=(hO.block _ (Nat.lt_of_lt_of_le hz1 HB3.out.size) (by show w.heap.size+2≠w2.heap.size;omega)).trans ((HB3.out.block _ hz1).trans He.out)
  have hb4:Below w.heap.size w w4:=Yf (Xb HB1.out HB3.out) (Xb HB1.out HB3.out).size hO (by omega)
  rcases h4 with ⟨hle,rfl,hcell⟩|⟨hgt,rfl⟩
  rotate_left
  ·have HR:=Xa (HR0.out.trans (if_pos (by omega)))
   refine leaves_cons (f:=65) (args:=#[.pointer (some ⟨w.heap.size+2,0,none⟩)]) (by simp) (by simp[go_sem]) ?_
   refine(Us _ _ _ _ he4).mono ?_
   rintro e u' w'' ⟨rfl,rfl,rfl⟩
   simp[Leaves,settle,results,Tryz.results21,go_sem,Xj he4]
   exact⟨by rw[HR.out],Xct hb4 (by omega) _⟩
  have HR1:=HR0.out.trans (if_neg (by omega))
  obtain⟨es,cl,hkm⟩:=HE3.out.kmap
  have hE4:=HE3.out.only hO (fun b hb => .inr (by rw[show b=w2.heap.size from hb];exact htop)) ⟨es,cl,(hO.block _ (Xc hkm) (by have:=HE3.out.hk;show kb≠w2.heap.size;omega)).trans hkm⟩
  have hD:=Xiq HA.out.gram HA.out.items HG.out HI.out HA.out.few cb kb wb top P t x g.startNo w4 hE4 (Ht.out.keep (fun b hb hlt=>hb4.block b hlt) hb4.size fun _ h=>h) hfit (by omega)
  unfold T5 at hD
  have HD:=Xa hD
  have hx4:=(hO.block _ (Nat.lt_of_lt_of_le (Xc Hx.out) HB3.out.size) (by show w.heap.size+1≠w2.heap.size;omega)).trans (Xh HB3.out Hx.out)
  have hk4:=(hO.block _ (Nat.lt_of_lt_of_le (Xc Hk.out) HB3.out.size) (by show w.heap.size≠w2.heap.size;omega)).trans (Xh HB3.out Hk.out)
  obtain⟨y0,y1,y2,y3,y4⟩:=gb5 hx4
  have z3:=gblk hk4 3
  have hxf:x.frm=t.frm∧x.unt=t.unt:=by
   have h:=Ht.out
   cases t
   unfold TreeAt at h
   obtain⟨_,_,_,e,_⟩:=h
   simp at e
   exact⟨e.2.2.1,e.2.2.2.1⟩
  obtain⟨hx1,hx2⟩:=hxf
  obtain⟨⟨cc,bb⟩,hcc⟩:∃y,X6 g its.xs t g.startNo=y:=⟨_,rfl⟩
  rw[hcc] at HD HR1
  rw[← hx1,← hx2] at HR1
  have Hx4:=Xa hx4
  have He4:=Xa he4
  have Hb4:=Xa hb4
  have HR1:=Xa HR1
  clear hx4 hk4 he4 hb4 hcell hle hE4 hD hcc hx1 hx2 hO d0 d1 d2 d3 d4 c0 c1 c2 c3 c4 c5 hkm
  go_wp2_with fail
  refine HD.out.mono ?_
  rintro e w5 ⟨rfl,hB5⟩
  have hx5:=Xh hB5 Hx4.out
  obtain⟨v0,v1,v2,v3,v4⟩:=gb5 hx5
  have hev:w5.heap[w.heap.size+2]? = some (.cells #[.int .i64 0] 33 (0,0)):=Xh hB5 He4.out
  have ce:=Xj hev
  have fe:=Xf hev 0
  have HB9:=Xa (Xb Hb4.out hB5)
  have Hev:=Xa hev
  clear hx5 hev hB5 HD y0 y1 y2 y3 y4 z3
  have hend:∀(v:Value) (ok:Bool) (c:Int),Vv g its.xs n t=(c,ok,0)→Xej g its n t w (.returned (.tuple #[.int .i64 c,.bool ok,.int .i64 0])) (w5.setCell ⟨w.heap.size+2,0,none⟩ (.int .i64 0)):=fun _ ok c h=>⟨by rw[h],Xct HB9.out (by omega) _⟩
  have Hend:=Xa hend
  clear hend
  cases bb
  ·have HR:=Xa (HR1.out.trans (if_pos (.inl rfl)))
   clear HR1
   go_wp2_with fail
   refine leaves_cons (f:=65) (args:=#[.pointer (some ⟨w.heap.size+2,0,none⟩)]) (by simp) (by simp[go_sem]) ?_
   refine(Zd _ _).mono ?_
   rintro e u' w'' ⟨rfl,rfl,rfl⟩
   have cs:=Xj (Xr Hev.out 0 (.int .i64 0))
   simp[Leaves,settle,results,Tryz.results21,go_sem,ce]
   exact Hend.out undef _ _ HR.out
  by_cases h1:x.frm=0
  rotate_left
  ·have HR:=Xa (HR1.out.trans (if_pos (.inr (.inl h1))))
   have g1:(x.frm != 0)=true:=by simpa using h1
   have g2:(x.frm == 0)=false:=by simpa using h1
   clear HR1
   go_wp2_with fail
   refine leaves_cons (f:=65) (args:=#[.pointer (some ⟨w.heap.size+2,0,none⟩)]) (by simp) (by simp[go_sem]) ?_
   refine(Zd _ _).mono ?_
   rintro e u' w'' ⟨rfl,rfl,rfl⟩
   have cs:=Xj (Xr Hev.out 0 (.int .i64 0))
   simp[Leaves,settle,results,Tryz.results21,go_sem,ce]
   exact Hend.out undef _ _ HR.out
  have g1:(x.frm != 0)=false:=by simpa using h1
  have g2:(x.frm == 0)=true:=by simpa using h1
  by_cases h2:x.unt=n
  rotate_left
  ·have HR:=Xa (HR1.out.trans (if_pos (.inr (.inr h2))))
   have g3:(x.unt != n)=true:=by simpa using h2
   have g4:(x.unt == n)=false:=by simpa using h2
   clear HR1
   go_wp2_with fail
   refine leaves_cons (f:=65) (args:=#[.pointer (some ⟨w.heap.size+2,0,none⟩)]) (by simp) (by simp[go_sem]) ?_
   refine(Zd _ _).mono ?_
   rintro e u' w'' ⟨rfl,rfl,rfl⟩
   have cs:=Xj (Xr Hev.out 0 (.int .i64 0))
   simp[Leaves,settle,results,Tryz.results21,go_sem,ce]
   exact Hend.out undef _ _ HR.out
  have g3:(x.unt != n)=false:=by simpa using h2
  have g4:(x.unt == n)=true:=by simpa using h2
  have HR:=Xa (HR1.out.trans (if_neg (by simp[h1,h2])))
  clear HR1 h1 h2
  go_wp2_with fail
  refine leaves_cons (f:=65) (args:=#[.pointer (some ⟨w.heap.size+2,0,none⟩)]) (by simp) (by simp[go_sem]) ?_
  refine(Zd _ _).mono ?_
  rintro e u' w'' ⟨rfl,rfl,rfl⟩
  have cs:=Xj (Xr Hev.out 0 (.int .i64 0))
  simp[Leaves,settle,results,Tryz.results21,go_sem,ce]
  exact Hend.out undef _ _ HR.out
def Xpc (t t':TreeV) (w:World) (e:Ending) (w':World):Prop:=∃b:Bool,e = .returned (.bool b)∧(b=true↔t=t')∧Below w.heap.size w w'
theorem Xoj (l l':List TreeV) (m:Nat) (h1:l.take m=l'.take m) (hl:m<l.length) (hl':m<l'.length):(l.take (m+1)=l'.take (m+1))↔l[m]=l'[m]:=by
 rw[List.take_succ_eq_append_getElem hl,List.take_succ_eq_append_getElem hl',h1]
 exact⟨fun h=>by have:=List.append_cancel_left h;simpa using this,fun h=>by rw[h]⟩
set_option maxHeartbeats 1000000 in
theorem Qm (P P':Nat→Prop):∀(t:TreeV) (x:TreeG) (t':TreeV) (y:TreeG) (w:World),TreeAt w P t [.int .i64 x.rule,.int .i64 x.item,.int .i64 x.frm,.int .i64 x.unt,.slice x.kids.addr x.kids.len x.kids.cap]→TreeAt w P' t' [.int .i64 y.rule,.int .i64 y.item,.int .i64 y.frm,.int .i64 y.unt,.slice y.kids.addr y.kids.len y.kids.cap] →
  Calls Tryz.prog 20 #[.agg #[.int .i64 x.rule,.int .i64 x.item,.int .i64 x.frm,.int .i64 x.unt,.slice x.kids.addr x.kids.len x.kids.cap],.agg #[.int .i64 y.rule,.int .i64 y.item,.int .i64 y.frm,.int .i64 y.unt,.slice y.kids.addr y.kids.len y.kids.cap]] w (Xpc t t' w) :=
 TreeV.ind fun r j i u l ih x t' y w ht ht'=>by
  obtain⟨r',j',i',u',l'⟩:=t'
  unfold TreeAt at ht ht'
  obtain⟨A,cap,css,e,hcap1,hcap2,hA0,hIn,hr,hkids⟩:=ht
  obtain⟨xr,xj,xi,xu,⟨xa,xl,xc⟩⟩:=x
  simp only[List.cons.injEq,Value.int.injEq,Value.slice.injEq,true_and,and_true] at e
  obtain⟨rfl,rfl,rfl,rfl,rfl,rfl,rfl⟩:=e
  obtain⟨A',cap',css',e,hcap1',hcap2',hA0',hIn',hr',hkids'⟩:=ht'
  obtain⟨yr,yj,yi,yu,⟨ya,yl,yc⟩⟩:=y
  simp only[List.cons.injEq,Value.int.injEq,Value.slice.injEq,true_and,and_true] at e
  obtain⟨rfl,rfl,rfl,rfl,rfl,rfl,rfl⟩:=e
  obtain⟨w1,hw1⟩:∃w1,(w.alloc (.cells #[.int .i64 xr,.int .i64 xj,.int .i64 xi,.int .i64 xu,.slice xa l.length xc] 37)).alloc (.cells #[.int .i64 yr,.int .i64 yj,.int .i64 yi,.int .i64 yu,.slice ya l'.length yc] 37)=w1:=⟨_,rfl⟩
  have hB1:Below w.heap.size w w1:=by rw[← hw1];exact Xe (Xe (Below.refl _ _) _) _
  have hz1:w1.heap[w.heap.size]? = some (.cells #[.int .i64 xr,.int .i64 xj,.int .i64 xi,.int .i64 xu,.slice xa l.length xc] 37 (0,0)):=by rw[← hw1];exact(Below.heap_alloc _ _ _ (by simp)).trans (World.alloc_heap_new _ _)
  have hz2:w1.heap[w.heap.size+1]? = some (.cells #[.int .i64 yr,.int .i64 yj,.int .i64 yi,.int .i64 yu,.slice ya l'.length yc] 37 (0,0)):=by rw[← hw1];exact X0 _ _ _ (by simp)
  have Hr:=Xa hr
  have Hkids:=Xa hkids
  have Hr':=Xa hr'
  have Hkids':=Xa hkids'
  have Hih:=Xa ih
  obtain⟨y0,y1,y2,y3,y4⟩:=gb5 hz1
  obtain⟨z0,z1,z2,z3,z4⟩:=gb5 hz2
  have Hz1:=Xa hz1
  have Hz2:=Xa hz2
  clear hr hkids hIn ih hA0 hr' hkids' hIn' hA0' hz1 hz2
  by_cases q1:xr≠yr
  ·go_enter Tryz.func20,Tryz.ntmps20
   go_wp2_with fail
   go_ret
   exact⟨false,rfl,⟨(fun h=>by cases h),fun h=>by injection h with h1;exact absurd h1 q1⟩,hB1⟩
  by_cases q2:xj≠yj
  ·go_enter Tryz.func20,Tryz.ntmps20
   go_wp2_with fail
   go_ret
   exact⟨false,rfl,⟨(fun h=>by cases h),fun h=>by injection h with h1 h2;exact absurd h2 q2⟩,hB1⟩
  by_cases q3:xi≠yi
  ·go_enter Tryz.func20,Tryz.ntmps20
   go_wp2_with fail
   go_ret
   exact⟨false,rfl,⟨(fun h=>by cases h),fun h=>by injection h with h1 h2 h3;exact absurd h3 q3⟩,hB1⟩
  by_cases q4:xu≠yu
  ·go_enter Tryz.func20,Tryz.ntmps20
   go_wp2_with fail
   go_ret
   exact⟨false,rfl,⟨(fun h=>by cases h),fun h=>by injection h with h1 h2 h3 h4;exact absurd h4 q4⟩,hB1⟩
  by_cases q5:l.length≠l'.length
  ·go_enter Tryz.func20,Tryz.ntmps20
   go_wp2_with fail
   go_ret
   exact⟨false,rfl,⟨(fun h=>by cases h),fun h=>by injection h with h1 h2 h3 h4 h5;exact absurd (congrArg List.length h5) q5⟩,hB1⟩
  obtain rfl:xr=yr:=by simpa using q1
  obtain rfl:xj=yj:=by simpa using q2
  obtain rfl:xi=yi:=by simpa using q3
  obtain rfl:xu=yu:=by simpa using q4
  have q6:l.length=l'.length:=by simpa using q5
  clear q1 q2 q3 q4 q5
  rw[q6] at hw1 y4 Hz1 ⊢
  have HQ:=Xa q6
  clear q6
  go_enter Tryz.func20,Tryz.ntmps20
  go_wp2_with fail
  go_loopw [5] (fun iv wr=>∃m:Nat,m≤l'.length∧iv = .int .i64 m∧Below w1.heap.size w1 wr∧Hid (l.take m=l'.take m)) (fun iv _=>l'.length-(intOf iv).toNat)
  case atStart=>exact⟨0,Nat.zero_le _,rfl,(Below.refl _ _),rfl⟩
  case round =>
   obtain⟨m,hm,rfl,hB,Hm⟩:=hrel
   have p4:=gblk (Xh hB Hz1.out) 4
   have s4:=gblk (Xh hB Hz2.out) 4
   by_cases hlt':m<l'.length
   ·have hlt:m<l.length:=by rw[HQ.out];exact hlt'
    obtain⟨b,off,B,cp,rfl,hb,htm,q0,q1,q2,q3,q4⟩:=Uz Hr.out Hkids.out hlt
    obtain⟨b',off',B',cp',rfl,hb',htm',r0,r1,r2,r3,r4⟩:=Uz Hr'.out Hkids'.out hlt'
    have hBw:=Xb hB1 hB
    have hbl:=hBw.block b hb
    have hbl':=hBw.block b' hb'
    have a0:=(World.cell?_of_block (a:=⟨b,off+m*5,none⟩) hbl).trans q0
    have a1:=(World.cell?_of_block (a:=⟨b,off+m*5+1,none⟩) hbl).trans q1
    have a2:=(World.cell?_of_block (a:=⟨b,off+m*5+2,none⟩) hbl).trans q2
    have a3:=(World.cell?_of_block (a:=⟨b,off+m*5+3,none⟩) hbl).trans q3
    have a4:=(World.cell?_of_block (a:=⟨b,off+m*5+4,none⟩) hbl).trans q4
    have b0:=(World.cell?_of_block (a:=⟨b',off'+m*5,none⟩) hbl').trans r0
    have b1:=(World.cell?_of_block (a:=⟨b',off'+m*5+1,none⟩) hbl').trans r1
    have b2:=(World.cell?_of_block (a:=⟨b',off'+m*5+2,none⟩) hbl').trans r2
    have b3:=(World.cell?_of_block (a:=⟨b',off'+m*5+3,none⟩) hbl').trans r3
    have b4:=(World.cell?_of_block (a:=⟨b',off'+m*5+4,none⟩) hbl').trans r4
    have hc:=fun (v:World) (hv:Below wr.heap.size wr v)=>Hih.out l[m] (List.getElem_mem hlt) ⟨l[m].rule,l[m].item,l[m].frm,l[m].unt,⟨B,l[m].kids.length,cp⟩⟩ l'[m] ⟨l'[m].rule,l'[m].item,l'[m].frm,l'[m].unt,⟨B',l'[m].kids.length,cp'⟩⟩ v (htm.ext (Xb hBw hv)) (htm'.ext (Xb hBw hv))
    have Hc:=Xa hc
    have Htk:=Xa (Xoj l l' m Hm.out hlt hlt')
    have HB:=Xa hB
    clear q0 q1 q2 q3 q4 r0 r1 r2 r3 r4 hbl hbl' htm htm' hc hBw
    generalize l[m].rule=g0 at *
    generalize l[m].item=g1 at *
    generalize l[m].frm=g2 at *
    generalize l[m].unt=g3 at *
    generalize l[m].kids.length=g4 at *
    generalize l'[m].rule=h0 at *
    generalize l'[m].item=h1 at *
    generalize l'[m].frm=h2 at *
    generalize l'[m].unt=h3 at *
    generalize l'[m].kids.length=h4 at *
    go_wp2_with fail
    refine wpIn_wide (n:=0) |>.1 ?_
    have hwf:∀f,Fence.wide.fn f=True:=fun f=>by simp[Fence.wide]
    refine Qv 10 (by kernel_rfl) (by kernel_rfl) ?_
    simp only[List.take_succ_cons,List.take_zero,List.drop_succ_cons,List.drop_zero]
    repeat still_step
    refine wpStill_nil ?_
    gi_wp2_with (refine⟨rfl,(callsIn_wide.2 (Hc.out _ (Xi (Below.refl _ _)))).mono ?_⟩;rintro e w4 ⟨bv,rfl,hiff,hB4⟩;have Hiff:=Xa hiff;clear hiff;cases bv)
    ·have HBf:=Xa (Xb hB1 (Xb (Xi HB.out) hB4))
     clear hB hB4 hB1
     go_wp2
     go_ret
     exact⟨false,rfl,⟨(fun h=>by cases h),fun h=>by injection h with _ _ _ _ h5;exact absurd (Hiff.out.2 (List.getElem_of_eq h5 hlt)) (by simp)⟩,HBf.out⟩
    ·have HBf:=Xa (Xb (Xi HB.out) hB4)
     clear hB hB4
     go_wp2
     go_roundw
     case rel =>
      first|exact⟨m+1,by omega,by go_num,HBf.out,Htk.out.2 (Hiff.out.1 rfl)⟩|exact⟨m+1,by omega,by go_num,HBf.out,Htk.out.2 (Hiff.out.1 trivial)⟩
     case measure=>simp[intOf];omega
   ·have He:=Xa (show l=l' by
     have h1:=Hm.out
     rw[show m=l'.length by omega,List.take_length,← HQ.out,List.take_length] at h1
     exact h1)
    have HB:=Xa (Xb hB1 hB)
    clear hm hB hB1 Hm
    go_wp2
    go_ret
    exact⟨true,rfl,⟨fun _=>by rw[He.out],fun _=>rfl⟩,HB.out⟩
end Go.Proofs.YtolpbjjapodmnaaGreatDoor
