/- Texts of this claim, one after the other: R29s, R29t, R29u, Law29q. -/
import Derived.Test.YthojaplnimoacaaGreatDoorM17
import Derived.Test.YthojaplnimoacaaGreatDoorM10
import Derived.Test.YthojaplnimoacaaGreatDoorM23
import Derived.Test.YthojaplnimoacaaGreatDoorM24
import Derived.Test.YthojaplnimoacaaGreatDoorM29
namespace Go.Proofs.YthojaplnimoacaaGreatDoor
open Go.RowKit Go.Han
attribute [local irreducible] wpStill wpQuiet
set_option maxRecDepth 100000
def Xu2 (R:Int×Bool) (w:World) (e:Ending) (w':World):Prop:=e = .returned (.tuple #[.int .i64 R.1,.bool R.2])∧Below w.heap.size w w'
def KidC (P:Nat→Prop) (g:Gram) (its:SlS ItemG) (e0:World) (l:List TreeV):Prop :=
 ∀t∈l,∀(x:TreeG) (c:Int) (w:World),Below e0.heap.size e0 w→TreeAt w P t [.int .i64 x.rule,.int .i64 x.item,.int .i64 x.frm,.int .i64 x.unt,.slice x.kids.addr x.kids.len x.kids.cap]→Z6 t→X5 t≤1024→Calls Tryz.prog 59 #[.agg #[.string g.name,.slice g.cats.addr g.cats.xs.length g.cats.cap,.string g.start,.int .i64 g.startNo,.slice g.entries.addr g.entries.xs.length g.entries.cap,.slice g.rules.addr g.rules.xs.length g.rules.cap],.slice its.addr its.xs.length its.cap,.agg #[.int .i64 x.rule,.int .i64 x.item,.int .i64 x.frm,.int .i64 x.unt,.slice x.kids.addr x.kids.len x.kids.cap],.int .i64 c] w (Xu2 (X6 g its.xs t c) w)
set_option maxHeartbeats 8000000 in
theorem Xu8 {g:Gram} {its:SlS ItemG} {N:Nat} (hg:Yu g) (hI:Zr N g.cats.xs.length its.xs) (h1:∀x∈its.xs,1≤x.tgt.xs.length) {e0:World} (P:Nat→Prop) (ru:RuleG) (hru:ru∈g.rules.xs) (xi xu:Int) (l:List TreeV) (xa:Option Addr) (xc:Nat) (css:List (List Value)) (w:World)
  (hw:Below e0.heap.size e0 w) (hil:ItemsAt e0 its) (hrl:ru.lies e0) (hcap1:l.length≤xc) (hcap2:xc≤9223372036854775807) (hr:Rd w xa css.flatten) (hkids:KidsAt w P l css) (fi:I6 xi) (fu:I6 xu) (fl:Ve l) (hnod:1+Xp l≤1024) (ih:KidC P g its e0 l) :
  Calls Tryz.prog 106 #[.agg #[.string g.name,.slice g.cats.addr g.cats.xs.length g.cats.cap,.string g.start,.int .i64 g.startNo,.slice g.entries.addr g.entries.xs.length g.entries.cap,.slice g.rules.addr g.rules.xs.length g.rules.cap],.slice its.addr its.xs.length its.cap,.agg #[.string ru.cat,.int .i64 ru.no,.slice ru.parts.addr ru.parts.xs.length ru.parts.cap,.slice ru.gives.addr ru.gives.xs.length ru.gives.cap,.int .i64 ru.cost],.slice xa l.length xc,.int .i64 xi,.int .i64 xu] w (Xu2 (Z9 (Xm its.xs) ru.parts.xs (Yl g its.xs l) xi xu ru.cost) w):=by
 obtain⟨W1,hW1⟩:∃v,(w.alloc (.cells #[.string g.name,.slice g.cats.addr g.cats.xs.length g.cats.cap,.string g.start,.int .i64 g.startNo,.slice g.entries.addr g.entries.xs.length g.entries.cap,.slice g.rules.addr g.rules.xs.length g.rules.cap] 26)).alloc (.cells #[.string ru.cat,.int .i64 ru.no,.slice ru.parts.addr ru.parts.xs.length ru.parts.cap,.slice ru.gives.addr ru.gives.xs.length ru.gives.cap,.int .i64 ru.cost] 104)=v:=⟨_,rfl⟩
 have HB1:Hid (Below w.heap.size w W1):=by rw[← hW1];exact Xe (Xe (Below.refl _ _) _) _
 have HG1:Hid (W1.heap[w.heap.size]? = some (.cells #[.string g.name,.slice g.cats.addr g.cats.xs.length g.cats.cap,.string g.start,.int .i64 g.startNo,.slice g.entries.addr g.entries.xs.length g.entries.cap,.slice g.rules.addr g.rules.xs.length g.rules.cap] 26 (0,0))):=by rw[← hW1];exact(Below.heap_alloc _ _ _ (by simp)).trans (World.alloc_heap_new _ _)
 have HR1:Hid (W1.heap[w.heap.size+1]? = some (.cells #[.string ru.cat,.int .i64 ru.no,.slice ru.parts.addr ru.parts.xs.length ru.parts.cap,.slice ru.gives.addr ru.gives.xs.length ru.gives.cap,.int .i64 ru.cost] 104 (0,0))):=by rw[← hW1];exact X0 _ _ _ (by simp)
 have hgr:=hg.rule _ hru
 obtain⟨R,hR⟩:∃R,Z9 (Xm its.xs) ru.parts.xs (Yl g its.xs l) xi xu ru.cost=R:=⟨_,rfl⟩
 have hst:=LiesSt.start (g:=g) (items:=its.xs) (ps:=ru.parts.xs) (l:=l) (k:=xu) hgr.2.2.1 hgr.2.2.2.1 fi
 rw[hR] at hst ⊢
 have Hst0:=Xa hst
 have HI:=Xa (fun V (hV:Below w.heap.size w V)=>hil.ext (Xb hw hV))
 have HP:=Xa (fun V (hV:Below w.heap.size w V)=>RuleG.lies.ext hrl (Xb hw hV))
 have HE:=Xa (fun V (hV:Below w.heap.size w V)=>Xb hw hV)
 have Hih:=Xa ih
 have Hr:=Xa hr
 have Hkids:=Xa hkids
 have Hfl:=Xa fl
 have Hnod:=Xa hnod
 have hpl4:=hgr.2.2.2.2.2
 have hcost:0≤ru.cost∧ru.cost≤1000:=⟨hgr.2.2.1,hgr.2.2.2.1⟩
 have hk:=HR1.out
 have c4:=gblk hk 4
 clear hR hst ih hr hkids fl hnod hgr hk hil hrl hw
 go_enter Tryz.func106,Tryz.ntmps106
 go_wp2_with fail
 clear hW1 c4
 go_loopw [4,14,15,16] (fun vi vc va iv wr=>∃(p a:Nat) (at_ cost:Int),p≤ru.parts.xs.length∧a≤l.length∧vi = .int .i64 at_∧vc = .int .i64 cost∧va = .int .i64 (a:Int)∧iv = .int .i64 (p:Int)∧Below W1.heap.size W1 wr∧Hid (LiesSt g its.xs R ru.parts.xs l xu p (l.drop a) at_ cost)) (fun _ _ _ iv _=>ru.parts.xs.length-(intOf iv).toNat)
 case atStart=>exact⟨0,0,xi,ru.cost,Nat.zero_le _,Nat.zero_le _,rfl,rfl,rfl,rfl,Below.refl _ _,Hst0.out⟩
 case round =>
  obtain⟨p,a,at_,cost,hp,ha,rfl,rfl,rfl,rfl,hB,Hst⟩:=hrel
  have HBw:=Xa (Xb HB1.out hB)
  have hk:=Xh hB HR1.out
  have c0:=gblk hk 0
  have c1:=gblk hk 1
  have c2:=gblk hk 2
  have c3:=gblk hk 3
  have c4:=gblk hk 4
  by_cases hlt:p<ru.parts.xs.length
  rotate_left
  ·obtain rfl:p=ru.parts.xs.length:=by omega
   have hlI:¬(ru.parts.xs.length:Int)<(ru.parts.xs.length:Int):=by omega
   have hd:=Hst.out.done
   have HD:Hid (R=(cost,decide (a=l.length) && decide (at_=xu))):=by
    show _=_
    rw[hd]
    congr 2
    rw[decide_eq_decide]
    constructor
    ·intro h
     have:=congrArg List.length h
     rw[List.length_drop] at this
     simp at this
     omega
    ·intro h
     rw[h,List.drop_length]
   obtain⟨b1,hb1⟩:∃b,decide (a=l.length)=b:=⟨_,rfl⟩
   obtain⟨b2,hb2⟩:∃b,decide (at_=xu)=b:=⟨_,rfl⟩
   have e1:((a:Int) == (l.length:Int))=b1:=by
    rw[← hb1]
    by_cases h:a=l.length
    ·simp[h]
    ·have h2:¬(a:Int)=(l.length:Int):=by omega
     simp[h,h2]
   have e2:(at_ == xu)=b2:=by rw[← hb2];by_cases h:at_=xu<;>simp[h]
   rw[hb1,hb2] at HD
   clear hb1 hb2 hk hlt hd hp ha Hst
   cases b1
   ·go_wp2_with fail
    exact bodyPost_ret (v:=.tuple #[.int .i64 cost,.bool false]) (by simp[results,Tryz.results106,go_sem]) rfl ⟨by rw[HD.out];rfl,HBw.out⟩
   ·go_wp2_with fail
    exact bodyPost_ret (v:=.tuple #[.int .i64 cost,.bool b2]) (by simp[results,Tryz.results106,go_sem]) rfl ⟨by rw[HD.out];rfl,HBw.out⟩
  have hpI:(p:Int)<(ru.parts.xs.length:Int):=by omega
  obtain⟨bP,oP,hA,_,hcP⟩:=(HP.out _ (Below.refl _ _)).1.at_ PartG.size_cells (by decide) hlt
  have HPc:=Xa (fun (V:World) (hV:Below w.heap.size w V)=>hcP p hlt V hV)
  have S1:=Xa (fun ht hn=>Hst.out.text_no hlt ht hn)
  have S2:=Xa (fun ht hn hw=>Hst.out.text hlt ht hn hw fu)
  have S3:=Xa (fun (e:l.drop a=[]) ht=>(show R=(0,false) by have h:=Hst.out;rw[e] at h;exact h.none hlt ht))
  have S4:=Xa (fun t ks' (e:l.drop a=t :: ks') ht hn=>(show R=(0,false) by have h:=Hst.out;rw[e] at h;exact h.cat_frm hlt ht hn))
  have S5:=Xa (fun t ks' (e:l.drop a=t :: ks') ht hf hn=>(show R=(0,false) by have h:=Hst.out;rw[e] at h;exact h.cat_no hlt ht hf hn))
  have S6:=Xa (fun t ks' (e:l.drop a=t :: ks') ht hf cc hn=>(show LiesSt g its.xs R ru.parts.xs l xu (p+1) ks' t.unt (cost+cc) by have h:=Hst.out;rw[e] at h;exact h.cat hg hI (Qb Hfl.out) hlt ht hf hn))
  have hfa:=Hst.out.fit
  have hlo:=Hst.out.lo
  have hhi:=Hst.out.hi
  rw[hA] at c2
  have HA:=Xa hA
  obtain⟨q,hq⟩:∃q,ru.parts.xs[p]=q:=⟨_,rfl⟩
  rw[hq] at HPc S1 S2 S3 S4 S5 S6
  have p1:=HPc.out wr HBw.out 1 _ rfl
  have p2:=HPc.out wr HBw.out 2 _ rfl
  have HK:=Xa hk
  clear hA hcP hq hk
  by_cases ht:q.text.size≠0
  ·have k3:=Zp (s:=q.text) (by omega)
   have k4:¬q.text.toList=[]:=by intro h;rw[h] at k3;cases k3
   by_cases hat:at_<xu
   rotate_left
   ·have g1:decide (xu≤at_)=true:=decide_eq_true (by omega)
    have HR9:=Xa (S1.out ht (fun h=>hat h.1))
    clear S1 S2 S3 S4 S5 S6 hfa hlo hhi hat
    go_wp2_with fail
    exact bodyPost_ret (v:=.tuple #[.int .i64 0,.bool false]) (by simp[results,Tryz.results106,go_sem]) rfl ⟨by rw[HR9.out],HBw.out⟩
   have g1:decide (xu≤at_)=false:=decide_eq_false (by omega)
   have hsd:=Xrs its at_ q.text wr (HI.out _ HBw.out) h1
   cases hst:Xm its.xs at_ q.text
   ·rw[hst] at hsd
    have HSd:=Xa hsd
    have HR9:=Xa (S1.out ht (fun h=>by rw[hst] at h;cases h.2))
    clear S1 S2 S3 S4 S5 S6 hfa hlo hhi hat hsd hst
    go_wp2_with fail
    refine HSd.out.mono ?_
    rintro e V ⟨rfl,rfl⟩
    go_wp2_with fail
    exact bodyPost_ret (v:=.tuple #[.int .i64 0,.bool false]) (by simp[results,Tryz.results106,go_sem]) rfl ⟨by rw[HR9.out],HBw.out⟩
   ·rw[hst] at hsd
    have HSd:=Xa hsd
    have Hnx:=Xa (S2.out ht hat hst)
    have hwa:IntKind.i64.wrap (at_+1)=at_+1:=IntWalk.i64_in _ (by unfold I6 at hfa fu;omega)
    clear S1 S2 S3 S4 S5 S6 hfa hlo hhi hat hsd hst
    go_wp2_with fail
    refine HSd.out.mono ?_
    rintro e V ⟨rfl,rfl⟩
    go_wp2_with fail
    go_roundw
    case rel=>exact⟨p+1,a,at_+1,cost,by omega,ha,by go_num,rfl,rfl,by go_num,hB,Hnx.out⟩
    case measure=>simp[intOf];omega
  ·have k3:=Zq (s:=q.text) (by omega)
   have k4:q.text.toList=[]:=List.isEmpty_iff.1 k3
   by_cases hal:a<l.length
   rotate_left
   ·obtain rfl:a=l.length:=by omega
    have HR9:=Xa (S3.out (List.drop_length ..) ht)
    clear S1 S2 S3 S4 S5 S6 hfa hlo hhi
    go_wp2_with fail
    exact bodyPost_ret (v:=.tuple #[.int .i64 0,.bool false]) (by simp[results,Tryz.results106,go_sem]) rfl ⟨by rw[HR9.out],HBw.out⟩
   obtain⟨b0,off0,B',cp',rfl,hb0,ht0,n0,n1,n2,n3,n4⟩:=Uz Hr.out Hkids.out hal
   have hbl:=HBw.out.block b0 hb0
   have hdrop:l.drop a=l[a] :: l.drop (a+1):=List.drop_eq_getElem_cons hal
   have htl:=List.getElem_mem hal
   have S4':=Xa (S4.out _ _ hdrop ht)
   have S5':=Xa (S5.out _ _ hdrop ht)
   have S6':=Xa (S6.out _ _ hdrop ht)
   have hfits:=Qb Hfl.out _ htl
   have hnd:X5 l[a]≤1024:=by have:=Xbu htl;have:=Hnod.out;omega
   have hc:=fun V (hV:Below wr.heap.size wr V)=>Hih.out l[a] htl ⟨l[a].rule,l[a].item,l[a].frm,l[a].unt,⟨B',l[a].kids.length,cp'⟩⟩ q.no V (HE.out _ (Xb HBw.out hV)) (ht0.ext (Xb HBw.out hV)) hfits hnd
   have hpno:∀V,Below wr.heap.size wr V→V.cell? ⟨bP,oP+p*3+1,none⟩=some (.int .i64 q.no):=fun V hV=>HPc.out V (Xb HBw.out hV) 1 _ rfl
   have hgk:=Xh hB HG1.out
   have HC:Hid (∀V,Below wr.heap.size wr V→V.heap[w.heap.size]? = some (.cells #[.string g.name,.slice g.cats.addr g.cats.xs.length g.cats.cap,.string g.start,.int .i64 g.startNo,.slice g.entries.addr g.entries.xs.length g.entries.cap,.slice g.rules.addr g.rules.xs.length g.rules.cap] 26 (0,0))∧V.cell? ⟨w.heap.size+1,2,none⟩=some (.slice (some ⟨bP,oP,none⟩) ru.parts.xs.length ru.parts.cap)∧V.cell? ⟨bP,oP+p*3+1,none⟩=some (.int .i64 q.no)∧V.cell? ⟨b0,off0+a*5,none⟩=some (.int .i64 l[a].rule)∧V.cell? ⟨b0,off0+a*5+1,none⟩=some (.int .i64 l[a].item)∧V.cell? ⟨b0,off0+a*5+2,none⟩=some (.int .i64 l[a].frm)∧V.cell? ⟨b0,off0+a*5+3,none⟩=some (.int .i64 l[a].unt)∧V.cell? ⟨b0,off0+a*5+4,none⟩=some (.slice B' l[a].kids.length cp')):=fun V hV=>by
    have hbV:=(hV.block b0 (Nat.lt_of_lt_of_le hb0 HBw.out.size)).trans hbl
    exact⟨Xh hV hgk,by have h:=gblk (Xh hV HK.out) 2;rw[HA.out] at h;exact h,hpno V hV,(World.cell?_of_block (a:=⟨b0,off0+a*5,none⟩) hbV).trans n0,(World.cell?_of_block (a:=⟨b0,off0+a*5+1,none⟩) hbV).trans n1,(World.cell?_of_block (a:=⟨b0,off0+a*5+2,none⟩) hbV).trans n2,(World.cell?_of_block (a:=⟨b0,off0+a*5+3,none⟩) hbV).trans n3,(World.cell?_of_block (a:=⟨b0,off0+a*5+4,none⟩) hbV).trans n4⟩
   obtain⟨⟨cc,bb⟩,hcc⟩:∃x,X6 g its.xs l[a] q.no=x:=⟨_,rfl⟩
   rw[hcc] at hc S5'
   have S6'':=Xa (fun hf=>S6'.out hf cc)
   rw[hcc] at S6''
   have hbd:bb=true→0≤cc∧cc≤1000*X5 l[a]:=fun h=>Xdp hg hI (by rw[hcc,h])
   have Hc:=Xa hc
   have hli:(a:Int)<(l.length:Int):=by omega
   have hge:decide ((l.length:Int)≤(a:Int))=false:=decide_eq_false (by omega)
   obtain⟨-, -, -, -, -,m2,m3, -⟩:=HC.out wr (Below.refl _ _)
   clear S1 S2 S3 S4 S5 S6 n0 n1 n2 n3 n4 hbl hdrop htl hfits hc hpno hgk ht0 hcc
   generalize l[a].rule=a0 at *
   generalize l[a].item=a1 at *
   generalize l[a].frm=a2 at *
   generalize l[a].unt=a3 at *
   generalize l[a].kids.length=a4 at *
   generalize X5 l[a]=nd at *
   by_cases hf:a2=at_
   rotate_left
   ·have g1:(a2 != at_)=true:=by simpa using hf
    have HR9:=Xa (S4'.out hf)
    clear S4' S5' S6' S6'' hfa hlo hhi hf
    go_wp2_with fail
    exact bodyPost_ret (v:=.tuple #[.int .i64 0,.bool false]) (by simp[results,Tryz.results106,go_sem]) rfl ⟨by rw[HR9.out],HBw.out⟩
   have g1:(a2 != at_)=false:=by simpa using hf
   have HR9:Hid (bb=false→R=(0,false)):=fun h=>S5'.out hf h
   have Hnx:Hid (bb=true→LiesSt g its.xs R ru.parts.xs l xu (p+1) (l.drop (a+1)) a3 (cost+cc)):=fun h=>S6''.out hf (by rw[h])
   have hwc:bb=true→IntKind.i64.wrap (cost+cc)=cost+cc:=fun h=>IntWalk.i64_in _ (by have h1:=(Hnx.out h).lo;have h2:=(Hnx.out h).hi;have:=Hnod.out;omega)
   have hwa:IntKind.i64.wrap ((a:Int)+1)=(a:Int)+1:=IntWalk.i64_in _ (by omega)
   clear S4' S5' S6' S6'' hfa hlo hhi hf hbd
   have Hwc:=Xa hwc
   clear hwc
   go_wp2_with fail
   clear m2 m3
   refine wpIn_wide (n:=0) |>.1 ?_
   refine Y4 _ ?_ (fun _ _ h=>h)
   refine Xo (fun V=>Below wr.heap.size wr V) (by kernel_rfl) ?_
   have hC0:Below wr.heap.size wr wr.drew:=Xi (Below.refl _ _)
   refine Xd (i:=0) (v:=.agg #[.string g.name,.slice g.cats.addr g.cats.xs.length g.cats.cap,.string g.start,.int .i64 g.startNo,.slice g.entries.addr g.entries.xs.length g.entries.cap,.slice g.rules.addr g.rules.xs.length g.rules.cap]) rfl (by kernel_rfl) (fun _ _ _ h=>h) (fun V hV=>(by obtain⟨h1, -⟩:=HC.out V hV;have e0:=gblk h1 0;have e1:=gblk h1 1;have e2:=gblk h1 2;have e3:=gblk h1 3;have e4:=gblk h1 4;have e5:=gblk h1 5;clear h1;go_simp)) ?_
   refine Xd (i:=1) rfl (by kernel_rfl) (fun _ _ _ h=>h) (fun V hV=>(by skip;go_simp<;>rfl)) ?_
   refine Xd (i:=2) rfl (by kernel_rfl) (fun _ _ _ h=>h) (fun V hV=>(by skip;go_simp<;>rfl)) ?_
   refine Xd (i:=3) rfl (by kernel_rfl) (fun _ _ _ h=>h) (fun V hV=>(by skip;go_simp<;>rfl)) ?_
   refine Xd (i:=4) rfl (by kernel_rfl) (fun _ _ _ h=>h) (fun V hV=>(by skip;go_simp<;>rfl)) ?_
   refine Xd (i:=5) (v:=.agg #[.int .i64 a0,.int .i64 a1,.int .i64 a2,.int .i64 a3,.slice B' a4 cp']) rfl (by kernel_rfl) (fun _ _ _ h=>h) (fun V hV=>(by obtain⟨-, -, -,m0,m1,m2,m3,m4⟩:=HC.out V hV;go_simp)) ?_
   refine Xd (i:=6) rfl (by kernel_rfl) (fun _ _ _ h=>h) (fun V hV=>(by skip;go_simp<;>rfl)) ?_
   refine Xd (i:=7) rfl (by kernel_rfl) (fun _ _ _ h=>h) (fun V hV=>(by obtain⟨-,m5, -⟩:=HC.out V hV;go_simp<;>rfl)) ?_
   refine Xd (i:=8) rfl (by kernel_rfl) (fun _ _ _ h=>h) (fun V hV=>(by skip;go_simp<;>rfl)) ?_
   refine Xd (i:=9) rfl (by kernel_rfl) (fun _ _ _ h=>h) (fun V hV=>(by skip;go_simp<;>rfl)) ?_
   refine Xd (i:=10) rfl (by kernel_rfl) (fun _ _ _ h=>h) (fun V hV=>(by skip;go_simp<;>rfl)) ?_
   refine Xd (i:=11) rfl (by kernel_rfl) (fun _ _ _ h=>h) (fun V hV=>(by obtain⟨-, -,m6, -⟩:=HC.out V hV;go_simp<;>rfl)) ?_
   refine Xg (i:=12) hC0 (by kernel_rfl) rfl (fun K hK=>?_)
   go_simp
   refine⟨trivial,rfl,callsIn_wide.2 ((Hc.out _ hC0).mono ?_)⟩
   rintro e w4 ⟨rfl,hb4⟩
   refine hK _ _ ?_
   clear hK K
   have hB4:=Xb hC0 hb4
   refine Xd (i:=13) rfl (by kernel_rfl) (fun _ _ _ h=>h) (fun V hV=>(by skip;go_simp<;>rfl)) ?_
   refine Xd (i:=14) rfl (by kernel_rfl) (fun _ _ _ h=>h) (fun V hV=>(by skip;go_simp<;>rfl)) ?_
   refine Xd (i:=15) rfl (by kernel_rfl) (fun _ _ _ h=>h) (fun V hV=>(by skip;go_simp<;>rfl)) ?_
   refine Xd (i:=16) rfl (by kernel_rfl) (fun _ _ _ h=>h) (fun V hV=>(by skip;go_simp<;>rfl)) ?_
   refine Xd (i:=17) rfl (by kernel_rfl) (fun _ _ _ h=>h) (fun V hV=>(by skip;go_simp<;>rfl)) ?_
   refine Xl hB4 (by kernel_rfl) ?_ _
   obtain⟨-, -, -, -, -, -,m3, -⟩:=HC.out w4 hB4
   have HB4:=Xa hB4
   clear hb4 hB4 hC0
   cases bb
   ·have HR:=HR9.out rfl
    have HR9':=Xa HR
    clear HR HR9 Hnx Hwc m3
    go_wp2_with fail
    exact bodyPost_ret (v:=.tuple #[.int .i64 0,.bool false]) (by simp[results,Tryz.results106,go_sem]) rfl ⟨by rw[HR9'.out],Xb HBw.out HB4.out⟩
   ·have hwc:=Hwc.out rfl
    have HN:=Xa (Hnx.out rfl)
    clear HR9 Hnx Hwc
    go_wp2_with fail
    go_roundw
    case rel=>exact⟨p+1,a+1,a3,cost+cc,by omega,by omega,rfl,rfl,by go_num,by go_num,Xb hB HB4.out,HN.out⟩
    case measure=>simp[intOf];omega
theorem Xu6 {g:Gram} {items:List ItemG} {j i k:Int} {l:List TreeV} {c:Int} (h:¬(j<0∨(items.length:Int)≤j∨0<l.length)) {x:ItemG} (hx:items[j.toNat]? = some x):X6 g items (.node (-1) j i k l) c=(x.cost,decide (x.cat=c) && decide (x.frm=i) && decide (x.unt=k)):=by
 rw[X6,if_pos rfl,if_neg h,hx]
theorem Xuq {g:Gram} {items:List ItemG} {j i k:Int} {l:List TreeV} {c:Int} (h:j<0∨(items.length:Int)≤j∨0<l.length):X6 g items (.node (-1) j i k l) c=(0,false):=by
 rw[X6,if_pos rfl,if_pos h]
theorem Xur {g:Gram} {items:List ItemG} {r j i k:Int} {l:List TreeV} {c:Int} (hr:¬r = -1) (h:j ≠ -1∨r<0∨(g.rules.xs.length:Int)≤r):X6 g items (.node r j i k l) c=(0,false):=by
 rw[X6,if_neg hr,if_pos h]
theorem Xu7 {g:Gram} {items:List ItemG} {r j i k:Int} {l:List TreeV} {c:Int} (hr:¬r = -1) (h:¬(j ≠ -1∨r<0∨(g.rules.xs.length:Int)≤r)) {x:RuleG} (hx:g.rules.xs[r.toNat]? = some x):X6 g items (.node r j i k l) c=if x.no=c then Z9 (Xm items) x.parts.xs (Yl g items l) i k x.cost else (0,false):=by
 rw[X6,if_neg hr,if_neg h,hx]
set_option maxHeartbeats 8000000 in
theorem Xu1 {g:Gram} {its:SlS ItemG} {N:Nat} (hg:Yu g) (hI:Zr N g.cats.xs.length its.xs) (h1:∀x∈its.xs,1≤x.tgt.xs.length) {e0:World} (hgl:g.lies e0) (hil:ItemsAt e0 its) (P:Nat→Prop):∀(t:TreeV) (x:TreeG) (c:Int) (w:World),Below e0.heap.size e0 w→TreeAt w P t [.int .i64 x.rule,.int .i64 x.item,.int .i64 x.frm,.int .i64 x.unt,.slice x.kids.addr x.kids.len x.kids.cap]→Z6 t→X5 t≤1024 →
  Calls Tryz.prog 59 #[.agg #[.string g.name,.slice g.cats.addr g.cats.xs.length g.cats.cap,.string g.start,.int .i64 g.startNo,.slice g.entries.addr g.entries.xs.length g.entries.cap,.slice g.rules.addr g.rules.xs.length g.rules.cap],.slice its.addr its.xs.length its.cap,.agg #[.int .i64 x.rule,.int .i64 x.item,.int .i64 x.frm,.int .i64 x.unt,.slice x.kids.addr x.kids.len x.kids.cap],.int .i64 c] w (Xu2 (X6 g its.xs t c) w) :=
 TreeV.ind fun r j i u l ih x c w hw ht hfit hnod=>by
  unfold TreeAt at ht
  obtain⟨A,cap,css,e,hcap1,hcap2,hA0,hIn,hr,hkids⟩:=ht
  obtain⟨xr,xj,xi,xu,⟨xa,xl,xc⟩⟩:=x
  simp only[List.cons.injEq,Value.int.injEq,Value.slice.injEq,true_and,and_true] at e
  obtain⟨rfl,rfl,rfl,rfl,rfl,rfl,rfl⟩:=e
  unfold Z6 at hfit
  obtain⟨fr,fj,fi,fu,fl⟩:=hfit
  unfold X5 at hnod
  obtain⟨W1,hW1⟩:∃v,(w.alloc (.cells #[.string g.name,.slice g.cats.addr g.cats.xs.length g.cats.cap,.string g.start,.int .i64 g.startNo,.slice g.entries.addr g.entries.xs.length g.entries.cap,.slice g.rules.addr g.rules.xs.length g.rules.cap] 26)).alloc (.cells #[.int .i64 xr,.int .i64 xj,.int .i64 xi,.int .i64 xu,.slice xa l.length xc] 32)=v:=⟨_,rfl⟩
  have hB1:Below w.heap.size w W1:=by rw[← hW1];exact Xe (Xe (Below.refl _ _) _) _
  have hk1:W1.heap[w.heap.size]? = some (.cells #[.string g.name,.slice g.cats.addr g.cats.xs.length g.cats.cap,.string g.start,.int .i64 g.startNo,.slice g.entries.addr g.entries.xs.length g.entries.cap,.slice g.rules.addr g.rules.xs.length g.rules.cap] 26 (0,0)):=by rw[← hW1];exact(Below.heap_alloc _ _ _ (by simp)).trans (World.alloc_heap_new _ _)
  have hz1:W1.heap[w.heap.size+1]? = some (.cells #[.int .i64 xr,.int .i64 xj,.int .i64 xi,.int .i64 xu,.slice xa l.length xc] 32 (0,0)):=by rw[← hW1];exact X0 _ _ _ (by simp)
  have HB:=Xa hB1
  have HE:=Xa (Xb hw hB1)
  have Hk1:=Xa hk1
  have Hz1:=Xa hz1
  have Hih:=Xa ih
  have Hr:=Xa hr
  have Hkids:=Xa hkids
  have Hfl:=Xa fl
  have Hnod:=Xa hnod
  have hml:its.xs.length≤9223372036854775807:=Nat.le_trans hil.lies.cap hil.lies.max
  have y0:=gblk hz1 0
  have y1:=gblk hz1 1
  have y2:=gblk hz1 2
  have y3:=gblk hz1 3
  have y4:=gblk hz1 4
  have c0:=gblk hk1 0
  have c1:=gblk hk1 1
  have c2:=gblk hk1 2
  have c3:=gblk hk1 3
  have c4:=gblk hk1 4
  have c5:=gblk hk1 5
  clear hr hkids hIn ih hA0 hz1 hk1 hB1 fl hnod
  by_cases hrr:xr = -1
  ·subst hrr
   have g0:((-1:Int) == -1)=true:=rfl
   by_cases b1:xj<0
   ·have HD:=Xa (Xuq (g:=g) (items:=its.xs) (j:=xj) (i:=xi) (k:=xu) (l:=l) (c:=c) (.inl b1))
    go_enter Tryz.func59,Tryz.ntmps59
    go_wp2_with fail
    exact bodyPost_ret (v:=.tuple #[.int .i64 0,.bool false]) (by simp[results,Tryz.results59,go_sem]) rfl ⟨by rw[HD.out],HB.out⟩
   by_cases b2:(its.xs.length:Int)≤xj
   ·have HD:=Xa (Xuq (g:=g) (items:=its.xs) (j:=xj) (i:=xi) (k:=xu) (l:=l) (c:=c) (.inr (.inl b2)))
    have g2:decide ((its.xs.length:Int)≤xj)=true:=decide_eq_true b2
    go_enter Tryz.func59,Tryz.ntmps59
    go_wp2_with fail
    exact bodyPost_ret (v:=.tuple #[.int .i64 0,.bool false]) (by simp[results,Tryz.results59,go_sem]) rfl ⟨by rw[HD.out],HB.out⟩
   have g2:decide ((its.xs.length:Int)≤xj)=false:=decide_eq_false b2
   by_cases b3:0<l.length
   ·have HD:=Xa (Xuq (g:=g) (items:=its.xs) (j:=xj) (i:=xi) (k:=xu) (l:=l) (c:=c) (.inr (.inr b3)))
    have g3:(0:Int)<(l.length:Int):=by omega
    go_enter Tryz.func59,Tryz.ntmps59
    go_wp2_with fail
    exact bodyPost_ret (v:=.tuple #[.int .i64 0,.bool false]) (by simp[results,Tryz.results59,go_sem]) rfl ⟨by rw[HD.out],HB.out⟩
   obtain⟨n,rfl⟩:∃n:Nat,xj=(n:Int):=⟨xj.toNat,by omega⟩
   have hn:n<its.xs.length:=by omega
   have hnI:(n:Int)<(its.xs.length:Int):=by omega
   have g3:¬(0:Int)<(l.length:Int):=by omega
   have HD:=Xa (Xu6 (g:=g) (items:=its.xs) (j:=(n:Int)) (i:=xi) (k:=xu) (l:=l) (c:=c) (by omega) (x:=its.xs[n]) (by rw[Int.toNat_natCast];exact List.getElem?_eq_getElem hn))
   obtain⟨bi,oi,hA,_,hcl⟩:=(hil.ext HE.out).lies.at_ ItemG.size_cells (by decide) hn
   have d0:W1.cell? ⟨bi,oi+n*6,none⟩=some (.int .i64 its.xs[n].cat):=hcl n hn W1 (Below.refl _ _) 0 _ rfl
   have d1:W1.cell? ⟨bi,oi+n*6+1,none⟩=some (.int .i64 its.xs[n].frm):=hcl n hn W1 (Below.refl _ _) 1 _ rfl
   have d2:W1.cell? ⟨bi,oi+n*6+2,none⟩=some (.int .i64 its.xs[n].unt):=hcl n hn W1 (Below.refl _ _) 2 _ rfl
   have d3:W1.cell? ⟨bi,oi+n*6+3,none⟩=some (.int .i64 its.xs[n].cost):=hcl n hn W1 (Below.refl _ _) 3 _ rfl
   have d4:W1.cell? ⟨bi,oi+n*6+4,none⟩=some (.slice its.xs[n].tgt.addr its.xs[n].tgt.xs.length its.xs[n].tgt.cap):=hcl n hn W1 (Below.refl _ _) 4 _ rfl
   have d5:W1.cell? ⟨bi,oi+n*6+5,none⟩=some (.int .i64 its.xs[n].term):=hcl n hn W1 (Below.refl _ _) 5 _ rfl
   rw[hA]
   clear hcl
   obtain⟨it,hit⟩:∃y,its.xs[n]=y:=⟨_,rfl⟩
   rw[hit] at HD d0 d1 d2 d3 d4 d5
   obtain⟨v1,hv1⟩:∃b,decide (it.cat=c)=b:=⟨_,rfl⟩
   obtain⟨v2,hv2⟩:∃b,decide (it.frm=xi)=b:=⟨_,rfl⟩
   obtain⟨v3,hv3⟩:∃b,decide (it.unt=xu)=b:=⟨_,rfl⟩
   have e1:(it.cat == c)=v1:=by rw[← hv1];by_cases h:it.cat=c<;>simp[h]
   have e2:(it.frm == xi)=v2:=by rw[← hv2];by_cases h:it.frm=xi<;>simp[h]
   have e3:(it.unt == xu)=v3:=by rw[← hv3];by_cases h:it.unt=xu<;>simp[h]
   rw[hv1,hv2,hv3] at HD
   obtain⟨W5,hW5⟩:∃v,W1.alloc (.cells #[.int .i64 it.cat,.int .i64 it.frm,.int .i64 it.unt,.int .i64 it.cost,.slice it.tgt.addr it.tgt.xs.length it.tgt.cap,.int .i64 it.term] 47)=v:=⟨_,rfl⟩
   have hb5:=Yn hW5
   have hx5:=Yv hW5
   have hy5:=Xh hb5 Hz1.out
   have HB5:=Xa (Xb HB.out hb5)
   have x0:=gblk hx5 0
   have x1:=gblk hx5 1
   have x2:=gblk hx5 2
   have x3:=gblk hx5 3
   have x4:=gblk hx5 4
   have x5:=gblk hx5 5
   have z0:=gblk hy5 0
   have z1:=gblk hy5 1
   have z2:=gblk hy5 2
   have z3:=gblk hy5 3
   have z4:=gblk hy5 4
   clear hit hv1 hv2 hv3 hb5 hx5 hy5 hA b1 b2 b3 hn
   have hcase:v1=false∨(v1=true∧v2=false)∨(v1=true∧v2=true):=by cases v1<;>cases v2<;>simp
   rcases hcase with rfl|⟨rfl,rfl⟩|⟨rfl,rfl⟩
   all_goals
    go_enter Tryz.func59,Tryz.ntmps59
    go_wp2_with fail
    go_still (by kernel_rfl)
    go_wp2_with fail
   ·exact bodyPost_ret (v:=.tuple #[.int .i64 it.cost,.bool false]) (by simp[results,Tryz.results59,go_sem]) rfl ⟨by rw[HD.out];rfl,Xi HB5.out⟩
   ·exact bodyPost_ret (v:=.tuple #[.int .i64 it.cost,.bool false]) (by simp[results,Tryz.results59,go_sem]) rfl ⟨by rw[HD.out];rfl,Xi HB5.out⟩
   ·exact bodyPost_ret (v:=.tuple #[.int .i64 it.cost,.bool v3]) (by simp[results,Tryz.results59,go_sem]) rfl ⟨by rw[HD.out];rfl,Xi HB5.out⟩
  ·have g0:(xr == -1)=false:=by simpa using hrr
   by_cases b1:¬xj = -1
   ·have g1:(xj != -1)=true:=by simpa using b1
    have HD:=Xa (Xur (g:=g) (items:=its.xs) (j:=xj) (i:=xi) (k:=xu) (l:=l) (c:=c) hrr (.inl b1))
    clear b1
    go_enter Tryz.func59,Tryz.ntmps59
    go_wp2_with fail
    exact bodyPost_ret (v:=.tuple #[.int .i64 0,.bool false]) (by simp[results,Tryz.results59,go_sem]) rfl ⟨by rw[HD.out],HB.out⟩
   obtain rfl:xj = -1:=by omega
   have g1:((-1:Int) != -1)=false:=rfl
   by_cases b2:xr<0
   ·have HD:=Xa (Xur (g:=g) (items:=its.xs) (j := -1) (i:=xi) (k:=xu) (l:=l) (c:=c) hrr (.inr (.inl b2)))
    go_enter Tryz.func59,Tryz.ntmps59
    go_wp2_with fail
    exact bodyPost_ret (v:=.tuple #[.int .i64 0,.bool false]) (by simp[results,Tryz.results59,go_sem]) rfl ⟨by rw[HD.out],HB.out⟩
   by_cases b3:(g.rules.xs.length:Int)≤xr
   ·have HD:=Xa (Xur (g:=g) (items:=its.xs) (j := -1) (i:=xi) (k:=xu) (l:=l) (c:=c) hrr (.inr (.inr b3)))
    have g3:decide ((g.rules.xs.length:Int)≤xr)=true:=decide_eq_true b3
    go_enter Tryz.func59,Tryz.ntmps59
    go_wp2_with fail
    exact bodyPost_ret (v:=.tuple #[.int .i64 0,.bool false]) (by simp[results,Tryz.results59,go_sem]) rfl ⟨by rw[HD.out],HB.out⟩
   have g3:decide ((g.rules.xs.length:Int)≤xr)=false:=decide_eq_false b3
   obtain⟨n,rfl⟩:∃n:Nat,xr=(n:Int):=⟨xr.toNat,by omega⟩
   have hn:n<g.rules.xs.length:=by omega
   have hnI:(n:Int)<(g.rules.xs.length:Int):=by omega
   have g2:¬(n:Int)<0:=by omega
   have HD:=Xa (Xu7 (g:=g) (items:=its.xs) (r:=(n:Int)) (j := -1) (i:=xi) (k:=xu) (l:=l) (c:=c) (by omega) (by omega) (x:=g.rules.xs[n]) (by rw[Int.toNat_natCast];exact List.getElem?_eq_getElem hn))
   obtain⟨bR,oR,hA,hbR,hcl⟩:=hgl.rules.at_ RuleG.size_cells (by decide) hn
   have Hcl:=Xa (fun (V:World) (hV:Below e0.heap.size e0 V)=>hcl n hn V hV)
   have hrm:=List.getElem_mem hn
   obtain⟨ru,hru⟩:∃y,g.rules.xs[n]=y:=⟨_,rfl⟩
   rw[hru] at HD Hcl hrm
   have d1:=Hcl.out W1 HE.out 1 _ rfl
   rw[hA] at c5
   have HA:=Xa hA
   have Hrm:=Xa hrm
   clear hcl hru hrm hA b1 b2 b3 hn
   by_cases hno:ru.no=c
   rotate_left
   ·have g4:(ru.no != c)=true:=by simpa using hno
    rw[if_neg hno] at HD
    clear hno
    go_enter Tryz.func59,Tryz.ntmps59
    go_wp2_with fail
    exact bodyPost_ret (v:=.tuple #[.int .i64 0,.bool false]) (by simp[results,Tryz.results59,go_sem]) rfl ⟨by rw[HD.out],HB.out⟩
   have g4:(ru.no != c)=false:=by simpa using hno
   rw[if_pos hno] at HD
   have hbd:Below w.heap.size w W1.drew:=Xi HB.out
   have hlies:=Xu8 hg hI h1 P ru Hrm.out xi xu l xa xc css W1.drew (Xi HE.out) hil (hgl.rule _ Hrm.out) hcap1 hcap2 (Hr.out.ext hbd) (KidsAt.keep (fun b _ hlt=>hbd.block b hlt) hbd.size (fun _ h=>h) Hkids.out) fi fu Hfl.out Hnod.out Hih.out
   obtain⟨⟨R1,R2⟩,hRR⟩:∃R,Z9 (Xm its.xs) ru.parts.xs (Yl g its.xs l) xi xu ru.cost=R:=⟨_,rfl⟩
   rw[hRR] at hlies HD
   unfold Xu2 at hlies
   have Hlies:=Xa hlies
   have HC:Hid (∀V,Below W1.heap.size W1 V→V.heap[w.heap.size]? = some (.cells #[.string g.name,.slice g.cats.addr g.cats.xs.length g.cats.cap,.string g.start,.int .i64 g.startNo,.slice g.entries.addr g.entries.xs.length g.entries.cap,.slice g.rules.addr g.rules.xs.length g.rules.cap] 26 (0,0))∧V.heap[w.heap.size+1]? = some (.cells #[.int .i64 (n:Int),.int .i64 (-1),.int .i64 xi,.int .i64 xu,.slice xa l.length xc] 32 (0,0))∧V.cell? ⟨w.heap.size,5,none⟩=some (.slice (some ⟨bR,oR,none⟩) g.rules.xs.length g.rules.cap)∧V.cell? ⟨bR,oR+n*5,none⟩=some (.string ru.cat)∧V.cell? ⟨bR,oR+n*5+1,none⟩=some (.int .i64 ru.no)∧V.cell? ⟨bR,oR+n*5+2,none⟩=some (.slice ru.parts.addr ru.parts.xs.length ru.parts.cap)∧V.cell? ⟨bR,oR+n*5+3,none⟩=some (.slice ru.gives.addr ru.gives.xs.length ru.gives.cap)∧V.cell? ⟨bR,oR+n*5+4,none⟩=some (.int .i64 ru.cost)):=fun V hV=>by
    have h5:=gblk (Xh hV Hk1.out) 5
    rw[HA.out] at h5
    exact⟨Xh hV Hk1.out,Xh hV Hz1.out,h5,Hcl.out V (Xb HE.out hV) 0 _ rfl,Hcl.out V (Xb HE.out hV) 1 _ rfl,Hcl.out V (Xb HE.out hV) 2 _ rfl,Hcl.out V (Xb HE.out hV) 3 _ rfl,Hcl.out V (Xb HE.out hV) 4 _ rfl⟩
   clear hno hlies hbd hRR
   go_enter Tryz.func59,Tryz.ntmps59
   go_wp2_with fail
   refine wpIn_wide (n:=0) |>.1 ?_
   refine Y4 _ ?_ (fun _ _ h=>h)
   refine Xo (fun V=>Below W1.heap.size W1 V) (by kernel_rfl) ?_
   have hC0:Below W1.heap.size W1 W1.drew:=Xi (Below.refl _ _)
   clear c0 c1 c2 c3 c4 c5 y0 y1 y2 y3 y4 d1
   refine Xd (i:=0) (v:=.agg #[.string g.name,.slice g.cats.addr g.cats.xs.length g.cats.cap,.string g.start,.int .i64 g.startNo,.slice g.entries.addr g.entries.xs.length g.entries.cap,.slice g.rules.addr g.rules.xs.length g.rules.cap]) rfl (by kernel_rfl) (fun _ _ _ h=>h) (fun V hV=>(by obtain⟨h1, -⟩:=HC.out V hV;have e0':=gblk h1 0;have e1:=gblk h1 1;have e2:=gblk h1 2;have e3:=gblk h1 3;have e4:=gblk h1 4;have e5:=gblk h1 5;clear h1;go_simp)) ?_
   refine Xd (i:=1) rfl (by kernel_rfl) (fun _ _ _ h=>h) (fun V hV=>(by skip;go_simp<;>rfl)) ?_
   refine Xd (i:=2) rfl (by kernel_rfl) (fun _ _ _ h=>h) (fun V hV=>(by skip;go_simp<;>rfl)) ?_
   refine Xd (i:=3) rfl (by kernel_rfl) (fun _ _ _ h=>h) (fun V hV=>(by obtain⟨-, -,h5, -⟩:=HC.out V hV;go_simp<;>rfl)) ?_
   refine Xd (i:=4) rfl (by kernel_rfl) (fun _ _ _ h=>h) (fun V hV=>(by skip;go_simp<;>rfl)) ?_
   refine Xd (i:=5) rfl (by kernel_rfl) (fun _ _ _ h=>h) (fun V hV=>(by obtain⟨-,h2, -⟩:=HC.out V hV;have e0':=gblk h2 0;go_simp<;>rfl)) ?_
   refine Xd (i:=6) rfl (by kernel_rfl) (fun _ _ _ h=>h) (fun V hV=>(by skip;go_simp<;>rfl)) ?_
   refine Xd (i:=7) (v:=.agg #[.string ru.cat,.int .i64 ru.no,.slice ru.parts.addr ru.parts.xs.length ru.parts.cap,.slice ru.gives.addr ru.gives.xs.length ru.gives.cap,.int .i64 ru.cost]) rfl (by kernel_rfl) (fun _ _ _ h=>h) (fun V hV=>(by obtain⟨-, -, -,m0,m1,m2,m3,m4⟩:=HC.out V hV;go_simp)) ?_
   refine Xd (i:=8) rfl (by kernel_rfl) (fun _ _ _ h=>h) (fun V hV=>(by skip;go_simp<;>rfl)) ?_
   refine Xd (i:=9) rfl (by kernel_rfl) (fun _ _ _ h=>h) (fun V hV=>(by obtain⟨-,h2, -⟩:=HC.out V hV;have e4:=gblk h2 4;go_simp<;>rfl)) ?_
   refine Xd (i:=10) rfl (by kernel_rfl) (fun _ _ _ h=>h) (fun V hV=>(by skip;go_simp<;>rfl)) ?_
   refine Xd (i:=11) rfl (by kernel_rfl) (fun _ _ _ h=>h) (fun V hV=>(by obtain⟨-,h2, -⟩:=HC.out V hV;have e2:=gblk h2 2;go_simp<;>rfl)) ?_
   refine Xd (i:=12) rfl (by kernel_rfl) (fun _ _ _ h=>h) (fun V hV=>(by skip;go_simp<;>rfl)) ?_
   refine Xd (i:=13) rfl (by kernel_rfl) (fun _ _ _ h=>h) (fun V hV=>(by obtain⟨-,h2, -⟩:=HC.out V hV;have e3:=gblk h2 3;go_simp<;>rfl)) ?_
   refine Xg (i:=14) hC0 (by kernel_rfl) rfl (fun K hK=>?_)
   go_simp
   refine⟨trivial,rfl,callsIn_wide.2 (Hlies.out.mono ?_)⟩
   rintro e w4 ⟨rfl,hb4⟩
   refine hK _ _ ?_
   clear hK K
   have hB4:=Xb hC0 hb4
   refine Xd (i:=15) rfl (by kernel_rfl) (fun _ _ _ h=>h) (fun V hV=>(by skip;go_simp<;>rfl)) ?_
   refine Xd (i:=16) rfl (by kernel_rfl) (fun _ _ _ h=>h) (fun V hV=>(by skip;go_simp<;>rfl)) ?_
   refine Xd (i:=17) rfl (by kernel_rfl) (fun _ _ _ h=>h) (fun V hV=>(by skip;go_simp<;>rfl)) ?_
   refine Xd (i:=18) rfl (by kernel_rfl) (fun _ _ _ h=>h) (fun V hV=>(by skip;go_simp<;>rfl)) ?_
   refine Xl hB4 (by kernel_rfl) ?_ _
   go_wp2_with fail
   exact bodyPost_ret (v:=.tuple #[.int .i64 R1,.bool R2]) (by simp[results,Tryz.results59,go_sem]) rfl ⟨by rw[HD.out],Xb HB.out hB4⟩
theorem Xu4 {w:World} {P:Nat→Prop} {t:TreeV} {x:TreeG} (h:TreeAt w P t [.int .i64 x.rule,.int .i64 x.item,.int .i64 x.frm,.int .i64 x.unt,.slice x.kids.addr x.kids.len x.kids.cap]):x.frm=t.frm∧x.unt=t.unt:=by
 cases t
 unfold TreeAt at h
 obtain⟨A,cap,css,e,_⟩:=h
 injection e with _ e
 injection e with _ e
 injection e with e1 e
 injection e with e2 e
 injection e1 with _ e1
 injection e2 with _ e2
 exact⟨e1,e2⟩
set_option maxHeartbeats 4000000 in
theorem Xu5 (g:Gram) (its:SlS ItemG) (n:Int) (P:Nat→Prop) (t:TreeV) (x:TreeG) (w:World) (hg:g.lies w) (hi:ItemsAt w its) (ht:TreeAt w P t [.int .i64 x.rule,.int .i64 x.item,.int .i64 x.frm,.int .i64 x.unt,.slice x.kids.addr x.kids.len x.kids.cap]) (hf:Z6 t) {c:Int} {ok:Bool} {e:Int} (hc:Vv g its.xs n t=(c,ok,e)) :
  Calls Tryz.prog 22 #[.agg #[.string g.name,.slice g.cats.addr g.cats.xs.length g.cats.cap,.string g.start,.int .i64 g.startNo,.slice g.entries.addr g.entries.xs.length g.entries.cap,.slice g.rules.addr g.rules.xs.length g.rules.cap],.slice its.addr its.xs.length its.cap,.int .i64 n,.agg #[.int .i64 x.rule,.int .i64 x.item,.int .i64 x.frm,.int .i64 x.unt,.slice x.kids.addr x.kids.len x.kids.cap]] w fun E w'=>E = .returned (.tuple #[.int .i64 c,.bool ok,.int .i64 e])∧Below w.heap.size w w':=by
 obtain⟨W1,hW1⟩:∃v,(w.alloc (.cells #[.string g.name,.slice g.cats.addr g.cats.xs.length g.cats.cap,.string g.start,.int .i64 g.startNo,.slice g.entries.addr g.entries.xs.length g.entries.cap,.slice g.rules.addr g.rules.xs.length g.rules.cap] 26)).alloc (.cells #[.int .i64 x.rule,.int .i64 x.item,.int .i64 x.frm,.int .i64 x.unt,.slice x.kids.addr x.kids.len x.kids.cap] 32)=v:=⟨_,rfl⟩
 have HB:Hid (Below w.heap.size w W1):=by rw[← hW1];exact Xe (Xe (Below.refl _ _) _) _
 have HK:Hid (W1.heap[w.heap.size]? = some (.cells #[.string g.name,.slice g.cats.addr g.cats.xs.length g.cats.cap,.string g.start,.int .i64 g.startNo,.slice g.entries.addr g.entries.xs.length g.entries.cap,.slice g.rules.addr g.rules.xs.length g.rules.cap] 26 (0,0))):=by rw[← hW1];exact(Below.heap_alloc _ _ _ (by simp)).trans (World.alloc_heap_new _ _)
 have HZ:Hid (W1.heap[w.heap.size+1]? = some (.cells #[.int .i64 x.rule,.int .i64 x.item,.int .i64 x.frm,.int .i64 x.unt,.slice x.kids.addr x.kids.len x.kids.cap] 32 (0,0))):=by rw[← hW1];exact X0 _ _ _ (by simp)
 have hk:=HK.out
 have HG:=Xa (fun V (hV:Below w.heap.size w V)=>hg.ext hV)
 have HI:=Xa (fun V (hV:Below w.heap.size w V)=>hi.ext hV)
 have HT:=Xa (fun V (hV:Below w.heap.size w V)=>ht.ext hV)
 have Hends:=Xa (Xu4 ht)
 have Hc:=Xa hc
 have c0:=gblk hk 0
 have c1:=gblk hk 1
 have c2:=gblk hk 2
 have c3:=gblk hk 3
 have c4:=gblk hk 4
 have c5:=gblk hk 5
 clear hk hg hi hc ht
 go_enter Tryz.func22,Tryz.ntmps22
 go_wp2_with fail
 clear hW1
 refine(Xir g its n W1 (HG.out _ HB.out) (HI.out _ HB.out)).mono ?_
 rintro E w2 ⟨rfl,hb⟩
 replace HB:=Xa (Xb HB.out hb)
 replace HK:=Xa (Xh hb HK.out)
 replace HZ:=Xa (Xh hb HZ.out)
 have hcc:=Hc.out
 unfold Vv at hcc
 clear c0 c1 c2 c3 c4 c5 hb
 by_cases h0:errC g its.xs n=0
 rotate_left
 ·have q0:(errC g its.xs n != 0)=true:=by simpa using h0
  rw[if_pos h0] at hcc
  obtain⟨ee,hee⟩:∃x,errC g its.xs n=x:=⟨_,rfl⟩
  rw[hee] at q0 hcc ⊢
  simp only[Prod.mk.injEq] at hcc
  have Hcc:=Xa hcc
  clear h0 hee hcc
  go_wp2_with fail
  exact bodyPost_ret (v:=.tuple #[.int .i64 0,.bool false,.int .i64 ee]) (by simp[results,Tryz.results22,go_sem]) rfl ⟨by rw[← Hcc.out.1,← Hcc.out.2.1,← Hcc.out.2.2],HB.out⟩
 rw[if_neg (fun hn=>hn h0)] at hcc
 have hA:=Vz h0
 have HA:=Xa hA
 rw[h0]
 have hz:=HZ.out
 have z0:=gblk hz 0
 have z1:=gblk hz 1
 have z2:=gblk hz 2
 have z3:=gblk hz 3
 have z4:=gblk hz 4
 have hnod:=Xi9 P t x 1024 w2 (HT.out _ HB.out) (by decide)
 obtain⟨m,hm⟩:∃m,capN 1024 (X5 t)=m:=⟨_,rfl⟩
 rw[hm] at hnod
 have Hnod:=Xa hnod
 have Hcc:=Xa hcc
 have Hm:=Xa hm
 clear h0 hA hz hnod hcc hm
 go_wp2_with fail
 refine Hnod.out.mono ?_
 rintro E w3 ⟨rfl,hb⟩
 replace HB:=Xa (Xb HB.out hb)
 replace HK:=Xa (Xh hb HK.out)
 replace HZ:=Xa (Xh hb HZ.out)
 have hcc:=Hcc.out
 clear z0 z1 z2 z3 z4 hb
 by_cases hbig:1024<m
 ·have g1:(1024:Int)<(m:Int):=by omega
  rw[if_pos (by have:=Hm.out;unfold capN at this;omega)] at hcc
  simp only[Prod.mk.injEq] at hcc
  have Hcc:=Xa hcc
  clear hcc hbig
  go_wp2_with fail
  exact bodyPost_ret (v:=.tuple #[.int .i64 0,.bool false,.int .i64 2]) (by simp[results,Tryz.results22,go_sem]) rfl ⟨by rw[← Hcc.out.1,← Hcc.out.2.1,← Hcc.out.2.2],HB.out⟩
 have g1:¬(1024:Int)<(m:Int):=by omega
 have hnd:X5 t≤1024:=by have:=Hm.out;unfold capN at this;omega
 rw[if_neg (by omega)] at hcc
 obtain⟨N,hN⟩:∃N:Nat,N=n.toNat:=⟨_,rfl⟩
 have hder:=Xu1 (e0:=w3) HA.out.gram HA.out.items (fun x hx=>(Ut (HA.out.right x hx)).2.2.2.2.2.2.2) (HG.out _ HB.out) (HI.out _ HB.out) P t x g.startNo w3 (Below.refl _ _) (HT.out _ HB.out) hf hnd
 obtain⟨⟨dc,db⟩,hdd⟩:∃y,X6 g its.xs t g.startNo=y:=⟨_,rfl⟩
 rw[hdd] at hcc hder
 unfold Xu2 at hder
 have Hder:=Xa hder
 have hk:=HK.out
 have hz:=HZ.out
 have c0:=gblk hk 0
 have c1:=gblk hk 1
 have c2:=gblk hk 2
 have c3:=gblk hk 3
 have c4:=gblk hk 4
 have c5:=gblk hk 5
 have z0:=gblk hz 0
 have z1:=gblk hz 1
 have z2:=gblk hz 2
 have z3:=gblk hz 3
 have z4:=gblk hz 4
 have Hcc2:=Xa hcc
 clear hk hz hder hcc hdd hbig hnd hN
 go_wp2_with fail
 refine Hder.out.mono ?_
 rintro E w4 ⟨rfl,hb⟩
 have HB4:=Xa (Xb HB.out hb)
 have hz:=Xh hb HZ.out
 have hcc:=Hcc2.out
 clear c0 c1 c2 c3 c4 c5 z0 z1 z2 z3 z4 hb
 have z0:=gblk hz 0
 have z1:=gblk hz 1
 have z2:=gblk hz 2
 have z3:=gblk hz 3
 have z4:=gblk hz 4
 rw[← Hends.out.1,← Hends.out.2] at hcc
 have hcase:(db=false∨(db=true∧¬x.frm=0)∨(db=true∧x.frm=0∧¬x.unt=n))∨(db=true∧x.frm=0∧x.unt=n):=by
  cases db<;>by_cases h2:x.frm=0<;>by_cases h3:x.unt=n<;>simp[h2,h3]
 rcases hcase with hno|⟨rfl,h2,h3⟩
 ·rw[if_pos (by rcases hno with h|⟨_,h⟩|⟨_,_,h⟩;exact .inl h;exact .inr (.inl h);exact .inr (.inr h))] at hcc
  simp only[Prod.mk.injEq] at hcc
  have Hcc:=Xa hcc
  clear hcc hz
  rcases hno with rfl|⟨rfl,h2⟩|⟨rfl,h2,h3⟩
  ·go_wp2_with fail
   exact bodyPost_ret (v:=.tuple #[.int .i64 0,.bool false,.int .i64 0]) (by simp[results,Tryz.results22,go_sem]) rfl ⟨by rw[← Hcc.out.1,← Hcc.out.2.1,← Hcc.out.2.2],HB4.out⟩
  ·have g2:(x.frm != 0)=true:=by simpa using h2
   clear h2
   go_wp2_with fail
   exact bodyPost_ret (v:=.tuple #[.int .i64 0,.bool false,.int .i64 0]) (by simp[results,Tryz.results22,go_sem]) rfl ⟨by rw[← Hcc.out.1,← Hcc.out.2.1,← Hcc.out.2.2],HB4.out⟩
  ·have g2:(x.frm != 0)=false:=by simpa using h2
   have g3:(x.unt != n)=true:=by simpa using h3
   clear h2 h3
   go_wp2_with fail
   exact bodyPost_ret (v:=.tuple #[.int .i64 0,.bool false,.int .i64 0]) (by simp[results,Tryz.results22,go_sem]) rfl ⟨by rw[← Hcc.out.1,← Hcc.out.2.1,← Hcc.out.2.2],HB4.out⟩
 ·rw[if_neg (by rintro(h|h|h);cases h;exact h h2;exact h h3)] at hcc
  simp only[Prod.mk.injEq] at hcc
  have Hcc:=Xa hcc
  have g2:(x.frm != 0)=false:=by simpa using h2
  have g3:(x.unt != n)=false:=by simpa using h3
  clear hcc hz h2 h3
  go_wp2_with fail
  exact bodyPost_ret (v:=.tuple #[.int .i64 dc,.bool true,.int .i64 0]) (by simp[results,Tryz.results22,go_sem]) rfl ⟨by rw[← Hcc.out.1,← Hcc.out.2.1,← Hcc.out.2.2],HB4.out⟩
set_option maxHeartbeats 8000000 in
theorem Xut (g:Gram) (its:SlS ItemG) (n:Int) (t:TreeV) (x:TreeG) (w:World) (hT:TabsG w) (hg:g.lies w) (hs:g.short) (hi:ItemsAt w its) (ht:TreeAt w (fun b=>b<w.heap.size) t [.int .i64 x.rule,.int .i64 x.item,.int .i64 x.frm,.int .i64 x.unt,.slice x.kids.addr x.kids.len x.kids.cap]) (hf:Z6 t) :
  Calls Tryz.prog 4 #[.agg #[.string g.name,.slice g.cats.addr g.cats.xs.length g.cats.cap,.string g.start,.int .i64 g.startNo,.slice g.entries.addr g.entries.xs.length g.entries.cap,.slice g.rules.addr g.rules.xs.length g.rules.cap],.slice its.addr its.xs.length its.cap,.int .i64 n,.agg #[.int .i64 x.rule,.int .i64 x.item,.int .i64 x.frm,.int .i64 x.unt,.slice x.kids.addr x.kids.len x.kids.cap]] w fun e w'=>e = .returned (.bool true)∧Below w.heap.size w w':=by
 obtain⟨W1,hW1⟩:∃W1,(w.alloc (.cells #[.string g.name,.slice g.cats.addr g.cats.xs.length g.cats.cap,.string g.start,.int .i64 g.startNo,.slice g.entries.addr g.entries.xs.length g.entries.cap,.slice g.rules.addr g.rules.xs.length g.rules.cap] 26)).alloc (.cells #[.int .i64 x.rule,.int .i64 x.item,.int .i64 x.frm,.int .i64 x.unt,.slice x.kids.addr x.kids.len x.kids.cap] 32)=W1:=⟨_,rfl⟩
 have HB:Hid (Below w.heap.size w W1):=by rw[← hW1];exact Xe (Xe (Below.refl _ _) _) _
 have HK:Hid (W1.heap[w.heap.size]? = some (.cells #[.string g.name,.slice g.cats.addr g.cats.xs.length g.cats.cap,.string g.start,.int .i64 g.startNo,.slice g.entries.addr g.entries.xs.length g.entries.cap,.slice g.rules.addr g.rules.xs.length g.rules.cap] 26 (0,0))):=by rw[← hW1];exact(Below.heap_alloc _ _ _ (by simp)).trans (World.alloc_heap_new _ _)
 have HX:Hid (W1.heap[w.heap.size+1]? = some (.cells #[.int .i64 x.rule,.int .i64 x.item,.int .i64 x.frm,.int .i64 x.unt,.slice x.kids.addr x.kids.len x.kids.cap] 32 (0,0))):=by rw[← hW1];exact X0 _ _ _ (by simp)
 have HT:=Xa (fun V (hV:Below w.heap.size w V)=>hT.ext hV)
 have HG:=Xa (fun V (hV:Below w.heap.size w V)=>hg.ext hV)
 have HI:=Xa (fun V (hV:Below w.heap.size w V)=>hi.ext hV)
 have HTt:=Xa (fun V (hV:Below w.heap.size w V)=>ht.ext hV)
 have Hs:=Xa hs
 have Hf:=Xa hf
 clear hT hg hs hi ht hf
 go_enter Tryz.func4,Tryz.ntmps4
 go_wp2_with fail
 clear hW1
 refine(Xlu W1 (HT.out _ HB.out)).mono ?_
 rintro e w2 ⟨rfl,hb⟩
 replace HB:=Xa (Xb HB.out hb)
 replace HK:=Xa (Xh hb HK.out)
 replace HX:=Xa (Xh hb HX.out)
 have hkc:=HK.out
 have c0:=gblk hkc 0
 have c1:=gblk hkc 1
 have c2:=gblk hkc 2
 have c3:=gblk hkc 3
 have c4:=gblk hkc 4
 have c5:=gblk hkc 5
 have hxc:=HX.out
 have d0:=gblk hxc 0
 have d1:=gblk hxc 1
 have d2:=gblk hxc 2
 have d3:=gblk hxc 3
 have d4:=gblk hxc 4
 clear hkc hxc hb
 go_wp2_with fail
 clear c0 c1 c2 c3 c4 c5 d0 d1 d2 d3 d4
 refine(Xna g its n w2 (HG.out _ HB.out) (HI.out _ HB.out)).mono ?_
 rintro e w3 ⟨b1,rfl,hb,hfew⟩
 replace HB:=Xa (Xb HB.out hb)
 replace HK:=Xa (Xh hb HK.out)
 replace HX:=Xa (Xh hb HX.out)
 clear hfew
 have hkc:=HK.out
 have c0:=gblk hkc 0
 have c1:=gblk hkc 1
 have c2:=gblk hkc 2
 have c3:=gblk hkc 3
 have c4:=gblk hkc 4
 have c5:=gblk hkc 5
 have hxc:=HX.out
 have d0:=gblk hxc 0
 have d1:=gblk hxc 1
 have d2:=gblk hxc 2
 have d3:=gblk hxc 3
 have d4:=gblk hxc 4
 clear hkc hxc hb
 cases b1
 ·go_wp2_with fail
  go_ret
  exact⟨rfl,HB.out⟩
 go_wp2_with fail
 clear c0 c1 c2 c3 c4 c5 d0 d1 d2 d3 d4
 refine(Xri _ t x w3 (HTt.out _ HB.out)).mono ?_
 rintro e w4 ⟨rfl,hb⟩
 replace HB:=Xa (Xb HB.out hb)
 replace HK:=Xa (Xh hb HK.out)
 replace HX:=Xa (Xh hb HX.out)
 obtain⟨bn,hbn⟩:∃z,decide (X5 t≤3000)=z:=⟨_,rfl⟩
 rw[hbn]
 have hkc:=HK.out
 have c0:=gblk hkc 0
 have c1:=gblk hkc 1
 have c2:=gblk hkc 2
 have c3:=gblk hkc 3
 have c4:=gblk hkc 4
 have c5:=gblk hkc 5
 have hxc:=HX.out
 have d0:=gblk hxc 0
 have d1:=gblk hxc 1
 have d2:=gblk hxc 2
 have d3:=gblk hxc 3
 have d4:=gblk hxc 4
 clear hkc hxc hbn hb
 cases bn
 ·go_wp2_with fail
  go_ret
  exact⟨rfl,HB.out⟩
 obtain⟨⟨c,ok,ee⟩,hcc⟩:∃z,Vv g its.xs n t=z:=⟨_,rfl⟩
 obtain⟨⟨k,e1⟩,hco⟩:∃z,Vy g its.xs n=z:=⟨_,rfl⟩
 have Hcc:=Xa hcc
 have Hco:=Xa hco
 clear hcc hco
 go_wp2_with fail
 clear c0 c1 c2 c3 c4 c5 d0 d1 d2 d3 d4
 refine(Xme (HT.out _ HB.out) (HG.out _ HB.out) Hs.out (HI.out _ HB.out) (fun b hb=>Nat.lt_of_lt_of_le hb HB.out.size) (HTt.out _ HB.out) Hf.out Hcc.out).mono ?_
 rintro e w5 ⟨rfl,hb⟩
 replace HB:=Xa (Xb HB.out hb)
 replace HK:=Xa (Xh hb HK.out)
 replace HX:=Xa (Xh hb HX.out)
 have hkc:=HK.out
 have c0:=gblk hkc 0
 have c1:=gblk hkc 1
 have c2:=gblk hkc 2
 have c3:=gblk hkc 3
 have c4:=gblk hkc 4
 have c5:=gblk hkc 5
 have hxc:=HX.out
 have d0:=gblk hxc 0
 have d1:=gblk hxc 1
 have d2:=gblk hxc 2
 have d3:=gblk hxc 3
 have d4:=gblk hxc 4
 clear hkc hxc hb
 go_wp2_with fail
 clear c0 c1 c2 c3 c4 c5 d0 d1 d2 d3 d4 HX
 refine(Xu5 g its n _ t x w5 (HG.out _ HB.out) (HI.out _ HB.out) (HTt.out _ HB.out) Hf.out Hcc.out).mono ?_
 rintro e w6 ⟨rfl,hb⟩
 replace HB:=Xa (Xb HB.out hb)
 replace HK:=Xa (Xh hb HK.out)
 have hkc:=HK.out
 have c0:=gblk hkc 0
 have c1:=gblk hkc 1
 have c2:=gblk hkc 2
 have c3:=gblk hkc 3
 have c4:=gblk hkc 4
 have c5:=gblk hkc 5
 clear hkc hb
 go_wp2_with fail
 clear c0 c1 c2 c3 c4 c5
 refine(Xb5 (HT.out _ HB.out) (HG.out _ HB.out) Hs.out (HI.out _ HB.out) Hco.out).mono ?_
 rintro e w7 ⟨rfl,hb⟩
 replace HB:=Xa (Xb HB.out hb)
 replace HK:=Xa (Xh hb HK.out)
 have hkc:=HK.out
 have c0:=gblk hkc 0
 have c1:=gblk hkc 1
 have c2:=gblk hkc 2
 have c3:=gblk hkc 3
 have c4:=gblk hkc 4
 have c5:=gblk hkc 5
 clear hkc hb HK
 go_wp2_with fail
 clear c0 c1 c2 c3 c4 c5
 refine(Xu3 g its n w7 (HG.out _ HB.out) (HI.out _ HB.out) Hco.out).mono ?_
 rintro e w8 ⟨rfl,hb⟩
 replace HB:=Xa (Xb HB.out hb)
 clear hb
 go_wp2_with fail
 go_ret
 exact⟨by simp,HB.out⟩
end Go.Proofs.YthojaplnimoacaaGreatDoor
