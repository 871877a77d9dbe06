/- Texts of this claim, one after the other: NevP, R29h, Law29v, OpgT. -/
import Derived.Test.YthojaplnimoacaaGreatDoorM25
import Derived.Test.YthojaplnimoacaaGreatDoorM24
import Derived.Test.YthojaplnimoacaaGreatDoorM23
import Derived.Test.YthojaplnimoacaaGreatDoorM13
import Derived.Test.YthojaplnimoacaaGreatDoorM15
namespace Go.Proofs.YthojaplnimoacaaGreatDoor
open Go.RowKit Go.Han
set_option maxRecDepth 100000
theorem Xr9 {g:Gram} {items:List ItemG} {n:Int} {t t1:TreeV} {c c1 f e1:Int} {is o1:Bool} (h0:errC g items n=0) (h6:FewC g items n) (hb:Zj g items n=(t1,c1,o1,e1)) (hc:Vt g items n t=(c,is,f)) :
  e1=0∧(f=0∨f=2)∧(is=true→o1=true∧c1≤c∧(c=c1→Vb t t1=false))∧Vt g items n t1=(c1,o1,0):=by
 have h:=Vx h0
 have hcats:=h.gram.few
 have hn16:=h.n16
 have h6a:g.cats.xs.length≤6:=by rcases h6.1 with h|h<;>omega
 have h6n:n≤7:=by rcases h6.2.2 with h|h<;>omega
 have hf:f=0∨f=2:=by
  have h9:=hc
  unfold Vt at h9
  rw[if_neg (fun hn=>hn h0)] at h9
  split at h9
  ·cases h9;exact .inr rfl
  ·split at h9<;>cases h9<;>exact .inl rfl
 have hz:is=true→f=0:=by
  intro hi
  subst hi
  have h9:=hc
  unfold Vt at h9
  rw[if_neg (fun hn=>hn h0)] at h9
  split at h9
  ·cases h9
  ·split at h9<;>cases h9
   rfl
 unfold Zj at hb
 rw[if_neg (fun hn=>hn h0)] at hb
 cases hbc:Xdi g items n with
 | none =>
  rw[hbc] at hb
  cases hb
  refine⟨rfl,hf,fun hi=>?_,Xsa h h.n1⟩
  have hz0:=hz hi
  subst hi hz0
  obtain⟨x,hx,_⟩:=Xrr h hc
  rw[hbc] at hx
  cases hx
 | some y =>
  rw[hbc] at hb
  cases hb
  refine⟨rfl,hf,fun hi=>?_,Xr8 h h6a h6n hbc⟩
  have hz0:=hz hi
  subst hi hz0
  obtain⟨x,hx,h1,h2⟩:=Xrr h hc
  rw[hbc] at hx
  cases hx
  exact⟨rfl,h1,h2⟩
end Go.Proofs.YthojaplnimoacaaGreatDoor
namespace Go.Proofs.YthojaplnimoacaaGreatDoor
open Go.RowKit Go.Han
attribute [local irreducible] wpStill wpQuiet
set_option maxRecDepth 100000
def Xrv (t t':TreeV) (w:World) (e:Ending) (w':World):Prop:=e = .returned (.bool (Vb t t'))∧Below w.heap.size w w'
theorem Xry (l l':List TreeV) (m:Nat) (h:m<l.length) (h':m<l'.length):Z4 (l.drop m) (l'.drop m)=if l[m].unt≠l'[m].unt then decide (l[m].unt<l'[m].unt) else if Xa7 l[m] l'[m] then Z4 (l.drop (m+1)) (l'.drop (m+1)) else Vb l[m] l'[m]:=by
 rw[List.drop_eq_getElem_cons h,List.drop_eq_getElem_cons h',Z4]
theorem Xrs (l l':List TreeV) (m:Nat) (h:¬(m<l.length∧m<l'.length)):Z4 (l.drop m) (l'.drop m)=false:=by
 by_cases h1:m<l.length
 ·have e:l'.drop m=[]:=List.drop_eq_nil_of_le (by omega)
  rw[e]
  cases l.drop m<;>simp[Z4]
 ·have e:l.drop m=[]:=List.drop_eq_nil_of_le (by omega)
  rw[e]
  simp[Z4]
set_option maxHeartbeats 2000000 in
theorem Xr7 (P P':Nat→Prop):∀(t:TreeV) (x:TreeG) (t':TreeV) (y:TreeG) (w:World),TreeAt w P t [.int .i64 x.rule,.int .i64 x.item,.int .i64 x.frm,.int .i64 x.unt,.slice x.kids.addr x.kids.len x.kids.cap]→TreeAt w P' t' [.int .i64 y.rule,.int .i64 y.item,.int .i64 y.frm,.int .i64 y.unt,.slice y.kids.addr y.kids.len y.kids.cap] →
  Calls Tryz.prog 27 #[.agg #[.int .i64 x.rule,.int .i64 x.item,.int .i64 x.frm,.int .i64 x.unt,.slice x.kids.addr x.kids.len x.kids.cap],.agg #[.int .i64 y.rule,.int .i64 y.item,.int .i64 y.frm,.int .i64 y.unt,.slice y.kids.addr y.kids.len y.kids.cap]] w (Xrv t t' w) :=
 TreeV.ind fun r j i u l ih x t' y w ht ht'=>by
  obtain⟨r',j',i',u',l'⟩:=t'
  unfold TreeAt at ht ht'
  obtain⟨A,cap,css,e,hcap1,hcap2,hA0,hIn,hr,hkids⟩:=ht
  obtain⟨xr,xj,xi,xu,⟨xa,xl,xc⟩⟩:=x
  simp only[List.cons.injEq,Value.int.injEq,Value.slice.injEq,true_and,and_true] at e
  obtain⟨rfl,rfl,rfl,rfl,rfl,rfl,rfl⟩:=e
  obtain⟨A',cap',css',e,hcap1',hcap2',hA0',hIn',hr',hkids'⟩:=ht'
  obtain⟨yr,yj,yi,yu,⟨ya,yl,yc⟩⟩:=y
  simp only[List.cons.injEq,Value.int.injEq,Value.slice.injEq,true_and,and_true] at e
  obtain⟨rfl,rfl,rfl,rfl,rfl,rfl,rfl⟩:=e
  obtain⟨w1,hw1⟩:∃w1,(w.alloc (.cells #[.int .i64 xr,.int .i64 xj,.int .i64 xi,.int .i64 xu,.slice xa l.length xc] 32)).alloc (.cells #[.int .i64 yr,.int .i64 yj,.int .i64 yi,.int .i64 yu,.slice ya l'.length yc] 32)=w1:=⟨_,rfl⟩
  have hB1:Below w.heap.size w w1:=by rw[← hw1];exact Xe (Xe (Below.refl _ _) _) _
  have hz1:w1.heap[w.heap.size]? = some (.cells #[.int .i64 xr,.int .i64 xj,.int .i64 xi,.int .i64 xu,.slice xa l.length xc] 32 (0,0)):=by rw[← hw1];exact(Below.heap_alloc _ _ _ (by simp)).trans (World.alloc_heap_new _ _)
  have hz2:w1.heap[w.heap.size+1]? = some (.cells #[.int .i64 yr,.int .i64 yj,.int .i64 yi,.int .i64 yu,.slice ya l'.length yc] 32 (0,0)):=by rw[← hw1];exact X0 _ _ _ (by simp)
  have Hr:=Xa hr
  have Hkids:=Xa hkids
  have Hr':=Xa hr'
  have Hkids':=Xa hkids'
  have Hih:=Xa ih
  have y0:=gblk hz1 0
  have y1:=gblk hz1 1
  have y2:=gblk hz1 2
  have y3:=gblk hz1 3
  have y4:=gblk hz1 4
  have z0:=gblk hz2 0
  have z1:=gblk hz2 1
  have z2:=gblk hz2 2
  have z3:=gblk hz2 3
  have z4:=gblk hz2 4
  have Hz1:=Xa hz1
  have Hz2:=Xa hz2
  clear hr hkids hIn ih hA0 hr' hkids' hIn' hA0' hz1 hz2
  unfold Xrv
  rw[Vv]
  have key:(xr = -1∧¬yr = -1)∨(¬xr = -1∧yr = -1)∨(¬xr = -1∧¬yr = -1∧¬xr=yr)∨xr=yr:=by omega
  rcases key with ⟨a,b⟩|⟨a,b⟩|⟨a,b,c⟩|rfl
  ·have g1:(xr == -1)=true:=by simpa using a
   have g2:(yr == -1)=false:=by simpa using b
   have hv:(if decide (xr = -1)≠decide (yr = -1) then decide (xr = -1) else if xr≠yr then decide (xr<yr) else if xj≠yj then decide (xj<yj) else Z4 l l')=true:=by simp[a,b]
   rw[hv]
   clear a b hv
   go_enter Tryz.func27,Tryz.ntmps27
   go_wp2_with fail
   go_ret
   exact⟨rfl,hB1⟩
  ·have g1:(xr == -1)=false:=by simpa using a
   have g2:(yr == -1)=true:=by simpa using b
   have hv:(if decide (xr = -1)≠decide (yr = -1) then decide (xr = -1) else if xr≠yr then decide (xr<yr) else if xj≠yj then decide (xj<yj) else Z4 l l')=false:=by simp[a,b]
   rw[hv]
   clear a b hv
   go_enter Tryz.func27,Tryz.ntmps27
   go_wp2_with fail
   go_ret
   exact⟨rfl,hB1⟩
  ·have g1:(xr == -1)=false:=by simpa using a
   have g2:(yr == -1)=false:=by simpa using b
   have g3:(xr != yr)=true:=by simpa using c
   have hv:(if decide (xr = -1)≠decide (yr = -1) then decide (xr = -1) else if xr≠yr then decide (xr<yr) else if xj≠yj then decide (xj<yj) else Z4 l l')=decide (xr<yr):=by simp[a,b,c]
   rw[hv]
   clear a b c hv
   go_enter Tryz.func27,Tryz.ntmps27
   go_wp2_with fail
   go_ret
   exact⟨rfl,hB1⟩
  obtain⟨gr,g1⟩:∃z,(xr == -1)=z:=⟨_,rfl⟩
  rw[if_neg (by simp),if_neg (by simp)]
  by_cases c:¬xj=yj
  ·have g3:(xj != yj)=true:=by simpa using c
   rw[if_pos c]
   clear c
   go_enter Tryz.func27,Tryz.ntmps27
   go_wp2_with fail
   go_ret
   exact⟨rfl,hB1⟩
  obtain rfl:xj=yj:=by simpa using c
  rw[if_neg (by simp)]
  clear c
  go_enter Tryz.func27,Tryz.ntmps27
  go_wp2_with fail
  go_loopw [5] (fun iv wr=>∃m:Nat,m≤l.length∧m≤l'.length∧iv = .int .i64 m∧Below w1.heap.size w1 wr∧Hid (Z4 l l'=Z4 (l.drop m) (l'.drop m))) (fun iv _=>l'.length-(intOf iv).toNat)
  case atStart=>exact⟨0,Nat.zero_le _,Nat.zero_le _,rfl,(Below.refl _ _),rfl⟩
  case round =>
   obtain⟨m,hm,hm',rfl,hB,Hm⟩:=hrel
   have p4:=gblk (Xh hB Hz1.out) 4
   have s4:=gblk (Xh hB Hz2.out) 4
   by_cases hlt:m<l.length
   rotate_left
   ·have He:=Xa (Hm.out.trans (Xrs l l' m (fun h=>hlt h.1)))
    have HB:=Xa (Xb hB1 hB)
    have hlf:¬(m:Int)<(l.length:Int):=by omega
    clear hm hm' hB hB1 Hm hlt
    go_wp2_with fail
    go_ret
    exact⟨by rw[He.out];rfl,HB.out⟩
   by_cases hlt':m<l'.length
   rotate_left
   ·have He:=Xa (Hm.out.trans (Xrs l l' m (fun h=>hlt' h.2)))
    have HB:=Xa (Xb hB1 hB)
    have hlf:¬(m:Int)<(l'.length:Int):=by omega
    have hlt2:(m:Int)<(l.length:Int):=by omega
    clear hm hm' hB hB1 Hm hlt hlt'
    go_wp2_with fail
    go_ret
    exact⟨by rw[He.out];rfl,HB.out⟩
   obtain⟨b,off,B,cp,rfl,hb,htm,q0,q1,q2,q3,q4⟩:=Ux Hr.out Hkids.out hlt
   obtain⟨b',off',B',cp',rfl,hb',htm',r0,r1,r2,r3,r4⟩:=Ux Hr'.out Hkids'.out hlt'
   have hBw:=Xb hB1 hB
   have hbl:=hBw.block b hb
   have hbl':=hBw.block b' hb'
   have a0:=(World.cell?_of_block (a:=⟨b,off+m*5,none⟩) hbl).trans q0
   have a1:=(World.cell?_of_block (a:=⟨b,off+m*5+1,none⟩) hbl).trans q1
   have a2:=(World.cell?_of_block (a:=⟨b,off+m*5+2,none⟩) hbl).trans q2
   have a3:=(World.cell?_of_block (a:=⟨b,off+m*5+3,none⟩) hbl).trans q3
   have a4:=(World.cell?_of_block (a:=⟨b,off+m*5+4,none⟩) hbl).trans q4
   have b0:=(World.cell?_of_block (a:=⟨b',off'+m*5,none⟩) hbl').trans r0
   have b1:=(World.cell?_of_block (a:=⟨b',off'+m*5+1,none⟩) hbl').trans r1
   have b2:=(World.cell?_of_block (a:=⟨b',off'+m*5+2,none⟩) hbl').trans r2
   have b3:=(World.cell?_of_block (a:=⟨b',off'+m*5+3,none⟩) hbl').trans r3
   have b4:=(World.cell?_of_block (a:=⟨b',off'+m*5+4,none⟩) hbl').trans r4
   have hlI:(m:Int)<(l.length:Int):=by omega
   have hlI':(m:Int)<(l'.length:Int):=by omega
   have hc:=fun (v:World) (hv:Below wr.heap.size wr v)=>Hih.out l[m] (List.getElem_mem hlt) ⟨l[m].rule,l[m].item,l[m].frm,l[m].unt,⟨B,l[m].kids.length,cp⟩⟩ l'[m] ⟨l'[m].rule,l'[m].item,l'[m].frm,l'[m].unt,⟨B',l'[m].kids.length,cp'⟩⟩ v (htm.ext (Xb hBw hv)) (htm'.ext (Xb hBw hv))
   have hsame:=fun (v:World) (hv:Below wr.heap.size wr v)=>Qj P P' l[m] ⟨l[m].rule,l[m].item,l[m].frm,l[m].unt,⟨B,l[m].kids.length,cp⟩⟩ l'[m] ⟨l'[m].rule,l'[m].item,l'[m].frm,l'[m].unt,⟨B',l'[m].kids.length,cp'⟩⟩ v (htm.ext (Xb hBw hv)) (htm'.ext (Xb hBw hv))
   have Hc:=Xa hc
   have Hsame:=Xa hsame
   have Hd:=Xa (Hm.out.trans (Xry l l' m hlt hlt'))
   have HB:=Xa (Xb hB1 hB)
   have HBr:=Xa hB
   obtain⟨tl,htl⟩:∃t,l[m]=t:=⟨_,rfl⟩
   obtain⟨tr,htr⟩:∃t,l'[m]=t:=⟨_,rfl⟩
   rw[htl,htr] at Hd Hc Hsame
   rw[htl] at a0 a1 a2 a3 a4
   rw[htr] at b0 b1 b2 b3 b4
   clear q0 q1 q2 q3 q4 r0 r1 r2 r3 r4 hbl hbl' htm htm' hc hsame hBw htl htr hB Hm
   generalize tl.rule=g0 at *
   generalize tl.item=g1 at *
   generalize tl.frm=g2 at *
   generalize tl.unt=g3 at *
   generalize tl.kids.length=g4 at *
   generalize tr.rule=h0 at *
   generalize tr.item=h1 at *
   generalize tr.frm=h2 at *
   generalize tr.unt=h3 at *
   generalize tr.kids.length=h4 at *
   obtain⟨w3,hw3⟩:∃v,wr.alloc (.cells #[.int .i64 g0,.int .i64 g1,.int .i64 g2,.int .i64 g3,.slice B g4 cp] 32)=v:=⟨_,rfl⟩
   have hb3:=Yn hw3
   have hz3:=Yv hw3
   obtain⟨w4,hw4⟩:∃v,w3.alloc (.cells #[.int .i64 h0,.int .i64 h1,.int .i64 h2,.int .i64 h3,.slice B' h4 cp'] 32)=v:=⟨_,rfl⟩
   have hb4:=Yn hw4
   have hz4:=Yv hw4
   have hz34:=Xh hb4 hz3
   have n4:=gblk ((hb3.block _ (Xc (Xh HBr.out Hz2.out))).trans (Xh HBr.out Hz2.out)) 4
   have hlb:b'<wr.heap.size:=Nat.lt_of_lt_of_le hb' HB.out.size
   have d0:=(World.cell?_of_block (a:=⟨b',off'+m*5,none⟩) (hb3.block b' hlb)).trans b0
   have d1:=(World.cell?_of_block (a:=⟨b',off'+m*5+1,none⟩) (hb3.block b' hlb)).trans b1
   have d2:=(World.cell?_of_block (a:=⟨b',off'+m*5+2,none⟩) (hb3.block b' hlb)).trans b2
   have d3:=(World.cell?_of_block (a:=⟨b',off'+m*5+3,none⟩) (hb3.block b' hlb)).trans b3
   have d4:=(World.cell?_of_block (a:=⟨b',off'+m*5+4,none⟩) (hb3.block b' hlb)).trans b4
   have e0:=gblk hz34 0
   have e1:=gblk hz34 1
   have e2:=gblk hz34 2
   have e3:=gblk hz34 3
   have e4:=gblk hz34 4
   have f0:=gblk hz4 0
   have f1:=gblk hz4 1
   have f2:=gblk hz4 2
   have f3:=gblk hz4 3
   have f4:=gblk hz4 4
   have Hb34:=Xa (Xb hb3 hb4)
   have HE:=Xa hz34
   have HF:=Xa hz4
   clear hz3 hz4 hz34 hb3 hb4 hlb
   by_cases c:¬g3=h3
   ·have g5:(g3 != h3)=true:=by simpa using c
    have He:=Xa (Hd.out.trans (if_pos c))
    clear c Hd
    go_wp2_with fail
    go_ret
    exact⟨by rw[He.out];rfl,Xb HB.out Hb34.out⟩
   ·obtain rfl:g3=h3:=by simpa using c
    rw[if_neg (by simp)] at Hd
    clear c
    go_wp2_with fail
    clear hw3 hw4
    refine(Hsame.out _ Hb34.out).mono ?_
    rintro e w5 ⟨bv,rfl,hiff,hb5⟩
    have Hb35:=Xa (Xb Hb34.out hb5)
    have he5:=Xh hb5 HE.out
    have hf5:=Xh hb5 HF.out
    clear e0 e1 e2 e3 e4 f0 f1 f2 f3 f4 n4 d0 d1 d2 d3 d4
    have e0:=gblk he5 0
    have e1:=gblk he5 1
    have e2:=gblk he5 2
    have e3:=gblk he5 3
    have e4:=gblk he5 4
    have f0:=gblk hf5 0
    have f1:=gblk hf5 1
    have f2:=gblk hf5 2
    have f3:=gblk hf5 3
    have f4:=gblk hf5 4
    clear he5 hf5 hb5
    cases bv
    ·have He:=Xa (Hd.out.trans (if_neg (fun h=>by
      have:=hiff.2 ((U2 _ _).1 h)
      cases this)))
     clear hiff
     go_wp2_with fail
     refine(Hc.out _ Hb35.out).mono ?_
     rintro e w6 ⟨rfl,hb6⟩
     have Hb36:=Xa (Xb Hb35.out hb6)
     rw[← He.out]
     clear hb6
     go_wp2_with fail
     go_ret
     exact⟨rfl,Xb HB.out Hb36.out⟩
    ·have He:=Xa (Hd.out.trans (if_pos ((U2 _ _).2 (hiff.1 rfl))))
     clear hiff
     go_wp2_with fail
     go_roundw
     case rel=>exact⟨m+1,hlt,hlt',by go_num,Xb HBr.out Hb35.out,He.out⟩
     case measure=>simp[intOf];omega
set_option maxHeartbeats 8000000 in
theorem Xrw (g:Gram) (its:SlS ItemG) (n:Int) (t:TreeV) (x:TreeG) (w:World) (hT:TabsG w) (hg:g.lies w) (hs:g.short) (hi:ItemsAt w its) (ht:TreeAt w (fun b=>b<w.heap.size) t [.int .i64 x.rule,.int .i64 x.item,.int .i64 x.frm,.int .i64 x.unt,.slice x.kids.addr x.kids.len x.kids.cap]) (hf:Z5 t) :
  Calls Tryz.prog 6 #[.agg #[.string g.name,.slice g.cats.addr g.cats.xs.length g.cats.cap,.string g.start,.int .i64 g.startNo,.slice g.entries.addr g.entries.xs.length g.entries.cap,.slice g.rules.addr g.rules.xs.length g.rules.cap],.slice its.addr its.xs.length its.cap,.int .i64 n,.agg #[.int .i64 x.rule,.int .i64 x.item,.int .i64 x.frm,.int .i64 x.unt,.slice x.kids.addr x.kids.len x.kids.cap]] w fun e w'=>e = .returned (.bool true)∧Below w.heap.size w w':=by
 obtain⟨W1,hW1⟩:∃W1,(w.alloc (.cells #[.string g.name,.slice g.cats.addr g.cats.xs.length g.cats.cap,.string g.start,.int .i64 g.startNo,.slice g.entries.addr g.entries.xs.length g.entries.cap,.slice g.rules.addr g.rules.xs.length g.rules.cap] 26)).alloc (.cells #[.int .i64 x.rule,.int .i64 x.item,.int .i64 x.frm,.int .i64 x.unt,.slice x.kids.addr x.kids.len x.kids.cap] 32)=W1:=⟨_,rfl⟩
 have hB1:Below w.heap.size w W1:=by rw[← hW1];exact Xe (Xe (Below.refl _ _) _) _
 have hk:W1.heap[w.heap.size]? = some (.cells #[.string g.name,.slice g.cats.addr g.cats.xs.length g.cats.cap,.string g.start,.int .i64 g.startNo,.slice g.entries.addr g.entries.xs.length g.entries.cap,.slice g.rules.addr g.rules.xs.length g.rules.cap] 26 (0,0)):=by rw[← hW1];exact(Below.heap_alloc _ _ _ (by simp)).trans (World.alloc_heap_new _ _)
 have hx:W1.heap[w.heap.size+1]? = some (.cells #[.int .i64 x.rule,.int .i64 x.item,.int .i64 x.frm,.int .i64 x.unt,.slice x.kids.addr x.kids.len x.kids.cap] 32 (0,0)):=by rw[← hW1];exact X0 _ _ _ (by simp)
 have HT:=Xa (fun V (hV:Below w.heap.size w V)=>hT.ext hV)
 have HG:=Xa (fun V (hV:Below w.heap.size w V)=>hg.ext hV)
 have HI:=Xa (fun V (hV:Below w.heap.size w V)=>hi.ext hV)
 have HTt:=Xa (fun V (hV:Below w.heap.size w V)=>ht.ext hV)
 have Hs:=Xa hs
 have Hf:=Xa hf
 have HB:=Xa hB1
 have HK:=Xa hk
 have HX:=Xa hx
 clear hT hg hs hi hk hx hB1 ht hf
 go_enter Tryz.func6,Tryz.ntmps6
 go_wp2_with fail
 clear hW1
 refine(Xln W1 (HT.out _ HB.out)).mono ?_
 rintro e w2 ⟨rfl,hb⟩
 replace HB:=Xa (Xb HB.out hb)
 replace HK:=Xa (Xh hb HK.out)
 replace HX:=Xa (Xh hb HX.out)
 clear hb
 have hkc:=HK.out
 have c0:=gblk hkc 0
 have c1:=gblk hkc 1
 have c2:=gblk hkc 2
 have c3:=gblk hkc 3
 have c4:=gblk hkc 4
 have c5:=gblk hkc 5
 have hxc:=HX.out
 have d0:=gblk hxc 0
 have d1:=gblk hxc 1
 have d2:=gblk hxc 2
 have d3:=gblk hxc 3
 have d4:=gblk hxc 4
 clear hkc hxc
 go_wp2_with fail
 clear c0 c1 c2 c3 c4 c5 d0 d1 d2 d3 d4
 refine(Xm2 g its n w2 (HG.out _ HB.out) (HI.out _ HB.out)).mono ?_
 rintro e w3 ⟨b1,rfl,hb,hfew⟩
 replace HB:=Xa (Xb HB.out hb)
 replace HK:=Xa (Xh hb HK.out)
 replace HX:=Xa (Xh hb HX.out)
 clear hb
 have Hfew:=Xa hfew
 clear hfew
 have hkc:=HK.out
 have c0:=gblk hkc 0
 have c1:=gblk hkc 1
 have c2:=gblk hkc 2
 have c3:=gblk hkc 3
 have c4:=gblk hkc 4
 have c5:=gblk hkc 5
 have hxc:=HX.out
 have d0:=gblk hxc 0
 have d1:=gblk hxc 1
 have d2:=gblk hxc 2
 have d3:=gblk hxc 3
 have d4:=gblk hxc 4
 clear hkc hxc
 cases b1
 ·go_wp2_with fail
  go_ret
  exact⟨rfl,HB.out⟩
 go_wp2_with fail
 clear c0 c1 c2 c3 c4 c5 d0 d1 d2 d3 d4
 refine(Xrc _ t x w3 (HTt.out _ HB.out)).mono ?_
 rintro e w4 ⟨rfl,hb⟩
 replace HB:=Xa (Xb HB.out hb)
 replace HK:=Xa (Xh hb HK.out)
 replace HX:=Xa (Xh hb HX.out)
 clear hb
 obtain⟨bn,hbn⟩:∃z,decide (X5 t≤3000)=z:=⟨_,rfl⟩
 rw[hbn]
 clear hbn
 have hkc:=HK.out
 have c0:=gblk hkc 0
 have c1:=gblk hkc 1
 have c2:=gblk hkc 2
 have c3:=gblk hkc 3
 have c4:=gblk hkc 4
 have c5:=gblk hkc 5
 have hxc:=HX.out
 have d0:=gblk hxc 0
 have d1:=gblk hxc 1
 have d2:=gblk hxc 2
 have d3:=gblk hxc 3
 have d4:=gblk hxc 4
 clear hkc hxc
 cases bn
 ·go_wp2_with fail
  go_ret
  exact⟨rfl,HB.out⟩
 go_wp2_with fail
 clear c0 c1 c2 c3 c4 c5 d0 d1 d2 d3 d4
 refine(Xil g its n w4 (HG.out _ HB.out) (HI.out _ HB.out)).mono ?_
 rintro e w5 ⟨rfl,hb⟩
 replace HB:=Xa (Xb HB.out hb)
 replace HK:=Xa (Xh hb HK.out)
 replace HX:=Xa (Xh hb HX.out)
 clear hb
 have hkc:=HK.out
 have c0:=gblk hkc 0
 have c1:=gblk hkc 1
 have c2:=gblk hkc 2
 have c3:=gblk hkc 3
 have c4:=gblk hkc 4
 have c5:=gblk hkc 5
 have hxc:=HX.out
 have d0:=gblk hxc 0
 have d1:=gblk hxc 1
 have d2:=gblk hxc 2
 have d3:=gblk hxc 3
 have d4:=gblk hxc 4
 clear hkc hxc
 by_cases h0:errC g its.xs n=0
 rotate_left
 ·have q0:(errC g its.xs n != 0)=true:=by simpa using h0
  have q1:(errC g its.xs n == 0)=false:=by simpa using h0
  clear h0
  generalize errC g its.xs n=ee at *
  go_wp2_with fail
  go_ret
  exact⟨rfl,HB.out⟩
 have H0:=Xa h0
 rw[h0]
 clear h0
 obtain⟨⟨t1,k1,o1,e1⟩,hbb⟩:∃z,Zj g its.xs n=z:=⟨_,rfl⟩
 obtain⟨⟨cc,is,ff⟩,hcc⟩:∃z,Vt g its.xs n t=z:=⟨_,rfl⟩
 obtain⟨rfl,hff,hnv,hc1⟩:=Xr9 H0.out (Hfew.out (by trivial)) hbb hcc
 have Hbb:=Xa hbb
 have Hcc:=Xa hcc
 have Hc1:=Xa hc1
 have Hnv:=Xa hnv
 clear hbb hcc hc1 hnv
 go_wp2_with fail
 clear c0 c1 c2 c3 c4 c5 d0 d1 d2 d3 d4
 refine(Xb2 (HT.out _ HB.out) (HG.out _ HB.out) Hs.out (HI.out _ HB.out) Hbb.out).mono ?_
 rintro e w6 ⟨x1,rfl,ht1,hb⟩
 replace HB:=Xa (Xb HB.out hb)
 replace HK:=Xa (Xh hb HK.out)
 replace HX:=Xa (Xh hb HX.out)
 clear hb
 have HT1:=Xa ht1
 clear ht1
 obtain⟨w7,hw⟩:∃v,w6.alloc (.cells #[.int .i64 x1.rule,.int .i64 x1.item,.int .i64 x1.frm,.int .i64 x1.unt,.slice x1.kids.addr x1.kids.len x1.kids.cap] 32)=v:=⟨_,rfl⟩
 have hb:=Yn hw
 replace HB:=Xa (Xb HB.out hb)
 replace HK:=Xa (Xh hb HK.out)
 replace HX:=Xa (Xh hb HX.out)
 replace HT1:=Xa (HT1.out.ext hb)
 have HY:=Xa (Yv hw)
 obtain⟨yb,hyb⟩:∃z,w6.heap.size=z:=⟨_,rfl⟩
 rw[hyb] at HY
 clear hb
 have hkc:=HK.out
 have c0:=gblk hkc 0
 have c1:=gblk hkc 1
 have c2:=gblk hkc 2
 have c3:=gblk hkc 3
 have c4:=gblk hkc 4
 have c5:=gblk hkc 5
 have hxc:=HX.out
 have d0:=gblk hxc 0
 have d1:=gblk hxc 1
 have d2:=gblk hxc 2
 have d3:=gblk hxc 3
 have d4:=gblk hxc 4
 clear hkc hxc
 go_wp2_with fail
 clear hw hyb
 clear c0 c1 c2 c3 c4 c5 d0 d1 d2 d3 d4
 refine(Xl5 (HT.out _ HB.out) (HG.out _ HB.out) Hs.out (HI.out _ HB.out) (fun b hb=>Nat.lt_of_lt_of_le hb HB.out.size) (HTt.out _ HB.out) Hf.out Hcc.out).mono ?_
 rintro e w8 ⟨rfl,hb⟩
 replace HB:=Xa (Xb HB.out hb)
 replace HK:=Xa (Xh hb HK.out)
 replace HX:=Xa (Xh hb HX.out)
 replace HY:=Xa (Xh hb HY.out)
 replace HT1:=Xa (HT1.out.ext hb)
 clear hb
 have hkc:=HK.out
 have c0:=gblk hkc 0
 have c1:=gblk hkc 1
 have c2:=gblk hkc 2
 have c3:=gblk hkc 3
 have c4:=gblk hkc 4
 have c5:=gblk hkc 5
 have hxc:=HX.out
 have d0:=gblk hxc 0
 have d1:=gblk hxc 1
 have d2:=gblk hxc 2
 have d3:=gblk hxc 3
 have d4:=gblk hxc 4
 have hyc:=HY.out
 have f0:=gblk hyc 0
 have f1:=gblk hyc 1
 have f2:=gblk hyc 2
 have f3:=gblk hyc 3
 have f4:=gblk hyc 4
 clear hkc hxc hyc
 have key:is=false∨(is=true∧o1=true∧k1<cc)∨(is=true∧o1=true∧cc=k1∧Vb t t1=false):=by
  have h:=Hnv.out
  cases is
  ·exact .inl rfl
  ·obtain⟨h1,h2,h3⟩:=h rfl
   by_cases e:cc=k1
   ·exact .inr (.inr ⟨rfl,h1,e,h3 e⟩)
   ·exact .inr (.inl ⟨rfl,h1,by omega⟩)
 have Hfit:=Xa (Xms H0.out Hbb.out).1
 clear Hnv
 rcases key with rfl|⟨rfl,rfl,hlt⟩|⟨rfl,rfl,rfl,hbf⟩<;>rcases hff with rfl|rfl
 case' inr.inl.inl|inr.inl.inr =>
  have g1:decide (cc<k1)=false:=decide_eq_false (by omega)
  have g2:(cc == k1)=false:=by simp;omega
  clear hlt
 case' inr.inr.inl|inr.inr.inr =>
  have Hbf:=Xa hbf
  clear hbf
  go_wp2_with fail
  clear c0 c1 c2 c3 c4 c5 d0 d1 d2 d3 d4 f0 f1 f2 f3 f4
  refine(Xr7 _ _ t x t1 x1 _ (HTt.out _ HB.out) HT1.out).mono ?_
  rintro e w9 ⟨rfl,hb⟩
  rw[Hbf.out]
  replace HB:=Xa (Xb HB.out hb)
  replace HK:=Xa (Xh hb HK.out)
  replace HY:=Xa (Xh hb HY.out)
  replace HT1:=Xa (HT1.out.ext hb)
  clear hb
  have hkc:=HK.out
  have c0:=gblk hkc 0
  have c1:=gblk hkc 1
  have c2:=gblk hkc 2
  have c3:=gblk hkc 3
  have c4:=gblk hkc 4
  have c5:=gblk hkc 5
  have hyc:=HY.out
  have f0:=gblk hyc 0
  have f1:=gblk hyc 1
  have f2:=gblk hyc 2
  have f3:=gblk hyc 3
  have f4:=gblk hyc 4
  clear hkc hyc
 all_goals
  go_wp2_with fail
  refine(Xl5 (HT.out _ HB.out) (HG.out _ HB.out) Hs.out (HI.out _ HB.out) (fun b hb=>(by obtain⟨⟨_,_,hb⟩,_⟩:=hb;exact Xc hb)) HT1.out Hfit.out Hc1.out).mono ?_
  rintro e w10 ⟨rfl,hb⟩
  replace HB:=Xa (Xb HB.out hb)
  clear hb
  go_wp2_with fail
  go_ret
  exact⟨rfl,HB.out⟩
end Go.Proofs.YthojaplnimoacaaGreatDoor
namespace Go.Proofs.YthojaplnimoacaaGreatDoor
open Go.RowKit Go.Han Go.ChangeShapes Go.WideShapes Go.ChangeAt Go.Deep
set_option maxRecDepth 100000
section
variable {H:Type} {enc:TypeId×Value→H} {w:World} {spare:Nat→Bool} {held:Bool}
def Xr5 (w:World):Type:={p:TreeV×List Value // p.2.length=5∧TreeAt w (fun b=>b<w.heap.size) p.1 p.2∧Z5 p.1}
theorem Xsb (w:World):∀L:List (Xr5 w),KidsAt w (fun b=>b<w.heap.size) (L.map (·.1.1)) (L.map (·.1.2))∧Vd (L.map (·.1.1))
 | []=>⟨by unfold KidsAt;rfl,by unfold Vd;trivial⟩
 | y :: L=>by
  have h:=Xsb w L
  constructor
  ·show KidsAt w _ (y.1.1 :: L.map (·.1.1)) (y.1.2 :: L.map (·.1.2))
   unfold KidsAt
   exact⟨_,_,rfl,y.2.2.1,h.1⟩
  ·show Vd (y.1.1 :: L.map (·.1.1))
   unfold Vd
   exact⟨y.2.2.2,h.2⟩
theorem Xru {t:Int} (h:(Lit.int .i64 t).wf=true):I6 t:=by
 simp only[Lit.wf,Bool.and_eq_true,decide_eq_true_eq] at h
 have e1:IntKind.i64.min = -9223372036854775808:=by decide
 have e2:IntKind.i64.max=9223372036854775807:=by decide
 rw[e1,e2] at h
 exact h
theorem Xsf {α:Type} (n:Nat) (p:Nat→α→Prop) (h:∀i,i<n→∃y,p i y):∃L:List α,L.length=n∧∀i (hi:i<L.length),p i L[i]:=by
 induction n with
 | zero=>exact⟨[],rfl,fun i hi=>(by simp at hi)⟩
 | succ n ih =>
  obtain⟨L,hL,hp⟩:=ih (fun i hi=>h i (by omega))
  obtain⟨y,hy⟩:=h n (by omega)
  refine⟨L++[y],by simp[hL],fun i hi=>?_⟩
  rw[List.length_append,List.length_singleton] at hi
  rcases Nat.lt_or_ge i L.length with h1|h1
  ·rw[List.getElem_append_left h1];exact hp i h1
  ·obtain rfl:i=L.length:=by omega
   rw[List.getElem_append_right (Nat.le_refl _)]
   simp only[Nat.sub_self,List.getElem_cons_zero]
   rw[hL];exact hy
theorem Xse:∃fs:Array Field,Tryz.prog.underlying 32=some (.struct fs)∧fs.toList.map (fun f=>(f.type,f.offset))=[(3,0),(3,1),(3,2),(3,3),(30,4)]∧Tryz.prog.cellsOf 32=5:=⟨_,Tryz.underlying32,by kernel_rfl,by kernel_rfl⟩
theorem Xr6:Tryz.prog.cellsOf 30=1:=by kernel_rfl
theorem Xsd:∀(fuel:Nat) (cs:List Value) (x:DataW H×List MemPlace),DataW.trod enc Tryz.prog w 0 spare held fuel 32 cs=some x→∃y:Xr5 w,cs=y.1.2:=by
 intro fuel
 induction fuel using Nat.strongRecOn with
 | _ fuel ih =>
 intro cs x h
 obtain⟨fs,hu,hf,hc⟩:=Xse
 obtain⟨xs,n,hfu,_,hlen,hxl,hat⟩:=DataW.trod_struct hu h
 rw[hc] at hlen
 have hsz:fs.size=5:=by have:=congrArg List.length hf;simpa using this
 obtain⟨f0,e0,t0,o0⟩:=X3 hf (i:=0) rfl
 obtain⟨f1,e1,t1,o1⟩:=X3 hf (i:=1) rfl
 obtain⟨f2,e2,t2,o2⟩:=X3 hf (i:=2) rfl
 obtain⟨f3,e3,t3,o3⟩:=X3 hf (i:=3) rfl
 obtain⟨f4,e4,t4,o4⟩:=X3 hf (i:=4) rfl
 have h0:=hat 0 f0 e0
 have h1:=hat 1 f1 e1
 have h2:=hat 2 f2 e2
 have h3:=hat 3 f3 e3
 have h4:=hat 4 f4 e4
 rw[t0,o0,Yz,List.getElem?_eq_getElem (by omega)] at h0
 rw[t1,o1,Yz,List.getElem?_eq_getElem (by omega)] at h1
 rw[t2,o2,Yz,List.getElem?_eq_getElem (by omega)] at h2
 rw[t3,o3,Yz,List.getElem?_eq_getElem (by omega)] at h3
 rw[t4,o4,Xr6,List.getElem?_eq_getElem (by omega)] at h4
 obtain⟨a0,g0,_,z0⟩:=DataW.trod_int Tryz.underlying3 h0
 obtain⟨a1,g1,_,z1⟩:=DataW.trod_int Tryz.underlying3 h1
 obtain⟨a2,g2,_,z2⟩:=DataW.trod_int Tryz.underlying3 h2
 obtain⟨a3,g3,_,z3⟩:=DataW.trod_int Tryz.underlying3 h3
 have key:∃(A:Option Addr) (cp:Nat) (L:List (Xr5 w)),(cs.drop 4).take 1=[.slice A L.length cp]∧L.length≤cp∧cp≤9223372036854775807∧(A=none→L=[])∧InP (fun b=>b<w.heap.size) A L.length∧Rd w A (L.map (·.1.2)).flatten:=by
  rcases DataW.trod_slice Tryz.underlying30 h4 with ⟨e,_⟩|⟨a,len,cap,elems,rest,n',hn',e,_,_,hlc,hcm,hel,hi,_,_⟩
  ·exact⟨none,0,[],e,Nat.le_refl _,by omega,fun _=>rfl,fun h=>absurd h (by simp),.inl rfl⟩
  ·rw[hc] at hi
   have each:∀i,i<len→∃y:Xr5 w,∀j u,y.1.2[j]? = some u→w.cell? (a.add (i*5+j))=some u:=by
    intro i hil
    have h5:=hi i hil
    rw[List.getElem?_eq_getElem (by omega)] at h5
    obtain⟨cs',hcs,htr⟩:=Option.bind_eq_some_iff.1 h5
    obtain⟨y,rfl⟩:=ih n' (by omega) cs' _ htr
    refine⟨y,fun j u hu=>?_⟩
    obtain⟨_,hcl,hat'⟩:=World.cells?_some hcs
    have hj:j<5:=by rw[← y.2.1];exact(List.getElem?_eq_some_iff.1 hu).1
    rw[← Go.Deep.add_add,hat' j hj,hu]
   obtain⟨L,hL,hp⟩:=Xsf len _ each
   subst hL
   have hsp:0<L.length→a.spot=none∧a.block<w.heap.size:=by
    intro h0
    have hl0:0<L[0].1.2.length:=by rw[L[0].2.1];decide
    have:=hp 0 h0 0 _ (List.getElem?_eq_getElem hl0)
    rw[Nat.zero_mul,Nat.zero_add] at this
    have hcl:w.cell? a=some _:=this
    refine⟨?_,Ue hcl⟩
    unfold World.cell? at hcl
    split at hcl
    ·split at hcl
     ·cases hcl
     ·rename_i hn;simpa using hn
    ·cases hcl
   refine⟨some a,cap,L,e,hlc,by unfold maxLen at hcm;omega,fun h=>(by cases h),fun h0=>?_,?_⟩
   ·obtain⟨h6,h7⟩:=hsp h0
    obtain⟨b,off,sp⟩:=a
    obtain rfl:sp=none:=h6
    exact⟨b,off,rfl,h7⟩
   ·rcases Nat.eq_zero_or_pos L.length with h0|h0
    ·obtain rfl:=List.eq_nil_of_length_eq_zero h0
     exact .inl rfl
    ·obtain⟨h6,h7⟩:=hsp h0
     obtain⟨b,off,sp⟩:=a
     obtain rfl:sp=none:=h6
     refine .inr ⟨b,off,rfl,h7,fun j u hu=>?_⟩
     rw[← List.flatMap_def] at hu
     have hj:j<L.length*5:=by
      have:=(List.getElem?_eq_some_iff.1 hu).1
      rwa [Z6 (fun y:Xr5 w=>y.1.2) 5 (fun y=>y.2.1)] at this
     have hk:j / 5<L.length:=by omega
     have hg:=Xe1 (fun y:Xr5 w=>y.1.2) 5 (fun y=>y.2.1) L (j / 5) (j % 5) hk (by omega)
     rw[show j / 5*5+j % 5=j by omega,hu] at hg
     have:=hp (j / 5) hk (j % 5) u hg.symm
     rw[show j / 5*5+j % 5=j by omega] at this
     unfold Addr.add at this
     split at this
     ·rename_i h8;subst h8;exact this
     ·exact this
 obtain⟨A,cp,L,g4,k1,k2,k3,k4,k5⟩:=key
 obtain⟨hK,hF⟩:=Xsb w L
 match cs,hlen with
 | [c0,c1,c2,c3,c4],_ =>
  simp at g0 g1 g2 g3 g4
  refine⟨⟨(.node a0 a1 a2 a3 (L.map (·.1.1)),[c0,c1,c2,c3,c4]),rfl,?_,?_⟩,rfl⟩
  ·unfold TreeAt
   exact⟨A,cp,L.map (·.1.2),by rw[g0,g1,g2,g3,g4];simp,by simpa using k1,k2,fun h=>by rw[k3 h];rfl,by simpa using k4,k5,hK⟩
  ·unfold Z5
   exact⟨Xru z0,Xru z1,Xru z2,Xru z3,hF⟩
theorem Xsc {fuel:Nat} {cs:List Value} {x:DataW H×List MemPlace} (h:DataW.trod enc Tryz.prog w 0 spare held fuel 32 cs=some x):∃(t:TreeV) (y:TreeG),cs=y.cells∧TreeAt w (fun b=>b<w.heap.size) t y.cells∧Z5 t:=by
 obtain⟨⟨⟨t,cs'⟩,hp⟩,rfl⟩:=Xsd fuel cs x h
 obtain⟨_,h2,h3⟩:=hp
 obtain⟨r,j,i,k,l⟩:=t
 have h4:=h2
 unfold TreeAt at h4
 obtain⟨A,cap,css,e,_⟩:=h4
 have e2:cs=(TreeG.mk r j i k ⟨A,l.length,cap⟩).cells:=e
 subst e2
 exact⟨_,_,rfl,h2,h3⟩
end
end Go.Proofs.YthojaplnimoacaaGreatDoor
