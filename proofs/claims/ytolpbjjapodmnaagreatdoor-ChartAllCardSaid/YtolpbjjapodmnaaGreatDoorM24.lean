/- Texts of this claim, one after the other: ChaV, UnuP, AllQ, R29h, Law29w, Opg1g, Opg2g, Opg3g, Opg4g, Opg5. -/
import Derived.Test.YtolpbjjapodmnaaGreatDoorM3
import Derived.Test.YtolpbjjapodmnaaGreatDoorM20
import Derived.Test.YtolpbjjapodmnaaGreatDoorM21
import Derived.Test.YtolpbjjapodmnaaGreatDoorM23
import Derived.Test.YtolpbjjapodmnaaGreatDoorM8
import Derived.Test.YtolpbjjapodmnaaGreatDoorTie
import Derived.Test.YtolpbjjapodmnaaGreatDoorM11
import Derived.Test.YtolpbjjapodmnaaGreatDoorM15
import Derived.Test.YtolpbjjapodmnaaGreatDoorM10
import Derived.Lib.LaidU8T
import Derived.PinnedBridge
import Derived.OpenVars
import Derived.Deep.Slices
import Derived.Deep.Fields
import Derived.Lib.SmallJoins
import Derived.ProofKit
import Derived.LaidMore
import Derived.OpenShut
import Derived.Lay
import Derived.Stop.Joined
import Derived.Below
import Derived.ChangeSame
import Derived.Carry
import Derived.Lib.LaidTab
namespace Go.Proofs.YtolpbjjapodmnaaGreatDoor
open Go.RowKit Go.Han
set_option maxRecDepth 100000
/-! ### a further item -/
/-! ### another order -/
/-! ### without an item -/
theorem Xc5 {st:Int→ByteArray→Bool} {A:Int→Nat→Nat→List Dv} {K:Nat}:∀(ps:List PartG) (i k:Nat) (x:Dk),(∀c u v,u≤v→v≤K→∀y∈A c u v,Z6 y.2)→k≤K→x∈Ye st A ps i k→Ve x.2
 | [],i,k,x,hA,hk,h=>by obtain⟨_,rfl⟩:=V7.1 h;unfold Ve;trivial
 | p :: ps,i,k,x,hA,hk,h=>by
  by_cases hp:p.text.size≠0
  ·obtain⟨h1,h2,h3⟩:=(V8 hp).1 h
   exact Xc5 ps (i+1) k x hA hk h3
  ·obtain⟨m,h1,h2,a,ha,b,hb,rfl⟩:=(U1 (by simpa using hp)).1 h
   unfold Ve
   exact⟨hA _ _ _ (by omega) (by omega) a ha,Xc5 ps m k b hA hk hb⟩
theorem Xip {g:Gram} {items:List ItemG} (hg:Yu g) (hl:items.length≤16384) {K:Nat} (hK:K≤1000):∀(f:Nat) (c:Int) (i k:Nat) (x:Dv),i≤k→k≤K→x∈derF g items f c i k→Z6 x.2
 | 0,_,_,_,_,_,_,h=>by cases h
 | f+1,c,i,k,x,hik,hk,h=>by
  unfold derF at h
  rcases List.mem_append.1 h with h|h
  ·obtain⟨n,y,h1,h2,h3,h4,rfl⟩:=Zf.1 h
   have h5:=(List.getElem?_eq_some_iff.1 h1).1
   simp only[Zt,Z6,Ve,I6]
   exact⟨⟨by omega,by omega⟩,⟨by omega,by omega⟩,⟨by omega,by omega⟩,⟨by omega,by omega⟩,trivial⟩
  ·obtain⟨n,r,h1,h2,h⟩:=Zi.1 h
   obtain⟨y,hy,rfl⟩:=Z1.1 h
   have h5:=(List.getElem?_eq_some_iff.1 h1).1
   have h6:=hg.fewR
   have h7:=Xc5 r.parts.xs i k y (fun c u v huv hv z hz=>Xip hg hl hK f c u v z huv hv hz) hk hy
   simp only[Z6,I6]
   refine⟨by omega,by omega,by omega,by omega,h7⟩
theorem Xv0 {g:Gram} {items:List ItemG} {n:Int} (h0:errC g items n=0) (h5:n≤5) {x:Dv} (hx:x∈derG g items g.startNo 0 n.toNat):Vv g items n x.2=(x.1,true,0)∧Z6 x.2:=by
 have h:=Vz h0
 have hn:=h.n1
 unfold derG at hx
 obtain⟨h1,h2,h3⟩:=Xb7 _ _ _ _ _ hx
 have h4:=Xaq h.gram _ _ _ _ _ hx (by omega)
 have h6:=Xjl g g.startNo
 have h7:=h.gram.few
 have h8:(2*(n.toNat-0)-2)*g.cats.xs.length≤8*32:=Nat.mul_le_mul (by omega) h7
 refine⟨?_,Xip h.gram h.few (K:=1000) (Nat.le_refl _) _ _ _ _ _ (Nat.zero_le _) (by omega) hx⟩
 unfold Vv
 rw[if_neg (fun hn=>hn h0),if_neg (by omega),h3,if_neg]
 rintro(h9|h9|h9)
 ·cases h9
 ·exact h9 (by rw[h1];rfl)
 ·exact h9 (by rw[h2];omega)
theorem Xvy {g:Gram} {items:List ItemG} {n:Int} (h0:errC g items n=0) (h2:(derG g items g.startNo 0 n.toNat).length≤200):Vy g items n=(((derG g items g.startNo 0 n.toNat).length:Int),0):=by
 have h3:Xqd g items n=(derG g items g.startNo 0 n.toNat).length:=by unfold Xqd capN bigN;omega
 unfold Vy
 rw[if_neg (fun hn=>hn h0),h3,if_neg (by unfold bigN;omega)]
theorem Xv7 {g:Gram} {items:List ItemG} {n:Int} (h0:errC g items n=0) {x:Dv} (hx:Xv (derG g items g.startNo 0 n.toNat)=some x):Zk g items n=(x.2,x.1,true,0):=by
 unfold Zk Xdl
 rw[if_neg (fun hn=>hn h0),hx]
theorem Xvx {g:Gram} {items:List ItemG} {n:Int} (h0:errC g items n=0) (hx:Xv (derG g items g.startNo 0 n.toNat)=none):Zk g items n=(Un,0,false,0):=by
 unfold Zk Xdl
 rw[if_neg (fun hn=>hn h0),hx]
theorem Xvz {g:Gram} {items:List ItemG} {n:Int} {t x:Dv} (ht:Xv (derG g items g.startNo 0 n.toNat)=some t) (hx:x∈derG g items g.startNo 0 n.toNat):t.1≤x.1∧(x.1=t.1→Vc x.2 t.2=false) :=
 ⟨(Zv ht).2 x hx,fun e=>Xcx ht hx e⟩
def metD (t:Dv) (l:List Dv):Bool:=l.any fun y=>decide (y.1=t.1) && Xa9 y.2 t.2
theorem Xv2 (t:Dv) {l:List Dv} {p:Nat} (h:p<l.length):metD t (l.take (p+1))=(metD t (l.take p) || (decide (l[p].1=t.1) && Xa9 l[p].2 t.2)):=by
 unfold metD
 rw[show l.take (p+1)=l.take p++[l[p]] from List.take_succ_eq_append_getElem h,List.any_append]
 simp
theorem Xv9 {t:Dv} {l:List Dv} (h:t∈l):metD t l=true:=by
 unfold metD
 rw[List.any_eq_true]
 exact⟨t,h,by simp[(U4 t.2 t.2).2 rfl]⟩
end Go.Proofs.YtolpbjjapodmnaaGreatDoor
namespace Go.Proofs.YtolpbjjapodmnaaGreatDoor
open Go.RowKit Go.Han
attribute [local irreducible] wpStill wpQuiet
set_option maxRecDepth 100000
def Xr2 (t t':TreeV) (w:World) (e:Ending) (w':World):Prop:=e = .returned (.bool (Vc t t'))∧Below w.heap.size w w'
theorem Xr5 (l l':List TreeV) (m:Nat) (h:m<l.length) (h':m<l'.length):Z5 (l.drop m) (l'.drop m)=if l[m].unt≠l'[m].unt then decide (l[m].unt<l'[m].unt) else if Xa9 l[m] l'[m] then Z5 (l.drop (m+1)) (l'.drop (m+1)) else Vc l[m] l'[m]:=by
 rw[List.drop_eq_getElem_cons h,List.drop_eq_getElem_cons h',Z5]
theorem Xrz (l l':List TreeV) (m:Nat) (h:¬(m<l.length∧m<l'.length)):Z5 (l.drop m) (l'.drop m)=false:=by
 by_cases h1:m<l.length
 ·have e:l'.drop m=[]:=List.drop_eq_nil_of_le (by omega)
  rw[e]
  cases l.drop m<;>simp[Z5]
 ·have e:l.drop m=[]:=List.drop_eq_nil_of_le (by omega)
  rw[e]
  simp[Z5]
set_option maxHeartbeats 2000000 in
theorem Xse (P P':Nat→Prop):∀(t:TreeV) (x:TreeG) (t':TreeV) (y:TreeG) (w:World),TreeAt w P t [.int .i64 x.rule,.int .i64 x.item,.int .i64 x.frm,.int .i64 x.unt,.slice x.kids.addr x.kids.len x.kids.cap]→TreeAt w P' t' [.int .i64 y.rule,.int .i64 y.item,.int .i64 y.frm,.int .i64 y.unt,.slice y.kids.addr y.kids.len y.kids.cap] →
  Calls Tryz.prog 22 #[.agg #[.int .i64 x.rule,.int .i64 x.item,.int .i64 x.frm,.int .i64 x.unt,.slice x.kids.addr x.kids.len x.kids.cap],.agg #[.int .i64 y.rule,.int .i64 y.item,.int .i64 y.frm,.int .i64 y.unt,.slice y.kids.addr y.kids.len y.kids.cap]] w (Xr2 t t' w) :=
 TreeV.ind fun r j i u l ih x t' y w ht ht'=>by
  obtain⟨r',j',i',u',l'⟩:=t'
  unfold TreeAt at ht ht'
  obtain⟨A,cap,css,e,hcap1,hcap2,hA0,hIn,hr,hkids⟩:=ht
  obtain⟨xr,xj,xi,xu,⟨xa,xl,xc⟩⟩:=x
  simp only[List.cons.injEq,Value.int.injEq,Value.slice.injEq,true_and,and_true] at e
  obtain⟨rfl,rfl,rfl,rfl,rfl,rfl,rfl⟩:=e
  obtain⟨A',cap',css',e,hcap1',hcap2',hA0',hIn',hr',hkids'⟩:=ht'
  obtain⟨yr,yj,yi,yu,⟨ya,yl,yc⟩⟩:=y
  simp only[List.cons.injEq,Value.int.injEq,Value.slice.injEq,true_and,and_true] at e
  obtain⟨rfl,rfl,rfl,rfl,rfl,rfl,rfl⟩:=e
  obtain⟨w1,hw1⟩:∃w1,(w.alloc (.cells #[.int .i64 xr,.int .i64 xj,.int .i64 xi,.int .i64 xu,.slice xa l.length xc] 37)).alloc (.cells #[.int .i64 yr,.int .i64 yj,.int .i64 yi,.int .i64 yu,.slice ya l'.length yc] 37)=w1:=⟨_,rfl⟩
  have hB1:Below w.heap.size w w1:=by rw[← hw1];exact Xe (Xe (Below.refl _ _) _) _
  have hz1:w1.heap[w.heap.size]? = some (.cells #[.int .i64 xr,.int .i64 xj,.int .i64 xi,.int .i64 xu,.slice xa l.length xc] 37 (0,0)):=by rw[← hw1];exact(Below.heap_alloc _ _ _ (by simp)).trans (World.alloc_heap_new _ _)
  have hz2:w1.heap[w.heap.size+1]? = some (.cells #[.int .i64 yr,.int .i64 yj,.int .i64 yi,.int .i64 yu,.slice ya l'.length yc] 37 (0,0)):=by rw[← hw1];exact X0 _ _ _ (by simp)
  have Hr:=Xa hr
  have Hkids:=Xa hkids
  have Hr':=Xa hr'
  have Hkids':=Xa hkids'
  have Hih:=Xa ih
  obtain⟨y0,y1,y2,y3,y4⟩:=gb5 hz1
  obtain⟨z0,z1,z2,z3,z4⟩:=gb5 hz2
  have Hz1:=Xa hz1
  have Hz2:=Xa hz2
  clear hr hkids hIn ih hA0 hr' hkids' hIn' hA0' hz1 hz2
  unfold Xr2
  rw[Vx]
  have key:(xr = -1∧¬yr = -1)∨(¬xr = -1∧yr = -1)∨(¬xr = -1∧¬yr = -1∧¬xr=yr)∨xr=yr:=by omega
  rcases key with ⟨a,b⟩|⟨a,b⟩|⟨a,b,c⟩|rfl
  ·have g1:(xr == -1)=true:=by simpa using a
   have g2:(yr == -1)=false:=by simpa using b
   have hv:(if decide (xr = -1)≠decide (yr = -1) then decide (xr = -1) else if xr≠yr then decide (xr<yr) else if xj≠yj then decide (xj<yj) else Z5 l l')=true:=by simp[a,b]
   rw[hv]
   clear a b hv
   go_enter Tryz.func22,Tryz.ntmps22
   go_wp2_with fail
   go_ret
   exact⟨rfl,hB1⟩
  ·have g1:(xr == -1)=false:=by simpa using a
   have g2:(yr == -1)=true:=by simpa using b
   have hv:(if decide (xr = -1)≠decide (yr = -1) then decide (xr = -1) else if xr≠yr then decide (xr<yr) else if xj≠yj then decide (xj<yj) else Z5 l l')=false:=by simp[a,b]
   rw[hv]
   clear a b hv
   go_enter Tryz.func22,Tryz.ntmps22
   go_wp2_with fail
   go_ret
   exact⟨rfl,hB1⟩
  ·have g1:(xr == -1)=false:=by simpa using a
   have g2:(yr == -1)=false:=by simpa using b
   have g3:(xr != yr)=true:=by simpa using c
   have hv:(if decide (xr = -1)≠decide (yr = -1) then decide (xr = -1) else if xr≠yr then decide (xr<yr) else if xj≠yj then decide (xj<yj) else Z5 l l')=decide (xr<yr):=by simp[a,b,c]
   rw[hv]
   clear a b c hv
   go_enter Tryz.func22,Tryz.ntmps22
   go_wp2_with fail
   go_ret
   exact⟨rfl,hB1⟩
  obtain⟨gr,g1⟩:∃z,(xr == -1)=z:=⟨_,rfl⟩
  rw[if_neg (by simp),if_neg (by simp)]
  by_cases c:¬xj=yj
  ·have g3:(xj != yj)=true:=by simpa using c
   rw[if_pos c]
   clear c
   go_enter Tryz.func22,Tryz.ntmps22
   go_wp2_with fail
   go_ret
   exact⟨rfl,hB1⟩
  obtain rfl:xj=yj:=by simpa using c
  rw[if_neg (by simp)]
  clear c
  go_enter Tryz.func22,Tryz.ntmps22
  go_wp2_with fail
  go_loopw [5] (fun iv wr=>∃m:Nat,m≤l.length∧m≤l'.length∧iv = .int .i64 m∧Below w1.heap.size w1 wr∧Hid (Z5 l l'=Z5 (l.drop m) (l'.drop m))) (fun iv _=>l'.length-(intOf iv).toNat)
  case atStart=>exact⟨0,Nat.zero_le _,Nat.zero_le _,rfl,(Below.refl _ _),rfl⟩
  case round =>
   obtain⟨m,hm,hm',rfl,hB,Hm⟩:=hrel
   have p4:=gblk (Xh hB Hz1.out) 4
   have s4:=gblk (Xh hB Hz2.out) 4
   by_cases hlt:m<l.length
   rotate_left
   ·have He:=Xa (Hm.out.trans (Xrz l l' m (fun h=>hlt h.1)))
    have HB:=Xa (Xb hB1 hB)
    have hlf:¬(m:Int)<(l.length:Int):=by omega
    clear hm hm' hB hB1 Hm hlt
    go_wp2_with fail
    go_ret
    exact⟨by rw[He.out];rfl,HB.out⟩
   by_cases hlt':m<l'.length
   rotate_left
   ·have He:=Xa (Hm.out.trans (Xrz l l' m (fun h=>hlt' h.2)))
    have HB:=Xa (Xb hB1 hB)
    have hlf:¬(m:Int)<(l'.length:Int):=by omega
    have hlt2:(m:Int)<(l.length:Int):=by omega
    clear hm hm' hB hB1 Hm hlt hlt'
    go_wp2_with fail
    go_ret
    exact⟨by rw[He.out];rfl,HB.out⟩
   obtain⟨b,off,B,cp,rfl,hb,htm,q0,q1,q2,q3,q4⟩:=Uz Hr.out Hkids.out hlt
   obtain⟨b',off',B',cp',rfl,hb',htm',r0,r1,r2,r3,r4⟩:=Uz Hr'.out Hkids'.out hlt'
   have hBw:=Xb hB1 hB
   have hbl:=hBw.block b hb
   have hbl':=hBw.block b' hb'
   have a0:=(World.cell?_of_block (a:=⟨b,off+m*5,none⟩) hbl).trans q0
   have a1:=(World.cell?_of_block (a:=⟨b,off+m*5+1,none⟩) hbl).trans q1
   have a2:=(World.cell?_of_block (a:=⟨b,off+m*5+2,none⟩) hbl).trans q2
   have a3:=(World.cell?_of_block (a:=⟨b,off+m*5+3,none⟩) hbl).trans q3
   have a4:=(World.cell?_of_block (a:=⟨b,off+m*5+4,none⟩) hbl).trans q4
   have b0:=(World.cell?_of_block (a:=⟨b',off'+m*5,none⟩) hbl').trans r0
   have b1:=(World.cell?_of_block (a:=⟨b',off'+m*5+1,none⟩) hbl').trans r1
   have b2:=(World.cell?_of_block (a:=⟨b',off'+m*5+2,none⟩) hbl').trans r2
   have b3:=(World.cell?_of_block (a:=⟨b',off'+m*5+3,none⟩) hbl').trans r3
   have b4:=(World.cell?_of_block (a:=⟨b',off'+m*5+4,none⟩) hbl').trans r4
   have hlI:(m:Int)<(l.length:Int):=by omega
   have hlI':(m:Int)<(l'.length:Int):=by omega
   have hc:=fun (v:World) (hv:Below wr.heap.size wr v)=>Hih.out l[m] (List.getElem_mem hlt) ⟨l[m].rule,l[m].item,l[m].frm,l[m].unt,⟨B,l[m].kids.length,cp⟩⟩ l'[m] ⟨l'[m].rule,l'[m].item,l'[m].frm,l'[m].unt,⟨B',l'[m].kids.length,cp'⟩⟩ v (htm.ext (Xb hBw hv)) (htm'.ext (Xb hBw hv))
   have hsame:=fun (v:World) (hv:Below wr.heap.size wr v)=>Qm P P' l[m] ⟨l[m].rule,l[m].item,l[m].frm,l[m].unt,⟨B,l[m].kids.length,cp⟩⟩ l'[m] ⟨l'[m].rule,l'[m].item,l'[m].frm,l'[m].unt,⟨B',l'[m].kids.length,cp'⟩⟩ v (htm.ext (Xb hBw hv)) (htm'.ext (Xb hBw hv))
   have Hc:=Xa hc
   have Hsame:=Xa hsame
   have Hd:=Xa (Hm.out.trans (Xr5 l l' m hlt hlt'))
   have HB:=Xa (Xb hB1 hB)
   have HBr:=Xa hB
   obtain⟨tl,htl⟩:∃t,l[m]=t:=⟨_,rfl⟩
   obtain⟨tr,htr⟩:∃t,l'[m]=t:=⟨_,rfl⟩
   rw[htl,htr] at Hd Hc Hsame
   rw[htl] at a0 a1 a2 a3 a4
   rw[htr] at b0 b1 b2 b3 b4
   clear q0 q1 q2 q3 q4 r0 r1 r2 r3 r4 hbl hbl' htm htm' hc hsame hBw htl htr hB Hm
   generalize tl.rule=g0 at *
   generalize tl.item=g1 at *
   generalize tl.frm=g2 at *
   generalize tl.unt=g3 at *
   generalize tl.kids.length=g4 at *
   generalize tr.rule=h0 at *
   generalize tr.item=h1 at *
   generalize tr.frm=h2 at *
   generalize tr.unt=h3 at *
   generalize tr.kids.length=h4 at *
   obtain⟨w3,hw3⟩:∃v,wr.alloc (.cells #[.int .i64 g0,.int .i64 g1,.int .i64 g2,.int .i64 g3,.slice B g4 cp] 37)=v:=⟨_,rfl⟩
   have hb3:=Yn hw3
   have hz3:=Yv hw3
   obtain⟨w4,hw4⟩:∃v,w3.alloc (.cells #[.int .i64 h0,.int .i64 h1,.int .i64 h2,.int .i64 h3,.slice B' h4 cp'] 37)=v:=⟨_,rfl⟩
   have hb4:=Yn hw4
   have hz4:=Yv hw4
   have hz34:=Xh hb4 hz3
   have n4:=gblk ((hb3.block _ (Xc (Xh HBr.out Hz2.out))).trans (Xh HBr.out Hz2.out)) 4
   have hlb:b'<wr.heap.size:=Nat.lt_of_lt_of_le hb' HB.out.size
   have d0:=(World.cell?_of_block (a:=⟨b',off'+m*5,none⟩) (hb3.block b' hlb)).trans b0
   have d1:=(World.cell?_of_block (a:=⟨b',off'+m*5+1,none⟩) (hb3.block b' hlb)).trans b1
   have d2:=(World.cell?_of_block (a:=⟨b',off'+m*5+2,none⟩) (hb3.block b' hlb)).trans b2
   have d3:=(World.cell?_of_block (a:=⟨b',off'+m*5+3,none⟩) (hb3.block b' hlb)).trans b3
   have d4:=(World.cell?_of_block (a:=⟨b',off'+m*5+4,none⟩) (hb3.block b' hlb)).trans b4
   obtain⟨e0,e1,e2,e3,e4⟩:=gb5 hz34
   obtain⟨f0,f1,f2,f3,f4⟩:=gb5 hz4
   have Hb34:=Xa (Xb hb3 hb4)
   have HE:=Xa hz34
   have HF:=Xa hz4
   clear hz3 hz4 hz34 hb3 hb4 hlb
   by_cases c:¬g3=h3
   ·have g5:(g3 != h3)=true:=by simpa using c
    have He:=Xa (Hd.out.trans (if_pos c))
    clear c Hd
    go_wp2_with fail
    go_ret
    exact⟨by rw[He.out];rfl,Xb HB.out Hb34.out⟩
   ·obtain rfl:g3=h3:=by simpa using c
    rw[if_neg (by simp)] at Hd
    clear c
    go_wp2_with fail
    clear hw3 hw4
    refine(Hsame.out _ Hb34.out).mono ?_
    rintro e w5 ⟨bv,rfl,hiff,hb5⟩
    have Hb35:=Xa (Xb Hb34.out hb5)
    have he5:=Xh hb5 HE.out
    have hf5:=Xh hb5 HF.out
    clear e0 e1 e2 e3 e4 f0 f1 f2 f3 f4 n4 d0 d1 d2 d3 d4
    obtain⟨e0,e1,e2,e3,e4⟩:=gb5 he5
    obtain⟨f0,f1,f2,f3,f4⟩:=gb5 hf5
    clear he5 hf5 hb5
    cases bv
    ·have He:=Xa (Hd.out.trans (if_neg (fun h=>by
      have:=hiff.2 ((U4 _ _).1 h)
      cases this)))
     clear hiff
     go_wp2_with fail
     refine(Hc.out _ Hb35.out).mono ?_
     rintro e w6 ⟨rfl,hb6⟩
     have Hb36:=Xa (Xb Hb35.out hb6)
     rw[← He.out]
     clear hb6
     go_wp2_with fail
     go_ret
     exact⟨rfl,Xb HB.out Hb36.out⟩
    ·have He:=Xa (Hd.out.trans (if_pos ((U4 _ _).2 (hiff.1 rfl))))
     clear hiff
     go_wp2_with fail
     go_roundw
     case rel=>exact⟨m+1,hlt,hlt',by go_num,Xb HBr.out Hb35.out,He.out⟩
     case measure=>simp[intOf];omega
theorem Xvu (P:Nat→Prop) (w:World):TreeAt w P Un [.int .i64 0,.int .i64 0,.int .i64 0,.int .i64 0,.slice none 0 0]:=by
 unfold Un TreeAt
 exact⟨none,0,[],rfl,Nat.le_refl _,by decide,fun _=>rfl,fun h=>by simp at h,.inl rfl,rfl⟩
set_option maxHeartbeats 8000000 in
theorem Xvj (g:Gram) (its:SlS ItemG) (n:Int) (w:World) (hT:TabsG w) (hg:g.lies w) (hs:g.short) (hi:ItemsAt w its) :
  Calls Tryz.prog 3 #[.agg #[.string g.name,.slice g.cats.addr g.cats.xs.length g.cats.cap,.string g.start,.int .i64 g.startNo,.slice g.entries.addr g.entries.xs.length g.entries.cap,.slice g.rules.addr g.rules.xs.length g.rules.cap],.slice its.addr its.xs.length its.cap,.int .i64 n] w fun e w'=>e = .returned (.bool true)∧Below w.heap.size w w':=by
 obtain⟨W1,hW1⟩:∃W1,w.alloc (.cells #[.string g.name,.slice g.cats.addr g.cats.xs.length g.cats.cap,.string g.start,.int .i64 g.startNo,.slice g.entries.addr g.entries.xs.length g.entries.cap,.slice g.rules.addr g.rules.xs.length g.rules.cap] 26)=W1:=⟨_,rfl⟩
 have HB:=Xa (Yn hW1)
 have HK:=Xa (Yv hW1)
 have HT:=Xa (fun V (hV:Below w.heap.size w V)=>hT.ext hV)
 have HG:=Xa (fun V (hV:Below w.heap.size w V)=>hg.ext hV)
 have HI:=Xa (fun V (hV:Below w.heap.size w V)=>hi.ext hV)
 have Hs:=Xa hs
 clear hT hg hs hi
 go_enter Tryz.func3,Tryz.ntmps3
 go_wp2_with fail
 clear hW1
 refine(Xlu W1 (HT.out _ HB.out)).mono ?_
 rintro e w2 ⟨rfl,hb⟩
 replace HB:=Xa (Xb HB.out hb)
 replace HK:=Xa (Xh hb HK.out)
 have hk:=HK.out
 obtain⟨c0,c1,c2,c3,c4,c5⟩:=gb6 hk
 clear hk hb
 go_wp2_with fail
 refine(Xvt g its n w2 (HG.out _ HB.out) (HI.out _ HB.out)).mono ?_
 rintro e w3 ⟨b1,rfl,hb,hsm⟩
 replace HB:=Xa (Xb HB.out hb)
 replace HK:=Xa (Xh hb HK.out)
 have Hsm:=Xa hsm
 clear c0 c1 c2 c3 c4 c5 hb hsm
 have hk:=HK.out
 obtain⟨c0,c1,c2,c3,c4,c5⟩:=gb6 hk
 clear hk
 cases b1
 ·go_wp2_with fail
  go_ret
  exact⟨rfl,HB.out⟩
 obtain⟨h0,h5⟩:=Hsm.out rfl
 have hA:=Vz h0
 have hn1:=hA.n1
 obtain⟨N,rfl⟩:∃N:Nat,n=(N:Int):=⟨n.toNat,by omega⟩
 have H0:=Xa h0
 have H5:=Xa h5
 have Hall:Hid (∀V,LayE g its V→Calls Tryz.prog 17 #[.agg #[.string g.name,.slice g.cats.addr g.cats.xs.length g.cats.cap,.string g.start,.int .i64 g.startNo,.slice g.entries.addr g.entries.xs.length g.entries.cap,.slice g.rules.addr g.rules.xs.length g.rules.cap],.slice its.addr its.xs.length its.cap,.int .i64 g.startNo,.int .i64 0,.int .i64 (N:Int)] V (AllRP (derG g its.xs g.startNo 0 N) V)) :=
  Xv6 g its hA.gram (fun x hx=>(Ut (hA.right x hx)).2.2.2.2.2.2.2) hA.few _ g.startNo 0 N (Nat.lt_succ_self _) (by omega) (by omega)
 clear Hsm h0 h5 hA hn1
 go_wp2_with fail
 clear c0 c1 c2 c3 c4 c5
 refine(Hall.out w3 ⟨HG.out _ HB.out,HI.out _ HB.out⟩).mono ?_
 rintro e w4 ⟨⟨Al,nl,cl⟩,ok,rfl,hb,hres⟩
 replace HB:=Xa (Xb HB.out hb)
 replace HK:=Xa (Xh hb HK.out)
 have Hres:=Xa hres
 clear hb hres Hall
 cases ok
 ·go_wp2_with fail
  go_ret
  exact⟨rfl,HB.out⟩
 obtain⟨hl1,hl2⟩:=Hres.out rfl
 have HD:Hid (TreesW (fun b=>b<w3.heap.size) w4 ((derG g its.xs g.startNo 0 N).map (·.2)) ⟨Al,nl,cl⟩):=hl1
 obtain⟨D,hD⟩:∃D,derG g its.xs g.startNo 0 N=D:=⟨_,rfl⟩
 have hDn:derG g its.xs g.startNo 0 (N:Int).toNat=D:=hD
 have Hco:Hid (Vy g its.xs (N:Int)=((D.length:Int),0)):=by
  have:=Xvy H0.out (by rw[hDn,← hD];exact hl2)
  rw[hDn] at this
  exact this
 have hnl:nl=D.length:=by rw[← hD];simpa using HD.out.slice.1
 rw[hD] at HD
 have hcl:nl≤cl∧cl≤9223372036854775807:=by have:=HD.out.slice;rw[List.length_map,← hnl] at this;exact⟨this.2.1,this.2.2⟩
 rw[← hnl] at Hco
 have HDn:=Xa hDn
 have Hnl:=Xa hnl
 have hk:=HK.out
 obtain⟨c0,c1,c2,c3,c4,c5⟩:=gb6 hk
 have hnl200:nl≤200:=by rw[hnl,← hD];exact hl2
 clear hk hl1 hl2 Hres hD hDn hnl
 go_wp2_with fail
 clear c0 c1 c2 c3 c4 c5
 refine(Xb5 (HT.out _ HB.out) (HG.out _ HB.out) Hs.out (HI.out _ HB.out) Hco.out).mono ?_
 rintro e w5 ⟨rfl,hb⟩
 replace HB:=Xa (Xb HB.out hb)
 replace HK:=Xa (Xh hb HK.out)
 replace HD:=Xa (HD.out.ext hb)
 have hk:=HK.out
 obtain⟨c0,c1,c2,c3,c4,c5⟩:=gb6 hk
 clear hk hb
 cases hfm:Xv D with
 | none =>
  have hbb:=Xvx H0.out (by rw[HDn.out];exact hfm)
  have hD0:nl=0:=by rw[Hnl.out,Zw hfm];rfl
  subst hD0
  have Hbb:=Xa hbb
  clear hbb hfm
  go_wp2_with fail
  clear c0 c1 c2 c3 c4 c5
  refine(Xb4 (HT.out _ HB.out) (HG.out _ HB.out) Hs.out (HI.out _ HB.out) Hbb.out).mono ?_
  rintro e w6 ⟨xa,rfl,ht1,hb⟩
  replace HB:=Xa (Xb HB.out hb)
  obtain⟨w7,hw⟩:∃v,w6.alloc (.cells #[.int .i64 xa.rule,.int .i64 xa.item,.int .i64 xa.frm,.int .i64 xa.unt,.slice xa.kids.addr xa.kids.len xa.kids.cap] 37)=v:=⟨_,rfl⟩
  have hb7:=Yn hw
  replace HB:=Xa (Xb HB.out hb7)
  have hx:=Yv hw
  have HT1:=Xa (ht1.ext hb7)
  obtain⟨x0,x1,x2,x3,x4⟩:=gb5 hx
  clear hb hb7 ht1 hx
  go_wp2_with fail
  clear hw
  refine(Qm _ (fun _=>True) Un xa Un Qr w7 HT1.out (Xvu _ _)).mono ?_
  rintro e w8 ⟨bv,rfl,hiff,hb⟩
  obtain rfl:bv=true:=hiff.2 rfl
  have HB8:=Xa (Xb HB.out hb)
  clear hb hiff
  go_wp2_with fail
  go_ret
  exact⟨rfl,HB8.out⟩
 | some t =>
  have hbb:=Xv7 H0.out (by rw[HDn.out];exact hfm)
  have hD0:0<nl:=by
   rw[Hnl.out]
   rcases Nat.eq_zero_or_pos D.length with h|h
   ·rw[List.eq_nil_of_length_eq_zero h] at hfm;cases hfm
   ·exact h
  have hDI:(0:Int)<(nl:Int):=by omega
  have hDd:decide (0<nl)=true:=decide_eq_true hD0
  obtain⟨tc,tt⟩:=t
  have Hbb:=Xa hbb
  have Hfm:=Xa hfm
  clear hbb hfm hD0
  go_wp2_with fail
  clear c0 c1 c2 c3 c4 c5
  refine(Xb4 (HT.out _ HB.out) (HG.out _ HB.out) Hs.out (HI.out _ HB.out) Hbb.out).mono ?_
  rintro e w6 ⟨xa,rfl,ht1,hb⟩
  replace HB:=Xa (Xb HB.out hb)
  obtain⟨w7,hw⟩:∃v,w6.alloc (.cells #[.int .i64 xa.rule,.int .i64 xa.item,.int .i64 xa.frm,.int .i64 xa.unt,.slice xa.kids.addr xa.kids.len xa.kids.cap] 37)=v:=⟨_,rfl⟩
  have hb7:=Yn hw
  replace HB:=Xa (Xb HB.out hb7)
  replace HK:=Xa (Xh hb7 (Xh hb HK.out))
  replace HD:=Xa ((HD.out.ext hb).ext hb7)
  have HX:=Xa (Yv hw)
  have HT1:=Xa (ht1.ext hb7)
  clear hb hb7 ht1
  go_wp2_with fail
  clear hw
  go_loopw [15,85] (fun mv iv wr=>∃(p:Nat) (mb:Bool),p≤nl∧iv = .int .i64 (p:Int)∧mv = .bool mb∧Hid (mb=metD (tc,tt) (D.take p))∧Hid (Below w7.heap.size w7 wr)) (fun _ iv _=>nl-(intOf iv).toNat)
  case atStart=>exact⟨0,false,Nat.zero_le _,rfl,rfl,rfl,Below.refl _ _⟩
  case round =>
   obtain⟨p,mb,hp,rfl,rfl,HM,HR⟩:=hrel
   have HBw:=Xa (Xb HB.out HR.out)
   by_cases hlt:p<nl
   rotate_left
   ·obtain rfl:p=nl:=by omega
    have hlI:¬(p:Int)<(p:Int):=by omega
    have HM1:Hid (mb=true):=by
     show mb=true
     have h:=HM.out
     rw[show D.take p=D by rw[Hnl.out,List.take_length]] at h
     rw[h]
     exact Xv9 (Zv Hfm.out).1
    obtain rfl:mb=true:=HM1.out
    go_wp2_with fail
    go_ret
    exact⟨rfl,HBw.out⟩
   have hpI:(p:Int)<(nl:Int):=by omega
   have hpD:p<D.length:=by rw[← Hnl.out];exact hlt
   have HDr:=Xa (HD.out.ext HR.out)
   obtain⟨x,bl,ol,htx,hAl,hbl,d0,d1,d2,d3,d4⟩:=HDr.out.get (n:=p) (by rw[List.length_map];exact hpD)
   have hAl':Al=some ⟨bl,ol,none⟩:=hAl
   subst hAl'
   rw[List.getElem_map] at htx
   have hmet:=Xv2 (tc,tt) hpD
   have hyD:D[p]∈derG g its.xs g.startNo 0 (N:Int).toNat:=by rw[HDn.out];exact List.getElem_mem hpD
   obtain⟨hcost,hfit⟩:=Xv0 H0.out H5.out hyD
   have hfst:=Xvz (t:=(tc,tt)) (by rw[HDn.out];exact Hfm.out) hyD
   obtain⟨y,hy⟩:∃y,D[p]=y:=⟨_,rfl⟩
   rw[hy] at htx hmet hcost hfit hfst
   obtain⟨yc,yt⟩:=y
   simp only at htx hmet hcost hfit hfst
   rw[← HM.out] at hmet
   obtain⟨W3,hW3⟩:∃v,wr.alloc (.cells #[.int .i64 x.rule,.int .i64 x.item,.int .i64 x.frm,.int .i64 x.unt,.slice x.kids.addr x.kids.len x.kids.cap] 37)=v:=⟨_,rfl⟩
   have hb3:=Yn hW3
   have HB3:=Xa (Xb HR.out hb3)
   have HY:=Xa (Yv hW3)
   have HTy:=Xa (TreeW.ext htx hb3)
   have HK3:=Xa (Xh HB3.out HK.out)
   have HX3:=Xa (Xh HB3.out HX.out)
   have HT3:=Xa (HT1.out.ext HB3.out)
   have Hmet:=Xa hmet
   have Hcost:=Xa hcost
   have Hfit:=Xa hfit
   have Hfst:=Xa hfst
   have Hlt:=Xa hlt
   have hk:=HK3.out
   obtain⟨c0,c1,c2,c3,c4,c5⟩:=gb6 hk
   have hy3:=HY.out
   obtain⟨y0,y1,y2,y3,y4⟩:=gb5 hy3
   clear hk hy3 hAl htx hmet hyD hcost hfit hfst hy hb3 hp hlt HDr
   go_wp2_with fail
   clear hW3 c0 c1 c2 c3 c4 c5 y0 y1 y2 y3 y4 d0 d1 d2 d3 d4
   refine(Xme (HT.out _ (Xb HB.out HB3.out)) (HG.out _ (Xb HB.out HB3.out)) Hs.out (HI.out _ (Xb HB.out HB3.out)) (P:=fun b=>KidP W3 b∧¬b<w3.heap.size) (fun b hb=>by obtain⟨⟨_,_,h⟩,_⟩:=hb;exact Xc h) HTy.out Hfit.out Hcost.out).mono ?_
   rintro e w8 ⟨rfl,hb⟩
   replace HB3:=Xa (Xb HB3.out hb)
   replace HX3:=Xa (Xh hb HX3.out)
   replace HY:=Xa (Xh hb HY.out)
   replace HT3:=Xa (HT3.out.ext hb)
   replace HTy:=Xa (HTy.out.ext hb)
   have hy3:=HY.out
   obtain⟨y0,y1,y2,y3,y4⟩:=gb5 hy3
   have hx3:=HX3.out
   obtain⟨x0,x1,x2,x3,x4⟩:=gb5 hx3
   clear hy3 hx3 hb
   have g1:decide (yc<tc)=false:=decide_eq_false (by have:=Hfst.out.1;omega)
   by_cases hec:yc=tc
   rotate_left
   ·have g2:(yc == tc)=false:=by simpa using hec
    have HM9:Hid (mb=metD (tc,tt) (D.take (p+1))):=by
     show _=_
     rw[Hmet.out]
     simp[hec]
    clear hec
    cases mb
    ·go_wp2_with fail
     go_roundw
     case rel=>exact⟨p+1,false,Hlt.out,by go_num,rfl,HM9.out,HB3.out⟩
     case measure=>simp[intOf];have:=Hlt.out;omega
    ·go_wp2_with fail
     go_roundw
     case rel=>exact⟨p+1,true,Hlt.out,by go_num,rfl,HM9.out,HB3.out⟩
     case measure=>simp[intOf];have:=Hlt.out;omega
   have g2:(yc == tc)=true:=by simpa using hec
   have hbf:=Hfst.out.2 hec
   have Hec:=Xa hec
   have Hbf:=Xa hbf
   clear hec hbf
   go_wp2_with fail
   refine(Xse _ _ yt x tt xa w8 HTy.out HT3.out).mono ?_
   rintro e w9 ⟨rfl,hb⟩
   rw[Hbf.out]
   replace HB3:=Xa (Xb HB3.out hb)
   replace HX3:=Xa (Xh hb HX3.out)
   replace HY:=Xa (Xh hb HY.out)
   replace HT3:=Xa (HT3.out.ext hb)
   replace HTy:=Xa (HTy.out.ext hb)
   clear y0 y1 y2 y3 y4 x0 x1 x2 x3 x4 hb
   have hy3:=HY.out
   obtain⟨y0,y1,y2,y3,y4⟩:=gb5 hy3
   have hx3:=HX3.out
   obtain⟨x0,x1,x2,x3,x4⟩:=gb5 hx3
   clear hy3 hx3
   cases mb
   ·go_wp2_with fail
    refine(Qm _ _ yt x tt xa w9 HTy.out HT3.out).mono ?_
    rintro e w10 ⟨bv,rfl,hiff,hb⟩
    have HM9:Hid (bv=metD (tc,tt) (D.take (p+1))):=by
     show _=_
     rw[Hmet.out]
     have h2:=U4 yt tt
     have h3:=Hec.out
     cases bv
     ·cases hs:Xa9 yt tt
      ·simp
      ·exact absurd (hiff.2 (h2.1 hs)) (by decide)
     ·rw[h2.2 (hiff.1 rfl)]
      simp[h3]
    have HB10:=Xa (Xb HB3.out hb)
    clear hb hiff
    go_wp2_with fail
    go_roundw
    case rel=>exact⟨p+1,bv,Hlt.out,by go_num,rfl,HM9.out,HB10.out⟩
    case measure=>simp[intOf];have:=Hlt.out;omega
   ·have HM9:Hid (true=metD (tc,tt) (D.take (p+1))):=by
     show _=_
     rw[Hmet.out]
     rfl
    go_wp2_with fail
    go_roundw
    case rel=>exact⟨p+1,true,Hlt.out,by go_num,rfl,HM9.out,HB3.out⟩
    case measure=>simp[intOf];have:=Hlt.out;omega
end Go.Proofs.YtolpbjjapodmnaaGreatDoor
namespace Go.Proofs.YtolpbjjapodmnaaGreatDoor
open Go.RowKit Go.Han Go.ChangeShapes Go.WideShapes Go.ChangeAt Go.Deep
set_option maxRecDepth 100000
def uren:Go.Shelf.Ren:=⟨fun n=>n,fun|5=>5|119=>327|138=>329|139=>330|n=>n,fun|3=>1|4=>2|n=>n⟩
theorem Xqj:ownKnob Tryz.prog.godebug=none:=by kernel_rfl
theorem Xrw:U8Types Tryz.prog uren:=⟨by kernel_rfl,by kernel_rfl,by kernel_rfl,by kernel_rfl⟩
theorem Xrv:U8Extra Tryz.prog uren:=⟨by kernel_rfl,by kernel_rfl,by kernel_rfl,by kernel_rfl,by kernel_rfl,by kernel_rfl,by kernel_rfl⟩
theorem Xmy:(Rows.laid_unicode_utf8_acceptRanges:DataW Unit)=Lib.acceptData:=by kernel_rfl
abbrev Q5 : List (String × DataW Unit) := [("unicode/utf8.acceptRanges", Rows.laid_unicode_utf8_acceptRanges), ("unicode.White_Space", Rows.laid_unicode_White_Space), ("strings.asciiSpace", Rows.laid_strings_asciiSpace), ("unicode/utf8.first", Rows.laid_unicode_utf8_first)]
theorem Xru {W:World} (h:laidMetH Tryz.prog Q5 W):Tabs W:=by
 rw[MakeChecks.laidMetH_plain _ _ _ (by kernel_rfl)] at h
 have h1 := Lib.laidMet.reads h (n := "unicode/utf8.acceptRanges") (d := Rows.laid_unicode_utf8_acceptRanges) (by simp [Q5])
 have h2 := Lib.laidMet.reads h (n := "unicode/utf8.first") (d := Rows.laid_unicode_utf8_first) (by simp [Q5])
 rw[Xmy] at h1
 rw[show (Rows.laid_unicode_utf8_first:DataW Unit)=Lib.firstData from Pinned.utf8First_eq] at h2
 exact utf8Tabs_of_readsT Xrw Xrv h2 h1
theorem Xqu:(Rows.laid_strings_asciiSpace:DataW Unit)=Lib.tabData .u8 Lib.asciiSpaceTab:=by kernel_rfl
theorem Xqy {W:World} (h:laidMetH Tryz.prog Q5 W):TabsG W:=by
 refine⟨Xru h,?_⟩
 rw[MakeChecks.laidMetH_plain _ _ _ (by kernel_rfl)] at h
 have h1 := Lib.laidMet.reads h (n := "strings.asciiSpace") (d := Rows.laid_strings_asciiSpace) (by simp [Q5])
 rw[Xqu] at h1
 obtain⟨g,t,cs,fuel,p,hg,ht,hvar,hd⟩:=h1
 obtain rfl := Option.some.inj ((show Tryz.prog.globalNamed "strings.asciiSpace" = some 3 by kernel_rfl).symm.trans hg)
 obtain rfl:=Option.some.inj ((show (Tryz.prog.globals[3]?).map (·.type)=some 327 by kernel_rfl).symm.trans ht)
 show W.var? Tryz.prog "strings.asciiSpace" = _
 have h2:=Lib.cells_of_tab Tryz.underlying327 Tryz.underlying5 (by kernel_rfl) (by kernel_rfl) hd
 rw[hvar,← h2]
section
variable {H:Type} {enc:TypeId×Value→H} {w:World} {base:Nat} {spare:Nat→Bool} {held:Bool}
theorem Yz:Tryz.prog.cellsOf 3=1:=by kernel_rfl
theorem Y0:Tryz.prog.cellsOf 9=1:=by kernel_rfl
theorem X3 {fs:Array Field} {l:List (TypeId×Nat)} (h:fs.toList.map (fun f=>(f.type,f.offset))=l) {i:Nat} {t o:Nat} (hi:l[i]? = some (t,o)):∃f,fs[i]? = some f∧f.type=t∧f.offset=o:=by
 rw[← h,List.getElem?_map] at hi
 cases hf:fs.toList[i]? with
 | none=>rw[hf] at hi;cases hi
 | some f =>
  rw[hf] at hi
  simp only[Option.map_some,Option.some.injEq,Prod.mk.injEq] at hi
  exact⟨f,by simpa using hf,hi.1,hi.2⟩
theorem Xli {P:Program} {f:Func} {s:ChangeSpec} {apart fresh handsOn again:Bool} {W W':World} {args:Array Value} {v:Value} {ds gs:List (DataW H)} {before pa pv:List MemPlace}
  (hW:DataW.Whole enc P f.params.toList s.vars apart W args.toList ds gs before)
  (hres:∀(b:Nat) (sp:Nat→Bool) (hd:Bool),DataW.TrodAll enc P W' b sp hd f.resultTypes.toList (v.resultList f.resultTypes.size) (s.fn H (ds++gs)).results [])
  (hargs:∀sp:Nat→Bool,(∀p∈before,sp p.block=true)→DataW.TrodAll enc P W' 0 sp true f.params.toList args.toList (s.fn H (ds++gs)).args pa)
  (hvars:∀sp:Nat→Bool,(∀p∈before,sp p.block=true)→DataW.TrodVars enc P W' sp s.vars (s.fn H (ds++gs)).vars pv)
  (hps:before=pa++pv) (hb:Below W.heap.size W W')
  (hok:∀(j:Nat) (t:TypeId) (r:Value),f.resultTypes[j]? = some t→(v.resultList f.resultTypes.size)[j]? = some r→Value.okWide P W' .any 0 t r) :
  s.post enc P f apart fresh handsOn again W args v W':=by
 have hlt:∀p∈before,p.block<W.heap.size:=fun p hp=>hW.lt p hp
 have hold:∀p∈before,(fun b=>decide (b<W.heap.size)) p.block=true:=fun p hp=>by simpa using hlt p hp
 refine⟨ds,gs,before,[],pa,pv,hW,hres _ _ _,hargs _ hold,hvars _ hold,World.keptBut_mono (fun p hp=>⟨hp,?_⟩) (hb.frame (· ∈ before)),fun _=>?_⟩
 ·rw[hps,List.mem_append] at hp
  exact Or.inr hp
 ·obtain⟨_,_,_,_,_,hz,hn⟩:=hW
  refine⟨hok,_,_,([]++pa)++pv,⟨[]++pa,pv,trodAll_append (hargs _ (fun _ _=>rfl)) (hres _ _ _),hvars _ (fun _ _=>rfl),rfl,?_,?_⟩,?_⟩
  ·intro b off hp
   have hin:MemPlace.cell b off∈before:=by rw[hps];simpa using hp
   rw[hb.frozen (hlt _ hin)]
   exact hz b off hin
  ·intro ha
   have:=hn ha
   rw[hps] at this
   simpa using this
  ·intro p hp _
   rw[hps]
   simpa using hp
end
theorem Xp7:laidOutB Tryz.prog=true:=by kernel_rfl
theorem Xh9 (os:Os) (args:Array Value):laidMetH Tryz.prog Q5 ((World.laidAll Tryz.prog os Q5).forCall (fun _ _=>0) ⟨#[],args,[]⟩).memory:=by
 rw[MakeChecks.laidMetH_plain _ _ _ (by kernel_rfl)]
 exact laidMet_laidAll _ (by kernel_rfl) (by kernel_rfl)
section
variable {H:Type} {enc:TypeId×Value→H} {P:Program} {w:World} {base:Nat} {spare:Nat→Bool} {held:Bool}
theorem Xbc (hl:laidOutB P=true) {W W':World} (hb:Below W.heap.size W W') {sp:Nat→Bool}:∀ {ts:List TypeId} {vs:List Value} {ds:List (DataW H)} {ps:List MemPlace},(ts.all fun t=>P.readableRec t && decide (t<P.types.size))=true →
  DataW.TrodAll enc P W 0 (fun _=>true) true ts vs ds ps→(∀x∈ps,x.block<W.heap.size)→(∀x∈ps,sp x.block=true)→DataW.TrodAll enc P W' 0 sp true ts vs ds ps
 | [],vs,ds,ps,_,h,_,_=>by
  obtain⟨rfl,rfl,rfl⟩:=trodAll_nil h
  exact trodAll_mk0
 | t :: ts,vs,ds,ps,hr,h,hlt,hsp=>by
  simp only[List.all_cons,Bool.and_eq_true,decide_eq_true_eq] at hr
  obtain⟨v,vs',d,ds',p,q,rfl,rfl,rfl,hd,hrest⟩:=trodAll_cons h
  exact trodAll_cons_mk (WideElems.Trod_stays hl hr.1.1 hr.1.2 hd (fun x hx=>hb.same (hlt x (by simp[hx]))) (fun x hx=>hsp x (by simp[hx])))
   (Xbc hl hb hr.2 hrest (fun x hx=>hlt x (by simp[hx])) (fun x hx=>hsp x (by simp[hx])))
theorem args_three {t0 t1 t2:TypeId} {args:Array Value} {ds:List (DataW H)} {ps:List MemPlace} (h:DataW.TrodAll enc P w base spare held [t0,t1,t2] args.toList ds ps) :
  ∃v0 v1 v2 d0 d1 d2 p0 p1 p2,args=#[v0,v1,v2]∧ds=[d0,d1,d2]∧DataW.Trod enc P w base spare held t0 v0 d0 p0∧DataW.Trod enc P w base spare held t1 v1 d1 p1∧DataW.Trod enc P w base spare held t2 v2 d2 p2:=by
 obtain⟨v0,s0,d0,e0,p0,q0,hargs,rfl,rfl,h0,r0⟩:=trodAll_cons h
 obtain⟨v1,s1,d1,e1,p1,q1,rfl,rfl,rfl,h1,r1⟩:=trodAll_cons r0
 obtain⟨v2,s2,d2,e2,p2,q2,rfl,rfl,rfl,h2,r2⟩:=trodAll_cons r1
 obtain⟨rfl,rfl,rfl⟩:=trodAll_nil r2
 exact⟨v0,v1,v2,d0,d1,d2,p0,p1,p2,by cases args;simp_all,rfl,h0,h1,h2⟩
end
section
variable {H:Type} {enc:TypeId×Value→H} {w:World} {base:Nat} {spare:Nat→Bool} {held:Bool}
theorem Ub {α:Type} (f:α→List Value) (s:Nat) (d0:α) {t e:TypeId} (ht:Tryz.prog.underlying t=some (.slice e)) (hs:Tryz.prog.cellsOf e=s) (hs0:0<s) (hf:∀y,(f y).length=s)
  (R:α→Prop) (hel:∀(fuel:Nat) (cs:List Value) (x:DataW H×List MemPlace),DataW.trod enc Tryz.prog w 0 spare held fuel e cs=some x→∃y:α,cs=f y∧R y)
  {fuel:Nat} {cs:List Value} {x:DataW H×List MemPlace} (h:DataW.trod enc Tryz.prog w 0 spare held fuel t cs=some x) :
  ∃(A:Option Addr) (cp:Nat) (l:List α),cs=[.slice A l.length cp]∧Rd w A (l.flatMap f)∧(A=none→l=[])∧l.length≤maxLen∧l.length≤cp∧cp≤maxLen∧∀x∈l,R x:=by
 rcases open_slice ht h with ⟨rfl,_⟩|⟨a,len,cap,m,n,D,Pl,rfl,_,hl,hm,hmm,_,hi⟩
 ·exact⟨none,0,[],rfl,Rd.nil _ _,fun _=>rfl,Nat.zero_le _,Nat.le_refl _,Nat.zero_le _,fun x hx=>by cases hx⟩
 ·have hlm:len≤m:=by rw[hmm];split<;>omega
  have each:∀i,i<len→∃y:α,R y∧∀j u,(f y)[j]? = some u→w.cell? (a.add (i*s+j))=some u:=by
   intro i hil
   obtain⟨cs',hc,htr⟩:=hi i (by omega)
   obtain⟨y,rfl,hRy⟩:=hel _ _ _ htr
   refine⟨y,hRy,fun j u hu=>?_⟩
   rw[hs] at hc
   obtain⟨_,hcl,hat⟩:=World.cells?_some hc
   have hj:j<s:=by rw[← hf y];exact(List.getElem?_eq_some_iff.1 hu).1
   rw[← Go.Deep.add_add,hat j hj,hu]
  refine⟨some a,cap,(List.range len).map (fun i=>if h:i<len then Classical.choose (each i h) else d0),by rw[List.length_map,List.length_range],?_,(fun h=>by cases h),by rw[List.length_map,List.length_range];omega,by rw[List.length_map,List.length_range];omega,by omega,fun x hx=>?_⟩
  rotate_left
  ·obtain⟨i,hi,rfl⟩:=List.mem_map.1 hx
   rw[dif_pos (List.mem_range.1 hi)]
   exact(Classical.choose_spec (each i (List.mem_range.1 hi))).1
  rcases Nat.eq_zero_or_pos len with rfl|hpos
  ·exact .inl (by simp)
  ·have hsp:a.spot=none∧a.block<w.heap.size:=by
    obtain⟨y0,_,h0⟩:=each 0 hpos
    have hl0:0<(f y0).length:=by rw[hf];exact hs0
    have:=h0 0 _ (List.getElem?_eq_getElem hl0)
    rw[Nat.zero_mul,Nat.zero_add] at this
    have hc:w.cell? a=some _:=this
    refine⟨?_,Ug hc⟩
    unfold World.cell? at hc
    split at hc
    ·split at hc
     ·cases hc
     ·rename_i hn;simpa using hn
    ·cases hc
   obtain⟨b,off,sp⟩:=a
   obtain⟨rfl,hb⟩:=hsp
   refine .inr ⟨b,off,rfl,hb,fun j u hu=>?_⟩
   have hj:j<len*s:=by
    have:=(List.getElem?_eq_some_iff.1 hu).1
    rwa [Z7 f s hf,List.length_map,List.length_range] at this
   have hk:j / s<len:=by rw[Nat.div_lt_iff_lt_mul hs0];exact hj
   have hjs:j % s<s:=Nat.mod_lt _ hs0
   have e:j / s*s+j % s=j:=by rw[Nat.mul_comm];exact Nat.div_add_mod j s
   have hg:=Xe5 f s hf ((List.range len).map (fun i=>if h:i<len then Classical.choose (each i h) else d0)) (j / s) (j % s) (by simpa using hk) hjs
   rw[e,hu,List.getElem_map,List.getElem_range,dif_pos hk] at hg
   have:=(Classical.choose_spec (each (j / s) hk)).2 (j % s) u hg.symm
   rw[e] at this
   unfold Addr.add at this
   split at this
   ·rename_i h0;subst h0;exact this
   ·exact this
theorem Xhe:∀l:List ByteArray,strs l=l.flatMap (fun b:ByteArray=>[Value.string b])
 | []=>rfl
 | b :: l=>by rw[List.flatMap_cons,← Xhe l];rfl
theorem Xbe:Tryz.prog.cellsOf 22=1:=by kernel_rfl
end
section
variable {H:Type} {enc:TypeId×Value→H} {w:World} {base:Nat} {spare:Nat→Bool} {held:Bool}
end
section
variable {H:Type} {enc:TypeId×Value→H} {w:World} {base:Nat} {spare:Nat→Bool} {held:Bool}
theorem Xih:Tryz.prog.cellsOf 76=1:=by kernel_rfl
theorem Xig:Tryz.prog.cellsOf 77=1:=by kernel_rfl
theorem Xf4:Tryz.prog.cellsOf 23=1:=by kernel_rfl
theorem Xii:Tryz.prog.cellsOf 24=1:=by kernel_rfl
theorem Xbw {fuel:Nat} {cs:List Value} {x:DataW H×List MemPlace} (h:DataW.trod enc Tryz.prog w 0 spare held fuel 22 cs=some x):∃s:StrS,cs=[s.val]∧s.lies w∧∀b∈s.xs,b.size≤maxLen:=by
 obtain⟨A,cp,l,rfl,hr,hn,hm,hl,hc,hR⟩:=Ub (fun b:ByteArray=>[Value.string b]) 1 ⟨#[]⟩ Tryz.underlying22 (by kernel_rfl) (by decide) (fun _=>rfl) (fun b=>b.size≤maxLen) (fun fuel cs x h=>by
  obtain⟨s,hs,_,hz⟩:=DataW.trod_string Tryz.underlying9 h
  exact⟨s,hs,hz⟩) h
 refine⟨⟨A,cp,l⟩,rfl,⟨?_,hl,by unfold maxLen at hc;show cp≤_;omega,hn⟩,hR⟩
 show Rd w A (strs l)
 rw[Xhe];exact hr
theorem Xpa:∃fs:Array Field,Tryz.prog.underlying 81=some (.struct fs)∧fs.toList.map (fun f=>(f.type,f.offset))=[(9,0),(3,1),(9,2)]∧Tryz.prog.cellsOf 81=3:=⟨_,Tryz.underlying81,by kernel_rfl,by kernel_rfl⟩
theorem Xoq {fuel:Nat} {cs:List Value} {x:DataW H×List MemPlace} (h:DataW.trod enc Tryz.prog w 0 spare held fuel 81 cs=some x):∃y:PartG,cs=y.cells∧y.cat.size≤maxLen:=by
 obtain⟨fs,hu,hf,hc⟩:=Xpa
 obtain⟨xs,n,_,_,hlen,hxl,hat⟩:=DataW.trod_struct hu h
 rw[hc] at hlen
 have hsz:fs.size=3:=by have:=congrArg List.length hf;simpa using this
 obtain⟨f0,e0,t0,o0⟩:=X3 hf (i:=0) rfl
 obtain⟨f1,e1,t1,o1⟩:=X3 hf (i:=1) rfl
 obtain⟨f2,e2,t2,o2⟩:=X3 hf (i:=2) rfl
 have h0:=hat 0 f0 e0
 have h1:=hat 1 f1 e1
 have h2:=hat 2 f2 e2
 rw[t0,o0,Y0,List.getElem?_eq_getElem (by omega)] at h0
 rw[t1,o1,Yz,List.getElem?_eq_getElem (by omega)] at h1
 rw[t2,o2,Y0,List.getElem?_eq_getElem (by omega)] at h2
 obtain⟨a0,g0,_,z0⟩:=DataW.trod_string Tryz.underlying9 h0
 obtain⟨a1,g1,_⟩:=DataW.trod_int Tryz.underlying3 h1
 obtain⟨a2,g2,_,z2⟩:=DataW.trod_string Tryz.underlying9 h2
 match cs,hlen with
 | [c0,c1,c2],_ =>
  simp at g0 g1 g2
  exact⟨⟨a0,a1,a2⟩,by rw[g0,g1,g2];rfl,z0⟩
theorem Xla {fuel:Nat} {cs:List Value} {x:DataW H×List MemPlace} (h:DataW.trod enc Tryz.prog w 0 spare held fuel 76 cs=some x) :
  ∃s:SlS PartG,cs=[s.val]∧s.lies PartG.cells w∧∀y∈s.xs,y.cat.size≤maxLen:=by
 obtain⟨A,cp,l,rfl,hr,hn,hm,hl,hc,hR⟩:=Ub PartG.cells 3 ⟨⟨#[]⟩,0,⟨#[]⟩⟩ Tryz.underlying76 (by kernel_rfl) (by decide) PartG.size_cells (fun y=>y.cat.size≤maxLen) (fun _ _ _ h=>Xoq h) h
 exact⟨⟨A,cp,l⟩,rfl,⟨hr,hl,by unfold maxLen at hc;show cp≤_;omega,hn⟩,hR⟩
theorem Xo8:∃fs:Array Field,Tryz.prog.underlying 176=some (.struct fs)∧fs.toList.map (fun f=>(f.type,f.offset))=[(3,0),(9,1)]∧Tryz.prog.cellsOf 176=2:=⟨_,Tryz.underlying176,by kernel_rfl,by kernel_rfl⟩
theorem Xop {fuel:Nat} {cs:List Value} {x:DataW H×List MemPlace} (h:DataW.trod enc Tryz.prog w 0 spare held fuel 176 cs=some x):∃y:GiveG,cs=y.cells∧True:=by
 obtain⟨fs,hu,hf,hc⟩:=Xo8
 obtain⟨xs,n,_,_,hlen,hxl,hat⟩:=DataW.trod_struct hu h
 rw[hc] at hlen
 have hsz:fs.size=2:=by have:=congrArg List.length hf;simpa using this
 obtain⟨f0,e0,t0,o0⟩:=X3 hf (i:=0) rfl
 obtain⟨f1,e1,t1,o1⟩:=X3 hf (i:=1) rfl
 have h0:=hat 0 f0 e0
 have h1:=hat 1 f1 e1
 rw[t0,o0,Yz,List.getElem?_eq_getElem (by omega)] at h0
 rw[t1,o1,Y0,List.getElem?_eq_getElem (by omega)] at h1
 obtain⟨a0,g0,_⟩:=DataW.trod_int Tryz.underlying3 h0
 obtain⟨a1,g1,_,z1⟩:=DataW.trod_string Tryz.underlying9 h1
 match cs,hlen with
 | [c0,c1],_ =>
  simp at g0 g1
  exact⟨⟨a0,a1⟩,by rw[g0,g1];rfl,trivial⟩
theorem Xk9 {fuel:Nat} {cs:List Value} {x:DataW H×List MemPlace} (h:DataW.trod enc Tryz.prog w 0 spare held fuel 77 cs=some x) :
  ∃s:SlS GiveG,cs=[s.val]∧s.lies GiveG.cells w∧∀y∈s.xs,True:=by
 obtain⟨A,cp,l,rfl,hr,hn,hm,hl,hc,hR⟩:=Ub GiveG.cells 2 ⟨0,⟨#[]⟩⟩ Tryz.underlying77 (by kernel_rfl) (by decide) GiveG.size_cells (fun y=>True) (fun _ _ _ h=>Xop h) h
 exact⟨⟨A,cp,l⟩,rfl,⟨hr,hl,by unfold maxLen at hc;show cp≤_;omega,hn⟩,hR⟩
theorem Xmt:∃fs:Array Field,Tryz.prog.underlying 60=some (.struct fs)∧fs.toList.map (fun f=>(f.type,f.offset))=[(9,0),(9,1),(3,2),(22,3),(3,4)]∧Tryz.prog.cellsOf 60=5:=⟨_,Tryz.underlying60,by kernel_rfl,by kernel_rfl⟩
theorem Xl1 {fuel:Nat} {cs:List Value} {x:DataW H×List MemPlace} (h:DataW.trod enc Tryz.prog w 0 spare held fuel 60 cs=some x):∃y:EntryG,cs=y.cells∧y.lies w∧y.cat.size≤maxLen:=by
 obtain⟨fs,hu,hf,hc⟩:=Xmt
 obtain⟨xs,n,_,_,hlen,hxl,hat⟩:=DataW.trod_struct hu h
 rw[hc] at hlen
 have hsz:fs.size=5:=by have:=congrArg List.length hf;simpa using this
 obtain⟨f0,e0,t0,o0⟩:=X3 hf (i:=0) rfl
 obtain⟨f1,e1,t1,o1⟩:=X3 hf (i:=1) rfl
 obtain⟨f2,e2,t2,o2⟩:=X3 hf (i:=2) rfl
 obtain⟨f3,e3,t3,o3⟩:=X3 hf (i:=3) rfl
 obtain⟨f4,e4,t4,o4⟩:=X3 hf (i:=4) rfl
 have h0:=hat 0 f0 e0
 have h1:=hat 1 f1 e1
 have h2:=hat 2 f2 e2
 have h3:=hat 3 f3 e3
 have h4:=hat 4 f4 e4
 rw[t0,o0,Y0,List.getElem?_eq_getElem (by omega)] at h0
 rw[t1,o1,Y0,List.getElem?_eq_getElem (by omega)] at h1
 rw[t2,o2,Yz,List.getElem?_eq_getElem (by omega)] at h2
 rw[t3,o3,Xbe,List.getElem?_eq_getElem (by omega)] at h3
 rw[t4,o4,Yz,List.getElem?_eq_getElem (by omega)] at h4
 obtain⟨a0,g0,_,z0⟩:=DataW.trod_string Tryz.underlying9 h0
 obtain⟨a1,g1,_,z1⟩:=DataW.trod_string Tryz.underlying9 h1
 obtain⟨a2,g2,_⟩:=DataW.trod_int Tryz.underlying3 h2
 obtain⟨a3,g3,l3,z3⟩:=Xbw h3
 obtain⟨a4,g4,_⟩:=DataW.trod_int Tryz.underlying3 h4
 match cs,hlen with
 | [c0,c1,c2,c3,c4],_ =>
  simp at g0 g1 g2 g3 g4
  exact⟨⟨a0,a1,a2,a3,a4⟩,by rw[g0,g1,g2,g3,g4];rfl,l3,z1⟩
theorem Xjc {fuel:Nat} {cs:List Value} {x:DataW H×List MemPlace} (h:DataW.trod enc Tryz.prog w 0 spare held fuel 23 cs=some x) :
  ∃s:SlS EntryG,cs=[s.val]∧s.lies EntryG.cells w∧∀y∈s.xs,y.lies w∧y.cat.size≤maxLen:=by
 obtain⟨A,cp,l,rfl,hr,hn,hm,hl,hc,hR⟩:=Ub EntryG.cells 5 ⟨⟨#[]⟩,⟨#[]⟩,0,⟨none,0,[]⟩,0⟩ Tryz.underlying23 (by kernel_rfl) (by decide) EntryG.size_cells (fun y=>y.lies w∧y.cat.size≤maxLen) (fun _ _ _ h=>Xl1 h) h
 exact⟨⟨A,cp,l⟩,rfl,⟨hr,hl,by unfold maxLen at hc;show cp≤_;omega,hn⟩,hR⟩
theorem Xpb:∃fs:Array Field,Tryz.prog.underlying 79=some (.struct fs)∧fs.toList.map (fun f=>(f.type,f.offset))=[(9,0),(3,1),(76,2),(77,3),(3,4)]∧Tryz.prog.cellsOf 79=5:=⟨_,Tryz.underlying79,by kernel_rfl,by kernel_rfl⟩
theorem Xor {fuel:Nat} {cs:List Value} {x:DataW H×List MemPlace} (h:DataW.trod enc Tryz.prog w 0 spare held fuel 79 cs=some x):∃y:RuleG,cs=y.cells∧(y.lies w∧y.cat.size≤maxLen∧∀p∈y.parts.xs,p.cat.size≤maxLen):=by
 obtain⟨fs,hu,hf,hc⟩:=Xpb
 obtain⟨xs,n,_,_,hlen,hxl,hat⟩:=DataW.trod_struct hu h
 rw[hc] at hlen
 have hsz:fs.size=5:=by have:=congrArg List.length hf;simpa using this
 obtain⟨f0,e0,t0,o0⟩:=X3 hf (i:=0) rfl
 obtain⟨f1,e1,t1,o1⟩:=X3 hf (i:=1) rfl
 obtain⟨f2,e2,t2,o2⟩:=X3 hf (i:=2) rfl
 obtain⟨f3,e3,t3,o3⟩:=X3 hf (i:=3) rfl
 obtain⟨f4,e4,t4,o4⟩:=X3 hf (i:=4) rfl
 have h0:=hat 0 f0 e0
 have h1:=hat 1 f1 e1
 have h2:=hat 2 f2 e2
 have h3:=hat 3 f3 e3
 have h4:=hat 4 f4 e4
 rw[t0,o0,Y0,List.getElem?_eq_getElem (by omega)] at h0
 rw[t1,o1,Yz,List.getElem?_eq_getElem (by omega)] at h1
 rw[t2,o2,Xih,List.getElem?_eq_getElem (by omega)] at h2
 rw[t3,o3,Xig,List.getElem?_eq_getElem (by omega)] at h3
 rw[t4,o4,Yz,List.getElem?_eq_getElem (by omega)] at h4
 obtain⟨a0,g0,_,z0⟩:=DataW.trod_string Tryz.underlying9 h0
 obtain⟨a1,g1,_⟩:=DataW.trod_int Tryz.underlying3 h1
 obtain⟨a2,g2,l2,z2⟩:=Xla h2
 obtain⟨a3,g3,l3,z3⟩:=Xk9 h3
 obtain⟨a4,g4,_⟩:=DataW.trod_int Tryz.underlying3 h4
 match cs,hlen with
 | [c0,c1,c2,c3,c4],_ =>
  simp at g0 g1 g2 g3 g4
  exact⟨⟨a0,a1,a2,a3,a4⟩,by rw[g0,g1,g2,g3,g4];rfl,⟨l2,l3⟩,z0,z2⟩
theorem Xlb {fuel:Nat} {cs:List Value} {x:DataW H×List MemPlace} (h:DataW.trod enc Tryz.prog w 0 spare held fuel 24 cs=some x) :
  ∃s:SlS RuleG,cs=[s.val]∧s.lies RuleG.cells w∧∀y∈s.xs,(y.lies w∧y.cat.size≤maxLen∧∀p∈y.parts.xs,p.cat.size≤maxLen):=by
 obtain⟨A,cp,l,rfl,hr,hn,hm,hl,hc,hR⟩:=Ub RuleG.cells 5 ⟨⟨#[]⟩,0,⟨none,0,[]⟩,⟨none,0,[]⟩,0⟩ Tryz.underlying24 (by kernel_rfl) (by decide) RuleG.size_cells (fun y=>(y.lies w∧y.cat.size≤maxLen∧∀p∈y.parts.xs,p.cat.size≤maxLen)) (fun _ _ _ h=>Xor h) h
 exact⟨⟨A,cp,l⟩,rfl,⟨hr,hl,by unfold maxLen at hc;show cp≤_;omega,hn⟩,hR⟩
theorem Xp0:∃fs:Array Field,Tryz.prog.underlying 26=some (.struct fs)∧fs.toList.map (fun f=>(f.type,f.offset))=[(9,0),(22,1),(9,2),(3,3),(23,4),(24,5)]∧Tryz.prog.cellsOf 26=6:=⟨_,Tryz.underlying26,by kernel_rfl,by kernel_rfl⟩
theorem Xos {fuel:Nat} {cs:List Value} {x:DataW H×List MemPlace} (h:DataW.trod enc Tryz.prog w 0 spare held fuel 26 cs=some x):∃y:Gram,cs=y.cells∧y.lies w∧y.short:=by
 obtain⟨fs,hu,hf,hc⟩:=Xp0
 obtain⟨xs,n,_,_,hlen,hxl,hat⟩:=DataW.trod_struct hu h
 rw[hc] at hlen
 have hsz:fs.size=6:=by have:=congrArg List.length hf;simpa using this
 obtain⟨f0,e0,t0,o0⟩:=X3 hf (i:=0) rfl
 obtain⟨f1,e1,t1,o1⟩:=X3 hf (i:=1) rfl
 obtain⟨f2,e2,t2,o2⟩:=X3 hf (i:=2) rfl
 obtain⟨f3,e3,t3,o3⟩:=X3 hf (i:=3) rfl
 obtain⟨f4,e4,t4,o4⟩:=X3 hf (i:=4) rfl
 obtain⟨f5,e5,t5,o5⟩:=X3 hf (i:=5) rfl
 have h0:=hat 0 f0 e0
 have h1:=hat 1 f1 e1
 have h2:=hat 2 f2 e2
 have h3:=hat 3 f3 e3
 have h4:=hat 4 f4 e4
 have h5:=hat 5 f5 e5
 rw[t0,o0,Y0,List.getElem?_eq_getElem (by omega)] at h0
 rw[t1,o1,Xbe,List.getElem?_eq_getElem (by omega)] at h1
 rw[t2,o2,Y0,List.getElem?_eq_getElem (by omega)] at h2
 rw[t3,o3,Yz,List.getElem?_eq_getElem (by omega)] at h3
 rw[t4,o4,Xf4,List.getElem?_eq_getElem (by omega)] at h4
 rw[t5,o5,Xii,List.getElem?_eq_getElem (by omega)] at h5
 obtain⟨a0,g0,_,z0⟩:=DataW.trod_string Tryz.underlying9 h0
 obtain⟨a1,g1,l1,z1⟩:=Xbw h1
 obtain⟨a2,g2,_,z2⟩:=DataW.trod_string Tryz.underlying9 h2
 obtain⟨a3,g3,_⟩:=DataW.trod_int Tryz.underlying3 h3
 obtain⟨a4,g4,l4,z4⟩:=Xjc h4
 obtain⟨a5,g5,l5,z5⟩:=Xlb h5
 match cs,hlen with
 | [c0,c1,c2,c3,c4,c5],_ =>
  simp at g0 g1 g2 g3 g4 g5
  exact⟨⟨a0,a1,a2,a3,a4,a5⟩,by rw[g0,g1,g2,g3,g4,g5];rfl,⟨l1,l4,fun x hx=>(z4 x hx).1,l5,fun x hx=>(z5 x hx).1⟩,⟨z1,z2,fun x hx=>(z4 x hx).2,fun x hx=>(z5 x hx).2.1,fun x hx=>(z5 x hx).2.2⟩⟩
theorem Xp3:∃fs:Array Field,Tryz.prog.underlying 53=some (.struct fs)∧fs.toList.map (fun f=>(f.type,f.offset))=[(3,0),(3,1),(3,2),(3,3),(22,4),(3,5)]∧Tryz.prog.cellsOf 53=6:=⟨_,Tryz.underlying53,by kernel_rfl,by kernel_rfl⟩
theorem Xot {fuel:Nat} {cs:List Value} {x:DataW H×List MemPlace} (h:DataW.trod enc Tryz.prog w 0 spare held fuel 53 cs=some x):∃y:ItemG,cs=y.cells∧y.tgt.lies w:=by
 obtain⟨fs,hu,hf,hc⟩:=Xp3
 obtain⟨xs,n,_,_,hlen,hxl,hat⟩:=DataW.trod_struct hu h
 rw[hc] at hlen
 have hsz:fs.size=6:=by have:=congrArg List.length hf;simpa using this
 obtain⟨f0,e0,t0,o0⟩:=X3 hf (i:=0) rfl
 obtain⟨f1,e1,t1,o1⟩:=X3 hf (i:=1) rfl
 obtain⟨f2,e2,t2,o2⟩:=X3 hf (i:=2) rfl
 obtain⟨f3,e3,t3,o3⟩:=X3 hf (i:=3) rfl
 obtain⟨f4,e4,t4,o4⟩:=X3 hf (i:=4) rfl
 obtain⟨f5,e5,t5,o5⟩:=X3 hf (i:=5) rfl
 have h0:=hat 0 f0 e0
 have h1:=hat 1 f1 e1
 have h2:=hat 2 f2 e2
 have h3:=hat 3 f3 e3
 have h4:=hat 4 f4 e4
 have h5:=hat 5 f5 e5
 rw[t0,o0,Yz,List.getElem?_eq_getElem (by omega)] at h0
 rw[t1,o1,Yz,List.getElem?_eq_getElem (by omega)] at h1
 rw[t2,o2,Yz,List.getElem?_eq_getElem (by omega)] at h2
 rw[t3,o3,Yz,List.getElem?_eq_getElem (by omega)] at h3
 rw[t4,o4,Xbe,List.getElem?_eq_getElem (by omega)] at h4
 rw[t5,o5,Yz,List.getElem?_eq_getElem (by omega)] at h5
 obtain⟨a0,g0,_⟩:=DataW.trod_int Tryz.underlying3 h0
 obtain⟨a1,g1,_⟩:=DataW.trod_int Tryz.underlying3 h1
 obtain⟨a2,g2,_⟩:=DataW.trod_int Tryz.underlying3 h2
 obtain⟨a3,g3,_⟩:=DataW.trod_int Tryz.underlying3 h3
 obtain⟨a4,g4,l4,z4⟩:=Xbw h4
 obtain⟨a5,g5,_⟩:=DataW.trod_int Tryz.underlying3 h5
 match cs,hlen with
 | [c0,c1,c2,c3,c4,c5],_ =>
  simp at g0 g1 g2 g3 g4 g5
  exact⟨⟨a0,a1,a2,a3,a4,a5⟩,by rw[g0,g1,g2,g3,g4,g5];rfl,l4⟩
theorem Xlc {fuel:Nat} {cs:List Value} {x:DataW H×List MemPlace} (h:DataW.trod enc Tryz.prog w 0 spare held fuel 27 cs=some x) :
  ∃s:SlS ItemG,cs=[s.val]∧s.lies ItemG.cells w∧∀y∈s.xs,y.tgt.lies w:=by
 obtain⟨A,cp,l,rfl,hr,hn,hm,hl,hc,hR⟩:=Ub ItemG.cells 6 ⟨0,0,0,0,⟨none,0,[]⟩,0⟩ Tryz.underlying27 (by kernel_rfl) (by decide) ItemG.size_cells (fun y=>y.tgt.lies w) (fun _ _ _ h=>Xot h) h
 exact⟨⟨A,cp,l⟩,rfl,⟨hr,hl,by unfold maxLen at hc;show cp≤_;omega,hn⟩,hR⟩
end
end Go.Proofs.YtolpbjjapodmnaaGreatDoor
