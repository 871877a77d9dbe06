/- Texts of this claim, one after the other: OpgT. -/
import Derived.Test.YthojaplnimoacaaGreatDoorM13
import Derived.Test.YthojaplnimoacaaGreatDoorM15
namespace Go.Proofs.YthojaplnimoacaaGreatDoor
open Go.RowKit Go.Han Go.ChangeShapes Go.WideShapes Go.ChangeAt Go.Deep
set_option maxRecDepth 100000
section
variable {H:Type} {enc:TypeId×Value→H} {w:World} {spare:Nat→Bool} {held:Bool}
def Xsc (w:World):Type:={p:TreeV×List Value // p.2.length=5∧TreeAt w (fun b=>b<w.heap.size) p.1 p.2∧Z6 p.1}
theorem Xsg (w:World):∀L:List (Xsc w),KidsAt w (fun b=>b<w.heap.size) (L.map (·.1.1)) (L.map (·.1.2))∧Ve (L.map (·.1.1))
 | []=>⟨by unfold KidsAt;rfl,by unfold Ve;trivial⟩
 | y :: L=>by
  have h:=Xsg w L
  constructor
  ·show KidsAt w _ (y.1.1 :: L.map (·.1.1)) (y.1.2 :: L.map (·.1.2))
   unfold KidsAt
   exact⟨_,_,rfl,y.2.2.1,h.1⟩
  ·show Ve (y.1.1 :: L.map (·.1.1))
   unfold Ve
   exact⟨y.2.2.2,h.2⟩
theorem Xr1 {t:Int} (h:(Lit.int .i64 t).wf=true):I6 t:=by
 simp only[Lit.wf,Bool.and_eq_true,decide_eq_true_eq] at h
 have e1:IntKind.i64.min = -9223372036854775808:=by decide
 have e2:IntKind.i64.max=9223372036854775807:=by decide
 rw[e1,e2] at h
 exact h
theorem Xsk {α:Type} (n:Nat) (p:Nat→α→Prop) (h:∀i,i<n→∃y,p i y):∃L:List α,L.length=n∧∀i (hi:i<L.length),p i L[i]:=by
 induction n with
 | zero=>exact⟨[],rfl,fun i hi=>(by simp at hi)⟩
 | succ n ih =>
  obtain⟨L,hL,hp⟩:=ih (fun i hi=>h i (by omega))
  obtain⟨y,hy⟩:=h n (by omega)
  refine⟨L++[y],by simp[hL],fun i hi=>?_⟩
  rw[List.length_append,List.length_singleton] at hi
  rcases Nat.lt_or_ge i L.length with h1|h1
  ·rw[List.getElem_append_left h1];exact hp i h1
  ·obtain rfl:i=L.length:=by omega
   rw[List.getElem_append_right (Nat.le_refl _)]
   simp only[Nat.sub_self,List.getElem_cons_zero]
   rw[hL];exact hy
theorem Xsj:∃fs:Array Field,Tryz.prog.underlying 32=some (.struct fs)∧fs.toList.map (fun f=>(f.type,f.offset))=[(3,0),(3,1),(3,2),(3,3),(30,4)]∧Tryz.prog.cellsOf 32=5:=⟨_,Tryz.underlying32,by kernel_rfl,by kernel_rfl⟩
theorem Xsd:Tryz.prog.cellsOf 30=1:=by kernel_rfl
theorem Xsi:∀(fuel:Nat) (cs:List Value) (x:DataW H×List MemPlace),DataW.trod enc Tryz.prog w 0 spare held fuel 32 cs=some x→∃y:Xsc w,cs=y.1.2:=by
 intro fuel
 induction fuel using Nat.strongRecOn with
 | _ fuel ih =>
 intro cs x h
 obtain⟨fs,hu,hf,hc⟩:=Xsj
 obtain⟨xs,n,hfu,_,hlen,hxl,hat⟩:=DataW.trod_struct hu h
 rw[hc] at hlen
 have hsz:fs.size=5:=by have:=congrArg List.length hf;simpa using this
 obtain⟨f0,e0,t0,o0⟩:=X3 hf (i:=0) rfl
 obtain⟨f1,e1,t1,o1⟩:=X3 hf (i:=1) rfl
 obtain⟨f2,e2,t2,o2⟩:=X3 hf (i:=2) rfl
 obtain⟨f3,e3,t3,o3⟩:=X3 hf (i:=3) rfl
 obtain⟨f4,e4,t4,o4⟩:=X3 hf (i:=4) rfl
 have h0:=hat 0 f0 e0
 have h1:=hat 1 f1 e1
 have h2:=hat 2 f2 e2
 have h3:=hat 3 f3 e3
 have h4:=hat 4 f4 e4
 rw[t0,o0,Yz,List.getElem?_eq_getElem (by omega)] at h0
 rw[t1,o1,Yz,List.getElem?_eq_getElem (by omega)] at h1
 rw[t2,o2,Yz,List.getElem?_eq_getElem (by omega)] at h2
 rw[t3,o3,Yz,List.getElem?_eq_getElem (by omega)] at h3
 rw[t4,o4,Xsd,List.getElem?_eq_getElem (by omega)] at h4
 obtain⟨a0,g0,_,z0⟩:=DataW.trod_int Tryz.underlying3 h0
 obtain⟨a1,g1,_,z1⟩:=DataW.trod_int Tryz.underlying3 h1
 obtain⟨a2,g2,_,z2⟩:=DataW.trod_int Tryz.underlying3 h2
 obtain⟨a3,g3,_,z3⟩:=DataW.trod_int Tryz.underlying3 h3
 have key:∃(A:Option Addr) (cp:Nat) (L:List (Xsc w)),(cs.drop 4).take 1=[.slice A L.length cp]∧L.length≤cp∧cp≤9223372036854775807∧(A=none→L=[])∧InP (fun b=>b<w.heap.size) A L.length∧Rd w A (L.map (·.1.2)).flatten:=by
  rcases DataW.trod_slice Tryz.underlying30 h4 with ⟨e,_⟩|⟨a,len,cap,elems,rest,n',hn',e,_,_,hlc,hcm,hel,hi,_,_⟩
  ·exact⟨none,0,[],e,Nat.le_refl _,by omega,fun _=>rfl,fun h=>absurd h (by simp),.inl rfl⟩
  ·rw[hc] at hi
   have each:∀i,i<len→∃y:Xsc w,∀j u,y.1.2[j]? = some u→w.cell? (a.add (i*5+j))=some u:=by
    intro i hil
    have h5:=hi i hil
    rw[List.getElem?_eq_getElem (by omega)] at h5
    obtain⟨cs',hcs,htr⟩:=Option.bind_eq_some_iff.1 h5
    obtain⟨y,rfl⟩:=ih n' (by omega) cs' _ htr
    refine⟨y,fun j u hu=>?_⟩
    obtain⟨_,hcl,hat'⟩:=World.cells?_some hcs
    have hj:j<5:=by rw[← y.2.1];exact(List.getElem?_eq_some_iff.1 hu).1
    rw[← Go.Deep.add_add,hat' j hj,hu]
   obtain⟨L,hL,hp⟩:=Xsk len _ each
   subst hL
   have hsp:0<L.length→a.spot=none∧a.block<w.heap.size:=by
    intro h0
    have hl0:0<L[0].1.2.length:=by rw[L[0].2.1];decide
    have:=hp 0 h0 0 _ (List.getElem?_eq_getElem hl0)
    rw[Nat.zero_mul,Nat.zero_add] at this
    have hcl:w.cell? a=some _:=this
    refine⟨?_,Ug hcl⟩
    unfold World.cell? at hcl
    split at hcl
    ·split at hcl
     ·cases hcl
     ·rename_i hn;simpa using hn
    ·cases hcl
   refine⟨some a,cap,L,e,hlc,by unfold maxLen at hcm;omega,fun h=>(by cases h),fun h0=>?_,?_⟩
   ·obtain⟨h6,h7⟩:=hsp h0
    obtain⟨b,off,sp⟩:=a
    obtain rfl:sp=none:=h6
    exact⟨b,off,rfl,h7⟩
   ·rcases Nat.eq_zero_or_pos L.length with h0|h0
    ·obtain rfl:=List.eq_nil_of_length_eq_zero h0
     exact .inl rfl
    ·obtain⟨h6,h7⟩:=hsp h0
     obtain⟨b,off,sp⟩:=a
     obtain rfl:sp=none:=h6
     refine .inr ⟨b,off,rfl,h7,fun j u hu=>?_⟩
     rw[← List.flatMap_def] at hu
     have hj:j<L.length*5:=by
      have:=(List.getElem?_eq_some_iff.1 hu).1
      rwa [Z7 (fun y:Xsc w=>y.1.2) 5 (fun y=>y.2.1)] at this
     have hk:j / 5<L.length:=by omega
     have hg:=Xe5 (fun y:Xsc w=>y.1.2) 5 (fun y=>y.2.1) L (j / 5) (j % 5) hk (by omega)
     rw[show j / 5*5+j % 5=j by omega,hu] at hg
     have:=hp (j / 5) hk (j % 5) u hg.symm
     rw[show j / 5*5+j % 5=j by omega] at this
     unfold Addr.add at this
     split at this
     ·rename_i h8;subst h8;exact this
     ·exact this
 obtain⟨A,cp,L,g4,k1,k2,k3,k4,k5⟩:=key
 obtain⟨hK,hF⟩:=Xsg w L
 match cs,hlen with
 | [c0,c1,c2,c3,c4],_ =>
  simp at g0 g1 g2 g3 g4
  refine⟨⟨(.node a0 a1 a2 a3 (L.map (·.1.1)),[c0,c1,c2,c3,c4]),rfl,?_,?_⟩,rfl⟩
  ·unfold TreeAt
   exact⟨A,cp,L.map (·.1.2),by rw[g0,g1,g2,g3,g4];simp,by simpa using k1,k2,fun h=>by rw[k3 h];rfl,by simpa using k4,k5,hK⟩
  ·unfold Z6
   exact⟨Xr1 z0,Xr1 z1,Xr1 z2,Xr1 z3,hF⟩
theorem Xsh {fuel:Nat} {cs:List Value} {x:DataW H×List MemPlace} (h:DataW.trod enc Tryz.prog w 0 spare held fuel 32 cs=some x):∃(t:TreeV) (y:TreeG),cs=y.cells∧TreeAt w (fun b=>b<w.heap.size) t y.cells∧Z6 t:=by
 obtain⟨⟨⟨t,cs'⟩,hp⟩,rfl⟩:=Xsi fuel cs x h
 obtain⟨_,h2,h3⟩:=hp
 obtain⟨r,j,i,k,l⟩:=t
 have h4:=h2
 unfold TreeAt at h4
 obtain⟨A,cap,css,e,_⟩:=h4
 have e2:cs=(TreeG.mk r j i k ⟨A,l.length,cap⟩).cells:=e
 subst e2
 exact⟨_,_,rfl,h2,h3⟩
end
end Go.Proofs.YthojaplnimoacaaGreatDoor
