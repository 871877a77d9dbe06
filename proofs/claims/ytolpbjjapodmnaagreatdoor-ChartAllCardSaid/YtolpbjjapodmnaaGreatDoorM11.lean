/- Texts of this claim, one after the other: ChaW, Chw4, GoalK, GrmB, Chw7, Chw8, Chw9, ChaX, ChwP, R29i, RangeV, IntL, Chw5. -/
import Derived.Test.YtolpbjjapodmnaaGreatDoorM10
import Derived.Test.YtolpbjjapodmnaaGreatDoorM3
import Derived.Test.YtolpbjjapodmnaaGreatDoorM8
import Derived.Test.YtolpbjjapodmnaaGreatDoorM5
import Derived.Test.YtolpbjjapodmnaaGreatDoorM4
import Derived.Test.YtolpbjjapodmnaaGreatDoorShelfG
import Derived.Lib.AppendIntMem
namespace Go.Proofs.YtolpbjjapodmnaaGreatDoor
open Go.RowKit Go.Han
set_option maxRecDepth 100000
/-! ### what is found, step by step -/
theorem SameM.of {α:Type} {m:Nat} {a b:List (Int×α)} (h:SameM a b):Fd.of m a=Fd.of m b:=by unfold Fd.of;rw[h.1,h.2]
theorem Xds (c i k:Int) (x:ItemG):∀(j:Nat) (l:List ItemG),Xq c i k j (l++[x])=Xq c i k j l++(if x.cat=c∧x.frm=i∧x.unt=k then [(x.cost,Zt (j+l.length) i k)] else [])
 | j,[]=>by simp[Xq]
 | j,y :: l=>by
  rw[List.cons_append,Xq,Xq,Xds c i k x (j+1) l,List.append_assoc,List.length_cons]
  rw[show j+1+l.length=j+(l.length+1) by omega]
theorem Xad (st:Int→ByteArray→Bool) (A:Int→Nat→Nat→List Dv) (c:Int) (i k:Nat) (r:RuleG):∀(j:Nat) (l:List RuleG),X4 st A c i k j (l++[r])=X4 st A c i k j l++(if r.no=c then Xac st A (j+l.length) r i k else [])
 | j,[]=>by simp[X4]
 | j,y :: l=>by
  rw[List.cons_append,X4,X4,Xad st A c i k r (j+1) l,List.append_assoc,List.length_cons]
  rw[show j+1+l.length=j+(l.length+1) by omega]
def Tk (A:Int→Nat→Nat→List Dv) (j:Nat) (r:RuleG) (i k:Nat) (es:List Nat):List Dv:=(Yr A r.parts.xs i es).map fun x=>(r.cost+x.1,.node j (-1) i k x.2)
theorem Xlm (st:Int→ByteArray→Bool) (A:Int→Nat→Nat→List Dv) (j:Nat) (r:RuleG) (i k:Nat):SameM ((X9 st r.parts.xs i k).flatMap (Tk A j r i k)) (Xac st A j r i k):=by
 have h:=(Xc6 st A r.parts.xs i k).map (fun x=>(r.cost+x.1,TreeV.node j (-1) i k x.2)) r.cost (fun _=>rfl)
 unfold Xac
 rw[List.map_flatMap] at h
 exact h
def MidE (A:Int→Nat→Nat→List Dv) (ps:List PartG) (i:Nat) (es:List Nat) (p at_:Nat) (q:Nat) (C:Int) (kids:List TreeV) (e:Nat):Prop :=
 0<e∧(Yr A ps i es).length=e*(Yr A (ps.drop p) at_ (es.drop q)).length ∧
  Xv (Yr A ps i es)=(Xv (Yr A (ps.drop p) at_ (es.drop q))).map fun x=>(C+x.1,kids++x.2)
theorem Xk6 (A:Int→Nat→Nat→List Dv) (ps:List PartG) (i:Nat) (es:List Nat):MidE A ps i es 0 i 0 0 [] 1:=by
 refine⟨by omega,by simp,?_⟩
 rw[List.drop_zero,List.drop_zero]
 have:(fun x:Dk=>(0+x.1,[]++x.2))=id:=by funext x;simp
 rw[this,Option.map_id,id]
theorem Xlj (A:Int→Nat→Nat→List Dv) {p:PartG} (hp:p.text.size≠0) (ps:List PartG) (i:Nat) (es:List Nat):Yr A (p :: ps) i es=Yr A ps (i+1) es:=by simp only[Yr];rw[if_pos hp]
theorem Xg9 (A:Int→Nat→Nat→List Dv) {p:PartG} (hp:p.text.size=0) (ps:List PartG) (i m:Nat) (es:List Nat):Yr A (p :: ps) i (m :: es)=Y7 List.cons (A p.no i m) (Yr A ps m es):=by simp only[Yr];rw[if_neg (by simpa using hp)]
theorem Xn3 {A:Int→Nat→Nat→List Dv} {ps:List PartG} {i:Nat} {es:List Nat} {p at_ q:Nat} {C:Int} {kids:List TreeV} {e:Nat} (h:MidE A ps i es p at_ q C kids e) (hl:p<ps.length) (ht:ps[p].text.size≠0):MidE A ps i es (p+1) (at_+1) q C kids e:=by
 obtain⟨h0,h1,h2⟩:=h
 rw[List.drop_eq_getElem_cons hl,Xlj A ht] at h1 h2
 exact⟨h0,h1,h2⟩
theorem Xqe {A:Int→Nat→Nat→List Dv} {ps:List PartG} {i:Nat} {es:List Nat} {p at_ q:Nat} {C:Int} {kids:List TreeV} {e:Nat} (h:MidE A ps i es p at_ q C kids e) (hl:p<ps.length) (ht:ps[p].text.size=0) (hq:q<es.length) {c:Int} {t:TreeV} (hA:Xv (A ps[p].no at_ es[q])=some (c,t)) :
  MidE A ps i es (p+1) es[q] (q+1) (C+c) (kids++[t]) (e*(A ps[p].no at_ es[q]).length):=by
 obtain⟨h0,h1,h2⟩:=h
 rw[List.drop_eq_getElem_cons hl,List.drop_eq_getElem_cons hq,Xg9 A ht] at h1 h2
 have hpos:0<(A ps[p].no at_ es[q]).length:=by
  cases hn:A ps[p].no at_ es[q] with
  | nil=>rw[hn] at hA;cases hA
  | cons _ _=>simp
 refine⟨Nat.mul_pos h0 hpos,by rw[h1,Zh,Nat.mul_assoc],?_⟩
 rw[h2,Vi,hA]
 cases Xv (Yr A (ps.drop (p+1)) es[q] (es.drop (q+1))) with
 | none=>rfl
 | some x=>simp[Q2,Int.add_assoc]
theorem Xn2 {A:Int→Nat→Nat→List Dv} {ps:List PartG} {i:Nat} {es:List Nat} {p at_ q:Nat} {C:Int} {kids:List TreeV} {e:Nat} (h:MidE A ps i es p at_ q C kids e) (hl:p<ps.length) (ht:ps[p].text.size=0) (hq:q<es.length) (hA:Xv (A ps[p].no at_ es[q])=none):Yr A ps i es=[]:=by
 obtain⟨h0,h1,h2⟩:=h
 rw[List.drop_eq_getElem_cons hl,List.drop_eq_getElem_cons hq,Xg9 A ht,Zh,Zw hA] at h1
 simpa using h1
theorem Xqf {A:Int→Nat→Nat→List Dv} {ps:List PartG} {i:Nat} {es:List Nat} {at_ q:Nat} {C:Int} {kids:List TreeV} {e:Nat} (h:MidE A ps i es ps.length at_ q C kids e):(Yr A ps i es).length=e∧Xv (Yr A ps i es)=some (C,kids):=by
 obtain⟨h0,h1,h2⟩:=h
 rw[List.drop_length] at h1 h2
 refine⟨by rw[h1];simp[Yr],by rw[h2];simp[Yr,Xv,Yy]⟩
def WayE:List PartG→Nat→Nat→List Nat→Prop
 | [],i,k,es=>i=k∧es=[]
 | p :: ps,i,k,es=>if p.text.size≠0 then i<k∧WayE ps (i+1) k es else ∃m es',es=m :: es'∧i<m∧m+ps.length≤k∧WayE ps m k es'
theorem Xc7 (st:Int→ByteArray→Bool):∀(ps:List PartG) (i k:Nat) (es:List Nat),es∈X9 st ps i k→WayE ps i k es
 | [],i,k,es,h=>by
  unfold X9 at h
  split at h
  ·rename_i e;simp at h;exact⟨e,h⟩
  ·cases h
 | p :: ps,i,k,es,h=>by
  unfold X9 at h
  split at h
  ·cases h
  rename_i hk
  unfold WayE
  split at h
  ·rename_i ht
   rw[if_pos ht]
   split at h
   ·exact⟨by omega,Xc7 st ps _ _ _ h⟩
   ·cases h
  ·rename_i ht
   rw[if_neg ht]
   obtain⟨m,hm,h⟩:=List.mem_flatMap.1 h
   obtain⟨es',h',rfl⟩:=List.mem_map.1 h
   rw[List.mem_range'_1] at hm
   exact⟨m,es',rfl,by omega,by omega,Xc7 st ps _ _ _ h'⟩
theorem Xj2:∀ {ps:List PartG} {i k:Nat} {es:List Nat},WayE ps i k es→i+ps.length≤k
 | [],i,k,es,h=>by have:=h.1;simp;omega
 | p :: ps,i,k,es,h=>by
  unfold WayE at h
  rw[List.length_cons]
  split at h
  ·have:=Xj2 h.2;omega
  ·obtain⟨m,es',_,h1,h2,h3⟩:=h
   omega
theorem Xq5 {ps:List PartG} {i k:Nat} {es:List Nat} (_h:WayE ps i k es):∀(p at_ q:Nat),WayE (ps.drop p) at_ k (es.drop q)→i≤at_→p≤at_-i→∀(hl:p<ps.length),ps[p].text.size=0→∃hq:q<es.length,at_<es[q]∧es[q]≤k∧(es[q]-at_)+ps.length≤(k-i)+1∧WayE (ps.drop (p+1)) es[q] k (es.drop (q+1)):=by
 intro p at_ q hw hi hp hl ht
 rw[List.drop_eq_getElem_cons hl] at hw
 unfold WayE at hw
 rw[if_neg (by simpa using ht)] at hw
 obtain⟨m,es',he,h1,h2,h3⟩:=hw
 have hq:q<es.length:=by
  rcases Nat.lt_or_ge q es.length with h|h
  ·exact h
  ·rw[List.drop_eq_nil_of_le h] at he;cases he
 rw[List.drop_eq_getElem_cons hq] at he
 injection he with e1 e2
 rw[List.length_drop] at h2
 exact⟨hq,by omega,by omega,by omega,by rw[e1,e2];exact h3⟩
end Go.Proofs.YtolpbjjapodmnaaGreatDoor
namespace Go.Proofs.YtolpbjjapodmnaaGreatDoor
open Go.RowKit Go.Han
attribute [local irreducible] wpStill wpQuiet
set_option maxRecDepth 100000
def Xbd (w:World) (cb:Nat) (g:Gram) (its:SlS ItemG) (n:Int) (kb wb:Nat):Prop :=
 w.heap[cb]? = some (.cells #[.string g.name,.slice g.cats.addr g.cats.xs.length g.cats.cap,.string g.start,.int .i64 g.startNo,.slice g.entries.addr g.entries.xs.length g.entries.cap,.slice g.rules.addr g.rules.xs.length g.rules.cap,.slice its.addr its.xs.length its.cap,.int .i64 n,.map (some kb),.map (some wb)] 183 (0,0))
theorem Xrh (l:List Dv) (c:Int) (t:TreeV):Fd.of bigN (l++[(c,t)])=Fd.add bigN (Fd.of bigN l) ⟨1,some (c,t)⟩:=Fd.of_append bigN l [(c,t)]
theorem Xg1 {X:Nat→Prop} {w:World} {f:FoundG} {l:List Dv} (h:FoundOk X w f (Fd.of bigN l)):0≤f.many∧f.many≤1099511627777:=by
 rw[h.many]
 have:=Xan bigN l.length
 exact⟨Int.natCast_nonneg _,by show ((capN bigN l.length:Nat):Int)≤_;unfold bigN at *;omega⟩
theorem Ym {w:World} {fb:Nat} {cs:Array Value} {fr:Nat×Nat} (h:w.heap[fb]? = some (.cells cs 114 fr)):¬KidP w fb:=by
 rintro⟨cs',fr',h'⟩
 rw[h] at h'
 have:=Option.some.inj h'
 injection this with _ e _
 exact absurd e (by decide)
def Xra (X:Nat→Prop) (fb:Nat) (c i k:Int) (items:List ItemG) (w:World) (e:Ending) (w':World):Prop :=
 e = .returned (.tuple #[])∧∃f,w'.heap[fb]? = some (.cells #[.bool f.ok,.int .i64 f.cost,.int .i64 f.rule,.int .i64 f.item,.int .i64 f.frm,.int .i64 f.unt,.slice f.kids.addr f.kids.len f.kids.cap,.int .i64 f.many] 114 (0,0))∧FoundOk X w' f (Fd.of bigN (Xq c i k 0 items))∧Only (fun j=>j=fb) w w'
set_option maxHeartbeats 4000000 in
theorem Xjh (X:Nat→Prop) (cb fb:Nat) (g:Gram) (its:SlS ItemG) (n:Int) (kb wb:Nat) (c i k:Int) (w:World) (hc:Xbd w cb g its n kb wb) (_hit:ItemsAt w its) (hf:w.heap[fb]? = some (.cells #[.bool false,.int .i64 0,.int .i64 0,.int .i64 0,.int .i64 0,.int .i64 0,.slice none 0 0,.int .i64 0] 114 (0,0))) (hm:its.xs.length≤16384)
  (hit2:∀W,Only (fun j=>j=fb) w W→ItemsAt W its) :
  Calls Tryz.prog 126 #[.pointer (some ⟨cb,0,none⟩),.agg #[.int .i64 c,.int .i64 i,.int .i64 k],.pointer (some ⟨fb,0,none⟩)] w (Xra X fb c i k its.xs w):=by
 obtain⟨W1,hW1⟩:∃W1,w.alloc (.cells #[.int .i64 c,.int .i64 i,.int .i64 k] 119)=W1:=⟨_,rfl⟩
 have hB1:=Yn hW1
 have hx1:=Yv hW1
 have hc1:=Xh hB1 hc
 have hf1:=Xh hB1 hf
 have hcf:cb≠fb:=by
  rintro rfl
  unfold Xbd at hc
  rw[hc] at hf
  have:=Option.some.inj hf
  injection this with _ e _
  exact absurd e (by decide)
 have hlf:=Xc hf
 have a6:=gblk hc1 6
 have Hx:=Xa hx1
 have Hf1:=Xa hf1
 have HI:=Xa hit2
 have hO1:Only (fun j=>j=fb) w W1:=.of_below hB1
 have Ht:=Xa (fun (x:ItemG) (j:Nat)=>Xds c i k x 0 (its.xs.take j))
 clear hc hf _hit hc1 hf1 hx1 hit2
 go_enter Tryz.func126,Tryz.ntmps126
 go_wp2_with fail
 clear hW1
 go_loopw [13] (fun iv wr=>∃(j:Nat) (f:FoundG),j≤its.xs.length∧iv = .int .i64 j∧Hid (wr.heap[fb]? = some (.cells #[.bool f.ok,.int .i64 f.cost,.int .i64 f.rule,.int .i64 f.item,.int .i64 f.frm,.int .i64 f.unt,.slice f.kids.addr f.kids.len f.kids.cap,.int .i64 f.many] 114 (0,0)))∧Hid (FoundOk X wr f (Fd.of bigN (Xq c i k 0 (its.xs.take j))))∧Only (fun j=>j=fb) W1 wr) (fun iv _=>its.xs.length-(intOf iv).toNat)
 case atStart=>exact⟨0,⟨false,0,0,0,0,0,⟨none,0,0⟩,0⟩,Nat.zero_le _,rfl,Hf1.out,FoundOk.zero _ _,Only.refl _ _⟩
 case round =>
  obtain⟨j,f,hj,rfl,hfr,hok,hO⟩:=hrel
  by_cases hlt:j<its.xs.length
  ·have hOw:=hO1.trans hO
   obtain⟨bi,oi,hA,hbb,hcl⟩:=(HI.out wr hOw).lies.at_ ItemG.size_cells (by omega) hlt
   have d0:wr.cell? ⟨bi,oi+j*6,none⟩=some (.int .i64 its.xs[j].cat):=hcl j hlt wr (Below.refl _ _) 0 _ rfl
   have d1:wr.cell? ⟨bi,oi+j*6+1,none⟩=some (.int .i64 its.xs[j].frm):=hcl j hlt wr (Below.refl _ _) 1 _ rfl
   have d2:wr.cell? ⟨bi,oi+j*6+2,none⟩=some (.int .i64 its.xs[j].unt):=hcl j hlt wr (Below.refl _ _) 2 _ rfl
   have d3:wr.cell? ⟨bi,oi+j*6+3,none⟩=some (.int .i64 its.xs[j].cost):=hcl j hlt wr (Below.refl _ _) 3 _ rfl
   have d4:wr.cell? ⟨bi,oi+j*6+4,none⟩=some (.slice its.xs[j].tgt.addr its.xs[j].tgt.xs.length its.xs[j].tgt.cap):=hcl j hlt wr (Below.refl _ _) 4 _ rfl
   have d5:wr.cell? ⟨bi,oi+j*6+5,none⟩=some (.int .i64 its.xs[j].term):=hcl j hlt wr (Below.refl _ _) 5 _ rfl
   have htk:its.xs.take (j+1)=its.xs.take j++[its.xs[j]]:=List.take_succ_eq_append_getElem hlt
   have Hsn:=Xa (Ht.out its.xs[j] j)
   have Htk:=Xa htk
   have hjl:(its.xs.take j).length=j:=by rw[List.length_take];omega
   have Hjl:=Xa hjl
   rw[hA]
   clear hcl hA htk hjl
   generalize its.xs[j]=x at *
   obtain⟨w8,hw8⟩:∃w8,(wr.alloc (.cells #[.int .i64 (j:Int)] 3)).alloc (.cells #[.int .i64 x.cat,.int .i64 x.frm,.int .i64 x.unt,.int .i64 x.cost,.slice x.tgt.addr x.tgt.xs.length x.tgt.cap,.int .i64 x.term] 53)=w8:=⟨_,rfl⟩
   have hb8:Below wr.heap.size wr w8:=by rw[← hw8];exact Xe (Xe (Below.refl _ _) _) _
   have hj8:w8.heap[wr.heap.size]? = some (.cells #[.int .i64 (j:Int)] 3 (0,0)):=by rw[← hw8];exact(Below.heap_alloc _ _ _ (by simp)).trans (World.alloc_heap_new _ _)
   have hx8:w8.heap[wr.heap.size+1]? = some (.cells #[.int .i64 x.cat,.int .i64 x.frm,.int .i64 x.unt,.int .i64 x.cost,.slice x.tgt.addr x.tgt.xs.length x.tgt.cap,.int .i64 x.term] 53 (0,0)):=by rw[← hw8];exact X0 _ _ _ (by simp)
   have hgr:wr.heap[w.heap.size]? = some (.cells #[.int .i64 c,.int .i64 i,.int .i64 k] 119 (0,0)):=(hO.block _ (Xc Hx.out) (by show w.heap.size≠fb;omega)).trans Hx.out
   have hg8:=Xh hb8 hgr
   have hf8:=Xh hb8 hfr.out
   obtain⟨e0,e1,e2,e3,e4,e5⟩:=gb6 hx8
   obtain⟨q0,q1,q2⟩:=gb3 hg8
   have hO8:Only (fun j=>j=fb) W1 w8:=hO.ext hb8
   have hok8:Hid (FoundOk X w8 f (Fd.of bigN (Xq c i k 0 (its.xs.take j)))):=hok.out.keep fun t y h=>h.ext hb8
   have hmr:=Xg1 hok.out
   have cT:=Xa (Xjx fb f x.cost 1 179 #[.pointer (some ⟨wr.heap.size,0,none⟩),.pointer (some ⟨w.heap.size,0,none⟩)] ⟨-1,j,i,k,⟨none,0,0⟩⟩ w8 hf8 (enters_of Tryz.func179 (by kernel_rfl) rfl)
    (fun W hW=>Xqb wr.heap.size w.heap.size j i k c W ((hW.block _ (Xc hj8) (by have:=Xc hfr.out;show wr.heap.size≠fb;omega)).trans hj8) ((hW.block _ (Xc hg8) (by show w.heap.size≠fb;omega)).trans hg8)) (IntWalk.i64_in _ (by omega)))
   have hnk:=Ym hf8
   have Hf8:=Xa hf8
   clear hf8 hx8 hj8 hg8 hgr hok hfr hmr
   by_cases h1:x.cat=c
   ·have k1:(x.cat == c)=true:=by simp[h1]
    by_cases h2:x.frm=i
    ·have k2:(x.frm == i)=true:=by simp[h2]
     by_cases h3:x.unt=k
     ·have k3:(x.unt == k)=true:=by simp[h3]
      have hN:Hid (Xq c i k 0 (its.xs.take j++[x])=Xq c i k 0 (its.xs.take j)++[(x.cost,Zt j i k)]):=by show _=_;rw[Hsn.out,if_pos ⟨h1,h2,h3⟩,Hjl.out,Nat.zero_add]
      clear h1 h2 h3
      go_wp2_with fail
      refine cT.out.mono ?_
      rintro e w9 ⟨rfl,hf9,hO9⟩
      have hok9:Hid (FoundOk X w9 (Xdy f x.cost 1 ⟨-1,j,i,k,⟨none,0,0⟩⟩) (Fd.of bigN (Xq c i k 0 (its.xs.take j++[x])))):=by
       show FoundOk _ _ _ _
       rw[hN.out,Xrh]
       exact hok8.out.take (m:=1) (fun t y h=>h.only hO9 (fun b hb h=>by rw[show b=fb from hb] at h;exact hnk h.1)) (Xnx X w9 j i k)
      have hO10:=hO8.trans hO9
      have Hf9:=Xa hf9
      clear hf9 hO9 cT hok8
      go_wp2_with fail
      go_roundw
      case rel=>exact⟨j+1,_,by omega,by go_num,Hf9.out,by rw[Htk.out];exact hok9,hO10⟩
      case measure=>simp[intOf];omega
     ·have k3:(x.unt == k)=false:=by simp[h3]
      have hN:Hid (Xq c i k 0 (its.xs.take j++[x])=Xq c i k 0 (its.xs.take j)):=by show _=_;rw[Hsn.out,if_neg (fun h=>h3 h.2.2),List.append_nil]
      clear h1 h2 h3 cT
      go_wp2_with fail
      go_roundw
      case rel=>exact⟨j+1,f,by omega,by go_num,Hf8.out,by rw[Htk.out,hN.out];exact hok8,hO8⟩
      case measure=>simp[intOf];omega
    ·have k2:(x.frm == i)=false:=by simp[h2]
     have hN:Hid (Xq c i k 0 (its.xs.take j++[x])=Xq c i k 0 (its.xs.take j)):=by show _=_;rw[Hsn.out,if_neg (fun h=>h2 h.2.1),List.append_nil]
     clear h1 h2 cT
     go_wp2_with fail
     go_roundw
     case rel=>exact⟨j+1,f,by omega,by go_num,Hf8.out,by rw[Htk.out,hN.out];exact hok8,hO8⟩
     case measure=>simp[intOf];omega
   ·have k1:(x.cat == c)=false:=by simp[h1]
    have hN:Hid (Xq c i k 0 (its.xs.take j++[x])=Xq c i k 0 (its.xs.take j)):=by show _=_;rw[Hsn.out,if_neg (fun h=>h1 h.1),List.append_nil]
    clear h1 cT
    go_wp2_with fail
    go_roundw
    case rel=>exact⟨j+1,f,by omega,by go_num,Hf8.out,by rw[Htk.out,hN.out];exact hok8,hO8⟩
    case measure=>simp[intOf];omega
  ·have hjl:j=its.xs.length:=by omega
   subst hjl
   have HN:Hid (FoundOk X wr f (Fd.of bigN (Xq c i k 0 its.xs))):=by
    have h:=hok.out
    rw[List.take_length] at h
    exact h
   have hO2:=hO1.trans hO
   go_wp2_with fail
   exact bodyPost_ret (results_none rfl _ _ _) rfl ⟨rfl,f,hfr.out,HN.out,hO2⟩
end Go.Proofs.YtolpbjjapodmnaaGreatDoor
namespace Go.Proofs.YtolpbjjapodmnaaGreatDoor
open Go.RowKit Go.Han
set_option maxRecDepth 100000
theorem laidGK:laidOutB Tryz.prog=true:=by kernel_rfl
theorem Qf:Maps.Keyed Tryz.prog 119:=Maps.Keyed.of_law (deep_law_laid laidGK (m:=2) (by omega) (of_decide_eq_true (by kernel_rfl)) (by kernel_rfl) (by kernel_rfl))
theorem Xe9 : ∃ fs : Array Field, Tryz.prog.underlying 119 = some (.struct fs) ∧ fs.toList.map (fun f => (f.name, f.type, f.offset)) = [("cat", 3, 0), ("from", 3, 1), ("until", 3, 2)] ∧ Tryz.prog.cellsOf 119 = 3 ∧ Tryz.prog.keyType 119 = true := ⟨_, Tryz.underlying119, by kernel_rfl, by kernel_rfl, by kernel_rfl⟩
theorem Xdr:Tryz.prog.cellsOf 3=1:=by kernel_rfl
structure X8 where
 cat:Int
 frm:Int
 unt:Int
deriving DecidableEq
def Xar (k:X8):Lit:=.string (keyBytes [.int .i64 k.cat,.int .i64 k.frm,.int .i64 k.unt])
def Qd (k:X8):Value:=.agg #[.int .i64 k.cat,.int .i64 k.frm,.int .i64 k.unt]
def Zx (k:X8):Prop:=(Lit.int .i64 k.cat).wf=true∧(Lit.int .i64 k.frm).wf=true∧(Lit.int .i64 k.unt).wf=true
theorem Xcz (n:Nat) (k:X8) (h:Zx k):Tryz.prog.keyLits (n+2) 119 [.int .i64 k.cat,.int .i64 k.frm,.int .i64 k.unt]=some [.int .i64 k.cat,.int .i64 k.frm,.int .i64 k.unt]:=by
 obtain⟨fs,hu,hf,hc,hk⟩:=Xe9
 obtain⟨h1,h2,h3⟩:=h
 unfold Program.keyLits
 rw[hu]
 have hfs : ∃ f0 f1 f2, fs.toList = [f0, f1, f2] ∧ f0.name = "cat" ∧ f0.type = 3 ∧ f0.offset = 0 ∧ f1.name = "from" ∧ f1.type = 3 ∧ f1.offset = 1 ∧ f2.name = "until" ∧ f2.type = 3 ∧ f2.offset = 2 := by
  match hl:fs.toList with
  | [f0,f1,f2] =>
   rw[hl] at hf
   simp at hf
   exact⟨f0,f1,f2,rfl,hf.1.1,hf.1.2.1,hf.1.2.2,hf.2.1.1,hf.2.1.2.1,hf.2.1.2.2,hf.2.2.1,hf.2.2.2.1,hf.2.2.2.2⟩
  | []=>rw[hl] at hf;simp at hf
  | [_]=>rw[hl] at hf;simp at hf
  | [_,_]=>rw[hl] at hf;simp at hf
  | _ :: _ :: _ :: _ :: _=>rw[hl] at hf;simp at hf
 obtain⟨f0,f1,f2,hl,n0,t0,o0,n1,t1,o1,n2,t2,o2⟩:=hfs
 have hall : fs.all (fun f => f.name != "_") = true := by
  rw[← Array.all_toList,hl]
  simp[n0,n1,n2]
 simp only[hc,hall,List.length_cons,List.length_nil,and_self,if_true,hl,List.mapM_cons,List.mapM_nil,t0,o0,t1,o1,t2,o2,Xdr]
 have e0:Tryz.prog.keyLits (n+1) 3 ((([.int .i64 k.cat,.int .i64 k.frm,.int .i64 k.unt]:List Value).drop 0).take 1)=some [.int .i64 k.cat]:=by
  simp[Program.keyLits,Tryz.underlying3,h1]
 have e1:Tryz.prog.keyLits (n+1) 3 ((([.int .i64 k.cat,.int .i64 k.frm,.int .i64 k.unt]:List Value).drop 1).take 1)=some [.int .i64 k.frm]:=by
  simp[Program.keyLits,Tryz.underlying3,h2]
 have e2:Tryz.prog.keyLits (n+1) 3 ((([.int .i64 k.cat,.int .i64 k.frm,.int .i64 k.unt]:List Value).drop 2).take 1)=some [.int .i64 k.unt]:=by
  simp[Program.keyLits,Tryz.underlying3,h3]
 rw[e0,e1,e2]
 rfl
theorem Xmh (k:X8) (h:Zx k):keyOf Tryz.prog 119 (Qd k)=some (Xar k):=by
 obtain⟨fs,hu,hf,hc,hk⟩:=Xe9
 have hfm:(Qd k).formed Tryz.prog 119=true:=by
  unfold Qd
  simp[Value.formed,hu,hc]
 unfold keyOf
 rw[hu]
 simp only[hk,hfm,Bool.and_self,if_true]
 have e:=Xcz (Tryz.prog.types.size-1) k h
 have hsz:Tryz.prog.types.size-1+2=Tryz.prog.types.size+1:=by
  have:0<Tryz.prog.types.size:=of_decide_eq_true (by kernel_rfl)
  omega
 rw[hsz] at e
 show ((Tryz.prog.keyLits (Tryz.prog.types.size+1) 119 [.int .i64 k.cat,.int .i64 k.frm,.int .i64 k.unt]).map fun ls=>Lit.string (keyBytes ls))=_
 rw[e]
 rfl
theorem Xpz (v:Value) (l:Lit) (h:keyOf Tryz.prog 119 v=some l):∃k,Zx k∧v=Qd k∧l=Xar k:=by
 obtain⟨fs,hu,hf,hc,hk⟩:=Xe9
 have h0:=h
 unfold keyOf at h
 rw[hu] at h
 simp only at h
 split at h
 ·rename_i hb
  simp only[Bool.and_eq_true] at hb
  obtain⟨_,hfm⟩:=hb
  have hag:∃cs:Array Value,v = .agg cs∧cs.size=3:=by
   unfold Value.formed at hfm
   rw[hu] at hfm
   cases v<;>simp at hfm
   rename_i cs
   exact⟨cs,rfl,by rw[hfm,hc]⟩
  obtain⟨cs,rfl,hsz⟩:=hag
  have hl2:∃a b c,cs.toList=[a,b,c]:=by
   match hcl:cs.toList with
   | [a,b,c]=>exact⟨a,b,c,rfl⟩
   | []=>have:=congrArg List.length hcl;rw[Array.length_toList,hsz] at this;simp at this
   | [_]=>have:=congrArg List.length hcl;rw[Array.length_toList,hsz] at this;simp at this
   | [_,_]=>have:=congrArg List.length hcl;rw[Array.length_toList,hsz] at this;simp at this
   | _ :: _ :: _ :: _ :: _=>have:=congrArg List.length hcl;rw[Array.length_toList,hsz] at this;simp at this
  obtain⟨a,b,c,hab⟩:=hl2
  cases hkl:Tryz.prog.keyLits (Tryz.prog.types.size+1) 119 (Value.agg cs).cells.toList with
  | none=>rw[hkl] at h;cases h
  | some ls =>
   have hcl:(Value.agg cs).cells.toList=[a,b,c]:=by simpa[Value.cells] using hab
   rw[hcl] at hkl
   have hk2:=hkl
   unfold Program.keyLits at hk2
   rw[hu] at hk2
   have hfs:∃f0 f1 f2,fs.toList=[f0,f1,f2]∧f0.type=3∧f0.offset=0∧f1.type=3∧f1.offset=1∧f2.type=3∧f2.offset=2:=by
    match hl:fs.toList with
    | [f0,f1,f2] =>
     rw[hl] at hf
     simp at hf
     exact⟨f0,f1,f2,rfl,hf.1.2.1,hf.1.2.2,hf.2.1.2.1,hf.2.1.2.2,hf.2.2.2.1,hf.2.2.2.2⟩
    | []=>rw[hl] at hf;simp at hf
    | [_]=>rw[hl] at hf;simp at hf
    | [_,_]=>rw[hl] at hf;simp at hf
    | _ :: _ :: _ :: _ :: _=>rw[hl] at hf;simp at hf
   obtain⟨f0,f1,f2,hl,t0,o0,t1,o1,t2,o2⟩:=hfs
   simp only[hl,List.mapM_cons,List.mapM_nil,t0,o0,t1,o1,t2,o2,Xdr] at hk2
   have hd:∃d,Tryz.prog.types.size=d+1:=⟨Tryz.prog.types.size-1,by have:0<Tryz.prog.types.size:=of_decide_eq_true (by kernel_rfl);omega⟩
   obtain⟨d,hd⟩:=hd
   have intwf:∀(x:Value) (n:Int),Tryz.prog.keyLits Tryz.prog.types.size 3 [x]=some [.int .i64 n]→x = .int .i64 n→(Lit.int .i64 n).wf=true:=fun x n h7 hx=>by
    subst hx
    rw[hd] at h7
    unfold Program.keyLits at h7
    rw[Tryz.underlying3] at h7
    simp at h7
    exact h7
   split at hk2
   ·cases e0:Tryz.prog.keyLits Tryz.prog.types.size 3 (([a,b,c].drop 0).take 1) with
    | none=>rw[e0] at hk2;cases hk2
    | some l0 =>
     cases e1:Tryz.prog.keyLits Tryz.prog.types.size 3 (([a,b,c].drop 1).take 1) with
     | none=>rw[e0,e1] at hk2;cases hk2
     | some l1 =>
      cases e2:Tryz.prog.keyLits Tryz.prog.types.size 3 (([a,b,c].drop 2).take 1) with
      | none=>rw[e0,e1,e2] at hk2;cases hk2
      | some l2 =>
       obtain⟨n,hn1,hn2⟩:=keyLits_int' Tryz.underlying3 e0
       obtain⟨m,hm1,hm2⟩:=keyLits_int' Tryz.underlying3 e1
       obtain⟨q,hq1,hq2⟩:=keyLits_int' Tryz.underlying3 e2
       simp at hn1 hm1 hq1
       subst hn1 hm1 hq1
       subst hn2 hm2 hq2
       have hgood:Zx ⟨n,m,q⟩:=⟨intwf _ n e0 rfl,intwf _ m e1 rfl,intwf _ q e2 rfl⟩
       have hv:Value.agg cs=Qd ⟨n,m,q⟩:=by
        unfold Qd
        congr 1
        apply Array.ext'
        simpa using hab
       refine⟨⟨n,m,q⟩,hgood,hv,?_⟩
       rw[hv,Xmh _ hgood] at h0
       exact(Option.some.inj h0).symm
   ·cases hk2
 ·cases h
theorem Xpy (x y:X8) (hx:Zx x) (hy:Zx y) (h:Xar x=Xar y):x=y:=by
 unfold Xar at h
 have e:=keyLits_inj (Xcz 0 x hx) (Xcz 0 y hy) (by simpa using h)
 obtain⟨a,s,t⟩:=x
 obtain⟨b,u,v⟩:=y
 simp only[List.cons.injEq,Lit.int.injEq,true_and,and_true] at e
 rw[e.1,e.2.1,e.2.2]
def Uy:X2 Tryz.prog 119 X8:=⟨Qd,Xar,Zx,Xmh,Xpz,Xpy⟩
def FoundG.val (f:FoundG):Value:=.agg #[.bool f.ok,.int .i64 f.cost,.int .i64 f.rule,.int .i64 f.item,.int .i64 f.frm,.int .i64 f.unt,.slice f.kids.addr f.kids.len f.kids.cap,.int .i64 f.many]
theorem Xks (x y:FoundG) (h:x.val=y.val):x=y:=by
 obtain⟨a,b,c,d,e,f,⟨g,h1,i⟩,j⟩:=x
 obtain⟨a',b',c',d',e',f',⟨g',h1',i'⟩,j'⟩:=y
 simp[FoundG.val] at h
 obtain⟨rfl,rfl,rfl,rfl,rfl,rfl,⟨rfl,rfl,rfl⟩,rfl⟩:=h
 rfl
def foundShape:ElemShape FoundG:=⟨FoundG.val,Xks⟩
def Xf2:FoundG:=⟨false,0,0,0,0,0,⟨none,0,0⟩,0⟩
theorem Xam (w:World):(zeroValue 114).run Tryz.prog w = .ok (foundShape.val Xf2) w:=by kernel_rfl
theorem Xat:Tryz.prog.underlying 180=some (.map 119 114):=by rw[Tryz.underlying180]
theorem Tc {x:Int} (h : -4611686018427387904≤x) (h2:x≤4611686018427387904):(Lit.int .i64 x).wf=true:=by
 simp[Lit.wf,IntKind.min,IntKind.max,IntKind.signed,IntKind.bits];omega
end Go.Proofs.YtolpbjjapodmnaaGreatDoor
namespace Go.Proofs.YtolpbjjapodmnaaGreatDoor
open Go.RowKit Go.Han
attribute [local irreducible] wpStill wpQuiet
set_option maxRecDepth 100000
structure TabsG (w:World):Prop where
 u:Tabs w
 s : Lib.TabIs Tryz.prog w "strings.asciiSpace" .u8 Lib.asciiSpaceTab
theorem TabsG.ext {w w':World} (h:TabsG w) (hb:Below w.heap.size w w'):TabsG w':=⟨Xh6 h.u hb,Lib.tabBelow_of_tabIs h.s w' hb⟩
def kwText : ByteArray := "grammar category start word is gives cost rule".toUTF8
theorem Xns:kwText=⟨#[103,114,97,109,109,97,114,32,99,97,116,101,103,111,114,121,32,115,116,97,114,116,32,119,111,114,100,32,105,115,32,103,105,118,101,115,32,99,111,115,116,32,114,117,108,101]⟩:=by kernel_rfl
theorem Xp6:∀(j:Nat) b,kwText.data.toList[j]? = some b→b.toNat<128:=by
 intro j b h
 have:∀b∈kwText.data.toList,b.toNat<128:=by decide +kernel
 exact this b (List.mem_of_getElem? h)
theorem Xnt:(Lib.fields kwText.data.toList).map (fun l=>Value.string ⟨l.toArray⟩)=kwords.map Value.string:=by kernel_rfl
theorem Xrk:kwText.size<4294967281:=by decide +kernel
theorem Xpx (l:List ByteArray) (j:Nat) (h:j<l.length):l.getD j ByteArray.empty=l[j]:=by simp[h]
theorem Xcw (A:Option Addr) (cp:Nat) (xs:List ByteArray) (x:ByteArray) (w:World) (hr:Rd w A (xs.flatMap (fun b:ByteArray=>[Value.string b]))) (hm:xs.length≤9223372036854775807) :
  Calls Tryz.prog 128 #[.slice A xs.length cp,.string x] w fun e w'=>e = .returned (.bool (xs.any fun y=>decide (y=x)))∧w'=w:=by
 cases hx:xs with
 | nil=>exact(Tryz.slices_Contains_string_empty A cp x w).mono fun _ _ h=>⟨by rw[h.1];rfl,h.2⟩
 | cons y ys =>
  rw[← hx]
  have hlen:0<xs.length:=by rw[hx];simp
  obtain⟨b,off,rfl,hb,_⟩:=hr.elem (s:=1) (fun _=>rfl) (by omega) (k:=0) hlen
  refine(Tryz.slices_Contains_string b off xs.length cp xs x w (Nat.le_refl _) hm fun j hj=>?_).mono fun e w' h=>⟨?_,h.2⟩
  ·obtain⟨b',off',e,_,hc⟩:=hr.elem (s:=1) (fun _=>rfl) (by omega) (k:=j) hj
   cases e
   rw[Xpx xs j hj]
   have:=hc 0 _ rfl
   simpa using this
  ·rw[h.1,List.take_length]
   congr 2
   rw[Bool.eq_iff_iff,Lib.containsS_iff,T6]
theorem Q3 (s:ByteArray) (w:World) (hT:TabsG w):Calls Tryz.prog 229 #[.string s] w fun e w'=>e = .returned (.bool (Xw s))∧Below w.heap.size w w':=by
 obtain⟨W1,hW1⟩:∃W1,w.alloc (.cells (kwords.map Value.string).toArray 9)=W1:=⟨_,rfl⟩
 have hB1:Below w.heap.size w W1:=by subst hW1;exact Xe (Below.refl _ _) _
 have hk:W1.heap[w.heap.size]? = some (.cells (kwords.map Value.string).toArray 9 (0,0)):=by subst hW1;exact World.alloc_heap_new _ _
 have cF:Hid (Calls Tryz.prog 268 #[.string ⟨#[103,114,97,109,109,97,114,32,99,97,116,101,103,111,114,121,32,115,116,97,114,116,32,119,111,114,100,32,105,115,32,103,105,118,101,115,32,99,111,115,116,32,114,117,108,101]⟩] w fun e w'=>e = .returned (.slice (some ⟨w.heap.size,0,none⟩) 8 8)∧w'=W1):=by
  rw[← Xns,← hW1,← Xnt]
  exact Tryz.strings_Fields kwText w Xrk Xp6 hT.s
 have cC:=Xa (Xcw (some ⟨w.heap.size,0,none⟩) 8 kwords s W1 (Yw hk (by rw[List.map_eq_flatMap])) (by decide))
 have cN:=Xa (Xqh s w)
 have HE:Hid (Xw s=(Vk s && !(kwords.any fun y=>decide (y=s)))):=rfl
 generalize Vk s=b1 at *
 generalize (kwords.any fun y=>decide (y=s))=b2 at *
 change Hid (Calls _ _ #[.slice _ 8 8,_] _ _) at cC
 clear hk hW1 hT
 go_enter Tryz.func229,Tryz.ntmps229
 go_wp2_with fail
 refine cN.out.mono ?_
 rintro e w' ⟨rfl,rfl⟩
 cases b1
 ·go_wp2_with fail
  go_ret
  exact⟨by rw[HE.out];rfl,Below.refl _ _⟩
 ·go_wp2_with fail
  refine cF.out.mono ?_
  rintro e w' ⟨rfl,rfl⟩
  go_wp2_with fail
  refine cC.out.mono ?_
  rintro e w' ⟨rfl,rfl⟩
  go_wp2_with fail
  go_ret
  exact⟨by rw[HE.out];simp,hB1⟩
end Go.Proofs.YtolpbjjapodmnaaGreatDoor
namespace Go.Proofs.YtolpbjjapodmnaaGreatDoor
open Go.RowKit Go.Han
set_option maxRecDepth 100000
theorem Uw {α β:Type} {P:Program} {k t e:TypeId} {w:World} (K:Maps.Keyed P k) (ht:P.underlying t=some (.map k e)) (S:X2 P k α) (E:ElemShape β) (z0:β) {b n:Nat} {f:α→Option β} (hz:(zeroValue e).run P w = .ok (E.val z0) w) (hown:MapF w S E b n f) (key:α) (hgood:S.good key) :
  (Instr.lookup t (.map (some b)) (S.val key) false).run P w = .ok (E.val ((f key).getD z0)) w:=by
 obtain⟨D,h1,h2⟩:=hown
 obtain⟨v,ps,hrun,hv⟩:=h1.lookup K ht hz (E.read_val z0) (S.of key hgood)
 obtain⟨g1,g2⟩:=h2 key hgood
 obtain⟨c,rfl,hc⟩:=E.read_inv hv
 simp only[Prod.mk.injEq] at hc
 cases hf:f key with
 | none =>
  have:=g1 hf
  rw[Maps.atKey_of_not_has this] at hc
  cases hc.1
  exact hrun
 | some c' =>
  obtain⟨g3,g4⟩:=g2 c' hf
  rw[g4] at hc
  cases hc.1
  exact hrun
def KidS.val (k:KidS):Value:=.slice k.addr k.len k.cap
theorem Xi1 (x y:KidS) (h:x.val=y.val):x=y:=by
 obtain⟨a,b,c⟩:=x
 obtain⟨a',b',c'⟩:=y
 simp[KidS.val] at h
 obtain⟨rfl,rfl,rfl⟩:=h
 rfl
def slcShape:ElemShape KidS:=⟨KidS.val,Xi1⟩
theorem T1:Tryz.prog.underlying 181=some (.map 3 22):=by rw[Tryz.underlying181]
theorem Xaz (w:World):(zeroValue 22).run Tryz.prog w = .ok (slcShape.val ⟨none,0,0⟩) w:=by kernel_rfl
def intW:X2 Tryz.prog 3 Int:=Xp2 Tryz.underlying3
theorem U8:Maps.Keyed Tryz.prog 3:=Maps.int_keyed Tryz.underlying3
def WordOk (Q:Nat→Prop) (W:World) (o:Option KidS) (items:List ItemG) (i:Int):Prop :=
 match o with
 | none=>∀s,Xm items i s=false
 | some v=>∃xs:List ByteArray,v.len=xs.length∧StrS.lies W ⟨v.addr,v.cap,xs⟩∧(∃b off,v.addr=some ⟨b,off,none⟩∧Q b)∧∀s,(xs.any fun y=>decide (y=s))=Xm items i s
theorem Xhy {W W':World} {s:StrS} {b off:Nat} (h:s.lies W) (hs:s.addr=some ⟨b,off,none⟩) (hb:W'.heap[b]? = W.heap[b]?) (hz:W.heap.size≤W'.heap.size):s.lies W':=by
 refine⟨?_,h.cap,h.max,h.nil⟩
 rcases h.rd with h0|⟨b',off',he,hlt,hc⟩
 ·exact .inl h0
 ·rw[hs] at he
  cases he
  exact .inr ⟨b,off,hs,Nat.lt_of_lt_of_le hlt hz,fun j u hu=>(World.cell?_of_block (w:=W) hb).trans (hc j u hu)⟩
theorem WordOk.keep {Q:Nat→Prop} {W W':World} {o:Option KidS} {items:List ItemG} {i:Int} (h:WordOk Q W o items i) (hk:∀b,Q b→W'.heap[b]? = W.heap[b]?) (hz:W.heap.size≤W'.heap.size):WordOk Q W' o items i:=by
 cases o with
 | none=>exact h
 | some v =>
  obtain⟨xs,h1,h2,⟨b,off,h3,h4⟩,h5⟩:=h
  exact⟨xs,h1,Xhy h2 h3 (hk b h4) hz,⟨b,off,h3,h4⟩,h5⟩
def WordsM (Q:Nat→Prop) (W:World) (wb:Nat) (items:List ItemG):Prop:=∃(n:Nat) (f:Int→Option KidS),MapF W intW slcShape wb n f∧∀i,WordOk Q W (f i) items i
theorem WordsM.keep {Q:Nat→Prop} {W W':World} {wb:Nat} {items:List ItemG} (h:WordsM Q W wb items) (hw:W'.heap[wb]? = W.heap[wb]?) (hk:∀b,Q b→W'.heap[b]? = W.heap[b]?) (hz:W.heap.size≤W'.heap.size):WordsM Q W' wb items:=by
 obtain⟨n,f,h1,h2⟩:=h
 exact⟨n,f,h1.of_block hw,fun i=>(h2 i).keep hk hz⟩
theorem WordsM.lt {Q:Nat→Prop} {W:World} {wb:Nat} {items:List ItemG} (h:WordsM Q W wb items):wb<W.heap.size:=by obtain⟨n,f,h1,_⟩:=h;exact h1.lt
theorem WordsM.look {Q:Nat→Prop} {W:World} {wb:Nat} {items:List ItemG} (h:WordsM Q W wb items) {i:Int} (h1 : -4611686018427387904≤i) (h2:i≤4611686018427387904) :
  ∃(A:Option Addr) (cp:Nat) (xs:List ByteArray),(∀W',W'.heap[wb]? = W.heap[wb]? → (Instr.lookup 181 (.map (some wb)) (.int .i64 i) false).run Tryz.prog W' = .ok (.slice A xs.length cp) W')∧(∀W',(∀b,Q b→W'.heap[b]? = W.heap[b]?)→W.heap.size≤W'.heap.size→StrS.lies W' ⟨A,cp,xs⟩)∧∀s,(xs.any fun y=>decide (y=s))=Xm items i s:=by
 obtain⟨n,f,hm,hf⟩:=h
 have hrun:=fun (W':World) (hw:W'.heap[wb]? = W.heap[wb]?)=>Uw U8 T1 intW slcShape ⟨none,0,0⟩ (Xaz W') (hm.of_block hw) i (Tc h1 h2)
 have hi:=hf i
 cases hfi:f i with
 | none =>
  rw[hfi] at hrun hi
  have hl:∀V:World,StrS.lies V ⟨none,0,[]⟩:=fun V=>⟨.inl rfl,Nat.le_refl _,by show (0:Nat)≤_;omega,fun _=>rfl⟩
  exact⟨none,0,[],hrun,fun V _ _=>hl V,fun s=>by rw[hi s];rfl⟩
 | some v =>
  rw[hfi] at hrun hi
  obtain⟨xs,e1,e2,⟨b,off,e3,e4⟩,e5⟩:=hi
  refine⟨v.addr,v.cap,xs,?_,fun V hV hz=>Xhy e2 e3 (hV b e4) hz,e5⟩
  rw[← e1];exact hrun
structure ChEnv (w0:World) (cb kb wb top:Nat) (g:Gram) (its:SlS ItemG) (n:Nat) (W:World):Prop where
 low:Below w0.heap.size w0 W
 chart:Xbd W cb g its n kb wb
 words:WordsM (fun b=>b<top∧b≠kb) W wb its.xs
 hc:w0.heap.size≤cb∧cb<top
 hk:w0.heap.size≤kb∧kb<top
 hw:w0.heap.size≤wb∧wb<top
 kw:kb≠wb
 top:top≤W.heap.size
 kmap:∃es c,W.heap[kb]? = some (.map es c)
theorem ChEnv.kc {w0:World} {cb kb wb top:Nat} {g:Gram} {its:SlS ItemG} {n:Nat} {W:World} (h:ChEnv w0 cb kb wb top g its n W):cb≠kb:=by
 rintro rfl
 obtain⟨es,c,hm⟩:=h.kmap
 have:=h.chart
 unfold Xbd at this
 rw[hm] at this;cases this
theorem ChEnv.keep {w0:World} {cb kb wb top:Nat} {g:Gram} {its:SlS ItemG} {n:Nat} {W W':World} (h:ChEnv w0 cb kb wb top g its n W) (ho:W'.os=W.os) (ht:W'.tape=W.tape) (hp:W'.output=W.output) (hz:W.heap.size≤W'.heap.size) (hk:∀b,b<top→b≠kb→W'.heap[b]? = W.heap[b]?) (hm:∃es c,W'.heap[kb]? = some (.map es c)):ChEnv w0 cb kb wb top g its n W' :=
 ⟨⟨ho.trans h.low.os,ht.trans h.low.tape,hp.trans h.low.output,Nat.le_trans h.low.size hz,fun b hb=>(hk b (by have:=h.hk;omega) (by have:=h.hk;omega)).trans (h.low.block b hb)⟩,(hk cb h.hc.2 h.kc).trans h.chart,h.words.keep (hk wb h.hw.2 (Ne.symm h.kw)) (fun b hb=>hk b hb.1 hb.2) hz,h.hc,h.hk,h.hw,h.kw,Nat.le_trans h.top hz,hm⟩
theorem ChEnv.ext {w0:World} {cb kb wb top:Nat} {g:Gram} {its:SlS ItemG} {n:Nat} {W W':World} (h:ChEnv w0 cb kb wb top g its n W) (hb:Below W.heap.size W W'):ChEnv w0 cb kb wb top g its n W':=by
 refine h.keep hb.os hb.tape hb.output hb.size (fun b hp _=>hb.block b (Nat.lt_of_lt_of_le hp h.top)) ?_
 obtain⟨es,c,hm⟩:=h.kmap
 exact⟨es,c,Xh hb hm⟩
theorem ChEnv.only {w0:World} {cb kb wb top:Nat} {g:Gram} {its:SlS ItemG} {n:Nat} {W W':World} (h:ChEnv w0 cb kb wb top g its n W) {M:Nat→Prop} (hO:Only M W W') (hM:∀b,M b→b=kb∨top≤b) (hm:∃es c,W'.heap[kb]? = some (.map es c)):ChEnv w0 cb kb wb top g its n W' :=
 h.keep hO.os hO.tape hO.output hO.size (fun b hp hne=>hO.block b (Nat.lt_of_lt_of_le hp h.top) fun hb=>by rcases hM b hb with e|e;exact hne e;omega) hm
def Xc0 (C N:Nat):List X8:=(List.range C).flatMap fun (c:Nat)=>(List.range (N+1)).flatMap fun (i:Nat)=>(List.range (N+1)).map fun (k:Nat)=>⟨(c:Int),(i:Int),(k:Int)⟩
theorem Xni {C N c i k:Nat} (hc:c<C) (hi:i≤N) (hk:k≤N):(⟨(c:Int),(i:Int),(k:Int)⟩:X8)∈Xc0 C N :=
 List.mem_flatMap.2 ⟨c,List.mem_range.2 hc,List.mem_flatMap.2 ⟨i,List.mem_range.2 (by omega),List.mem_map.2 ⟨k,List.mem_range.2 (by omega),rfl⟩⟩⟩
theorem Xc8 {α:Type} (f:Nat→List α) (m:Nat) (h:∀i,(f i).length=m):∀n,((List.range n).flatMap f).length=n*m
 | 0=>by simp
 | n+1=>by rw[List.range_succ,List.flatMap_append,List.length_append,Xc8 f m h n];simp[h];rw[Nat.succ_mul]
theorem Xnh (C N:Nat):(Xc0 C N).length=C*((N+1)*(N+1)):=by
 refine Xc8 _ _ (fun c=>?_) C
 refine Xc8 _ _ (fun i=>?_) (N+1)
 rw[List.length_map,List.length_range]
theorem Xng {C N:Nat} (hC:C≤32) (hN:N≤16):(Xc0 C N).length≤9248:=by
 rw[Xnh]
 have h1:(N+1)*(N+1)≤17*17:=Nat.mul_le_mul (by omega) (by omega)
 have h2:=Nat.mul_le_mul hC h1
 omega
def updF (f:X8→Option FoundG) (x:X8) (c:FoundG):X8→Option FoundG:=fun y=>if y=x then some c else f y
theorem Xe1 (f:X8→Option FoundG) (x:X8) (c:FoundG) (hx:f x=none):∀l:List X8,l.countP (fun y=>(f y).isSome)≤l.countP (fun y=>(updF f x c y).isSome)∧(x∈l→l.countP (fun y=>(f y).isSome)+1≤l.countP (fun y=>(updF f x c y).isSome))
 | []=>⟨Nat.le_refl _,fun h=>by cases h⟩
 | y :: l=>by
  obtain⟨h1,h2⟩:=Xe1 f x c hx l
  rw[List.countP_cons,List.countP_cons]
  by_cases e:y=x
  ·subst e
   rw[show updF f y c y=some c by unfold updF;rw[if_pos rfl],hx]
   simp only[Option.isSome_none,Option.isSome_some,if_true,Bool.false_eq_true,if_false]
   exact⟨by omega,fun _=>by omega⟩
  ·rw[show updF f x c y=f y by unfold updF;rw[if_neg e]]
   refine⟨by omega,fun h=>?_⟩
   rcases List.mem_cons.1 h with h|h
   ·exact absurd h.symm e
   ·have:=h2 h;omega
def muK (g:Gram) (x:X8):Nat:=muG g x.cat x.frm.toNat x.unt.toNat
def Grew (g:Gram) (m:Nat) (f f':X8→Option FoundG):Prop:=∀x,f' x≠none→f x≠none∨muK g x<m
theorem Grew.refl (g:Gram) (m:Nat) (f:X8→Option FoundG):Grew g m f f:=fun _ h => .inl h
theorem Grew.trans {g:Gram} {m:Nat} {f f' f'':X8→Option FoundG} (h:Grew g m f f') (k:Grew g m f' f''):Grew g m f f'':=fun x hx=>by
 rcases k x hx with h1|h1
 ·exact h x h1
 ·exact .inr h1
theorem Grew.mono {g:Gram} {m m':Nat} {f f':X8→Option FoundG} (h:Grew g m f f') (hm:m≤m'):Grew g m' f f':=fun x hx=>(h x hx).imp id fun h=>by omega
structure KnownF (X:Nat→Prop) (g:Gram) (items:List ItemG) (N:Nat) (kb:Nat) (f:X8→Option FoundG) (W:World):Prop where
 map:MapF W Uy foundShape kb ((Xc0 g.cats.xs.length N).countP fun x=>(f x).isSome) f
 ok:∀x fd,f x=some fd→∃i k:Nat,x.frm=i∧x.unt=k∧FoundOk X W fd (Fd.of bigN (derG g items x.cat i k))
theorem KnownF.keep {X X':Nat→Prop} {g:Gram} {items:List ItemG} {N kb:Nat} {f:X8→Option FoundG} {W W':World} (h:KnownF X g items N kb f W) (hk:W'.heap[kb]? = W.heap[kb]?) (ht:∀t x,TreeW X W t x→TreeW X' W' t x):KnownF X' g items N kb f W' :=
 ⟨h.map.of_block hk,fun x fd hx=>by obtain⟨i,k,h1,h2,h3⟩:=h.ok x fd hx;exact⟨i,k,h1,h2,h3.keep ht⟩⟩
theorem KnownF.ext {X:Nat→Prop} {g:Gram} {items:List ItemG} {N kb:Nat} {f:X8→Option FoundG} {W W':World} (h:KnownF X g items N kb f W) (hb:Below W.heap.size W W'):KnownF X g items N kb f W' :=
 h.keep (hb.block _ h.map.lt) fun _ _ ht=>ht.ext hb
theorem KnownF.kmap {X:Nat→Prop} {g:Gram} {items:List ItemG} {N kb:Nat} {f:X8→Option FoundG} {W:World} (h:KnownF X g items N kb f W):∃es c,W.heap[kb]? = some (.map es c):=by
 obtain⟨_,⟨_,_,hm,_⟩,_⟩:=h.map
 exact⟨_,_,hm⟩
theorem Xcy {c i k:Int} (h1 : -4611686018427387904≤c∧c≤4611686018427387904) (h2 : -4611686018427387904≤i∧i≤4611686018427387904) (h3 : -4611686018427387904≤k∧k≤4611686018427387904):Zx ⟨c,i,k⟩:=⟨Tc h1.1 h1.2,Tc h2.1 h2.2,Tc h3.1 h3.2⟩
theorem KnownF.look {X:Nat→Prop} {g:Gram} {items:List ItemG} {N kb:Nat} {f:X8→Option FoundG} {W:World} (h:KnownF X g items N kb f W) {c i k:Int} (hg:Zx ⟨c,i,k⟩) :
  (Instr.lookup 180 (.map (some kb)) (.agg #[.int .i64 c,.int .i64 i,.int .i64 k]) true).run Tryz.prog W = .ok (.tuple #[((f ⟨c,i,k⟩).getD Xf2).val,.bool (f ⟨c,i,k⟩).isSome]) W :=
 Uv W Qf Xat Uy foundShape Xf2 (Xam W) h.map ⟨c,i,k⟩ hg
theorem KnownF.store {X:Nat→Prop} {g:Gram} {items:List ItemG} {N kb:Nat} {f:X8→Option FoundG} {W:World} (h:KnownF X g items N kb f W) {c i k:Nat} (hc:c<g.cats.xs.length) (hi:i≤N) (hk:k≤N) (hC:g.cats.xs.length≤32) (hN:N≤16) (hn:f ⟨c,i,k⟩=none)
  {fd:FoundG} (hf:FoundOk X W fd (Fd.of bigN (derG g items c i k))) :
  ∃W',(Instr.mapUpdate 180 (.map (some kb)) (.agg #[.int .i64 c,.int .i64 i,.int .i64 k]) (.agg #[.bool fd.ok,.int .i64 fd.cost,.int .i64 fd.rule,.int .i64 fd.item,.int .i64 fd.frm,.int .i64 fd.unt,.slice fd.kids.addr fd.kids.len fd.kids.cap,.int .i64 fd.many])).run Tryz.prog W = .ok () W' ∧
   KnownF X g items N kb (updF f ⟨c,i,k⟩ fd) W'∧FoundOk X W' fd (Fd.of bigN (derG g items c i k))∧Only (fun j=>j=kb) W W'∧W'.heap.size=W.heap.size:=by
 have hcount:=Xe1 f ⟨c,i,k⟩ fd hn (Xc0 g.cats.xs.length N)
 have hmem:=Xni hc hi hk
 have hle:(Xc0 g.cats.xs.length N).countP (fun x=>(f x).isSome)≤9248:=Nat.le_trans List.countP_le_length (Xng hC hN)
 obtain⟨W',hrun,hm,hg,hz⟩:=h.map.store _ Qf Xat (by unfold maxLen;omega) (⟨c,i,k⟩:X8) fd (Xcy ⟨by omega,by omega⟩ ⟨by omega,by omega⟩ ⟨by omega,by omega⟩)
 obtain⟨es,cl,hkm⟩:=h.kmap
 have hO:Only (fun j=>j=kb) W W':=⟨hg.os,hg.tape,hg.output,hg.size,fun b hb hne=>hg.block b hb (fun e=>hne (by have e:=Option.some.inj e;exact e.symm ▸ rfl))⟩
 have ht:∀t x,TreeW X W t x→TreeW X W' t x:=fun t x ht=>ht.only hO fun b hb h=>by
  obtain⟨⟨cs,fr,hb'⟩,_⟩:=h
  rw[show b=kb from hb,hkm] at hb'
  cases hb'
 have hf':=hf.keep ht
 refine⟨W',hrun,⟨hm.mono (hcount.2 hmem),fun x fd' hx=>?_⟩,hf',hO,hz⟩
 unfold updF at hx
 split at hx
 ·rename_i e
  cases hx
  subst e
  exact⟨i,k,rfl,rfl,hf'⟩
 ·obtain⟨i',k',h1,h2,h3⟩:=h.ok x fd' hx
  exact⟨i',k',h1,h2,h3.keep ht⟩
def TreeG.cells (x:TreeG):List Value:=[.int .i64 x.rule,.int .i64 x.item,.int .i64 x.frm,.int .i64 x.unt,.slice x.kids.addr x.kids.len x.kids.cap]
theorem TreeG.size_cells (x:TreeG):x.cells.length=5:=rfl
theorem Xwa (x:TreeG):∀u∈x.cells,u.oneCell'=true:=by intro u hu;simp[TreeG.cells] at hu;rcases hu with rfl|rfl|rfl|rfl|rfl<;>rfl
theorem Xk0:(Tryz.prog.info? 37).map (fun i=>(i.size,i.bytes))=some (5,56):=by kernel_rfl
abbrev OwnK (w:World) (base:Nat) (v:Value) (l:List TreeG):Prop:=OwnL TreeG.cells 37 5 w base v l
structure KidsW (X:Nat→Prop) (base:Nat) (v:Value) (kids:List TreeV) (ks:List TreeG) (W:World):Prop where
 own:OwnK W base v ks
 at_:KidsAt W (fun b=>KidP W b∧¬(X b∨v.ownBlock=some b)) kids (ks.map TreeG.cells)
theorem KidsW.nil (X:Nat→Prop) (base:Nat) (W:World):KidsW X base (.slice none 0 0) [] [] W:=⟨OwnL.nil _ _ _ _ _,rfl⟩
theorem KidsW.len {X:Nat→Prop} {base:Nat} {v:Value} {kids:List TreeV} {ks:List TreeG} {W:World} (h:KidsW X base v kids ks W):ks.length=kids.length:=by
 have:=Xbo h.at_
 rwa [List.length_map] at this
theorem KidsAt.other {w w':World} {P P':Nat→Prop} {l:List TreeV} {css:List (List Value)} (h:KidsAt w P l css) (hk:∀b,P b→b<w.heap.size→w'.heap[b]? = w.heap[b]?) (hs:w.heap.size≤w'.heap.size) (hP:∀b,P b→P' b):KidsAt w' P' l css:=KidsAt.keep hk hs hP h
theorem KidsW.keep {X:Nat→Prop} {base:Nat} {v:Value} {kids:List TreeV} {ks:List TreeG} {W W':World} (h:KidsW X base v kids ks W) (hz:W.heap.size≤W'.heap.size) (hk:∀b,(v.ownBlock=some b∨(KidP W b∧¬X b))→W'.heap[b]? = W.heap[b]?):KidsW X base v kids ks W' :=
 ⟨h.own.block fun g hg=>hk g (.inl hg),h.at_.other (fun b ⟨h1,h2⟩ _=>hk b (.inr ⟨h1,fun hx=>h2 (.inl hx)⟩)) hz fun b ⟨⟨cs,fr,h1⟩,h2⟩=>⟨⟨cs,fr,(hk b (.inr ⟨⟨cs,fr,h1⟩,fun hx=>h2 (.inl hx)⟩)).trans h1⟩,h2⟩⟩
theorem OwnK.kid {W:World} {base:Nat} {v:Value} {ks:List TreeG} (h:OwnK W base v ks) {g:Nat} (hg:v.ownBlock=some g):KidP W g:=by
 rcases h.2 with ⟨h1,_⟩|⟨g9,c9,cur,h1,_,h3,_⟩
 ·rw[h1] at hg;cases hg
 ·rw[h1] at hg;cases hg;exact⟨_,_,h3⟩
theorem KidsW.snoc {X:Nat→Prop} {base:Nat} {v v':Value} {kids:List TreeV} {ks:List TreeG} {W W1:World} (h:KidsW X base v kids ks W) {t:TreeV} {x:TreeG} (ht:TreeW (fun b=>X b∨v.ownBlock=some b) W t x) (ho:OwnK W1 base v' (ks++[x])) (hg:W.grownBy W1 v.ownBlock) (hv:v'.ownBlock=v.ownBlock∨v'.ownBlock=some W.heap.size):KidsW X base v' (kids++[t]) (ks++[x]) W1:=by
 have hk:∀b,KidP W b∧¬(X b∨v.ownBlock=some b)→b<W.heap.size→W1.heap[b]? = W.heap[b]? := fun b hb hlt=>hg.block b hlt fun e=>hb.2 (.inr e.symm)
 have hP:∀b,KidP W b∧¬(X b∨v.ownBlock=some b)→KidP W1 b∧¬(X b∨v'.ownBlock=some b):=fun b ⟨⟨cs,fr,h1⟩,h2⟩=>⟨⟨cs,fr,(hk b ⟨⟨cs,fr,h1⟩,h2⟩ (Xc h1)).trans h1⟩,fun hx=>by
  rcases hx with hx|hx
  ·exact h2 (.inl hx)
  ·rcases hv with e|e
   ·exact h2 (.inr (e ▸ hx))
   ·rw[e] at hx
    cases hx
    have:=Xc h1
    omega⟩
 refine⟨ho,?_⟩
 rw[List.map_append]
 exact KidsAt.snoc (TreeAt.keep hk hg.size hP ht) (h.at_.other hk hg.size hP)
theorem KidsW.tree {X:Nat→Prop} {base:Nat} {v:Value} {kids:List TreeV} {ks:List TreeG} {W:World} (h:KidsW X base v kids ks W) (hX:∀b,X b→b<base) (r j i k:Int) :
  ∃A cap,v = .slice A kids.length cap∧TreeW X W (.node r j i k kids) ⟨r,j,i,k,⟨A,kids.length,cap⟩⟩:=by
 have hl:=h.len
 obtain⟨A,c,rfl,hr,hn⟩:=h.own.form (by decide)
 have hb:ks.length≤c∧c≤9223372036854775807∧(0<ks.length→∃b off,A=some ⟨b,off,none⟩∧base≤b∧KidP W b):=by
  rcases h.own.2 with ⟨h1,h2⟩|⟨g9,c9,cur,h1,h2,h3,h4,h5,_⟩
  ·injection h1 with _ e2 e3
   exact⟨by omega,by omega,fun h0=>by omega⟩
  ·injection h1 with e1 _ e3
   subst e3
   exact⟨h4,by unfold maxLen at h5;omega,fun _=>⟨g9,0,e1,h2,_,_,h3⟩⟩
 rw[hl] at hb
 refine⟨A,c,by rw[hl],?_⟩
 unfold TreeW TreeAt
 refine⟨A,c,ks.map TreeG.cells,rfl,hb.1,hb.2.1,fun h0=>?_,fun h0=>?_,?_,h.at_.other (fun _ _ _=>rfl) (Nat.le_refl _) fun b hb=>⟨hb.1,fun hx=>hb.2 (.inl hx)⟩⟩
 ·have:=hn h0
  rw[this] at hl
  exact List.eq_nil_of_length_eq_zero hl.symm
 ·obtain⟨b,off,e,h1,h2⟩:=hb.2.2 h0
  exact⟨b,off,e,h2,fun hx=>by have:=hX b hx;omega⟩
 ·have e:(ks.map TreeG.cells).flatten=ks.flatMap TreeG.cells:=by rw[List.flatMap_def]
  rw[e];exact hr
theorem Xjm {g:Gram} (hg:Yu g) {c:Int} (h0:0≤c) (h1:c<g.cats.xs.length):Vw g c<g.cats.xs.length:=by
 obtain⟨n,rfl⟩:∃n:Nat,c=(n:Int):=⟨c.toNat,by omega⟩
 have hn:n<g.cats.xs.length:=by omega
 unfold Vw
 rw[Int.toNat_natCast,List.getElem?_eq_getElem hn]
 show Vb g.rules.xs g.cats.xs[n] _<_
 have h2:=Ty g.rules.xs g.cats.xs[n] g.cats.xs.length
 rcases Nat.lt_or_ge (Vb g.rules.xs g.cats.xs[n] g.cats.xs.length) g.cats.xs.length with h|h
 ·exact h
 ·exfalso
  have h3:=Tb g.rules.xs g.cats.xs[n] g.cats.xs.length
  rw[show Vb g.rules.xs g.cats.xs[n] g.cats.xs.length=g.cats.xs.length by omega] at h3
  have h4:=hg.circ g.cats.xs[n] (List.getElem_mem hn)
  rw[h3] at h4;cases h4
theorem Xou {g:Gram} (hg:Yu g) (items:List ItemG) (A:Int→Nat→Nat→List Dv) (c:Int) (i k:Nat)
  (h:∀(d:Int) (u v:Nat),0≤d→d<g.cats.xs.length→i≤u→u<v→v≤k→(v-u<k-i∨(u=i∧v=k∧Vw g d<Vw g c))→A d u v=derG g items d u v) :
  Xq c i k 0 items++X4 (Xm items) A c i k 0 g.rules.xs=derG g items c i k:=by
 rw[Xec hg]
 congr 1
 refine Uu _ _ _ c i k 0 g.rules.xs fun r hr hc=>?_
 refine Uj _ _ _ _ i k fun p hp ht u v h1 h2 h3 h4=>?_
 have hn:=hg.part r hr p hp ht
 have hlt:=Xee p.cat g.cats.xs
 rw[← hn.1] at hlt
 refine h p.no u v hn.2 hlt h1 h2 h3 ?_
 have h5:=(hg.rule r hr).2.2.2.2.1
 by_cases hs:r.parts.xs.length=1
 ·obtain⟨q,hq⟩:=List.length_eq_one_iff.1 hs
  have hpq:p=q:=by rw[hq] at hp;exact List.mem_singleton.1 hp
  subst hpq
  have:=Xfm hg hr hq ht
  rw[hc] at this
  rcases Nat.lt_or_ge (v-u) (k-i) with h'|h'
  ·exact .inl h'
  ·exact .inr ⟨by omega,by omega,this⟩
 ·exact .inl (by omega)
structure TabInv (g:Gram) (items:List ItemG) (n:Nat) (A:Int→Nat→Nat→List Dv) (long frm turn cat:Nat):Prop where
 less:∀(d:Int) (u v:Nat),0≤d→d<g.cats.xs.length→u<v→v≤n→(v-u<long∨(v-u=long∧u<frm))→A d u v=derG g items d u v
 here:∀(d:Int),0≤d→d<g.cats.xs.length→frm+long≤n→(Vw g d<turn∨(d<cat∧Vw g d≤turn))→A d frm (frm+long)=derG g items d frm (frm+long)
def putA (A:Int→Nat→Nat→List Dv) (c:Int) (i k:Nat) (l:List Dv):Int→Nat→Nat→List Dv:=fun d u v=>if d=c∧u=i∧v=k then l else A d u v
theorem TabInv.start {g:Gram} {items:List ItemG} {n:Nat} {A:Int→Nat→Nat→List Dv}:TabInv g items n A 1 0 0 0:=by
 refine⟨fun d u v _ _ h1 h2 h3=>?_,fun d h0 _ _ h=>?_⟩
 ·rcases h3 with h|⟨_,h⟩<;>omega
 ·rcases h with h|⟨h,_⟩<;>omega
theorem TabInv.cat {g:Gram} (hg:Yu g) {items:List ItemG} {n:Nat} {A:Int→Nat→Nat→List Dv} {long frm turn cat:Nat} (h:TabInv g items n A long frm turn cat) (_hl:0<long) (hn:frm+long≤n) (_hc:cat<g.cats.xs.length) :
  TabInv g items n (putA A cat frm (frm+long) (Xq cat frm (frm+long:Nat) 0 items++X4 (Xm items) A cat frm (frm+long) 0 g.rules.xs)) long frm turn (cat+1):=by
 refine⟨fun d u v h0 h1 h2 h3 h4=>?_,fun d h0 h1 h2 h3=>?_⟩
 ·unfold putA
  rw[if_neg (by rintro⟨_,rfl,rfl⟩;rcases h4 with h4|h4<;>omega)]
  exact h.less d u v h0 h1 h2 h3 h4
 ·unfold putA
  have key:Vw g d≤turn→d=(cat:Int)→Xq (cat:Int) frm (frm+long:Nat) 0 items++X4 (Xm items) A cat frm (frm+long) 0 g.rules.xs=derG g items d frm (frm+long):=by
   rintro hr rfl
   refine Xou hg items A cat frm (frm+long) fun d' u v h0' h1' a b c' e=>?_
   rcases e with e|⟨rfl,rfl,e⟩
   ·exact h.less d' u v h0' h1' b (by omega) (by omega)
   ·exact h.here d' h0' h1' h2 (.inl (by omega))
  by_cases e:d=(cat:Int)
  ·rw[if_pos ⟨e,rfl,rfl⟩]
   rcases h3 with h3|h3
   ·exact key (by omega) e
   ·exact key h3.2 e
  ·rw[if_neg (fun hh=>e hh.1)]
   refine h.here d h0 h1 h2 ?_
   rcases h3 with h3|⟨h3,h4⟩
   ·exact .inl h3
   ·exact .inr ⟨by omega,h4⟩
theorem TabInv.turn {g:Gram} {items:List ItemG} {n:Nat} {A:Int→Nat→Nat→List Dv} {long frm turn:Nat} (h:TabInv g items n A long frm turn g.cats.xs.length):TabInv g items n A long frm (turn+1) 0 :=
 ⟨h.less,fun d h0 h1 h2 h3=>h.here d h0 h1 h2 (by rcases h3 with h3|⟨h3,_⟩;exact .inr ⟨h1,by omega⟩;omega)⟩
theorem TabInv.frm {g:Gram} (hg:Yu g) {items:List ItemG} {n:Nat} {A:Int→Nat→Nat→List Dv} {long frm:Nat} (h:TabInv g items n A long frm g.cats.xs.length 0):TabInv g items n A long (frm+1) 0 0:=by
 refine⟨fun d u v h0 h1 h2 h3 h4=>?_,fun d h0 _ _ h=>?_⟩
 ·by_cases e:v-u=long∧u=frm
  ·obtain⟨e1,rfl⟩:=e
   obtain rfl:v=u+long:=by omega
   exact h.here d h0 h1 h3 (.inl (Xjm hg h0 h1))
  ·exact h.less d u v h0 h1 h2 h3 (by omega)
 ·rcases h with h|⟨h,_⟩<;>omega
theorem TabInv.long {g:Gram} {items:List ItemG} {n:Nat} {A:Int→Nat→Nat→List Dv} {long frm:Nat} (h:TabInv g items n A long frm 0 0) (hf:n<frm+long):TabInv g items n A (long+1) 0 0 0:=by
 refine⟨fun d u v h0 h1 h2 h3 h4=>h.less d u v h0 h1 h2 h3 (by omega),fun d h0 _ _ h=>?_⟩
 rcases h with h|⟨h,_⟩<;>omega
theorem Xqq {A:Int→Nat→Nat→List Dv} {j:Nat} {r:RuleG} {i k:Nat} {es:List Nat} {C:Int} {kids:List TreeV} {e:Nat} (h:(Yr A r.parts.xs i es).length=e∧Xv (Yr A r.parts.xs i es)=some (C,kids)) :
  Fd.of bigN (Tk A j r i k es)=⟨capN bigN e,some (r.cost+C,.node j (-1) i k kids)⟩:=by
 unfold Fd.of Tk
 rw[List.length_map,Qa (fun x:Dk=>((r.cost+x.1,.node j (-1) i k x.2):Dv)) r.cost (fun _=>rfl),h.1,h.2]
 rfl
theorem Xln {A:Int→Nat→Nat→List Dv} {j:Nat} {r:RuleG} {i k:Nat} {es:List Nat} (h:Yr A r.parts.xs i es=[]):Tk A j r i k es=[]:=by
 unfold Tk;rw[h];rfl
theorem Xlp {st:Int→ByteArray→Bool} {A:Int→Nat→Nat→List Dv} {c:Int} {i k:Nat} {rs:List RuleG} {j:Nat} (hj:j<rs.length) (hn:rs[j].no=c) (L:List Dv) :
  Fd.of bigN (L++X4 st A c i k 0 (rs.take j)++(X9 st rs[j].parts.xs i k).flatMap (Tk A j rs[j] i k))=Fd.of bigN (L++X4 st A c i k 0 (rs.take (j+1))):=by
 have htk:rs.take (j+1)=rs.take j++[rs[j]]:=List.take_succ_eq_append_getElem hj
 have hl:(rs.take j).length=j:=by rw[List.length_take];omega
 rw[htk,Xad,if_pos hn,hl,Nat.zero_add,← List.append_assoc]
 exact((SameM.refl _).append (Xlm st A j rs[j] i k)).of
theorem Xlo {st:Int→ByteArray→Bool} {A:Int→Nat→Nat→List Dv} {c:Int} {i k:Nat} {rs:List RuleG} {j:Nat} (hj:j<rs.length) (hn:rs[j].no≠c):X4 st A c i k 0 (rs.take (j+1))=X4 st A c i k 0 (rs.take j):=by
 have htk:rs.take (j+1)=rs.take j++[rs[j]]:=List.take_succ_eq_append_getElem hj
 rw[htk,Xad,if_neg hn,List.append_nil]
theorem Xps {g:Gram} (hg:Yu g) {items:List ItemG} {n m:Nat} (hi:Zr n m items) {c:Int} {i k:Nat} {x:Dv} (h:x∈derG g items c i k) (hik:i<k) (hk:k≤16):0≤x.1∧x.1≤1000000:=by
 have h1:=Xe2 hg hi _ _ _ _ _ h
 have h2:=Xaq hg _ _ _ _ _ h hik
 have h3:=Xjl g c
 have h4:=hg.few
 have h5:(2*(k-i)-2)*g.cats.xs.length≤30*32:=Nat.mul_le_mul (by omega) h4
 omega
end Go.Proofs.YtolpbjjapodmnaaGreatDoor
namespace Go.Proofs.YtolpbjjapodmnaaGreatDoor
open Go.RowKit Go.Han
attribute [local irreducible] wpStill wpQuiet
set_option maxRecDepth 100000
structure Ch29 where
 g:Gram
 its:SlS ItemG
 n:Int
 l:KidS
def posC (n cats u v d:Nat):Nat:=(u*(n+1)+v)*cats+d
end Go.Proofs.YtolpbjjapodmnaaGreatDoor
/- A range over a function whose rounds do not panic, and that yields values which read as told in the world of the yield (a slice that is not to be kept): the iterator's contract, the caller's law. Plain theorems about the machine's steps. -/
namespace Go.Han
open Go.RowKit
variable {P:Program}
def IterV {α:Type} (P:Program) (g:Nat) (lb:Array Value) (Enc:α→Array Value→World→Prop) (R M:Nat→Prop) (xs:List α) (w0:World):Prop :=
 ∀(l B0:Nat) (J Jx:(Nat→Prop)→List α→World→Prop) (own₀:Nat→Prop) (W:World),
  (∀k,R k→k<B0∧W.heap[k]? = w0.heap[k]?)→(∀k,own₀ k→¬R k)→B0≤W.heap.size→(∀k,own₀ k→k<W.heap.size) →
  Zn B0 M J→Zn B0 M Jx →
  (∀own pre x vs W1,J own pre W1→pre++[x] <+: xs→Enc x vs W1→(∀k,own k→¬R k)→(∀k,own k→k<W1.heap.size)→YieldAt Fence.wide 0 P l vs W1 (Tq J Jx (fun _ _=>False) own (pre++[x]) W1)) →
  J own₀ [] W →
  Calls P g (#[.func (.yield l) #[] #[]]++lb) W (Xek J Jx (fun _ _=>False) xs none)
theorem Xo1 {α:Type} {f:FuncId} {fn:Func} (hfn:P.funcs[f]? = some fn) {g:Operand} {ps:Array Tmp} {assign body:Code} {Q:Exit→Act→World→Prop} {a:Act} {w:World}
  {gf:Nat} {lb:Array Value} (hg:a.eval g = .func (.func gf) #[] lb) (eg:∀args w,(callFunc gf args).run P w = .ok (.enter gf args) w)
  {Enc:α→Array Value→World→Prop} {R M:Nat→Prop} {xs:List α} {w0:World} (hit:IterV P gf lb Enc R M xs w0)
  (hR:∀k,R k→k<w.heap.size∧w.heap[k]? = w0.heap[k]?) (hps:∀x vs W,Enc x vs W→vs.size=ps.size)
  (I:(Nat→Prop)→List α→World→Prop) (Ix:Code→(Nat→Prop)→List α→World→Prop)
  (hI:Zn w.heap.size M I) (hIx:∀c,Zn w.heap.size M (Ix c))
  (own₀:Nat→Prop) (hown:∀k,own₀ k→k<w.heap.size∧¬R k) (h0:I own₀ [] w)
  (Ia:α→Act→(Nat→Prop)→List α→World→Prop) (hIa:∀x a' own pre A B,Ia x a' own pre A→(∃k,w.heap.size<k∧B.os=A.os∧B.tape=A.tape∧B.output=A.output∧B.heap.size=A.heap.size∧¬own k∧(∃L,A.heap[k]? = some (.loop L))∧∀j,j≠k→B.heap[j]? = A.heap[j]?)→Ia x a' own pre B)
  (hassign:∀(l:Nat) (own:Nat→Prop) (pre:List α) (x:α) (vs:Array Value) (W:World),I own pre W→Enc x vs W→w.heap.size<l→l<W.heap.size→Xmb R l own W→pre++[x] <+: xs →
   assign.wpIn (Fence.wide.inRound l) 0 P (Exit.then (fun a' W'=>∃own',BodyStep own own' W W'∧Ia x a' own' pre W') (fun _ _ _=>False))
    {tmps:=(ps.zip vs).foldl (fun t (p,v)=>t.setIfInBounds p v) a.tmps,defers:=[]} W)
  (hbody:∀(l:Nat) (own:Nat→Prop) (pre:List α) (x:α) (a':Act) (W:World),Ia x a' own pre W→w.heap.size<l→l<W.heap.size→Xmb R l own W→pre++[x] <+: xs →
   body.wpIn (Fence.wide.inRound l) 0 P (Xjp I Ix (fun _ _=>False) own (pre++[x]) W) a' W)
  (hdone:∀(D:Nat) (own:Nat→Prop) (W:World),w.heap.size≤D→(∀k,own k→¬R k∧k<W.heap.size∧k≠D)→I own xs W→W.heap[D]? = some (.deferred (some []))→Q .normal {a with defers:={target:=.collected D,args:=#[]} :: a.defers} W)
  (hstop:∀(D:Nat) (own:Nat→Prop) (c:Code) (pre:List α) (W:World),w.heap.size≤D→(∀k,own k→¬R k∧k<W.heap.size∧k≠D)→pre <+: xs→Ix c own pre W→W.heap[D]? = some (.deferred (some []))→wpAt P f c Q {a with defers:={target:=.collected D,args:=#[]} :: a.defers} W) :
  wpAt P f (Code.rangeFunc g ps assign body) Q a w:=by
 obtain⟨rec,hrec⟩:∃rec:LoopState→Option Code→Loop,rec=fun st pe=>{state:=st,pending:=pe,fn:=f,tmps:=a.tmps,params:=ps,assign,body,defers:=w.heap.size}:=⟨_,rfl⟩
 obtain⟨W1,hW1⟩:∃W1,(w.alloc (.deferred (some []))).alloc (.loop (rec .ready none))=W1:=⟨_,rfl⟩
 have hsz:W1.heap.size=w.heap.size+2:=by rw[← hW1];simp
 have hL1:W1.heap[w.heap.size+1]? = some (.loop (rec .ready none)):=by
  rw[← hW1];have:=World.alloc_heap_new (w.alloc (.deferred (some []))) (.loop (rec .ready none));rwa [World.size_alloc] at this
 have hK1:W1.heap[w.heap.size]? = some (.deferred (some [])):=by
  rw[← hW1];exact(Below.heap_alloc _ _ _ (by simp)).trans (World.alloc_heap_new w _)
 have hB1:∀k,k<w.heap.size→W1.heap[k]? = w.heap[k]? := by
  intro k hk
  rw[← hW1];exact(Below.heap_alloc _ _ _ (by simp;omega)).trans (Below.heap_alloc _ _ _ hk)
 have hI1:I own₀ [] W1:=hI own₀ [] w W1 h0 ⟨by rw[← hW1];rfl,by rw[← hW1];rfl,by rw[← hW1];rfl,by omega,fun k hk _=>hB1 k hk⟩
 -- the caller's own blocks, with the loop's two
 have both:∀own:Nat→Prop,(∀k,own k→¬R k∧k≠w.heap.size∧k≠w.heap.size+1)→∀k,(own k∨k=w.heap.size∨k=w.heap.size+1)→¬R k:=by
  intro own h k hk hr
  rcases hk with hk|hk|hk
  ·exact(h k hk).1 hr
  ·have:=(hR k hr).1;omega
  ·have:=(hR k hr).1;omega
 refine Xak (l:=w.heap.size+1) (mark:=[{target:=.collected w.heap.size,args:=#[]}]) (w₁:=W1) (w₁':=W1) (w₂:=W1)
  (d:={target:=.fn (.func gf) lb,args:=#[.func (.yield (w.heap.size+1)) #[] #[]]}) (gf:=gf) (args:=#[.func (.yield (w.heap.size+1)) #[] #[]]++lb) ?_ ?_ ?_ ?_
 ·rw[← hW1,hrec];exact run_enterLoop_outer _ _ _ _ _
 ·simp only[resolve,hg];simp[go_sem]
 ·simp[invoke,go_sem,eg]
 refine(hit (w.heap.size+1) w.heap.size
  (fun own pre W=>∃o1,(∀k,own k↔(o1 k∨k=w.heap.size∨k=w.heap.size+1))∧(∀k,o1 k→¬R k∧k<W.heap.size∧k≠w.heap.size+1∧k+1≠w.heap.size+1)∧I o1 pre W∧W.heap[w.heap.size+1]? = some (.loop (rec .ready none))∧W.heap[w.heap.size]? = some (.deferred (some [])))
  (fun own pre W=>∃o1,(∀k,own k↔(o1 k∨k=w.heap.size∨k=w.heap.size+1))∧(∀k,o1 k→¬R k∧k<W.heap.size∧k≠w.heap.size+1∧k+1≠w.heap.size+1)∧∃c,Ix c o1 pre W∧W.heap[w.heap.size+1]? = some (.loop (rec .done (some c)))∧W.heap[w.heap.size]? = some (.deferred (some [])))
  (fun k=>own₀ k∨k=w.heap.size∨k=w.heap.size+1) W1 (fun k hk=>⟨(hR k hk).1,(hB1 k (hR k hk).1).trans (hR k hk).2⟩)
  (both own₀ (fun k hk=>⟨(hown k hk).2,by have:=(hown k hk).1;omega,by have:=(hown k hk).1;omega⟩)) (by omega)
  (fun k hk=>by rcases hk with h|h|h;have:=(hown k h).1;omega;omega;omega) ?_ ?_ ?_ ⟨own₀,fun _=>Iff.rfl,fun k hk=>⟨(hown k hk).2,by have:=(hown k hk).1;omega,by have:=(hown k hk).1;omega,by have:=(hown k hk).1;omega⟩,hI1,hL1,hK1⟩).mono ?_
 ·rintro own pre A B ⟨o1,ho,hn,hi,hl,hk⟩ st
  have hlt:=(Array.getElem?_eq_some_iff.1 hl).1
  have hlt':=(Array.getElem?_eq_some_iff.1 hk).1
  exact⟨o1,ho,fun k hk'=>⟨(hn k hk').1,Nat.lt_of_lt_of_le (hn k hk').2.1 st.size,(hn k hk').2.2⟩,hI o1 pre A B hi ⟨st.os,st.tape,st.output,st.size,fun k hk' h=>st.block k hk' (h.imp id (fun h=>(ho k).2 (.inl h)))⟩,
   (st.block _ hlt (.inr ((ho _).2 (.inr (.inr rfl))))).trans hl,(st.block _ hlt' (.inr ((ho _).2 (.inr (.inl rfl))))).trans hk⟩
 ·rintro own pre A B ⟨o1,ho,hn,c,hi,hl,hk⟩ st
  have hlt:=(Array.getElem?_eq_some_iff.1 hl).1
  have hlt':=(Array.getElem?_eq_some_iff.1 hk).1
  exact⟨o1,ho,fun k hk'=>⟨(hn k hk').1,Nat.lt_of_lt_of_le (hn k hk').2.1 st.size,(hn k hk').2.2⟩,c,hIx c o1 pre A B hi ⟨st.os,st.tape,st.output,st.size,fun k hk' h=>st.block k hk' (h.imp id (fun h=>(ho k).2 (.inl h)))⟩,
   (st.block _ hlt (.inr ((ho _).2 (.inr (.inr rfl))))).trans hl,(st.block _ hlt' (.inr ((ho _).2 (.inr (.inl rfl))))).trans hk⟩
 ·-- ONE ROUND
  rintro own pre x vs W ⟨o1,ho,hn,hi,hl,hk⟩ hpre henc hnR hlive
  have hlt:w.heap.size+1<W.heap.size:=(Array.getElem?_eq_some_iff.1 hl).1
  have hy:=run_yield (P:=P) (args:=vs) hl (by rw[hrec];exact hps x vs W henc)
  rw[hrec] at hy
  refine⟨f,_,assign,body,hy,Tz hfn (wpIn_mono (hassign (w.heap.size+1) o1 pre x vs W hi henc (by omega) hlt hn hpre) ?_)⟩
  rintro e a' Wa hp
  cases e with
  | normal =>
   obtain⟨o2,hb2,hia⟩:=hp
   have hn2:∀k,o2 k→¬R k∧k<Wa.heap.size∧k≠w.heap.size+1∧k+1≠w.heap.size+1:=by
    intro k hk'
    refine⟨?_,hb2.live k hk',?_⟩
    ·intro hr
     rcases hb2.owns k hk' with h|h
     ·exact(hn k h).1 hr
     ·have:=(hR k hr).1;omega
    ·rcases hb2.owns k hk' with h|h
     ·exact(hn k h).2.2
     ·omega
   have hla:=hb2.same hl (fun h=>(hn _ h).2.2.1 rfl)
   have hka:=hb2.same hk (fun h=>(hn _ h).2.2.2 rfl)
   have hlta:w.heap.size+1<Wa.heap.size:=(Array.getElem?_eq_some_iff.1 hla).1
   refine⟨_,run_beginRound hla (by rw[hrec]),?_⟩
   obtain⟨Wb,hWb⟩:∃Wb,Wa.putObj (w.heap.size+1) (.loop {rec .ready none with state:=.busy})=Wb:=⟨_,rfl⟩
   rw[hWb]
   have hszb:Wb.heap.size=Wa.heap.size:=by rw[← hWb];simp
   have hob:∀k,k≠w.heap.size+1→Wb.heap[k]? = Wa.heap[k]? := fun k hk'=>by rw[← hWb];exact World.putObj_heap_other hk'
   have hlb:Wb.heap[w.heap.size+1]? = some (.loop {rec .ready none with state:=.busy}):=by rw[← hWb];exact World.putObj_heap_same hlta
   have hkb:Wb.heap[w.heap.size]? = some (.deferred (some [])):=(hob _ (by omega)).trans hka
   have hib:Ia x a' o2 pre Wb:=hIa x a' o2 pre Wa Wb hia ⟨w.heap.size+1,by omega,by rw[← hWb];rfl,by rw[← hWb];rfl,by rw[← hWb];rfl,hszb,fun h=>(hn2 _ h).2.2.1 rfl,⟨_,hla⟩,hob⟩
   refine wpIn_mono (hbody (w.heap.size+1) o2 pre x a' Wb hib (by omega) (by omega) (fun k hk'=>⟨(hn2 k hk').1,by have:=(hn2 k hk').2.1;omega,(hn2 k hk').2.2⟩) hpre) ?_
   -- what the round's end comes to
   have fin:∀(jump:Option Code) (o3:Nat→Prop) (W3:World),BodyStep o2 o3 Wb W3 →
     ∃W4,(Instr.endRound (w.heap.size+1) jump).run P W3 = .ok (.bool jump.isNone) W4∧W4.heap.size=W3.heap.size∧(∀k,k≠w.heap.size+1→W4.heap[k]? = W3.heap[k]?)∧W4.os=W3.os∧W4.tape=W3.tape∧W4.output=W3.output ∧
     W4.heap[w.heap.size+1]? = some (.loop (rec (if jump.isNone then .ready else .done) jump))∧W4.heap[w.heap.size]? = some (.deferred (some []))∧¬o3 (w.heap.size+1)∧¬o3 w.heap.size ∧
     BodyStep own (fun k=>o3 k∨k=w.heap.size∨k=w.heap.size+1) W W4∧(∀k,o3 k→¬R k∧k<W4.heap.size∧k≠w.heap.size+1∧k+1≠w.heap.size+1):=by
    intro jump o3 W3 hb3
    have hl3:=hb3.same hlb (fun h=>(hn2 _ h).2.2.1 rfl)
    have hk3:=hb3.same hkb (fun h=>(hn2 _ h).2.2.2 rfl)
    have hlt3:=(Array.getElem?_eq_some_iff.1 hl3).1
    have hrun:=run_endRound (P:=P) jump hl3
    have no1:¬o3 (w.heap.size+1):=fun h=>by
     rcases hb3.owns _ h with h|h
     ·exact(hn2 _ h).2.2.1 rfl
     ·omega
    have no2:¬o3 w.heap.size:=fun h=>by
     rcases hb3.owns _ h with h|h
     ·exact(hn2 _ h).2.2.2 rfl
     ·omega
    have hsub:∀k,o3 k→o1 k∨W.heap.size≤k:=by
     intro k h
     rcases hb3.owns k h with h|h
     ·exact hb2.owns k h
     ·exact .inr (by have:=hb2.size;omega)
    refine⟨_,hrun,by simp,fun k hk'=>World.putObj_heap_other hk',rfl,rfl,rfl,?_,(World.putObj_heap_other (by omega)).trans hk3,no1,no2,?_,?_⟩
    ·rw[World.putObj_heap_same hlt3,hrec]
    ·refine⟨?_,?_,?_,?_,?_,?_,?_⟩
     ·exact hb3.os.trans ((by rw[← hWb];rfl:Wb.os=Wa.os).trans hb2.os)
     ·exact hb3.tape.trans ((by rw[← hWb];rfl:Wb.tape=Wa.tape).trans hb2.tape)
     ·exact hb3.output.trans ((by rw[← hWb];rfl:Wb.output=Wa.output).trans hb2.output)
     ·have:=hb2.size;have:=hb3.size;simp;omega
     ·intro k hk' hno
      have h1:k≠w.heap.size+1:=fun e=>hno ((ho k).2 (.inr (.inr e)))
      have h2:¬o1 k:=fun e=>hno ((ho k).2 (.inl e))
      have h3:¬o2 k:=fun e=>by
       rcases hb2.owns k e with h|h
       ·exact h2 h
       ·omega
      rw[World.putObj_heap_other h1,hb3.block k (by have:=hb2.size;omega) h3,hob k h1]
      exact hb2.block k hk' h2
     ·intro k hk'
      rcases hk' with h|h|h
      ·rcases hsub k h with h|h
       ·exact .inl ((ho k).2 (.inl h))
       ·exact .inr h
      ·exact .inl ((ho k).2 (.inr (.inl h)))
      ·exact .inl ((ho k).2 (.inr (.inr h)))
     ·intro k hk'
      rw[World.putObj_size]
      rcases hk' with h|h|h
      ·exact hb3.live k h
      ·omega
      ·omega
    ·intro k h
     refine⟨?_,by rw[World.putObj_size];exact hb3.live k h,fun e=>no1 (e ▸ h),fun e=>no2 ((show k=w.heap.size by omega) ▸ h)⟩
     intro hr
     rcases hsub k h with h|h
     ·exact(hn k h).1 hr
     ·have:=(hR k hr).1;omega
   have turn:∀(W3 W4:World) (o3:Nat→Prop),W4.heap.size=W3.heap.size→(∀k,k≠w.heap.size+1→W4.heap[k]? = W3.heap[k]?)→W4.os=W3.os→W4.tape=W3.tape→W4.output=W3.output→¬o3 (w.heap.size+1)→IterStep w.heap.size M o3 W3 W4 :=
    fun W3 W4 o3 h1 h2 h3 h4 h5 h6=>⟨h3,h4,h5,by omega,fun k _ h=>h2 k (by rintro rfl;rcases h with h|h;omega;exact h6 h)⟩
   rintro e a3 W3 hp
   cases e with
   | normal =>
    obtain⟨o3,hb3,hi3⟩:=hp
    obtain⟨W4,hr,h1,h2,h3,h4,h5,h6,h7,h8,h9,h10,h11⟩:=fin none o3 W3 hb3
    exact⟨_,W4,hr,.inl ⟨_,h10,.inl ⟨rfl,o3,fun _=>Iff.rfl,h11,hI o3 _ W3 W4 hi3 (turn W3 W4 o3 h1 h2 h3 h4 h5 h8),h6,h7⟩⟩⟩
   | ret =>
    obtain⟨o3,hb3,hi3⟩:=hp
    obtain⟨W4,hr,h1,h2,h3,h4,h5,h6,h7,h8,h9,h10,h11⟩:=fin (some .ret) o3 W3 hb3
    exact⟨_,W4,hr,.inl ⟨_,h10,.inr ⟨rfl,o3,fun _=>Iff.rfl,h11,_,hIx _ o3 _ W3 W4 hi3 (turn W3 W4 o3 h1 h2 h3 h4 h5 h8),h6,h7⟩⟩⟩
   | exit id =>
    obtain⟨o3,hb3,hi3⟩:=hp
    obtain⟨W4,hr,h1,h2,h3,h4,h5,h6,h7,h8,h9,h10,h11⟩:=fin (some (.exit id)) o3 W3 hb3
    exact⟨_,W4,hr,.inl ⟨_,h10,.inr ⟨rfl,o3,fun _=>Iff.rfl,h11,_,hIx _ o3 _ W3 W4 hi3 (turn W3 W4 o3 h1 h2 h3 h4 h5 h8),h6,h7⟩⟩⟩
   | goto t =>
    obtain⟨o3,hb3,hi3⟩:=hp
    obtain⟨W4,hr,h1,h2,h3,h4,h5,h6,h7,h8,h9,h10,h11⟩:=fin (some (.goto t)) o3 W3 hb3
    exact⟨_,W4,hr,.inl ⟨_,h10,.inr ⟨rfl,o3,fun _=>Iff.rfl,h11,_,hIx _ o3 _ W3 W4 hi3 (turn W3 W4 o3 h1 h2 h3 h4 h5 h8),h6,h7⟩⟩⟩
   | panic ch=>exact hp.2.2.elim
   | outgrown=>exact hp.elim
  | exit id=>exact hp.elim
  | goto t=>exact hp.elim
  | ret=>exact hp.elim
  | panic ch=>exact hp.elim
  | outgrown=>exact hp.elim
 ·-- BEHIND THE ITERATOR
  rintro e W2 h
  have own_put:∀(o1:Nat→Prop) (X:World) (o:Obj),(∀k,o1 k→¬R k∧k<X.heap.size∧k≠w.heap.size+1∧k+1≠w.heap.size+1)→∀k,o1 k→¬R k∧k<(X.putObj (w.heap.size+1) o).heap.size∧k≠w.heap.size :=
   fun o1 X o hn k hk=>⟨(hn k hk).1,by rw[World.putObj_size];exact(hn k hk).2.1,by have:=(hn k hk).2.2.2;omega⟩
  rcases h with ⟨hpn,⟨v,rfl⟩,own,o1,ho,hn,hi,hl,hk⟩|⟨⟨v,rfl⟩,own,pre,hpre,o1,ho,hn,c,hi,hl,hk⟩|⟨ch,rfl,hp⟩|⟨ch,hpn,rfl,own,o1,ho,hn,hi,hl,hk⟩
  ·have hrun:=run_endLoop (P:=P) hl (by rw[hrec];simp)
   refine⟨none,_,by rw[hrec] at hrun;exact hrun,?_⟩
   exact hdone _ o1 _ (Nat.le_refl _) (own_put o1 _ _ hn) (hI o1 _ W2 _ hi (IterStep.of_putObj _ (by omega) (fun h=>(hn _ h).2.2.1 rfl))) ((World.putObj_heap_other (by omega)).trans hk)
  ·have hrun:=run_endLoop (P:=P) hl (by rw[hrec];simp)
   refine⟨some c,_,by rw[hrec] at hrun;exact hrun,?_⟩
   exact hstop _ o1 c pre _ (Nat.le_refl _) (own_put o1 _ _ hn) hpre (hIx c o1 pre W2 _ hi (IterStep.of_putObj _ (by omega) (fun h=>(hn _ h).2.2.1 rfl))) ((World.putObj_heap_other (by omega)).trans hk)
  ·exact hp.elim
  ·cases hpn
end Go.Han
namespace Go.Proofs.YtolpbjjapodmnaaGreatDoor
open Go.RowKit Go.Han
attribute [local irreducible] wpStill wpQuiet
set_option maxRecDepth 100000
theorem Xnp:(Tryz.prog.info? 3).map (fun i=>(i.zero,i.size,i.bytes))=some (some (.int .i64 0),1,8):=by kernel_rfl
def intC (x:Int):List Value:=[.int .i64 x]
abbrev OwnI (w:World) (base:Nat) (v:Value) (l:List Int):Prop:=OwnL intC 3 1 w base v l
theorem Xfc (l:List Int):(l.flatMap intC).length=l.length*1:=Z7 intC 1 (fun _=>rfl) l
end Go.Proofs.YtolpbjjapodmnaaGreatDoor
namespace Go.Proofs.YtolpbjjapodmnaaGreatDoor
open Go.RowKit Go.Han
attribute [local irreducible] wpStill wpQuiet
attribute [local go_sem] Oper.semAt_some
set_option maxRecDepth 100000
structure LayB (W:World) (N cb:Nat) (A:Option Addr) (n cp:Nat) (i k:Int):Prop where
 c:W.heap[N]? = some (.cells #[.pointer (some ⟨cb,0,none⟩)] 115 (0,0))
 parts:W.heap[N+1]? = some (.cells #[.slice A n cp] 76 (0,0))
 frm:W.heap[N+1+1]? = some (.cells #[.int .i64 i] 3 (0,0))
 unt:W.heap[N+1+1+1]? = some (.cells #[.int .i64 k] 3 (0,0))
 lay:W.heap[N+1+1+1+1+1]? = some (.cells #[.func (.func 218) #[] #[.pointer (some ⟨N+1,0,none⟩),.pointer (some ⟨N+1+1+1,0,none⟩),.pointer (some ⟨N+1+1+1+1,0,none⟩),.pointer (some ⟨N,0,none⟩),.pointer (some ⟨N+1+1+1+1+1,0,none⟩)]] 278 (0,0))
def Xel (cb:Nat) (A:Option Addr) (n cp:Nat) (i k:Int) (w:World) (e:Ending) (w':World):Prop :=
 e = .returned (.func (.func 219) #[] #[.pointer (some ⟨w.heap.size+1+1+1+1+1,0,none⟩),.pointer (some ⟨w.heap.size+1+1,0,none⟩)])∧LayB w' w.heap.size cb A n cp i k∧w'.heap[w.heap.size+1+1+1+1]? = some (.cells #[.slice none 0 0] 49 (0,0))∧Below w.heap.size w w'∧w'.heap.size=w.heap.size+1+1+1+1+1+1
theorem Xp9 (cb:Nat) (A:Option Addr) (n cp:Nat) (i k:Int) (w:World) :
  Calls Tryz.prog 180 #[.pointer (some ⟨cb,0,none⟩),.slice A n cp,.int .i64 i,.int .i64 k] w (Xel cb A n cp i k w):=by
 have hmf:∀(fn:Fn) (first cap:Array Value) (w:World),(Instr.makeFunc fn first cap).run Tryz.prog w = .ok (.func fn first cap) w:=fun _ _ _ _=>rfl
 obtain⟨W6,hW6⟩:∃W6,((((((w.alloc (.cells #[.pointer (some ⟨cb,0,none⟩)] 115)).alloc (.cells #[.slice A n cp] 76)).alloc (.cells #[.int .i64 i] 3)).alloc (.cells #[.int .i64 k] 3)).alloc (.cells #[.slice none 0 0] 49)).alloc (.cells #[.nilFunc] 278))=W6:=⟨_,rfl⟩
 have hz6:W6.heap.size=w.heap.size+1+1+1+1+1+1:=by rw[← hW6];simp only[World.size_alloc]
 have hB6:Below w.heap.size w W6:=by rw[← hW6];exact Xe (Xe (Xe (Xe (Xe (Xe (Below.refl _ _) _) _) _) _) _) _
 have f0:W6.heap[w.heap.size]? = some (.cells #[.pointer (some ⟨cb,0,none⟩)] 115 (0,0)):=by
  rw[← hW6]
  iterate 5 refine(Below.heap_alloc _ _ _ (by simp only[World.size_alloc];omega)).trans ?_
  exact World.alloc_heap_new _ _
 have f1:W6.heap[w.heap.size+1]? = some (.cells #[.slice A n cp] 76 (0,0)):=by
  rw[← hW6]
  iterate 4 refine(Below.heap_alloc _ _ _ (by simp only[World.size_alloc];omega)).trans ?_
  exact X0 _ _ _ (by simp)
 have f2:W6.heap[w.heap.size+1+1]? = some (.cells #[.int .i64 i] 3 (0,0)):=by
  rw[← hW6]
  iterate 3 refine(Below.heap_alloc _ _ _ (by simp only[World.size_alloc];omega)).trans ?_
  exact X0 _ _ _ (by simp)
 have f3:W6.heap[w.heap.size+1+1+1]? = some (.cells #[.int .i64 k] 3 (0,0)):=by
  rw[← hW6]
  iterate 2 refine(Below.heap_alloc _ _ _ (by simp only[World.size_alloc];omega)).trans ?_
  exact X0 _ _ _ (by simp)
 have f4:W6.heap[w.heap.size+1+1+1+1]? = some (.cells #[.slice none 0 0] 49 (0,0)):=by
  rw[← hW6]
  refine(Below.heap_alloc _ _ _ (by simp only[World.size_alloc];omega)).trans ?_
  exact X0 _ _ _ (by simp)
 have f5:W6.heap[w.heap.size+1+1+1+1+1]? = some (.cells #[.nilFunc] 278 (0,0)):=by
  rw[← hW6]
  exact X0 _ _ _ (by simp)
 have c5:=Xj f5
 have z5:=Xf f5 0
 have hst:(store ⟨w.heap.size+1+1+1+1+1,0,none⟩ (.func (.func 218) #[] #[.pointer (some ⟨w.heap.size+1,0,none⟩),.pointer (some ⟨w.heap.size+1+1+1,0,none⟩),.pointer (some ⟨w.heap.size+1+1+1+1,0,none⟩),.pointer (some ⟨w.heap.size,0,none⟩),.pointer (some ⟨w.heap.size+1+1+1+1+1,0,none⟩)])).run Tryz.prog W6 = .ok () (W6.setCell ⟨w.heap.size+1+1+1+1+1,0,none⟩ (.func (.func 218) #[] #[.pointer (some ⟨w.heap.size+1,0,none⟩),.pointer (some ⟨w.heap.size+1+1+1,0,none⟩),.pointer (some ⟨w.heap.size+1+1+1+1,0,none⟩),.pointer (some ⟨w.heap.size,0,none⟩),.pointer (some ⟨w.heap.size+1+1+1+1+1,0,none⟩)])):=by
  rw[run_store _ _ _ _ _ rfl]
  rw[c5,z5]
  rfl
 have hfin:Xel cb A n cp i k w (.returned (.func (.func 219) #[] #[.pointer (some ⟨w.heap.size+1+1+1+1+1,0,none⟩),.pointer (some ⟨w.heap.size+1+1,0,none⟩)])) (W6.setCell ⟨w.heap.size+1+1+1+1+1,0,none⟩ (.func (.func 218) #[] #[.pointer (some ⟨w.heap.size+1,0,none⟩),.pointer (some ⟨w.heap.size+1+1+1,0,none⟩),.pointer (some ⟨w.heap.size+1+1+1+1,0,none⟩),.pointer (some ⟨w.heap.size,0,none⟩),.pointer (some ⟨w.heap.size+1+1+1+1+1,0,none⟩)])):=by
  have ot:∀ {b:Nat} {o:Obj},W6.heap[b]? = some o→b<w.heap.size+1+1+1+1+1→(W6.setCell ⟨w.heap.size+1+1+1+1+1,0,none⟩ (.func (.func 218) #[] #[.pointer (some ⟨w.heap.size+1,0,none⟩),.pointer (some ⟨w.heap.size+1+1+1,0,none⟩),.pointer (some ⟨w.heap.size+1+1+1+1,0,none⟩),.pointer (some ⟨w.heap.size,0,none⟩),.pointer (some ⟨w.heap.size+1+1+1+1+1,0,none⟩)])).heap[b]? = some o:=fun {b o} h hb=>(Below.heap_setCell _ _ _ _ (by show b≠w.heap.size+1+1+1+1+1;omega)).trans h
  refine⟨rfl,⟨ot f0 (by omega),ot f1 (by omega),ot f2 (by omega),ot f3 (by omega),Xr f5 0 _⟩,ot f4 (by omega),hB6.setCell (p:=⟨w.heap.size+1+1+1+1+1,0,none⟩) (by show w.heap.size≤w.heap.size+1+1+1+1+1;omega) _,by simpa[World.setCell] using hz6⟩
 have HF:=Xa hfin
 clear f0 f1 f2 f3 f4 f5 hz6 hB6 hfin
 go_enter Tryz.func180,Tryz.ntmps180
 go_wp2_with fail
 go_ret
 exact HF.out
end Go.Proofs.YtolpbjjapodmnaaGreatDoor
