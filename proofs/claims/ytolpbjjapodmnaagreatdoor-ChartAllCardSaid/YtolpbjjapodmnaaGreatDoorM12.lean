/- Texts of this claim, one after the other: Chw6, StillIn, Chwa, Chwb, LoopAt, TakeC, TakeR, Chwc. -/
import Derived.Test.YtolpbjjapodmnaaGreatDoorM11
import Derived.Test.YtolpbjjapodmnaaGreatDoorM4
import Derived.StillTail
import Derived.StillTailTactics
import Derived.StillTactics
import Derived.Deep.Draws
import Derived.OwnWalkIn
namespace Go.Proofs.YtolpbjjapodmnaaGreatDoor
open Go.RowKit Go.Han
attribute [local irreducible] wpStill wpQuiet
set_option maxRecDepth 100000
def EncW (es:List Nat) (vs:Array Value) (W:World):Prop:=∃A cp,vs=#[.slice A es.length cp]∧Rd W A ((es.map (fun m:Nat=>(m:Int))).flatMap intC)∧es.length≤cp∧(∀b off,A=some ⟨b,off,none⟩→0<es.length→∃cs fr,W.heap[b]? = some (.cells cs 3 fr))
structure LaySt (w0:World) (N B0 B1:Nat) (R:Nat→Prop) (J:(Nat→Prop)→List (List Nat)→World→Prop) (own:Nat→Prop) (ys:List (List Nat)) (es:List Nat) (v:Value) (W:World):Prop where
 j:J own ys W
 keep:∀b,R b→b≠N+1+1+1+1→W.heap[b]? = w0.heap[b]?
 apart:∀b,own b→¬R b
 live:∀b,own b→b<W.heap.size
 size:B1≤W.heap.size
 box:W.heap[N+1+1+1+1]? = some (.cells #[v] 49 (0,0))
 row:OwnI W B1 v (es.map (fun m:Nat=>(m:Int)))
 free:∀g,v.ownBlock=some g→¬own g
theorem LaySt.ext {w0:World} {N B0 B1:Nat} {R M:Nat→Prop} {J:(Nat→Prop)→List (List Nat)→World→Prop} {own:Nat→Prop} {ys:List (List Nat)} {es:List Nat} {v:Value} {W W':World} (h:LaySt w0 N B0 B1 R J own ys es v W) (hJ:Zn B0 M J) (ha:∀b,R b→b<W.heap.size) (hb:Below W.heap.size W W'):LaySt w0 N B0 B1 R J own ys es v W' :=
 ⟨hJ own ys W W' h.j (IterStep.of_below hb),fun b hR hn=>(hb.block b (ha b hR)).trans (h.keep b hR hn),h.apart,fun b ho=>Nat.lt_of_lt_of_le (h.live b ho) hb.size,Nat.le_trans h.size hb.size,(hb.block _ (Xc h.box)).trans h.box,h.row.ext hb,h.free⟩
theorem LaySt.enc {w0:World} {N B0 B1:Nat} {R:Nat→Prop} {J:(Nat→Prop)→List (List Nat)→World→Prop} {own:Nat→Prop} {ys:List (List Nat)} {es:List Nat} {v:Value} {W:World} (h:LaySt w0 N B0 B1 R J own ys es v W):EncW es #[v] W:=by
 obtain⟨A,cp,rfl,hr,_⟩:=h.row.form (by decide)
 rw[List.length_map]
 refine⟨A,cp,rfl,hr,?_,fun b off hA h0=>?_⟩
 ·rcases h.row.2 with ⟨h1,h2⟩|⟨g9,c9,cur,h1,_,_,h4,h5,_⟩
  ·injection h1 with _ h3 h4
   rw[List.length_map] at h3
   omega
  ·injection h1 with _ h2 h6
   subst h6
   rw[List.length_map] at h4
   exact h4
 ·rcases h.row.2 with ⟨h1,h2⟩|⟨g9,c9,cur,h1,_,h3,_⟩
  ·injection h1 with _ h3 _
   rw[List.length_map] at h3
   omega
  ·injection h1 with h1 _ _
   rw[hA] at h1
   cases h1
   exact⟨_,_,h3⟩
section
variable {w0:World} {N B0 B1:Nat} {R M:Nat→Prop} {J:(Nat→Prop)→List (List Nat)→World→Prop} {own:Nat→Prop} {ys:List (List Nat)} {es:List Nat} {v:Value} {W:World}
theorem LaySt.push (h:LaySt w0 N B0 B1 R J own ys es v W) (hJ:Zn B0 M J) (hM:M (N+1+1+1+1)) (hRN:R (N+1+1+1+1)) (hRB:∀k,R k→k<B0) (hB:B0≤B1) {W1:World} {v':Value} {m:Nat}
  (ho:OwnI W1 B1 v' ((es++[m]).map (fun m:Nat=>(m:Int)))) (hg:W.grownBy W1 v.ownBlock) (hv:v'.ownBlock=v.ownBlock∨v'.ownBlock=some W.heap.size) :
  LaySt w0 N B0 B1 R J own ys (es++[m]) v' (W1.setCell ⟨N+1+1+1+1,0,none⟩ v'):=by
 have hN:=hRB _ hRN
 have hother:∀k,k≠N+1+1+1+1→(W1.setCell ⟨N+1+1+1+1,0,none⟩ v').heap[k]? = W1.heap[k]? := fun k hk=>Below.heap_setCell _ _ _ _ hk
 have hz:(W1.setCell ⟨N+1+1+1+1,0,none⟩ v').heap.size=W1.heap.size:=by simp[World.setCell]
 have hrow:∀g,v.ownBlock=some g→B1≤g∧g<W.heap.size:=fun g hg=>h.row.lt g hg
 have hsz:=h.size
 refine⟨hJ own ys W _ h.j ⟨hg.os,hg.tape,hg.output,by rw[hz];exact hg.size,fun k hk hc=>?_⟩,fun b hR hn=>?_,h.apart,fun b hb=>by rw[hz];exact Nat.lt_of_lt_of_le (h.live b hb) hg.size,by rw[hz];exact Nat.le_trans hsz hg.size,?_,ho.block fun g hg'=>hother g ?_,fun g hg'=>?_⟩
 ·have hne:k≠N+1+1+1+1:=by
   rintro rfl
   rcases hc with hc|hc
   ·exact hc.2 hM
   ·exact h.apart _ hc hRN
  refine(hother k hne).trans (hg.block k hk fun e=>?_)
  rcases hc with hc|hc
  ·have:=(hrow k e.symm).1;omega
  ·exact h.free k e.symm hc
 ·refine(hother b hn).trans ((hg.block b (by have:=hRB b hR;omega) fun e=>?_).trans (h.keep b hR hn))
  have:=(hrow b e.symm).1
  have:=hRB b hR
  omega
 ·have hb1:W1.heap[N+1+1+1+1]? = some (.cells #[v] 49 (0,0)):=(hg.block _ (Xc h.box) fun e=>by have:=(hrow _ e.symm).1;omega).trans h.box
  exact Xr hb1 0 _
 ·have:=(ho.lt g hg').1;omega
 ·rcases hv with e|e
  ·exact h.free g (e ▸ hg')
  ·rw[e] at hg'
   cases hg'
   intro hc
   have:=h.live _ hc
   omega
theorem LaySt.form {m:Nat} (h:LaySt w0 N B0 B1 R J own ys (es++[m]) v W):∃g cp,v = .slice (some ⟨g,0,none⟩) (es.length+1) cp∧es.length+1≤cp:=by
 rcases h.row.2 with ⟨h1,h2⟩|⟨g9,c9,cur,h1,h2,h3,h4,h5,_⟩
 ·simp at h2
 ·rw[List.length_map,List.length_append] at h1 h4
  exact⟨g9,c9,h1,h4⟩
theorem LaySt.pop {m g cp:Nat} (h:LaySt w0 N B0 B1 R J own ys (es++[m]) (.slice (some ⟨g,0,none⟩) (es.length+1) cp) W) (hJ:Zn B0 M J) (hM:M (N+1+1+1+1)) (hRN:R (N+1+1+1+1)) (hRB:∀k,R k→k<B0) (hB:B0≤B1) :
  LaySt w0 N B0 B1 R J own ys es (.slice (some ⟨g,0,none⟩) es.length cp) (W.setCell ⟨N+1+1+1+1,0,none⟩ (.slice (some ⟨g,0,none⟩) es.length cp)):=by
 have hN:=hRB _ hRN
 have hother:∀k,k≠N+1+1+1+1→(W.setCell ⟨N+1+1+1+1,0,none⟩ (.slice (some ⟨g,0,none⟩) es.length cp)).heap[k]? = W.heap[k]? := fun k hk=>Below.heap_setCell _ _ _ _ hk
 have hz:(W.setCell ⟨N+1+1+1+1,0,none⟩ (.slice (some ⟨g,0,none⟩) es.length cp)).heap.size=W.heap.size:=by simp[World.setCell]
 have hrow:=h.row.lt g rfl
 have hsz:=h.size
 refine⟨hJ own ys W _ h.j ⟨rfl,rfl,rfl,by rw[hz];exact Nat.le_refl _,fun k hk hc=>hother k ?_⟩,fun b hR hn=>(hother b hn).trans (h.keep b hR hn),h.apart,fun b hb=>by rw[hz];exact h.live b hb,by rw[hz];exact hsz,Xr h.box 0 _,?_,fun g' hg'=>h.free g' hg'⟩
 ·rintro rfl
  rcases hc with hc|hc
  ·exact hc.2 hM
  ·exact h.apart _ hc hRN
 ·have ho:OwnI W B1 (.slice (some ⟨g,0,none⟩) es.length cp) (es.map (fun m:Nat=>(m:Int))):=by
   obtain⟨_,h2⟩:=h.row
   refine⟨Xfc _,?_⟩
   rcases h2 with ⟨_,h2⟩|⟨g9,c9,cur,h1,h2,h3,h4,h5,h6,h7⟩
   ·simp at h2
   ·injection h1 with e1 _ e3
    cases e1
    subst e3
    refine .inr ⟨g,cp,cur,by rw[List.length_map],h2,h3,by rw[List.length_map];rw[List.length_map,List.length_append] at h4;omega,h5,h6,?_⟩
    rw[List.length_map,Nat.mul_one]
    have h8:=congrArg (List.take es.length) h7
    rw[List.take_take,List.length_map,List.length_append,Nat.mul_one,Nat.min_eq_left (by omega),List.map_append,List.flatMap_append] at h8
    rw[h8,List.take_left' (by rw[Xfc,List.length_map,Nat.mul_one])]
  refine ho.block fun g' hg'=>hother g' ?_
  have:=(ho.lt g' hg').1
  omega
theorem LaySt.body {own':Nat→Prop} {W':World} {y:List Nat} (h:LaySt w0 N B0 B1 R J own ys es v W) (hRN:R (N+1+1+1+1)) (hRB:∀k,R k→k<B0) (hB:B0≤B1) (hb:BodyStep own own' W W') (hj:J own' (ys++[y]) W'):LaySt w0 N B0 B1 R J own' (ys++[y]) es v W':=by
 have hsz:=h.size
 have hR:∀b,R b→W'.heap[b]? = W.heap[b]? := fun b hr=>hb.block b (by have:=hRB b hr;omega) fun ho=>h.apart b ho hr
 refine⟨hj,fun b hr hn=>(hR b hr).trans (h.keep b hr hn),fun b ho hr=>?_,hb.live,Nat.le_trans hsz hb.size,(hR _ hRN).trans h.box,h.row.block fun g hg=>hb.block g (h.row.lt g hg).2 (h.free g hg),fun g hg ho=>?_⟩
 ·rcases hb.owns b ho with h1|h1
  ·exact h.apart b h1 hr
  ·have:=hRB b hr;omega
 ·rcases hb.owns g ho with h1|h1
  ·exact h.free g hg h1
  ·have:=(h.row.lt g hg).2;omega
end
end Go.Proofs.YtolpbjjapodmnaaGreatDoor
/- Inside the wide fence: a region that only reads, up to a call at its end. Plain theorems about the machine's steps. Conditions: none. -/
namespace Go.Han
open Go.RowKit
section
variable {P:Program} {ops:Array Oper} {md:Region.Mode} {w:World}
theorem Xh8 {o:Oper} {a:Act} {n:Nat} {K:Act→Prop} {K':Act→World→Prop} {Q':Exit→Act→World→Prop} (h:∀a,K a→K' a w) (hh:o.still P a w K):o.wpIn Fence.wide n P a w K' Q':=by
 unfold Oper.still at hh
 unfold Oper.wpIn
 refine⟨fun f _=>trivial,?_⟩
 rw[show Fence.wide.round=none from rfl,Oper.semAt_none]
 generalize (execOp a.eval o).run P w=r at *
 cases r with
 | ok x w' =>
  cases x<;>simp only[Oper.stillUpon] at hh<;>simp only[Oper.uponIn]
  case enter f args =>
   obtain⟨rfl,v,hc,hn⟩:=hh
   refine⟨(fun h=>by cases h),callsIn_wide.2 (hc.mono fun e w'' ⟨he,hw⟩=>?_)⟩
   subst he;subst hw;exact h _ hn
  all_goals (obtain⟨rfl,h2⟩:=hh;exact h _ h2)
 | halt x w'=>simp only[Oper.stillUpon] at hh
theorem Xj3 {n i:Nat} {a:Act} {K:Act→Prop} {K':Act→World→Prop} {Q':Exit→Act→World→Prop} (h:∀a,K a→K' a w) (hh:stOp P ops w i K a):wpOpIn Fence.wide n P ops Q' i K' a w:=by
 unfold stOp at hh
 unfold wpOpIn
 split
 ·rename_i ho;simp only[ho] at hh;exact h _ hh
 ·rename_i o ho
  simp only[ho] at hh
  split
  ·rename_i hw;simp only[hw,if_true] at hh;exact Xh8 h hh
  ·rename_i hw;simp only[hw] at hh;exact⟨fun _ _=>trivial,h _ hh⟩
theorem Xd0 {n m g:Nat} {L:Array Bool→Act→Prop} {Q':Exit→Act→World→Prop} (hL:∀listed a,L listed a→wpAnyIn Fence.wide m P md ops Q' g listed a w) :
  ∀(f:Nat) (listed:Array Bool) (a:Act),wpAnyL P md ops w n L f listed a→wpAnyIn Fence.wide m P md ops Q' (f+g) listed a w
 | 0,listed,a,h=>by rw[Nat.zero_add];exact hL _ _ h
 | f+1,listed,a,h=>by
  rw[show f+1+g=(f+g)+1 by omega]
  exact⟨fun h0=>absurd h0 h.1,fun i hi=>Xj3 (fun a' h'=>Xd0 hL f _ a' h') (h.2 i hi).2⟩
theorem Xfz {m:Nat} {Q':Exit→Act→World→Prop}:∀(l:List Oper) (k:Nat) (listed:Array Bool) (a:Act) (w:World),(∀j,l[j]? = ops[k+j]?) →
  Region.seqB md ops l.length k listed=true→wpListIn Fence.wide m P ops Q' l a w→wpAnyIn Fence.wide m P md ops Q' l.length listed a w
 | [],_,_,_,_,_,hB,h=>⟨by simpa[Region.seqB] using hB,h⟩
 | o :: l,k,listed,a,w,hl,hB,h=>by
  have h0:ops[k]? = some o:=by simpa using (hl 0).symm
  simp only[List.length_cons,Region.seqB,Bool.and_eq_true,decide_eq_true_eq] at hB
  refine⟨fun h1=>(by rw[hB.1] at h1;cases h1),fun i hi=>?_⟩
  rw[hB.1] at hi
  have hik:i=k:=by simpa using hi
  subst hik
  have hw:wpOpIn Fence.wide m P ops Q' i (wpListIn Fence.wide m P ops Q' l) a w:=by unfold wpOpIn;simp only[h0];exact h
  exact wpOpIn_mono (fun a' w' h'=>Xfz l (i+1) _ a' w' (fun j=>by have:=hl (j+1);simpa[Nat.add_assoc,Nat.add_comm 1 j] using this) hB.2 h') hw
theorem Qv {id m:Nat} {Q:Exit→Act→World→Prop} {a:Act} {w:World} {l:List Oper} (n:Nat) (hm:P.follows .mixedOrders=true) (hB:Region.lexTailB .any l.toArray n=true)
  (h:wpStill P l.toArray w.drew (fun a'=>wpListIn Fence.wide m P l.toArray Q (l.drop n) a' w.drew) (l.take n) a):(Code.region id l.toArray true).wpIn Fence.wide m P Q a w:=by
 simp only[Region.lexTailB,Bool.and_eq_true,decide_eq_true_eq] at hB
 obtain⟨⟨⟨⟨hsel,hn⟩,hs⟩,hc⟩,hlex⟩:=hB
 have hn':n<l.length:=by simpa using hn
 have htl:(l.take n).length=n:=by simp;omega
 have hdl:(l.drop n).length=l.toArray.size-n:=by simp
 have inv0:HeadInv .any l.toArray n (Array.replicate l.toArray.size false) :=
  ⟨by simp,fun j oj _ hl=>(by rw[getD_replicate_false] at hl;cases hl),fun t _ ht=>getD_in (by simpa using ht) (getD_replicate_false _ _)⟩
 have H:=wpAnyL_lex (md:=.any) (g:=l.toArray.size-n) hsel hs hc hn (l.take n) 0 _ a (fun j hj=>by
  have hj':j<n:=by rw[htl] at hj;exact hj
  simp[hj']) (by simpa using htl) inv0 (by rw[htl];exact hlex) h
 refine wpIn_region_any hm ?_
 have:=Xd0 (m:=m) (Q':=Q) (g:=l.toArray.size-n) (fun listed a' hL=>by
  have:=Xfz (m:=m) (md:=.any) (Q':=Q) (l.drop n) n listed a' w.drew (fun j=>by simp[List.getElem?_drop]) (by rw[hdl];exact hL.1) hL.2
  rwa [hdl] at this) _ _ _ H
 rw[htl,show n+(l.toArray.size-n)=l.toArray.size by omega] at this
 exact this
end
end Go.Han
namespace Go.Proofs.YtolpbjjapodmnaaGreatDoor
open Go.RowKit Go.Han
attribute [local irreducible] wpStill wpQuiet
attribute [local go_sem] Oper.semAt_some
set_option maxRecDepth 100000
theorem Xlr (A:Option Addr) (cp n k:Nat) (W:World) (h:k≤n) (hc:n≤cp) :
  (Instr.slice 49 (.slice A n cp) none (some (.int .i64 k)) none).run Tryz.prog W = .ok (.slice (subA A cp 0 1) k cp) W:=by
 have e:=run_slice_h (P:=Tryz.prog) (w:=W) 49 A n cp (by rw[Tryz.underlying49];rfl) .i64 (k:Int) (by omega) (by omega)
 rw[e]
 have h2:((k:Int)).toNat=k:=by omega
 rw[h2]
 have h3:(Go.sizeOf (Tryz.prog.elem 49)).run Tryz.prog W = .ok 1 W:=by kernel_rfl
 rw[h3]
 rfl
theorem Xlq (g cp n k:Nat) (W:World) (h:k≤n) (hc:n≤cp) :
  (Instr.slice 49 (.slice (some ⟨g,0,none⟩) n cp) none (some (.int .i64 k)) none).run Tryz.prog W = .ok (.slice (some ⟨g,0,none⟩) k cp) W:=by
 have h1:=Xlr (some ⟨g,0,none⟩) cp n k W h hc
 rwa [show subA (some ⟨g,0,none⟩) cp 0 1=some ⟨g,0,none⟩ from by unfold subA;split<;>simp[Addr.add]] at h1
structure LayEnv (w0:World) (N cb kb wb top:Nat) (g:Gram) (its:SlS ItemG) (n:Nat) (A:Option Addr) (cp:Nat) (parts:List PartG) (i0 k:Nat) (R:Nat→Prop):Prop where
 box:LayB w0 N cb A parts.length cp i0 k
 chart:Xbd w0 cb g its n kb wb
 words:WordsM (fun b=>b<top∧b≠kb) w0 wb its.xs
 rd:Rd w0 A (parts.flatMap PartG.cells)
 far:∀b off,A=some ⟨b,off,none⟩→b<top∧b≠kb
 rN:∀b,N≤b→b≤N+1+1+1+1+1→R b
 rt:∀b,b<top→b≠kb→R b
 tN:top≤N
 hc:cb<top∧cb≠kb
 hw:wb<top∧wb≠kb
structure LayAt (W:World) (N cb kb wb top:Nat) (g:Gram) (its:SlS ItemG) (n:Nat) (A:Option Addr) (cp:Nat) (parts:List PartG) (k:Nat):Prop where
 c:W.heap[N]? = some (.cells #[.pointer (some ⟨cb,0,none⟩)] 115 (0,0))
 p:W.heap[N+1]? = some (.cells #[.slice A parts.length cp] 76 (0,0))
 u:W.heap[N+1+1+1]? = some (.cells #[.int .i64 k] 3 (0,0))
 l:W.heap[N+1+1+1+1+1]? = some (.cells #[.func (.func 218) #[] #[.pointer (some ⟨N+1,0,none⟩),.pointer (some ⟨N+1+1+1,0,none⟩),.pointer (some ⟨N+1+1+1+1,0,none⟩),.pointer (some ⟨N,0,none⟩),.pointer (some ⟨N+1+1+1+1+1,0,none⟩)]] 278 (0,0))
 chart:Xbd W cb g its n kb wb
 words:WordsM (fun b=>b<top∧b≠kb) W wb its.xs
 rd:Rd W A (parts.flatMap PartG.cells)
 top:top≤N
theorem LayEnv.at_ {w0 W:World} {N cb kb wb top:Nat} {g:Gram} {its:SlS ItemG} {n:Nat} {A:Option Addr} {cp:Nat} {parts:List PartG} {i0 k:Nat} {R:Nat→Prop} (h:LayEnv w0 N cb kb wb top g its n A cp parts i0 k R)
  (hk:∀b,R b→b≠N+1+1+1+1→W.heap[b]? = w0.heap[b]?) (hz:w0.heap.size≤W.heap.size):LayAt W N cb kb wb top g its n A cp parts k:=by
 have hT:=h.tN
 have ht:∀b,b<top→b≠kb→W.heap[b]? = w0.heap[b]? := fun b h1 h2=>hk b (h.rt b h1 h2) (by omega)
 refine⟨(hk _ (h.rN _ (by omega) (by omega)) (by omega)).trans h.box.c,(hk _ (h.rN _ (by omega) (by omega)) (by omega)).trans h.box.parts,(hk _ (h.rN _ (by omega) (by omega)) (by omega)).trans h.box.unt,(hk _ (h.rN _ (by omega) (by omega)) (by omega)).trans h.box.lay,(ht cb h.hc.1 h.hc.2).trans h.chart,h.words.keep (ht wb h.hw.1 h.hw.2) (fun b hb=>ht b hb.1 hb.2) hz,?_,hT⟩
 rcases h.rd with h0|⟨b,off,rfl,hlt,hc⟩
 ·exact .inl h0
 ·have hf:=h.far b off rfl
  exact .inr ⟨b,off,rfl,Nat.lt_of_lt_of_le hlt hz,fun j u hu=>(World.cell?_of_block (w:=w0) (ht b hf.1 hf.2)).trans (hc j u hu)⟩
theorem LayAt.ext {W V:World} {N cb kb wb top:Nat} {g:Gram} {its:SlS ItemG} {n:Nat} {A:Option Addr} {cp:Nat} {parts:List PartG} {k:Nat} (h:LayAt W N cb kb wb top g its n A cp parts k) (hb:Below W.heap.size W V):LayAt V N cb kb wb top g its n A cp parts k :=
 have hlt:=Xc h.c
 have hT:=h.top
 ⟨(hb.block _ (Xc h.c)).trans h.c,(hb.block _ (Xc h.p)).trans h.p,(hb.block _ (Xc h.u)).trans h.u,(hb.block _ (Xc h.l)).trans h.l,(hb.block _ (Xc h.chart)).trans h.chart,
  h.words.keep (hb.block _ h.words.lt) (fun b hs=>hb.block b (by omega)) hb.size,h.rd.ext hb,hT⟩
def LayPost (w0:World) (N B0 B1:Nat) (R:Nat→Prop) (J Jx:(Nat→Prop)→List (List Nat)→World→Prop) (xs ys:List (List Nat)) (es:List Nat) (ways:List (List Nat)) (e:Ending) (W':World):Prop :=
 (e = .returned (.bool true)∧∃own' v',LaySt w0 N B0 B1 R J own' (ys++ways.map (es++·)) es v' W')∨(e = .returned (.bool false)∧∃own' pre,pre <+: xs∧Jx own' pre W')
def Qo (st:Int→ByteArray→Bool) (ps:List PartG) (i k d:Nat):List (List Nat):=(List.range' (i+1) d).flatMap fun m=>(X9 st ps m k).map (m :: ·)
theorem Xdz (st:Int→ByteArray→Bool) (ps:List PartG) (i k d:Nat):Qo st ps i k (d+1)=Qo st ps i k d++(X9 st ps (i+1+d) k).map ((i+1+d) :: ·):=by
 unfold Qo
 rw[List.range'_concat,List.flatMap_append]
 simp
theorem Xl3 (st:Int→ByteArray→Bool) (ps:List PartG) (i k:Nat) {d d':Nat} (h:d≤d'):Qo st ps i k d <+: Qo st ps i k d':=by
 obtain⟨e,rfl⟩:=Nat.le.dest h
 induction e with
 | zero=>exact List.prefix_refl _
 | succ e ih=>exact(ih (by omega)).trans ⟨_,(Xdz st ps i k (d+e)).symm⟩
theorem Xqa (st:Int→ByteArray→Bool) {q:PartG} (hq:¬q.text.size≠0) (ps:List PartG) (i k:Nat) (h:¬k<i+(ps.length+1)):X9 st (q :: ps) i k=Qo st ps i k (k-ps.length-i):=by
 rw[X9,if_neg h,if_neg hq];rfl
theorem Xnw (st:Int→ByteArray→Bool) {q:PartG} (hq:q.text.size≠0) (ps:List PartG) (i k:Nat) (h:¬k<i+(ps.length+1)):X9 st (q :: ps) i k=if st i q.text=true then X9 st ps (i+1) k else []:=by
 rw[X9,if_neg h,if_pos hq]
theorem Xk1 (st:Int→ByteArray→Bool) (q:PartG) (ps:List PartG) (i k:Nat) (h:k<i+(ps.length+1)):X9 st (q :: ps) i k=[]:=by
 rw[X9,if_pos h]
theorem Xro {ys xs a b:List (List Nat)} {es:List Nat} (h:ys++a.map (es++·) <+: xs) (hb:b <+: a):ys++b.map (es++·) <+: xs:=by
 obtain⟨t,rfl⟩:=hb
 refine List.IsPrefix.trans ?_ h
 rw[List.map_append,← List.append_assoc]
 exact List.prefix_append _ _
theorem Xmq (ys a b:List (List Nat)) (es:List Nat) (m:Nat):(ys++a.map (es++·))++b.map ((es++[m])++·)=ys++(a++b.map (m :: ·)).map (es++·):=by
 rw[List.map_append,List.map_map,List.append_assoc]
 congr 2
 exact List.map_congr_left fun z _=>by simp
theorem LaySt.boxG {w0:World} {N B0 B1:Nat} {R:Nat→Prop} {J:(Nat→Prop)→List (List Nat)→World→Prop} {own:Nat→Prop} {ys:List (List Nat)} {es:List Nat} {v:Value} {W W1:World} (h:LaySt w0 N B0 B1 R J own ys es v W) (_:R (N+1+1+1+1)) (_:∀k,R k→k<B0) (hB:B0≤B1) (hg:W.grownBy W1 v.ownBlock) {b:Nat} {o:Obj} (hb:W.heap[b]? = some o) (hl:b<B0):W1.heap[b]? = some o :=
 (hg.block b (Xc hb) fun e=>by have:=(h.row.lt b e.symm).1;omega).trans hb
theorem LayPost.two {w0:World} {N B0 B1:Nat} {R:Nat→Prop} {J Jx:(Nat→Prop)→List (List Nat)→World→Prop} {xs ys:List (List Nat)} {es:List Nat} {ways:List (List Nat)} {e:Ending} {W':World} (h:LayPost w0 N B0 B1 R J Jx xs ys es ways e W') :
  (e = .returned (.bool true)∧∃own' v',LaySt w0 N B0 B1 R J own' (ys++ways.map (es++·)) es v' W')∨(e = .returned (.bool false)∧∃own' pre,pre <+: xs∧Jx own' pre W'):=h
section
variable {w0:World} {N B0 B1 cb kb wb top:Nat} {R M:Nat→Prop} {J Jx:(Nat→Prop)→List (List Nat)→World→Prop} {l':Nat} {xs:List (List Nat)} {g:Gram} {its:SlS ItemG} {n:Nat} {A:Option Addr} {cp:Nat} {parts:List PartG} {i0 k:Nat}
structure Xcr (w0:World) (N B0 B1 cb kb wb top:Nat) (R M:Nat→Prop) (J Jx:(Nat→Prop)→List (List Nat)→World→Prop) (l':Nat) (xs:List (List Nat)) (g:Gram) (its:SlS ItemG) (n:Nat) (A:Option Addr) (cp:Nat) (parts:List PartG) (i0 k:Nat):Prop where
 env:LayEnv w0 N cb kb wb top g its n A cp parts i0 k R
 size:w0.heap.size≤B1
 rb:∀b,R b→b<B0
 bb:B0≤B1
 st:Zn B0 M J
 m:M (N+1+1+1+1)
 y:∀own pre x vs W1,J own pre W1→pre++[x] <+: xs→EncW x vs W1→(∀k,own k→¬R k)→(∀k,own k→k<W1.heap.size)→YieldAt Fence.wide 0 Tryz.prog l' vs W1 (Tq J Jx (fun _ _=>False) own (pre++[x]) W1)
 few:parts.length≤4
 low:k≤16
def Vd (p i:Nat) (l' N:Nat):Array Value:=#[.int .i64 p,.int .i64 i,.func (.yield l') #[] #[],.pointer (some ⟨N+1,0,none⟩),.pointer (some ⟨N+1+1+1,0,none⟩),.pointer (some ⟨N+1+1+1+1,0,none⟩),.pointer (some ⟨N,0,none⟩),.pointer (some ⟨N+1+1+1+1+1,0,none⟩)]
theorem Xrn (U:Xcr w0 N B0 B1 cb kb wb top R M J Jx l' xs g its n A cp parts i0 k) (i:Nat) (own:Nat→Prop) (ys:List (List Nat)) (es:List Nat) (v:Value) (W:World) (hi:i≤k) (hS:LaySt w0 N B0 B1 R J own ys es v W)
  (hpre:ys++(X9 (Xm its.xs) [] i k).map (es++·) <+: xs):Calls Tryz.prog 218 (Vd parts.length i l' N) W (LayPost w0 N B0 B1 R J Jx xs ys es (X9 (Xm its.xs) [] i k)):=by
 have hL:=U.env.at_ hS.keep (Nat.le_trans U.size hS.size)
 have cp0:=Xj hL.p
 have cu0:=Xj hL.u
 have ce0:=Xj hS.box
 have h4:=U.few
 have h16:=U.low
 refine(callsIn_wide (n:=0)).1 ?_
 unfold Vd
 refine callsIn_of_wp Tryz.func218 rfl trivial ?_
 simp only[Tryz.ntmps218,List.size_toArray,List.length_cons,List.length_nil,Nat.reduceAdd,Nat.reduceSub,Array.replicate_succ,Array.replicate_zero,List.push_toArray,List.append_toArray,List.nil_append,List.cons_append]
 by_cases hik:i=k
 ·subst hik
  have hw:X9 (Xm its.xs) [] i i=[[]]:=by unfold X9;rw[if_pos rfl]
  rw[hw] at hpre ⊢
  have hys:ys++[([]:List Nat)].map (es++·)=ys++[es]:=by simp
  rw[hys] at hpre
  obtain⟨fn,tmps,assign,body,hyy,hrd⟩:=U.y own ys es #[v] W hS.j hpre hS.enc hS.apart hS.live
  have fin:∀e w9,Tq J Jx (fun _ _=>False) own (ys++[es]) W e w9→(e = .returned (.bool true)∧LayPost w0 N B0 B1 R J Jx xs ys es [[]] (.returned (.bool true)) w9)∨(e = .returned (.bool false)∧LayPost w0 N B0 B1 R J Jx xs ys es [[]] (.returned (.bool false)) w9):=by
   rintro e w9 (⟨own',hb,⟨rfl,hj⟩|⟨rfl,hj⟩⟩|⟨_,_,h⟩)
   ·exact .inl ⟨rfl,.inl ⟨rfl,own',v,by rw[hys];exact hS.body (U.env.rN _ (by omega) (by omega)) U.rb U.bb hb hj⟩⟩
   ·exact .inr ⟨rfl,.inr ⟨rfl,own',_,hpre,hj⟩⟩
   ·exact h.elim
  have HF:=Xa fin
  have HRd:=Xa hrd
  clear U hL hS hrd hpre hw hys fin
  gi_wp2_with (have hmark:=hyy;refine⟨rfl,HRd.out.mono ?_⟩;intro e w9 h9;rcases HF.out e w9 h9 with ⟨rfl,k9⟩|⟨rfl,k9⟩<;>have H9:=Xa k9<;>clear k9 h9)
  all_goals
   go_ret
   exact H9.out
 ·have hw:X9 (Xm its.xs) [] i k=[]:=by unfold X9;rw[if_neg hik]
  rw[hw]
  have hfin:LayPost w0 N B0 B1 R J Jx xs ys es [] (.returned (.bool true)) W:=.inl ⟨rfl,own,v,by simpa using hS⟩
  have HF:=Xa hfin
  clear U hL hS hpre hw hfin
  have g5:¬(i:Int)=(k:Int):=by omega
  clear hik hi ce0
  generalize (i:Int)=x at *
  generalize (k:Int)=y at *
  have g3:(x != y)=true:=by simp[g5]
  have g4:(x == y)=false:=by simp[g5]
  gi_wp2_with fail
  refine⟨(fun _ h=>(by cases h)),?_⟩
  gi_wp2_with fail
  go_ret
  exact HF.out
theorem Xka {s:ByteArray} (h:¬s.size≠0):(s.toList != [])=false:=by
 have h1:=List.isEmpty_iff.1 (Zq (s:=s) (by omega))
 simp[h1]
theorem Xkb {s:ByteArray} (h:s.size≠0):(s.toList != [])=true:=by
 have h1:=Zp (s:=s) (by omega)
 cases hs:s.toList with
 | nil=>rw[hs] at h1;cases h1
 | cons a l=>rfl
theorem Xnv (U:Xcr w0 N B0 B1 cb kb wb top R M J Jx l' xs g its n A cp parts i0 k) (q:PartG) (ps:List PartG) (p i:Nat) (own:Nat→Prop) (ys:List (List Nat)) (es:List Nat) (v:Value) (W:World) (hp:p+(ps.length+1)=parts.length) (hi:i≤k) (hk:k<i+(ps.length+1)) (hS:LaySt w0 N B0 B1 R J own ys es v W) :
  Calls Tryz.prog 218 (Vd p i l' N) W (LayPost w0 N B0 B1 R J Jx xs ys es (X9 (Xm its.xs) (q :: ps) i k)):=by
 have hL:=U.env.at_ hS.keep (Nat.le_trans U.size hS.size)
 have cp0:=Xj hL.p
 have cu0:=Xj hL.u
 have h4:=U.few
 have h16:=U.low
 rw[Xk1 _ _ _ _ _ hk]
 have hfin:LayPost w0 N B0 B1 R J Jx xs ys es [] (.returned (.bool true)) W:=.inl ⟨rfl,own,v,by simpa using hS⟩
 have HF:=Xa hfin
 have hl:((parts.length:Nat):Int)-(p:Int)=((ps.length+1:Nat):Int):=by omega
 have g1:(((ps.length:Nat):Int)+1 == 0)=false:=by simp;omega
 have g2:decide ((k:Int)-(i:Int)<((ps.length+1:Nat):Int))=true:=decide_eq_true (by omega)
 clear U hL hS hfin
 refine(callsIn_wide (n:=0)).1 ?_
 unfold Vd
 refine callsIn_of_wp Tryz.func218 rfl trivial ?_
 simp only[Tryz.ntmps218,List.size_toArray,List.length_cons,List.length_nil,Nat.reduceAdd,Nat.reduceSub,Array.replicate_succ,Array.replicate_zero,List.push_toArray,List.append_toArray,List.nil_append,List.cons_append]
 gi_wp2_with fail
 go_ret
 exact HF.out
theorem Xp8 (U:Xcr w0 N B0 B1 cb kb wb top R M J Jx l' xs g its n A cp parts i0 k) (q:PartG) (ps:List PartG) (p i:Nat) (own:Nat→Prop) (ys:List (List Nat)) (es:List Nat) (v:Value) (W:World) (hp:p+(ps.length+1)=parts.length) (hq:∀h:p<parts.length,parts[p]=q) (hi:i≤k) (hk:¬k<i+(ps.length+1)) (ht:q.text.size≠0) (hS:LaySt w0 N B0 B1 R J own ys es v W)
  (hpre:ys++(X9 (Xm its.xs) (q :: ps) i k).map (es++·) <+: xs)
  (hrec:∀V,Below W.heap.size W V→ys++(X9 (Xm its.xs) ps (i+1) k).map (es++·) <+: xs→Calls Tryz.prog 218 (Vd (p+1) (i+1) l' N) V (LayPost w0 N B0 B1 R J Jx xs ys es (X9 (Xm its.xs) ps (i+1) k))) :
  Calls Tryz.prog 218 (Vd p i l' N) W (LayPost w0 N B0 B1 R J Jx xs ys es (X9 (Xm its.xs) (q :: ps) i k)):=by
 have hL:=U.env.at_ hS.keep (Nat.le_trans U.size hS.size)
 have hT:=hL.top
 have hlN:=Xc hL.c
 have cp0:=Xj hL.p
 have cu0:=Xj hL.u
 have cc0:=Xj hL.c
 have cl0:=Xj hL.l
 have cch:=hL.chart
 have c9:=gblk cch 9
 have h4:=U.few
 have h16:=U.low
 obtain⟨A2,cp2,xs2,hlook,hlie,hany⟩:=hL.words.look (i:=(i:Int)) (by omega) (by omega)
 have hlk:=hlook W.drew rfl
 have hl2:=hlie W.drew (fun _ _=>rfl) (Nat.le_refl _)
 have hpl:p<parts.length:=by omega
 obtain⟨bA,off,hA,hbA,hcA⟩:=hL.rd.elem (s:=3) PartG.size_cells (by omega) (k:=p) hpl
 have e2:=hcA 2 _ rfl
 rw[hq hpl] at e2
 have k1:=Xkb ht
 have k2:=Zp (s:=q.text) (by omega)
 have k3:¬q.text.toList=[]:=by intro h;rw[h] at k2;cases k2
 rw[Xnw _ ht _ _ _ hk] at hpre ⊢
 have hl:((parts.length:Nat):Int)-(p:Int)=((ps.length+1:Nat):Int):=by omega
 have g1:(((ps.length:Nat):Int)+1 == 0)=false:=by simp;omega
 have g2:decide ((k:Int)-(i:Int)<((ps.length+1:Nat):Int))=false:=decide_eq_false (by omega)
 have g3:0≤(p:Int):=by omega
 have g4:(p:Int)<(parts.length:Int):=by omega
 have hwp:IntKind.i64.wrap ((p:Int)+1)=((p+1:Nat):Int):=by rw[IntWalk.i64_in _ (by omega)];rfl
 have hwi:IntKind.i64.wrap ((i:Int)+1)=((i+1:Nat):Int):=by rw[IntWalk.i64_in _ (by omega)];rfl
 have hC:=Xcw A2 cp2 xs2 q.text W.drew (by have h:=hl2.rd;rwa [show strs xs2=xs2.flatMap (fun b:ByteArray=>[Value.string b]) from by unfold strs;rw[List.map_eq_flatMap]] at h) (Nat.le_trans hl2.cap hl2.max)
 rw[hany q.text] at hC
 rw[hA] at cp0
 have hwf:∀f,Fence.wide.fn f=True:=fun f=>by simp[Fence.wide]
 cases hst:Xm its.xs i q.text
 ·rw[hst] at hC
  have hfin:LayPost w0 N B0 B1 R J Jx xs ys es [] (.returned (.bool true)) W.drew:=.inl ⟨rfl,own,v,by simpa using hS.ext U.st (fun b hb=>by have:=U.rb b hb;have:=U.bb;have:=hS.size;omega) (Xi (Below.refl _ _))⟩
  have HF:=Xa hfin
  have HC:=Xa hC
  rw[if_neg (by simp)]
  clear U hL hS hpre hfin hrec hC hcA hq hlie hlook hl2 hany hst
  refine(callsIn_wide (n:=0)).1 ?_
  unfold Vd
  refine callsIn_of_wp Tryz.func218 rfl trivial ?_
  simp only[Tryz.ntmps218,List.size_toArray,List.length_cons,List.length_nil,Nat.reduceAdd,Nat.reduceSub,Array.replicate_succ,Array.replicate_zero,List.push_toArray,List.append_toArray,List.nil_append,List.cons_append]
  gi_wp2_with fail
  refine wpIn_wide.2 ?_
  refine wp_region_still_lit (by kernel_rfl) (by kernel_rfl) ?_
  repeat still_step
  still_call HC.out
  repeat still_step
  refine wpStill_nil ?_
  gi_wp2_with fail
  go_ret
  exact HF.out
 ·rw[hst] at hC
  rw[hst,if_pos rfl] at hpre
  rw[if_pos rfl]
  have hR:=hrec W.drew (Xi (Below.refl _ _)) hpre
  have hR':Calls Tryz.prog 218 #[.int .i64 ((p:Int)+1),.int .i64 ((i:Int)+1),.func (.yield l') #[] #[],.pointer (some ⟨N+1,0,none⟩),.pointer (some ⟨N+1+1+1,0,none⟩),.pointer (some ⟨N+1+1+1+1,0,none⟩),.pointer (some ⟨N,0,none⟩),.pointer (some ⟨N+1+1+1+1+1,0,none⟩)] W.drew (LayPost w0 N B0 B1 R J Jx xs ys es (X9 (Xm its.xs) ps (i+1) k)):=hR
  have HR:=Xa hR'
  have HC:=Xa hC
  clear U hL hS hpre hrec hR hR' hC hcA hq hlie hlook hl2 hany hst
  refine(callsIn_wide (n:=0)).1 ?_
  unfold Vd
  refine callsIn_of_wp Tryz.func218 rfl trivial ?_
  simp only[Tryz.ntmps218,List.size_toArray,List.length_cons,List.length_nil,Nat.reduceAdd,Nat.reduceSub,Array.replicate_succ,Array.replicate_zero,List.push_toArray,List.append_toArray,List.nil_append,List.cons_append]
  gi_wp2_with fail
  refine Qv 20 (by kernel_rfl) (by kernel_rfl) ?_
  simp only[List.take_succ_cons,List.take_zero,List.drop_succ_cons,List.drop_zero]
  repeat still_step
  still_call HC.out
  repeat still_step
  refine wpStill_nil ?_
  gi_wp2_with (refine⟨rfl,(callsIn_wide.2 HR.out).mono ?_⟩;intro e w9 h9;rcases h9.two with ⟨rfl,k9⟩|⟨rfl,k9⟩<;>have H9:=Xa k9<;>clear k9 h9)
  ·go_ret
   exact .inl ⟨rfl,H9.out⟩
  ·go_ret
   exact .inr ⟨rfl,H9.out⟩
set_option maxHeartbeats 2000000 in
theorem Xrm (U:Xcr w0 N B0 B1 cb kb wb top R M J Jx l' xs g its n A cp parts i0 k) (q:PartG) (ps:List PartG) (p i:Nat) (own:Nat→Prop) (ys:List (List Nat)) (es:List Nat) (v:Value) (W:World) (hp:p+(ps.length+1)=parts.length) (hq:∀h:p<parts.length,parts[p]=q) (hi:i≤k) (hk:¬k<i+(ps.length+1)) (ht:¬q.text.size≠0) (he:es.length+(ps.length+1)≤4) (hS:LaySt w0 N B0 B1 R J own ys es v W)
  (hpre:ys++(X9 (Xm its.xs) (q :: ps) i k).map (es++·) <+: xs)
  (hrec:∀(m:Nat) (own:Nat→Prop) (ys:List (List Nat)) (es:List Nat) (v:Value) (V:World),m≤k→es.length+ps.length≤4→LaySt w0 N B0 B1 R J own ys es v V→ys++(X9 (Xm its.xs) ps m k).map (es++·) <+: xs→Calls Tryz.prog 218 (Vd (p+1) m l' N) V (LayPost w0 N B0 B1 R J Jx xs ys es (X9 (Xm its.xs) ps m k))) :
  Calls Tryz.prog 218 (Vd p i l' N) W (LayPost w0 N B0 B1 R J Jx xs ys es (X9 (Xm its.xs) (q :: ps) i k)):=by
 have hL:=U.env.at_ hS.keep (Nat.le_trans U.size hS.size)
 have hlN:=Xc hL.c
 have cp0:=Xj hL.p
 have cu0:=Xj hL.u
 have h4:=U.few
 have h16:=U.low
 have hpl:p<parts.length:=by omega
 obtain⟨bA,off,hA,hbA,hcA⟩:=hL.rd.elem (s:=3) PartG.size_cells (by omega) (k:=p) hpl
 have e2:=hcA 2 _ rfl
 rw[hq hpl] at e2
 have k1:=Xka ht
 have k2:=Zq (s:=q.text) (by omega)
 have k3:q.text.toList=[]:=List.isEmpty_iff.1 k2
 rw[Xqa _ ht _ _ _ hk] at hpre ⊢
 have hl:((parts.length:Nat):Int)-(p:Int)=((ps.length+1:Nat):Int):=by omega
 have g1:(((ps.length:Nat):Int)+1 == 0)=false:=by simp;omega
 have g2:decide ((k:Int)-(i:Int)<((ps.length+1:Nat):Int))=false:=decide_eq_false (by omega)
 have g3:0≤(p:Int):=by omega
 have g4:(p:Int)<(parts.length:Int):=by omega
 rw[hA] at cp0
 have HU:=Xa U
 have HR:=Xa hrec
 have HS:=Xa hS
 have Hpre:=Xa hpre
 obtain⟨T,hTe⟩:∃T,k-ps.length-i=T:=⟨_,rfl⟩
 have hTi:i+T+ps.length=k:=by omega
 have HT:=Xa hTe
 clear U hL hS hpre hrec hcA hq hTe
 refine(callsIn_wide (n:=0)).1 ?_
 unfold Vd
 refine callsIn_of_wp Tryz.func218 rfl trivial ?_
 simp only[Tryz.ntmps218,List.size_toArray,List.length_cons,List.length_nil,Nat.reduceAdd,Nat.reduceSub,Array.replicate_succ,Array.replicate_zero,List.push_toArray,List.append_toArray,List.nil_append,List.cons_append]
 gi_wp2_with fail
 gi_loopw [13] (fun mv wr=>∃(d:Nat) (own':Nat→Prop) (v':Value),d≤T∧mv = .int .i64 (((i+1+d:Nat):Int))∧Hid (LaySt w0 N B0 B1 R J own' (ys++(Qo (Xm its.xs) ps i k d).map (es++·)) es v' wr)) (fun mv _=>k+1-(intOf mv).toNat)
 case atStart=>exact⟨0,own,v,Nat.zero_le _,by go_num,by (show LaySt _ _ _ _ _ _ _ _ _ _ _);simpa[Qo] using HS.out⟩
 case round =>
  obtain⟨d,own2,v2,hd,rfl,hS2⟩:=hrel
  have hL2:=HU.out.env.at_ hS2.out.keep (Nat.le_trans HU.out.size hS2.out.size)
  have cu2:=Xj hL2.u
  have cl2:=Xj hL2.l
  have ce2:=Xj hS2.out.box
  obtain⟨m,hm⟩:∃m,i+1+d=m:=⟨_,rfl⟩
  by_cases hlt:d<T
  ·have q1:(m:Int)≤(k:Int)-((ps.length+1:Nat):Int)+1:=by omega
   have q2:(m:Int)≤(k:Int)-((ps.length:Int)+1)+1:=by omega
   have hws:=Xdz (Xm its.xs) ps i k d
   rw[hm] at hws ⊢
   have Hws:=Xa hws
   have Hm:=Xa hm
   have hrow:wr.ownsRow B1 3 1 v2 es.length ((es.map (fun m:Nat=>(m:Int))).flatMap intC):=by
    have h:=hS2.out.row
    unfold OwnI OwnL at h
    rwa [List.length_map] at h
   have hRB:=HU.out.rb
   have hRN:=HU.out.env.rN (N+1+1+1+1) (by omega) (by omega)
   have hB01:=HU.out.bb
   have hBw:=hS2.out.size
   have hbN:=hRB _ hRN
   have hb5:=hRB _ (HU.out.env.rN (N+1+1+1+1+1) (by omega) (by omega))
   have HSa:=Xa (hS2.out.ext HU.out.st (fun b hb=>by have:=hRB b hb;omega) (Xe (Below.refl wr.heap.size wr) (.cells #[.int .i64 (m:Int)] 3)))
   have Hla:=Xa ((Below.heap_alloc wr (.cells #[.int .i64 (m:Int)] 3) _ (Xc hL2.l)).trans hL2.l)
   have hz:(wr.alloc (.cells #[.int .i64 (m:Int)] 3)).heap.size=wr.heap.size+1:=by simp
   obtain⟨i0,hi0,hz0,hz1,hz2⟩:=info_parts Xnp
   have hN45:N+1+1+1+1+1≠N+1+1+1+1:=by omega
   have hpr:(ys++(Qo (Xm its.xs) ps i k d).map (es++·))++(X9 (Xm its.xs) ps m k).map ((es++[m])++·) <+: xs:=by
    rw[Xmq,← hws]
    refine Xro Hpre.out ?_
    rw[HT.out]
    exact Xl3 _ _ _ _ hlt
   have Hpr:=Xa hpr
   have hmk:m≤k:=by omega
   have hel:(es++[m]).length+ps.length≤4:=by rw[List.length_append];simp;omega
   have Hel:=Xa hel
   clear hws hm hL2 hRB hpr hel
   gi_wp2_with (first|(gi_at_builtin;refine Te _ rfl _ _ 49 rfl B1 3 i0 (.int .i64 0) 1 8 Tryz.underlying49 hi0 hz0 hz1 hz2 rfl (by decide) _ _ _ rfl (hrow.alloc _) ⟨wr.heap.size,0,none⟩ 1 1 [.int .i64 (m:Int)] rfl rfl (cell_one_new _ _ _) (by simp[Value.oneCell']) (by unfold maxLen;omega) (by omega) (by simp;omega) ?_;intro v3 w3 hown3 hgrow hat;obtain⟨g3,cap3,rfl⟩:=ownsRow_succ hown3;have hbx3:=HSa.out.boxG hRN HU.out.rb hB01 hgrow HSa.out.box hbN;have hc3:=Xj hbx3;have hf3:=Xf hbx3 0;have hl3:=Xj (HSa.out.boxG hRN HU.out.rb hB01 hgrow Hla.out hb5);have hpush:=HSa.out.push HU.out.st HU.out.m hRN HU.out.rb hB01 (m:=m) (by rw[List.map_append];exact OwnL.snoc (m:Int) (by rw[List.length_map];exact hown3)) hgrow hat;have HC:=Xa (HR.out m own2 _ (es++[m]) _ _ hmk Hel.out hpush Hpr.out);clear hpush hbx3)|(have hmark:=hl3;refine⟨trivial,rfl,(callsIn_wide.2 HC.out).mono ?_⟩;intro e w9 h9;rcases h9.two with ⟨rfl,own5,v5,hS5⟩|⟨rfl,k9⟩<;>(first|(obtain⟨g5,cp5,rfl,hle5⟩:=hS5.form;have hbx5:=hS5.box;have hc5:=Xj hbx5;have hf5:=Xf hbx5 0;have hup5:=Xlq g5 cp5 (es.length+1) es.length w9 (by omega) hle5;have H5:=Xa hS5;clear hS5 hbx5 h9)|(have H9:=Xa k9;clear k9 h9))))
   ·go_roundw
    case rel =>
     refine⟨d+1,own5,.slice (some ⟨g5,0,none⟩) es.length cp5,by omega,by rw[show i+1+(d+1)=m+1 from by have:=Hm.out;omega];go_num,?_⟩
     have h:=H5.out.pop HU.out.st HU.out.m hRN HU.out.rb hB01
     rw[Xmq,← Hws.out] at h
     exact h
    case measure=>simp[intOf];omega
   ·go_ret
    exact .inr ⟨rfl,H9.out⟩
  ·have q1:¬(m:Int)≤(k:Int)-((ps.length+1:Nat):Int)+1:=by omega
   have q2:¬(m:Int)≤(k:Int)-((ps.length:Int)+1)+1:=by omega
   obtain rfl:d=T:=by omega
   rw[hm]
   clear hm hL2 HU HR
   gi_wp2_with fail
   go_ret
   exact .inl ⟨rfl,own2,v2,by rw[HT.out];exact hS2.out⟩
theorem lay1 (U:Xcr w0 N B0 B1 cb kb wb top R M J Jx l' xs g its n A cp parts i0 k):∀(ps:List PartG) (p i:Nat) (own:Nat→Prop) (ys:List (List Nat)) (es:List Nat) (v:Value) (W:World),parts.drop p=ps→p+ps.length=parts.length→i≤k→es.length+ps.length≤4→LaySt w0 N B0 B1 R J own ys es v W →
  ys++(X9 (Xm its.xs) ps i k).map (es++·) <+: xs→Calls Tryz.prog 218 (Vd p i l' N) W (LayPost w0 N B0 B1 R J Jx xs ys es (X9 (Xm its.xs) ps i k))
 | [],p,i,own,ys,es,v,W,_,hp,hi,_,hS,hpre=>by
  obtain rfl:p=parts.length:=by simpa using hp
  exact Xrn U i own ys es v W hi hS hpre
 | q :: ps,p,i,own,ys,es,v,W,hd,hp,hi,he,hS,hpre=>by
  have hp':p+(ps.length+1)=parts.length:=by simpa using hp
  have hq:∀h:p<parts.length,parts[p]=q:=fun h=>by
   rw[List.drop_eq_getElem_cons h] at hd
   exact(List.cons.inj hd).1
  have hd':parts.drop (p+1)=ps:=by
   rw[List.drop_eq_getElem_cons (by omega)] at hd
   exact(List.cons.inj hd).2
  have he':es.length+(ps.length+1)≤4:=by simpa using he
  by_cases hk:k<i+(ps.length+1)
  ·exact Xnv U q ps p i own ys es v W hp' hi hk hS
  ·by_cases ht:q.text.size≠0
   ·exact Xp8 U q ps p i own ys es v W hp' hq hi hk ht hS hpre fun V hV hpr=>lay1 U ps (p+1) (i+1) own ys es v V hd' (by omega) (by omega) (by omega) (hS.ext U.st (fun b hb=>by have:=U.rb b hb;have:=U.bb;have:=hS.size;omega) hV) hpr
   ·exact Xrm U q ps p i own ys es v W hp' hq hi hk ht he' hS hpre fun m own ys es v V hm hes hSV hpr=>lay1 U ps (p+1) m own ys es v V hd' (by omega) hm hes hSV hpr
end
def LayR (D kb fb b:Nat):Prop:=b<D∧b≠kb∧b≠fb
theorem lays2 {e0 w w0:World} {cb kb wb top fb:Nat} {g:Gram} {its:SlS ItemG} {n:Nat} {A:Option Addr} {cp:Nat} {parts:List PartG} {i k:Nat} {e:Ending} (hE:ChEnv e0 cb kb wb top g its n w) (hA:Rd w A (parts.flatMap PartG.cells)) (hfar:∀b off,A=some ⟨b,off,none⟩→b<top∧b≠kb) (hL:Xel cb A parts.length cp i k w e w0)
  (hf:top≤fb∧fb<w.heap.size) (h4:parts.length≤4) (hk:k≤16) (hi:i≤k) :
  IterV Tryz.prog 219 #[.pointer (some ⟨w.heap.size+1+1+1+1+1,0,none⟩),.pointer (some ⟨w.heap.size+1+1,0,none⟩)] EncW (LayR w0.heap.size kb fb) (fun b=>b=w.heap.size+1+1+1+1) (X9 (Xm its.xs) parts i k) w0:=by
 obtain⟨rfl,hB,hends,hb,hz⟩:=hL
 have hE0:=hE.ext hb
 have hkt:=hE.hk
 have htw:=hE.top
 have henv:LayEnv w0 w.heap.size cb kb wb top g its n A cp parts i k (LayR w0.heap.size kb fb) :=
  ⟨hB,hE0.chart,hE0.words,hA.ext hb,hfar,fun b h1 h2=>⟨by omega,by omega,by omega⟩,fun b h1 h2=>⟨by omega,h2,by omega⟩,htw,⟨hE.hc.2,hE.kc⟩,⟨hE.hw.2,Ne.symm hE.kw⟩⟩
 intro l' B0 J Jx own₀ W hR hown hB0 hlive hJ hJx hY h0
 have hbw:w0.heap.size≤B0:=by
  have:=(hR (w.heap.size+1+1+1+1+1) ⟨by omega,by omega,by omega⟩).1
  omega
 have U:Xcr w0 w.heap.size B0 W.heap.size cb kb wb top (LayR w0.heap.size kb fb) (fun b=>b=w.heap.size+1+1+1+1) J Jx l' (X9 (Xm its.xs) parts i k) g its n A cp parts i k :=
  ⟨henv,by omega,fun b hb=>(hR b hb).1,hB0,hJ,rfl,hY,h4,hk⟩
 have hbe:W.heap[w.heap.size+1+1+1+1]? = some (.cells #[.slice none 0 0] 49 (0,0)):=(hR _ ⟨by omega,by omega,by omega⟩).2.trans hends
 have hS:LaySt w0 w.heap.size B0 W.heap.size (LayR w0.heap.size kb fb) J own₀ [] [] (.slice none 0 0) W :=
  ⟨h0,fun b hr _=>(hR b hr).2,hown,hlive,Nat.le_refl _,hbe,OwnL.nil _ _ _ _ _,fun g hg=>by simp[Value.ownBlock] at hg⟩
 have hat:=henv.at_ hS.keep (by omega)
 have cl:=Xj hat.l
 have cf:=Xj ((hR (w.heap.size+1+1) ⟨by omega,by omega,by omega⟩).2.trans hB.frm)
 have hc:=lay1 U parts 0 i own₀ [] [] (.slice none 0 0) W rfl (by simp) hi (by simpa using h4) hS (by simp)
 have hc':Calls Tryz.prog 218 #[.int .i64 0,.int .i64 (i:Int),.func (.yield l') #[] #[],.pointer (some ⟨w.heap.size+1,0,none⟩),.pointer (some ⟨w.heap.size+1+1+1,0,none⟩),.pointer (some ⟨w.heap.size+1+1+1+1,0,none⟩),.pointer (some ⟨w.heap.size,0,none⟩),.pointer (some ⟨w.heap.size+1+1+1+1+1,0,none⟩)] W (LayPost w0 w.heap.size B0 W.heap.size (LayR w0.heap.size kb fb) J Jx (X9 (Xm its.xs) parts i k) [] [] (X9 (Xm its.xs) parts i k)):=hc
 have HC:=Xa hc'
 clear U hE hA hfar hf hE0 henv hR hown hlive hJ hJx hY h0 hbe hS hat hc hc' hB hends hb hz hbw hB0
 go_enter Tryz.func219,Tryz.ntmps219
 go_wp2_with fail
 refine HC.out.mono ?_
 intro e w9 h9
 rcases h9.two with ⟨rfl,own',v',h⟩|⟨rfl,own',pre,h1,h2⟩
 ·have hj:=h.j
  rw[List.nil_append,show (fun x:List Nat=>[]++x)=id from rfl,List.map_id] at hj
  have HJ:=Xa hj
  clear hj h h9
  go_wp2_with fail
  exact bodyPost_ret (results_none rfl _ _ _) rfl (.inl ⟨rfl,⟨_,rfl⟩,own',HJ.out⟩)
 ·have H2:=Xa h2
  clear h2 h9
  go_wp2_with fail
  exact bodyPost_ret (results_none rfl _ _ _) rfl (.inr (.inl ⟨⟨_,rfl⟩,own',pre,h1,H2.out⟩))
end Go.Proofs.YtolpbjjapodmnaaGreatDoor
/- A loop that holds a range over a function; a function's end behind several of them. Plain theorems about the machine's steps. Conditions: none. -/
namespace Go.Han
open Go.RowKit
section
variable {P:Program} {f:FuncId} {Q:Exit→Act→World→Prop} {a:Act} {w:World}
theorem Xoz {c:Code} (I:Act→World→Prop) (mu:Act→World→Nat) (h0:I a w) (hs:∀a w,I a w→wpAt P f c (Exit.then (fun a' w'=>I a' w'∧mu a' w'<mu a w) Q) a w):wpAt P f (Code.loop c) Q a w:=by
 intro b k cs hro hb
 have key:∀(n:Nat) (a:Act) (w:World),I a w→mu a w<n→∃e a' w',Q e a' w'∧ArrivesIn (Machine.fenced P Fence.wide) P (lone (b.atR a (.code c :: .inLoop c :: k)) cs w) b k cs e a' w':=by
  intro n
  induction n with
  | zero=>intro a w _ h;omega
  | succ n ih =>
   intro a w hI hn
   obtain⟨e,a1,w1,hq,harr⟩:=hs a w hI b (.inLoop c :: k) cs hro hb
   cases e with
   | normal =>
    obtain⟨hI1,hlt⟩:=hq
    obtain⟨e2,a2,w2,hq2,harr2⟩:=ih a1 w1 hI1 (by omega)
    exact⟨e2,a2,w2,hq2,.of_steps (StepsIn.trans harr (.one (Yc _ _ _ _) stepR_inLoop)) harr2⟩
   | exit id=>exact⟨_,a1,w1,hq,.pass (x:=.inLoop c) rfl (fun _ _ => .inl (by simp)) harr⟩
   | goto l=>exact⟨_,a1,w1,hq,.pass (x:=.inLoop c) rfl (fun _ _ => .inl (by simp)) harr⟩
   | ret=>exact⟨_,a1,w1,hq,.pass (x:=.inLoop c) rfl (fun _ _ => .inl (by simp)) harr⟩
   | panic ch=>exact⟨_,a1,w1,hq,.pass (x:=.inLoop c) rfl (fun _ _ => .inl (by simp)) harr⟩
   | outgrown=>exact⟨_,a1,w1,hq,.pass (x:=.inLoop c) rfl (fun _ _ => .inl (by simp)) harr⟩
 obtain⟨e,a',w',hq,harr⟩:=key _ a w h0 (Nat.lt_succ_self _)
 exact⟨e,a',w',hq,.of_steps (.one (Yc P _ _ _) stepR_loop) harr⟩
end
def colD (D:Nat):Deferred:={target:=.collected D,args:=#[]}
theorem Xce {P:Program} {fn:Func} {tmps:Array Value} {R:Ending→World→Prop} (hn:fn.results=#[]):∀(Ds:List Nat) (W:World),(∀D∈Ds,W.heap[D]? = some (.deferred (some [])))→Ds.Nodup →
  (∀W',W'.os=W.os→W'.tape=W.tape→W'.output=W.output→W'.heap.size=W.heap.size→(∀k,k∉Ds→W'.heap[k]? = W.heap[k]?)→R (.returned (.tuple #[])) W')→LeavesInM Fence.wide 0 P fn tmps R (Ds.map colD) .returning W
 | [],W,_,_,hR=>Xgb (results_none hn _ _ _) (hR W rfl rfl rfl rfl fun _ _=>rfl)
 | D :: Ds,W,hd,hnd,hR=>by
  have hD:=hd D (List.mem_cons_self ..)
  have hn1:=(List.nodup_cons.1 hnd).1
  refine⟨by simp,.inl ⟨_,_,rfl,run_takeDeferred hD,Xce hn Ds _ (fun E hE=>?_) (List.nodup_cons.1 hnd).2 fun W' h1 h2 h3 h4 h5=>hR W' (h1.trans rfl) (h2.trans rfl) (h3.trans rfl) (h4.trans (by simp)) fun k hk=>?_⟩⟩
  ·exact(World.putObj_heap_other (by rintro rfl;exact hn1 hE)).trans (hd E (List.mem_cons_of_mem _ hE))
  ·exact(h5 k (fun h=>hk (List.mem_cons_of_mem _ h))).trans (World.putObj_heap_other (by rintro rfl;exact hk (List.mem_cons_self ..)))
end Go.Han
/- Inside the wide fence: the orders of a drawn region, with a class of worlds that no operation leaves: what reads the same in all of them may be taken first. Plain theorems about the machine's steps. Conditions: none. -/
namespace Go.Han
open Go.RowKit
section
variable {P:Program} {ops:Array Oper} {C:World→Prop} {Q:Exit→Act→World→Prop} {m:Nat}
def wpAnyC (m:Nat) (P:Program) (ops:Array Oper) (C:World→Prop) (Q:Exit→Act→World→Prop):Nat→Array Bool→Act→World→Prop
 | 0,listed,a,w=>C w∧Region.ready .any ops listed=[]∧Q .normal a w
 | f+1,listed,a,w=>C w∧(Region.ready .any ops listed=[]→Q .normal a w)∧∀i∈Region.ready .any ops listed,wpOpIn Fence.wide m P ops Q i (wpAnyC m P ops C Q f (listed.setIfInBounds i true)) a w
theorem wpAnyC.any:∀ {f:Nat} {listed:Array Bool} {a:Act} {w:World},wpAnyC m P ops C Q f listed a w→wpAnyIn Fence.wide m P .any ops Q f listed a w
 | 0,_,_,_,h=>h.2
 | _+1,_,_,_,h=>⟨h.2.1,fun i hi=>wpOpIn_mono (fun _ _ h'=>h'.any) (h.2.2 i hi)⟩
def SameC (P:Program) (ops:Array Oper) (C:World→Prop) (o:Oper) (v:Value) (a:Act):Prop :=
 (Region.wanted o (yielded ops a.tmps)=true∧∀w,C w→(execOp a.eval o).run P w = .ok (.value v) w)∨(Region.wanted o (yielded ops a.tmps)=false∧v=undef)
theorem SameC.step {i:Nat} {o:Oper} {v:Value} {a:Act} {w:World} {K:Act→World→Prop} (hi:ops[i]? = some o) (hy:SameC P ops C o v a) (hC:C w) (h:K (a.put o.dst v) w):wpOpIn Fence.wide m P ops Q i K a w:=by
 unfold wpOpIn
 rw[hi]
 show if _ then _ else _
 rcases hy with ⟨hw,hv⟩|⟨hw,rfl⟩
 ·rw[if_pos hw]
  refine⟨fun _ _=>trivial,?_⟩
  rw[show Fence.wide.round=none from rfl,Oper.semAt_none,hv w hC]
  exact h
 ·rw[if_neg (by rw[hw];decide)]
  exact⟨fun _ _=>trivial,h⟩
theorem SameC.swap {j:Nat} {oi oj:Oper} {v:Value} {K:Act→World→Prop} {a:Act} {w:World} (hj:ops[j]? = some oj) (hap:oi.apart ops oj=true)
  (hsi:∀cs b,oi.op ≠ .select cs b) (hsj:∀cs b,oj.op ≠ .select cs b) (hQ:∀c a w,Q (.panic c) (a.put oi.dst v) w→Q (.panic c) a w)
  (hy:SameC P ops C oi v a) (h:wpOpIn Fence.wide m P ops Q j K (a.put oi.dst v) w) :
  wpOpIn Fence.wide m P ops Q j (fun a' w'=>SameC P ops C oi v a'∧K (a'.put oi.dst v) w') a w:=by
 obtain⟨p1,p2,p3⟩:=Oper.apart_spec hap
 have kp:∀ {b:Act},SameC P ops C oi v b→∀u,SameC P ops C oi v (b.put oj.dst u):=fun {b} hb u=>by
  unfold SameC
  rw[execOp_put oi hsi b oj.dst u p3,wanted_put oi b oj.dst u p3]
  exact hb
 have pc:∀(b:Act) u,(b.put oj.dst u).put oi.dst v=(b.put oi.dst v).put oj.dst u:=fun b u=>(Act.put_comm b v u p2).symm
 unfold wpOpIn at h ⊢
 rw[hj] at h ⊢
 replace h:if _ then _ else _:=h
 show if _ then _ else _
 rw[wanted_put oj a oi.dst v p1] at h
 by_cases hw:Region.wanted oj (yielded ops a.tmps)=true
 ·rw[if_pos hw] at h ⊢
  refine⟨fun _ _=>trivial,?_⟩
  have h2:=h.2
  rw[show Fence.wide.round=none from rfl,Oper.semAt_none,execOp_put oj hsj a oi.dst v p1] at h2
  rw[show Fence.wide.round=none from rfl,Oper.semAt_none]
  revert h2
  generalize (execOp a.eval oj).run P w=r
  intro h2
  match r,h2 with
  | .ok (.value u) w',h2=>exact⟨kp hy u,(pc a u) ▸ h2⟩
  | .ok .skip w',h2=>exact⟨kp hy _,(pc a undef) ▸ h2⟩
  | .ok (.defer d) w',h2 =>
   refine⟨kp (b:={a with defers:=d :: a.defers}) hy _,?_⟩
   rw[pc,← Act.put_defers]
   exact h2
  | .ok (.enter f args) w',h2 =>
   refine⟨h2.1,CallsIn.mono h2.2 fun e w'' he=>?_⟩
   match e,he with
   | .returned u,he=>exact⟨kp hy u,(pc a u) ▸ he⟩
   | .panicked c,he=>exact hQ _ _ _ he
   | .outgrown,he=>exact he
  | .ok (.row row args) w',h2=>exact⟨h2.1,RowsIn.mono h2.2 fun u w'' he=>⟨kp hy u,(pc a u) ▸ he⟩⟩
  | .ok (.round l f tmps assign body) w',h2 =>
   refine⟨h2.1,RoundIn.mono h2.2 fun e w'' he=>?_⟩
   match e,he with
   | .returned u,he=>exact⟨kp hy u,(pc a u) ▸ he⟩
   | .panicked c,he=>exact hQ _ _ _ he
   | .outgrown,he=>exact he
  | .halt (.panic u) w',h2=>exact hQ _ _ _ h2
 ·rw[if_neg hw] at h ⊢
  exact⟨fun _ _=>trivial,kp hy _,(pc a undef) ▸ h.2⟩
theorem Xfy {listed:Array Bool} {i:Nat} (h:i∈Region.ready .any ops listed):listed.getD i false=false:=by
 have h0:=(mem_ready.1 h).1
 exact getD_both h0
theorem Xco {i:Nat} {oi:Oper} {v:Value} (hi:ops[i]? = some oi) (hsel:∀(j:Nat) (o:Oper) cs b,ops[j]? = some o→o.op ≠ .select cs b) (hQ:∀c a w,Q (.panic c) (a.put oi.dst v) w→Q (.panic c) a w) :
  ∀(f:Nat) (listed:Array Bool) (a:Act) (w:World),
   (∀j oj,ops[j]? = some oj→j≠i→listed.getD j true=false→(∀e∈oj.after,Region.binds .any e=true→e.on≠i)→oi.apart ops oj=true) →
   i∈Region.ready .any ops listed→SameC P ops C oi v a→wpAnyC m P ops C Q f (listed.setIfInBounds i true) (a.put oi.dst v) w→wpAnyC m P ops C Q (f+1) listed a w
 | 0,listed,a,w,_,hr,hy,H=>by
  refine⟨H.1,fun h=>absurd hr (by rw[h];simp),fun j hj=>?_⟩
  by_cases e:j=i
  ·rw[e];exact hy.step hi H.1 H
  ·have:=ready_mono hj e
   rw[H.2.1] at this
   cases this
 | f+1,listed,a,w,hfree,hr,hy,H=>by
  refine⟨H.1,fun h=>absurd hr (by rw[h];simp),fun j hj=>?_⟩
  by_cases e:j=i
  ·rw[e];exact hy.step hi H.1 H
  ·obtain⟨hun,oj,hoj,hall⟩:=mem_ready.1 hj
   have hno:∀x∈oj.after,Region.binds .any x=true→x.on≠i:=fun x hx hb he=>by
    have h1:=hall x hx hb
    rw[he,Xfy hr] at h1
    cases h1
   have h2:=SameC.swap hoj (hfree j oj hoj e hun hno) (fun cs b=>hsel i oi cs b hi) (fun cs b=>hsel j oj cs b hoj) hQ hy (H.2.2 j (ready_mono hj e))
   refine wpOpIn_mono (fun a' w' h3=>Xco hi hsel hQ f (listed.setIfInBounds j true) a' w' (fun k ok hk hki hunk hnok=>?_) (ready_mono hr (Ne.symm e)) h3.1 ?_) h2
   ·refine hfree k ok hk hki ?_ hnok
    by_cases hjk:j=k
    ·rw[← hjk];exact hun
    ·rw[getD_set_ne true hjk] at hunk;exact hunk
   ·rw[Array.setIfInBounds_comm _ _ e]
    exact h3.2
theorem Xj5 {i:Nat} {oi:Oper} {v:Value} {f:Nat} {listed:Array Bool} {a:Act} {w:World} (hi:ops[i]? = some oi) (hs:Region.noSelect ops=true) (hf:Region.free .any ops listed i=true)
  (hr:(Region.ready .any ops listed).contains i=true) (hQ:∀c a w,Q (.panic c) (a.put oi.dst v) w→Q (.panic c) a w) (hw:Region.wanted oi (yielded ops a.tmps)=true) (hy:∀w,C w→(execOp a.eval oi).run P w = .ok (.value v) w)
  (h:wpAnyC m P ops C Q f (listed.setIfInBounds i true) (a.put oi.dst v) w):wpAnyC m P ops C Q (f+1) listed a w :=
 Xco hi (Region.noSelect_spec hs) hQ f listed a w (Region.free_spec hi hf) (by simpa using hr) (.inl ⟨hw,hy⟩) h
def takeB (ops:Array Oper) (listed:Array Bool) (i:Nat) (tmps:Array Value):Bool:=match ops[i]? with
 | some o=>Region.noSelect ops && Region.free .any ops listed i && (Region.ready .any ops listed).contains i && Region.wanted o (yielded ops tmps)
 | none=>false
theorem Xd {i:Nat} {oi:Oper} {v:Value} {f:Nat} {listed:Array Bool} {a:Act} {w:World} (hi:ops[i]? = some oi) (hb:takeB ops listed i a.tmps=true) (hQ:∀c a w,Q (.panic c) (a.put oi.dst v) w→Q (.panic c) a w) (hy:∀w,C w→(execOp a.eval oi).run P w = .ok (.value v) w)
  (h:wpAnyC m P ops C Q f (listed.setIfInBounds i true) (a.put oi.dst v) w):wpAnyC m P ops C Q (f+1) listed a w:=by
 unfold takeB at hb
 rw[hi] at hb
 simp only[Bool.and_eq_true] at hb
 obtain⟨⟨⟨h1,h2⟩,h3⟩,h4⟩:=hb
 exact Xj5 hi h1 h2 h3 hQ h4 hy h
def AllC (m:Nat) (P:Program) (ops:Array Oper) (C:World→Prop) (Q:Exit→Act→World→Prop) (f:Nat) (listed:Array Bool) (a:Act) (w:World) (rs:List Nat):Prop :=
 ∀i∈rs,wpOpIn Fence.wide m P ops Q i (wpAnyC m P ops C Q f (listed.setIfInBounds i true)) a w
theorem AllC.nil {f:Nat} {listed:Array Bool} {a:Act} {w:World}:AllC m P ops C Q f listed a w []:=fun _ h=>by cases h
theorem AllC.cons {f:Nat} {listed:Array Bool} {a:Act} {w:World} {i:Nat} {o:Oper} {rs:List Nat} (ho:ops[i]? = some o)
  (h:∀K':Act→World→Prop,(∀a w,wpAnyC m P ops C Q f (listed.setIfInBounds i true) a w→K' a w)→if Region.wanted o (yielded ops a.tmps)=true then Oper.wpIn Fence.wide m P o a w K' Q else (∀f,o.about P w a.eval=some f→Fence.wide.fn f)∧K' (a.put o.dst undef) w)
  (hs:AllC m P ops C Q f listed a w rs):AllC m P ops C Q f listed a w (i :: rs):=fun j hj=>by
 rcases List.mem_cons.1 hj with rfl|hj
 ·exact wpOpIn_step ho h
 ·exact hs j hj
theorem Xs {rs:List Nat} {f:Nat} {listed:Array Bool} {a:Act} {w:World} (hC:C w) (hr:Region.ready .any ops listed=rs) (hne:rs≠[]) (h:AllC m P ops C Q f listed a w rs):wpAnyC m P ops C Q (f+1) listed a w :=
 ⟨hC,fun h0=>absurd (hr ▸ h0) hne,hr ▸ h⟩
theorem Xg {i:Nat} {o:Oper} {f:Nat} {listed:Array Bool} {a:Act} {w:World} (hC:C w) (hr:Region.ready .any ops listed=[i]) (ho:ops[i]? = some o)
  (h:∀K':Act→World→Prop,(∀a w,wpAnyC m P ops C Q f (listed.setIfInBounds i true) a w→K' a w)→if Region.wanted o (yielded ops a.tmps)=true then Oper.wpIn Fence.wide m P o a w K' Q else (∀f,o.about P w a.eval=some f→Fence.wide.fn f)∧K' (a.put o.dst undef) w):wpAnyC m P ops C Q (f+1) listed a w :=
 Xs hC hr (by simp) (AllC.cons ho h AllC.nil)
theorem Xl {listed:Array Bool} {a:Act} {w:World} (hC:C w) (hr:Region.ready .any ops listed=[]) (h:Q .normal a w):∀f,wpAnyC m P ops C Q f listed a w
 | 0=>⟨hC,hr,h⟩
 | _+1=>⟨hC,fun _=>h,by rw[hr];simp⟩
theorem Xo {id:Nat} {a:Act} {w:World} (C:World→Prop) (hm:P.follows .mixedOrders=true) (h:wpAnyC m P ops C Q ops.size (Array.replicate ops.size false) a w.drew):(Code.region id ops true).wpIn Fence.wide m P Q a w :=
 wpIn_region_any hm h.any
end
end Go.Han
/- In a round of a range over a function: drawn regions, as inside the wide fence. Plain theorems about the machine's steps. Conditions: none. -/
namespace Go.Han
open Go.RowKit
section
variable {P:Program}
def Q8 (ops:Array Oper):Bool:=ops.all fun o=>match o.op with | .defer _=>false|_=>true
theorem Xi7 {ops:Array Oper} (h:Q8 ops=true) {i:Nat} {o:Oper} (ho:ops[i]? = some o):∀c,o.op ≠ .defer c:=by
 intro c hc
 unfold Q8 at h
 rw[Array.all_eq_true] at h
 obtain⟨hi,rfl⟩:=Array.getElem?_eq_some_iff.1 ho
 have:=h i hi
 rw[hc] at this
 cases this
theorem Xh0 {o:Oper} {m l:Nat} {a:Act} {w:World} {K:Act→World→Prop} {Q:Exit→Act→World→Prop} (ho:∀c,o.op ≠ .defer c) (h:o.wpIn Fence.wide m P a w K Q):o.wpIn (Fence.wide.inRound l) m P a w K Q:=by
 unfold Oper.wpIn at h ⊢
 rw[Oper.semAt_eq _ _ _ ho] at h ⊢
 exact h
theorem Xdj {ops:Array Oper} {m l:Nat} {Q:Exit→Act→World→Prop} (hd:Q8 ops=true):∀(f:Nat) (listed:Array Bool) (a:Act) (w:World),wpAnyIn Fence.wide m P .any ops Q f listed a w→wpAnyIn (Fence.wide.inRound l) m P .any ops Q f listed a w
 | 0,_,_,_,h=>h
 | f+1,listed,a,w,h=>by
  refine⟨h.1,fun i hi=>?_⟩
  have hk:=wpOpIn_mono (K':=wpAnyIn (Fence.wide.inRound l) m P .any ops Q f (listed.setIfInBounds i true)) (fun a' w' h'=>Xdj hd f _ a' w' h') (h.2 i hi)
  unfold wpOpIn at hk ⊢
  cases ho:ops[i]? with
  | none=>rw[ho] at hk;exact hk
  | some o =>
   rw[ho] at hk
   simp only at hk ⊢
   split at hk
   ·rename_i hw
    rw[if_pos hw]
    exact Xh0 (Xi7 hd ho) hk
   ·rename_i hw
    rw[if_neg hw]
    exact hk
theorem Xcq {id m l:Nat} {ops:Array Oper} {Q:Exit→Act→World→Prop} {a:Act} {w:World} (hd:Q8 ops=true) (hm:P.follows .mixedOrders=true) (h:wpAnyIn Fence.wide m P .any ops Q ops.size (Array.replicate ops.size false) a w.drew):(Code.region id ops true).wpIn (Fence.wide.inRound l) m P Q a w :=
 wpIn_region_any hm (Xdj hd _ _ _ _ h)
theorem T2 {id m l:Nat} {ops:Array Oper} {Q:Exit→Act→World→Prop} {a:Act} {w:World} (C:World→Prop) (hd:Q8 ops=true) (hm:P.follows .mixedOrders=true) (h:wpAnyC m P ops C Q ops.size (Array.replicate ops.size false) a w.drew):(Code.region id ops true).wpIn (Fence.wide.inRound l) m P Q a w :=
 Xcq hd hm h.any
theorem Xy {m:Nat} {ops:Array Oper} {o:Oper} {a:Act} {w w':World} {K:Act→World→Prop} {Q:Exit→Act→World→Prop} {E:Prop} (hgd:o.guard=none) (s x:Operand) (t:TypeId)
  (ho:o.op = .call {callee:=.builtin .append,args:=#[s,x],argTypes:=#[t,t]}) {v u v':Value} (hs:a.eval s=v) (hx:a.eval x=u) (hrun:(Builtin.append_ #[t,t] o.type #[v,u]).run P w = .ok v' w') (h:K (a.put o.dst v') w') :
  if Region.wanted o (yielded ops a.tmps)=true then Oper.wpIn Fence.wide m P o a w K Q else E:=by
 have hw:Region.wanted o (yielded ops a.tmps)=true:=by simp[Region.wanted,hgd]
 rw[if_pos hw]
 unfold Oper.wpIn
 refine⟨?_,?_⟩
 ·simp[Oper.about,ho,resolve,Target.leads,Sem.run_pure]
 ·rw[Oper.semAt_plain Fence.wide _ _ (by rw[ho];intro c hc';cases hc')]
  simp[execOp,ho,resolve,invoke,builtin,hs,hx,hrun,Result.andThen]
  exact h
theorem Xbz {F:Fence} {n:Nat} {c:Code} {Q:Exit→Act→World→Prop} {a aF:Act} {w w':World} (h:c.wpIn F n P (Exit.then (fun a' v=>a'=aF∧v=w') (fun _ _ _=>False)) a w) (k:Q .normal aF w'):c.wpIn F n P Q a w :=
 wpIn_mono h (fun e a' v hh=>by
  cases e with
  | normal=>obtain⟨h2,h3⟩:=hh;subst h2 h3;exact k
  | _=>exact hh.elim)
def PanD (D:Act→Prop) (PhiP:List PanicEntry→World→Prop) (e:Exit) (a':Act) (v:World):Prop:=∃ch,e = .panic ch∧D a'∧PhiP ch v
def KeepF (a:Act) (k:Nat) (a':Act):Prop:=a'.defers=a.defers∧∀i,i<k→a'.tmps[i]? = a.tmps[i]?
def Xmf (k:Nat):Option Nat→Bool
 | none=>true
 | some j=>Nat.ble k j
theorem KeepF.put {a a1:Act} {k:Nat} {d:Option Nat} {v:Value} (hd:Xmf k d=true) (h:KeepF a k (a1.put d v)):KeepF a k a1:=by
 cases d with
 | none=>exact h
 | some j =>
  obtain⟨h1,h3⟩:=h
  refine⟨h1,fun i hi=>?_⟩
  have hj:j≠i:=by have:k≤j:=Nat.le_of_ble_eq_true hd;omega
  have:(a1.tmps.setIfInBounds j v)[i]? = a.tmps[i]? := h3 i hi
  rwa [Array.getElem?_setIfInBounds_ne hj] at this
theorem KeepF.of_take {a a':Act} {k:Nat} (hd:a'.defers=a.defers) (h:a'.tmps.toList.take k=a.tmps.toList.take k):KeepF a k a' :=
 ⟨hd,fun i hi=>by
  have h1:(a'.tmps.toList.take k)[i]? = (a.tmps.toList.take k)[i]? := by rw[h]
  rwa [List.getElem?_take,List.getElem?_take,if_pos hi,if_pos hi,Array.getElem?_toList,Array.getElem?_toList] at h1⟩
theorem PanD.put {a a1:Act} {k:Nat} {PhiP:List PanicEntry→World→Prop} {d:Option Nat} {v:Value} {c:List PanicEntry} {w:World} (hd:Xmf k d=true) (h:PanD (KeepF a k) PhiP (.panic c) (a1.put d v) w):PanD (KeepF a k) PhiP (.panic c) a1 w:=by
 obtain⟨ch,h1,h2,h3⟩:=h
 exact⟨ch,h1,h2.put hd,h3⟩
theorem Xd1 {F:Fence} {n:Nat} {c:Code} {Q:Exit→Act→World→Prop} {a:Act} {w:World} (k:Nat) (PhiP:List PanicEntry→World→Prop) (h:c.wpIn F n P (PanD (KeepF a k) PhiP) a w) (hk:∀ch a' v,KeepF a k a'→PhiP ch v→Q (.panic ch) a' v):c.wpIn F n P Q a w :=
 wpIn_mono h (fun e a' v ⟨ch,he,h2,h3⟩=>by subst he;exact hk ch a' v h2 h3)
theorem Td {β:Type} {F:Fence} {n:Nat} {c:Code} {Q:Exit→Act→World→Prop} {a:Act} {w:World} (upd:β→Act→Act) (Phi:β→World→Prop) (h:c.wpIn F n P (Exit.then (fun a' v=>∃u,a'=upd u a∧Phi u v) (fun _ _ _=>False)) a w) (k:∀u v,Phi u v→Q .normal (upd u a) v):c.wpIn F n P Q a w :=
 wpIn_mono h (fun e a' v hh=>by
  cases e with
  | normal=>obtain⟨u,h2,h3⟩:=hh;subst h2;exact k u v h3
  | _=>exact hh.elim)
end
end Go.Han
namespace Go.Proofs.YtolpbjjapodmnaaGreatDoor
open Go.RowKit Go.Han
attribute [local irreducible] wpStill wpQuiet
set_option maxRecDepth 100000
def Qw (X:Nat→Prop) (g:Gram) (items:List ItemG) (N kb:Nat) (f0:X8→Option FoundG) (c:Int) (i k m:Nat) (W:World) (e:Ending) (W':World):Prop :=
 ∃fd f',e = .returned (.agg #[.bool fd.ok,.int .i64 fd.cost,.int .i64 fd.rule,.int .i64 fd.item,.int .i64 fd.frm,.int .i64 fd.unt,.slice fd.kids.addr fd.kids.len fd.kids.cap,.int .i64 fd.many])∧FoundOk X W' fd (Fd.of bigN (derG g items c i k))∧KnownF X g items N kb f' W'∧Grew g m f0 f'∧Only (fun j=>j=kb) W W'
def Xl8 (e0:World) (cb kb wb top:Nat) (g:Gram) (its:SlS ItemG) (N:Nat) (c:Int) (i k:Nat):Prop :=
 ∀(X:Nat→Prop) (f0:X8→Option FoundG) (W:World),(∀b,X b→b<W.heap.size)→ChEnv e0 cb kb wb top g its N W→KnownF X g its.xs N kb f0 W →
  Calls Tryz.prog 67 #[.pointer (some ⟨cb,0,none⟩),.agg #[.int .i64 c,.int .i64 (i:Int),.int .i64 (k:Int)]] W (Qw X g its.xs N kb f0 c i k (muG g c i k+1) W)
theorem Xge (bi bx bk:Nat) (j i k c:Int) (v:Value) (A:Option Addr) (n cp:Nat) (w:World) (hi:w.heap[bi]? = some (.cells #[.int .i64 j] 3 (0,0))) (hx:w.heap[bx]? = some (.cells #[.int .i64 c,.int .i64 i,.int .i64 k] 119 (0,0))) (hk:w.heap[bk]? = some (.cells #[v] 30 (0,0))) (hv:v = .slice A n cp) :
  Calls Tryz.prog 182 #[.pointer (some ⟨bi,0,none⟩),.pointer (some ⟨bx,0,none⟩),.pointer (some ⟨bk,0,none⟩)] w fun e w'=>e = .returned (.agg #[.int .i64 j,.int .i64 (-1),.int .i64 i,.int .i64 k,.slice A n cp])∧Below w.heap.size w w':=by
 subst hv
 have a0:=Xj hi
 have k0:=Xj hk
 obtain⟨b0,b1,b2⟩:=gb3 hx
 have hli:=Xc hi
 have hlx:=Xc hx
 have hlk:=Xc hk
 have hni:bi≠w.heap.size:=by omega
 have hnx:bx≠w.heap.size:=by omega
 have hnk:bk≠w.heap.size:=by omega
 have hB:Below w.heap.size w (w.alloc (.cells #[.int .i64 j,.int .i64 (-1),.int .i64 i,.int .i64 k,.slice A n cp] 37)):=Xe (Below.refl _ _) _
 clear hi hx hk
 go_enter Tryz.func182,Tryz.ntmps182
 go_wp2_with fail
 exact bodyPost_ret (v:=.agg #[.int .i64 j,.int .i64 (-1),.int .i64 i,.int .i64 k,.slice A n cp]) (by simp[results,Tryz.results182,go_sem]) rfl ⟨rfl,hB⟩
theorem Xkt {X:Nat→Prop} {W:World} {fd:FoundG} {g:Gram} {items:List ItemG} {c:Int} {i k:Nat} (h:FoundOk X W fd (Fd.of bigN (derG g items c i k))) :
  (Xv (derG g items c i k)=none∧fd.ok=false)∨∃cc t,Xv (derG g items c i k)=some (cc,t)∧fd.ok=true∧fd.cost=cc∧TreeW X W t fd.tree∧fd.many=(capN bigN (derG g items c i k).length:Nat):=by
 have hb:=h.best
 have hm:=h.many
 change match Xv (derG g items c i k) with|none=>_|some (c,t)=>_ at hb
 cases hf:Xv (derG g items c i k) with
 | none=>rw[hf] at hb;exact .inl ⟨rfl,hb.1⟩
 | some y =>
  obtain⟨cc,t⟩:=y
  rw[hf] at hb
  exact .inr ⟨cc,t,rfl,hb.1,hb.2.1,hb.2.2,hm⟩
theorem Xon (e n:Nat):Zj bigN (capN bigN e) (capN bigN n)=capN bigN (e*n):=Xkd bigN e n
section
variable {e0:World} {cb kb wb top fb:Nat} {g:Gram} {its:SlS ItemG} {N:Nat} {X:Nat→Prop} {f0:X8→Option FoundG} {c:Int} {i k:Nat}
structure RuSt (e0:World) (cb kb wb top fb:Nat) (g:Gram) (its:SlS ItemG) (N:Nat) (X:Nat→Prop) (f0:X8→Option FoundG) (c:Int) (i k:Nat) (W1:World) (l:List Dv) (W:World):Prop where
 env:ChEnv e0 cb kb wb top g its N W
 found:∃fd f',W.heap[fb]? = some (.cells #[.bool fd.ok,.int .i64 fd.cost,.int .i64 fd.rule,.int .i64 fd.item,.int .i64 fd.frm,.int .i64 fd.unt,.slice fd.kids.addr fd.kids.len fd.kids.cap,.int .i64 fd.many] 114 (0,0))∧FoundOk X W fd (Fd.of bigN l)∧KnownF X g its.xs N kb f' W∧Grew g (muG g c i k) f0 f'
 only:Only (fun j=>j=kb∨j=fb) W1 W
def XR (X:Nat→Prop) (M B0:Nat) (own:Nat→Prop) (b:Nat):Prop:=X b∨b=M∨(B0≤b∧¬own b)
structure WaSt (e0:World) (cb kb wb top fb:Nat) (g:Gram) (its:SlS ItemG) (N:Nat) (X:Nat→Prop) (f0:X8→Option FoundG) (c:Int) (i k:Nat) (W0:World) (M:Nat) (L:List Dv) (r:Nat→List Nat→List Dv) (j:Nat) (own:Nat→Prop) (ys:List (List Nat)) (W:World):Prop where
 os:W.os=W0.os
 tape:W.tape=W0.tape
 output:W.output=W0.output
 size:W0.heap.size≤W.heap.size
 keep:∀b,b<W0.heap.size→b≠kb→b≠fb→b≠M→W.heap[b]? = W0.heap[b]?
 okb:own kb
 ofb:own fb
 found:∃fd f',W.heap[fb]? = some (.cells #[.bool fd.ok,.int .i64 fd.cost,.int .i64 fd.rule,.int .i64 fd.item,.int .i64 fd.frm,.int .i64 fd.unt,.slice fd.kids.addr fd.kids.len fd.kids.cap,.int .i64 fd.many] 114 (0,0))∧FoundOk (XR X M W0.heap.size own) W fd (Fd.of bigN (L++ys.flatMap (r j)))∧KnownF (XR X M W0.heap.size own) g its.xs N kb f' W∧Grew g (muG g c i k) f0 f'
theorem WaSt.stable {W0:World} {M:Nat} {L:List Dv} {r:Nat→List Nat→List Dv} {j:Nat} (hkb:kb<W0.heap.size):Zn W0.heap.size (fun b=>b=M) (WaSt e0 cb kb wb top fb g its N X f0 c i k W0 M L r j):=by
 intro own ys W W' h st
 have hz:=h.size
 have hkeep:∀b,KidP W b→¬XR X M W0.heap.size own b→W'.heap[b]? = W.heap[b]? := fun b ⟨cs,fr,hb⟩ hx=>by
  refine st.block b (Xc hb) ?_
  by_cases ho:own b
  ·exact .inr ho
  ·refine .inl ⟨?_,fun hm=>hx (.inr (.inl hm))⟩
   rcases Nat.lt_or_ge b W0.heap.size with h1|h1
   ·exact h1
   ·exact absurd (.inr (.inr ⟨h1,ho⟩)) hx
 have ht:∀t x,TreeW (XR X M W0.heap.size own) W t x→TreeW (XR X M W0.heap.size own) W' t x:=fun t x ht=>ht.keep hkeep st.size fun _ _ h=>h
 obtain⟨fd,f',h1,h2,h3,h4⟩:=h.found
 exact⟨st.os.trans h.os,st.tape.trans h.tape,st.output.trans h.output,Nat.le_trans hz st.size,fun b hb h1 h2 h3=>(st.block b (Nat.lt_of_lt_of_le hb hz) (.inl ⟨hb,h3⟩)).trans (h.keep b hb h1 h2 h3),h.okb,h.ofb,
  fd,f',(st.block fb (Xc h1) (.inr h.ofb)).trans h1,h2.keep ht,h3.keep (st.block kb (by omega) (.inr h.okb)) ht,h4⟩
end
end Go.Proofs.YtolpbjjapodmnaaGreatDoor
