/- Texts of this claim, one after the other: Chwm, RangeV, Chw5, Chw6, Chwa. -/
import Derived.Test.YtolpbjjapodmnaaGreatDoorM13
import Derived.Test.YtolpbjjapodmnaaGreatDoorM1
import Derived.Test.YtolpbjjapodmnaaGreatDoorM12
import Derived.Test.YtolpbjjapodmnaaGreatDoorM10
namespace Go.Proofs.YtolpbjjapodmnaaGreatDoor
open Go.RowKit Go.Han
set_option maxRecDepth 100000
attribute [local irreducible] wpStill wpQuiet
set_option maxHeartbeats 8000000
def I6 (n:Int):Prop := -9223372036854775808<=n/\n<=9223372036854775807
mutual
def Xty:TreeV->Prop
 | .node r j i k l=>I6 r/\I6 j/\I6 i/\I6 k/\Xzb l
def Xzb:List TreeV->Prop
 | []=>True
 | t :: l=>Xty t/\Xzb l
end
theorem Xvh {t:TreeV} (h:Xty t):I6 t.frm/\I6 t.unt:=by
 cases t;unfold Xty at h;exact⟨h.2.2.1,h.2.2.2.1⟩
theorem Xoa {g:Gram} {items:List ItemG} {n m:Nat} (hg:Y5 g) (hi:Ve n m items) {t:TreeV} {c cost:Int} (h:Zu g items t c=(cost,true)):0<=cost/\cost<=1000*Yr t:=by
 obtain⟨i,k,_,_,_,_,hm⟩:=Xe8 hg hi t c cost h;have:=Xh4 hg hi _ _ _ _ _ hm;exact this
structure LiesSt (g:Gram) (items:List ItemG) (R:Int×Bool) (ps:List PartG) (l:List TreeV) (k:Int) (p:Nat) (ks:List TreeV) (at_ cost:Int):Prop where
 eq:Z9 (Xp items) (ps.drop p) (Ym g items ks) at_ k cost=R
 sub:∀t∈ks,t∈l
 fit:I6 at_
 lo:0<=cost
 hi:cost+1000*Yv ks<=1000*(1+Yv l)
section
variable {g:Gram} {items:List ItemG} {R:Int×Bool} {ps:List PartG} {l:List TreeV} {k:Int} {p:Nat} {ks:List TreeV} {at_ cost:Int}
theorem LiesSt.start {c:Int} (h0:0<=c) (h1:c<=1000) {i:Int} (hi:I6 i):LiesSt g items (Z9 (Xp items) ps (Ym g items l) i k c) ps l k 0 l i c :=
 ⟨rfl,fun _ h=>h,hi,h0,by omega⟩
theorem LiesSt.done (h:LiesSt g items R ps l k ps.length ks at_ cost):R=(cost,decide (ks=[]) && decide (at_=k)):=by
 have:=h.eq;rw[List.drop_length] at this;rw[<- this];unfold Z9
 congr 2
 cases ks<;>simp[Ym]
theorem LiesSt.text (h:LiesSt g items R ps l k p ks at_ cost) (hp:p<ps.length) (ht:ps[p].text.size≠0) (hn:at_<k) (hw:Xp items at_ ps[p].text=true) (hk:I6 k):LiesSt g items R ps l k (p+1) ks (at_+1) cost:=by
 have:=h.eq;rw[List.drop_eq_getElem_cons hp,Qc ht,if_pos ⟨hn,hw⟩] at this;exact⟨this,h.sub,by have:=h.fit;unfold I6 at *;omega,h.lo,h.hi⟩
theorem LiesSt.none (h:LiesSt g items R ps l k p [] at_ cost) (hp:p<ps.length) (ht:¬ps[p].text.size≠0):R=(0,false):=by
 have:=h.eq;rw[List.drop_eq_getElem_cons hp,Ym,Xaz ht] at this;exact this.symm
theorem LiesSt.cat {n m:Nat} (hg:Y5 g) (hi:Ve n m items) (hfit:∀t∈l,Xty t) {t:TreeV} {ks':List TreeV} (h:LiesSt g items R ps l k p (t :: ks') at_ cost) (hp:p<ps.length) (ht:¬ps[p].text.size≠0) (hf:t.frm=at_) {c:Int} (hn:Zu g items t ps[p].no=(c,true)):LiesSt g items R ps l k (p+1) ks' t.unt (cost+c):=by
 have:=h.eq;rw[List.drop_eq_getElem_cons hp,Ym,Xac ht] at this;simp only at this;rw[if_pos hf,hn] at this;simp only[if_true] at this;have hb:=Xoa hg hi hn;have h1:=h.hi;have h2:=h.lo;rw[Yv] at h1;exact⟨this,fun x hx=>h.sub x (List.mem_cons_of_mem _ hx),(Xvh (hfit t (h.sub t (List.mem_cons_self ..)))).2,by omega,by push_cast at h1;omega⟩
end
theorem Xw1 (A:Option Addr) (cp n:Nat) (W:World) (h:1<=n) :
  (Instr.slice 30 (.slice A n cp) (some (.int .i64 1)) none none).run Tryz.prog W = .ok (.slice (subA A cp 1 5) (n-1) (cp-1)) W:=by
 have e:=run_slice_l (P:=Tryz.prog) (w:=W) 30 A n cp (by rw[Tryz.underlying30];rfl) .i64 (1:Int) (by omega) (by omega);rw[e];have h3:(Go.sizeOf (Tryz.prog.elem 30)).run Tryz.prog W = .ok 5 W:=by kernel_rfl
 rw[h3];rfl
theorem X0l {w:World} {P:Nat->Prop} {t:TreeV} {l:List TreeV} {css:List (List Value)} {A:Option Addr} {cp:Nat} (hr:Rd w A css.flatten) (hk:KidsAt w P (t :: l) css) (hc:l.length+1<=cp) :
  ∃css',KidsAt w P l css'/\Rd w (subA A cp 1 5) css'.flatten:=by
 unfold KidsAt at hk;obtain⟨cs,css',rfl,h1,h2⟩:=hk;refine⟨css',h2,?_⟩;have h5:=Xdu h1;unfold subA;rw[List.flatten_cons] at hr;rcases hr with h0|⟨b,off,rfl,hb,hcl⟩
 ·have:=congrArg List.length h0
  rw[List.length_append,h5] at this;simp at this
 ·split
  ·rename_i hcp
   have:l=[]:=List.eq_nil_of_length_eq_zero (by omega);subst this;unfold KidsAt at h2;rw[h2];exact .inl rfl
  ·refine .inr ⟨b,off+5,rfl,hb,fun j u hu=>?_⟩
   rw[Nat.add_assoc];refine hcl (5+j) u ?_;rw[List.getElem?_append_right (by omega),h5,Nat.add_sub_cancel_left];exact hu
end Go.Proofs.YtolpbjjapodmnaaGreatDoor
/- A range over a function whose rounds do not panic, and that yields values which read as told in the world of the yield (a slice that is not to be kept): the iterator's contract, the caller's law. Plain theorems about the machine's steps. -/
namespace Go.Han
open Go.RowKit
variable {P:Program}
def IterV {α:Type} (P:Program) (g:Nat) (lb:Array Value) (Enc:α->Array Value->World->Prop) (R M:Nat->Prop) (xs:List α) (w0:World):Prop :=
 ∀(l B0:Nat) (J Jx:(Nat->Prop)->List α->World->Prop) (own₀:Nat->Prop) (W:World),
  (∀k,R k->k<B0/\W.heap[k]? = w0.heap[k]?)->(∀k,own₀ k->¬R k)->B0<=W.heap.size->(∀k,own₀ k->k<W.heap.size) ->
  Yp B0 M J->Yp B0 M Jx ->
  (∀own pre x vs W1,J own pre W1->pre++[x] <+: xs->Enc x vs W1->(∀k,own k->¬R k)->(∀k,own k->k<W1.heap.size)->YieldAt Fence.wide 0 P l vs W1 (V0 J Jx (fun _ _=>False) own (pre++[x]) W1)) ->
  J own₀ [] W ->
  Calls P g (#[.func (.yield l) #[] #[]]++lb) W (Xd2 J Jx (fun _ _=>False) xs none)
theorem Xxz {α:Type} {f:FuncId} {fn:Func} (hfn:P.funcs[f]? = some fn) {g:Operand} {ps:Array Tmp} {assign body:Code} {Q:Exit->Act->World->Prop} {a:Act} {w:World}
  {gf:Nat} {lb:Array Value} (hg:a.eval g = .func (.func gf) #[] lb) (eg:∀args w,(callFunc gf args).run P w = .ok (.enter gf args) w)
  {Enc:α->Array Value->World->Prop} {R M:Nat->Prop} {xs:List α} {w0:World} (hit:IterV P gf lb Enc R M xs w0)
  (hR:∀k,R k->k<w.heap.size/\w.heap[k]? = w0.heap[k]?) (hps:∀x vs W,Enc x vs W->vs.size=ps.size)
  (I:(Nat->Prop)->List α->World->Prop) (Ix:Code->(Nat->Prop)->List α->World->Prop)
  (hI:Yp w.heap.size M I) (hIx:∀c,Yp w.heap.size M (Ix c))
  (own₀:Nat->Prop) (hown:∀k,own₀ k->k<w.heap.size/\¬R k) (h0:I own₀ [] w)
  (Ia:α->Act->(Nat->Prop)->List α->World->Prop) (hIa:∀x a' own pre A B,Ia x a' own pre A->(∃k,w.heap.size<k/\B.os=A.os/\B.tape=A.tape/\B.output=A.output/\B.heap.size=A.heap.size/\¬own k/\(∃L,A.heap[k]? = some (.loop L))/\∀j,j≠k->B.heap[j]? = A.heap[j]?)->Ia x a' own pre B)
  (hassign:∀(l:Nat) (own:Nat->Prop) (pre:List α) (x:α) (vs:Array Value) (W:World),I own pre W->Enc x vs W->w.heap.size<l->l<W.heap.size->Xkm R l own W->pre++[x] <+: xs ->
   assign.wpIn (Fence.wide.inRound l) 0 P (Exit.then (fun a' W'=>∃own',BodyStep own own' W W'/\Ia x a' own' pre W') (fun _ _ _=>False))
    {tmps:=(ps.zip vs).foldl (fun t (p,v)=>t.setIfInBounds p v) a.tmps,defers:=[]} W)
  (hbody:∀(l:Nat) (own:Nat->Prop) (pre:List α) (x:α) (a':Act) (W:World),Ia x a' own pre W->w.heap.size<l->l<W.heap.size->Xkm R l own W->pre++[x] <+: xs ->
   body.wpIn (Fence.wide.inRound l) 0 P (Xi5 I Ix (fun _ _=>False) own (pre++[x]) W) a' W)
  (hdone:∀(D:Nat) (own:Nat->Prop) (W:World),w.heap.size<=D->(∀k,own k->¬R k/\k<W.heap.size/\k≠D)->I own xs W->W.heap[D]? = some (.deferred (some []))->Q .normal {a with defers:={target:=.collected D,args:=#[]} :: a.defers} W)
  (hstop:∀(D:Nat) (own:Nat->Prop) (c:Code) (pre:List α) (W:World),w.heap.size<=D->(∀k,own k->¬R k/\k<W.heap.size/\k≠D)->pre <+: xs->Ix c own pre W->W.heap[D]? = some (.deferred (some []))->wpAt P f c Q {a with defers:={target:=.collected D,args:=#[]} :: a.defers} W) :
  wpAt P f (Code.rangeFunc g ps assign body) Q a w:=by
 obtain⟨rec,hrec⟩:∃rec:LoopState->Option Code->Loop,rec=fun st pe=>{state:=st,pending:=pe,fn:=f,tmps:=a.tmps,params:=ps,assign,body,defers:=w.heap.size}:=⟨_,rfl⟩
 obtain⟨W1,hW1⟩:∃W1,(w.alloc (.deferred (some []))).alloc (.loop (rec .ready none))=W1:=⟨_,rfl⟩
 have hsz:W1.heap.size=w.heap.size+2:=by rw[<- hW1];simp
 have hL1:W1.heap[w.heap.size+1]? = some (.loop (rec .ready none)):=by
  rw[<- hW1];have:=World.alloc_heap_new (w.alloc (.deferred (some []))) (.loop (rec .ready none));rwa [World.size_alloc] at this
 have hK1:W1.heap[w.heap.size]? = some (.deferred (some [])):=by
  rw[<- hW1];exact(Below.heap_alloc _ _ _ (by simp)).trans (World.alloc_heap_new w _)
 have hB1:∀k,k<w.heap.size->W1.heap[k]? = w.heap[k]? := by
  intro k hk;rw[<- hW1];exact(Below.heap_alloc _ _ _ (by simp;omega)).trans (Below.heap_alloc _ _ _ hk)
 have hI1:I own₀ [] W1:=hI own₀ [] w W1 h0 ⟨by rw[<- hW1];rfl,by rw[<- hW1];rfl,by rw[<- hW1];rfl,by omega,fun k hk _=>hB1 k hk⟩
 -- the caller's own blocks, with the loop's two
 have both:∀own:Nat->Prop,(∀k,own k->¬R k/\k≠w.heap.size/\k≠w.heap.size+1)->∀k,(own k\/k=w.heap.size\/k=w.heap.size+1)->¬R k:=by
  intro own h k hk hr;rcases hk with hk|hk|hk
  ·exact(h k hk).1 hr
  ·have:=(hR k hr).1;omega
  ·have:=(hR k hr).1;omega
 refine Vc (l:=w.heap.size+1) (mark:=[{target:=.collected w.heap.size,args:=#[]}]) (w₁:=W1) (w₁':=W1) (w₂:=W1)
  (d:={target:=.fn (.func gf) lb,args:=#[.func (.yield (w.heap.size+1)) #[] #[]]}) (gf:=gf) (args:=#[.func (.yield (w.heap.size+1)) #[] #[]]++lb) ?_ ?_ ?_ ?_
 ·rw[<- hW1,hrec];exact run_enterLoop_outer _ _ _ _ _
 ·simp only[resolve,hg];simp[go_sem]
 ·simp[invoke,go_sem,eg]
 refine(hit (w.heap.size+1) w.heap.size
  (fun own pre W=>∃o1,(∀k,own k↔(o1 k\/k=w.heap.size\/k=w.heap.size+1))/\(∀k,o1 k->¬R k/\k<W.heap.size/\k≠w.heap.size+1/\k+1≠w.heap.size+1)/\I o1 pre W/\W.heap[w.heap.size+1]? = some (.loop (rec .ready none))/\W.heap[w.heap.size]? = some (.deferred (some [])))
  (fun own pre W=>∃o1,(∀k,own k↔(o1 k\/k=w.heap.size\/k=w.heap.size+1))/\(∀k,o1 k->¬R k/\k<W.heap.size/\k≠w.heap.size+1/\k+1≠w.heap.size+1)/\∃c,Ix c o1 pre W/\W.heap[w.heap.size+1]? = some (.loop (rec .done (some c)))/\W.heap[w.heap.size]? = some (.deferred (some [])))
  (fun k=>own₀ k\/k=w.heap.size\/k=w.heap.size+1) W1 (fun k hk=>⟨(hR k hk).1,(hB1 k (hR k hk).1).trans (hR k hk).2⟩)
  (both own₀ (fun k hk=>⟨(hown k hk).2,by have:=(hown k hk).1;omega,by have:=(hown k hk).1;omega⟩)) (by omega)
  (fun k hk=>by rcases hk with h|h|h;have:=(hown k h).1;omega;omega;omega) ?_ ?_ ?_ ⟨own₀,fun _=>Iff.rfl,fun k hk=>⟨(hown k hk).2,by have:=(hown k hk).1;omega,by have:=(hown k hk).1;omega,by have:=(hown k hk).1;omega⟩,hI1,hL1,hK1⟩).mono ?_
 ·rintro own pre A B ⟨o1,ho,hn,hi,hl,hk⟩ st
  have hlt:=(Array.getElem?_eq_some_iff.1 hl).1;have hlt':=(Array.getElem?_eq_some_iff.1 hk).1
  exact⟨o1,ho,fun k hk'=>⟨(hn k hk').1,Nat.lt_of_lt_of_le (hn k hk').2.1 st.size,(hn k hk').2.2⟩,hI o1 pre A B hi ⟨st.os,st.tape,st.output,st.size,fun k hk' h=>st.block k hk' (h.imp id (fun h=>(ho k).2 (.inl h)))⟩,
   (st.block _ hlt (.inr ((ho _).2 (.inr (.inr rfl))))).trans hl,(st.block _ hlt' (.inr ((ho _).2 (.inr (.inl rfl))))).trans hk⟩
 ·rintro own pre A B ⟨o1,ho,hn,c,hi,hl,hk⟩ st
  have hlt:=(Array.getElem?_eq_some_iff.1 hl).1;have hlt':=(Array.getElem?_eq_some_iff.1 hk).1
  exact⟨o1,ho,fun k hk'=>⟨(hn k hk').1,Nat.lt_of_lt_of_le (hn k hk').2.1 st.size,(hn k hk').2.2⟩,c,hIx c o1 pre A B hi ⟨st.os,st.tape,st.output,st.size,fun k hk' h=>st.block k hk' (h.imp id (fun h=>(ho k).2 (.inl h)))⟩,
   (st.block _ hlt (.inr ((ho _).2 (.inr (.inr rfl))))).trans hl,(st.block _ hlt' (.inr ((ho _).2 (.inr (.inl rfl))))).trans hk⟩
 ·-- ONE ROUND
  rintro own pre x vs W ⟨o1,ho,hn,hi,hl,hk⟩ hpre henc hnR hlive;have hlt:w.heap.size+1<W.heap.size:=(Array.getElem?_eq_some_iff.1 hl).1;have hy:=run_yield (P:=P) (args:=vs) hl (by rw[hrec];exact hps x vs W henc);rw[hrec] at hy;refine⟨f,_,assign,body,hy,Zq hfn (wpIn_mono (hassign (w.heap.size+1) o1 pre x vs W hi henc (by omega) hlt hn hpre) ?_)⟩;rintro e a' Wa hp;cases e with
  | normal =>
   obtain⟨o2,hb2,hia⟩:=hp
   have hn2:∀k,o2 k->¬R k/\k<Wa.heap.size/\k≠w.heap.size+1/\k+1≠w.heap.size+1:=by
    intro k hk';refine⟨?_,hb2.live k hk',?_⟩
    ·intro hr
     rcases hb2.owns k hk' with h|h
     ·exact(hn k h).1 hr
     ·have:=(hR k hr).1;omega
    ·rcases hb2.owns k hk' with h|h
     ·exact(hn k h).2.2
     ·omega
   have hla:=hb2.same hl (fun h=>(hn _ h).2.2.1 rfl);have hka:=hb2.same hk (fun h=>(hn _ h).2.2.2 rfl);have hlta:w.heap.size+1<Wa.heap.size:=(Array.getElem?_eq_some_iff.1 hla).1;refine⟨_,run_beginRound hla (by rw[hrec]),?_⟩;obtain⟨Wb,hWb⟩:∃Wb,Wa.putObj (w.heap.size+1) (.loop {rec .ready none with state:=.busy})=Wb:=⟨_,rfl⟩
   rw[hWb];have hszb:Wb.heap.size=Wa.heap.size:=(by rw[<- hWb];simp);have hob:∀k,k≠w.heap.size+1->Wb.heap[k]? = Wa.heap[k]? := fun k hk'=>by rw[<- hWb];exact World.putObj_heap_other hk'
   have hlb:Wb.heap[w.heap.size+1]? = some (.loop {rec .ready none with state:=.busy}):=(by rw[<- hWb];exact World.putObj_heap_same hlta);have hkb:Wb.heap[w.heap.size]? = some (.deferred (some [])):=(hob _ (by omega)).trans hka;have hib:Ia x a' o2 pre Wb:=hIa x a' o2 pre Wa Wb hia ⟨w.heap.size+1,by omega,by rw[<- hWb];rfl,by rw[<- hWb];rfl,by rw[<- hWb];rfl,hszb,fun h=>(hn2 _ h).2.2.1 rfl,⟨_,hla⟩,hob⟩;refine wpIn_mono (hbody (w.heap.size+1) o2 pre x a' Wb hib (by omega) (by omega) (fun k hk'=>⟨(hn2 k hk').1,by have:=(hn2 k hk').2.1;omega,(hn2 k hk').2.2⟩) hpre) ?_
   -- what the round's end comes to
   have fin:∀(jump:Option Code) (o3:Nat->Prop) (W3:World),BodyStep o2 o3 Wb W3 ->
     ∃W4,(Instr.endRound (w.heap.size+1) jump).run P W3 = .ok (.bool jump.isNone) W4/\W4.heap.size=W3.heap.size/\(∀k,k≠w.heap.size+1->W4.heap[k]? = W3.heap[k]?)/\W4.os=W3.os/\W4.tape=W3.tape/\W4.output=W3.output /\
     W4.heap[w.heap.size+1]? = some (.loop (rec (if jump.isNone then .ready else .done) jump))/\W4.heap[w.heap.size]? = some (.deferred (some []))/\¬o3 (w.heap.size+1)/\¬o3 w.heap.size /\
     BodyStep own (fun k=>o3 k\/k=w.heap.size\/k=w.heap.size+1) W W4/\(∀k,o3 k->¬R k/\k<W4.heap.size/\k≠w.heap.size+1/\k+1≠w.heap.size+1):=by
    intro jump o3 W3 hb3;have hl3:=hb3.same hlb (fun h=>(hn2 _ h).2.2.1 rfl);have hk3:=hb3.same hkb (fun h=>(hn2 _ h).2.2.2 rfl);have hlt3:=(Array.getElem?_eq_some_iff.1 hl3).1;have hrun:=run_endRound (P:=P) jump hl3
    have no1:¬o3 (w.heap.size+1):=fun h=>by
     rcases hb3.owns _ h with h|h
     ·exact(hn2 _ h).2.2.1 rfl
     ·omega
    have no2:¬o3 w.heap.size:=fun h=>by
     rcases hb3.owns _ h with h|h
     ·exact(hn2 _ h).2.2.2 rfl
     ·omega
    have hsub:∀k,o3 k->o1 k\/W.heap.size<=k:=by
     intro k h;rcases hb3.owns k h with h|h
     ·exact hb2.owns k h
     ·exact .inr (by have:=hb2.size;omega)
    refine⟨_,hrun,by simp,fun k hk'=>World.putObj_heap_other hk',rfl,rfl,rfl,?_,(World.putObj_heap_other (by omega)).trans hk3,no1,no2,?_,?_⟩
    ·rw[World.putObj_heap_same hlt3,hrec]
    ·refine⟨?_,?_,?_,?_,?_,?_,?_⟩
     ·exact hb3.os.trans ((by rw[<- hWb];rfl:Wb.os=Wa.os).trans hb2.os)
     ·exact hb3.tape.trans ((by rw[<- hWb];rfl:Wb.tape=Wa.tape).trans hb2.tape)
     ·exact hb3.output.trans ((by rw[<- hWb];rfl:Wb.output=Wa.output).trans hb2.output)
     ·have:=hb2.size;have:=hb3.size;simp;omega
     ·intro k hk' hno
      have h1:k≠w.heap.size+1:=fun e=>hno ((ho k).2 (.inr (.inr e)));have h2:¬o1 k:=fun e=>hno ((ho k).2 (.inl e))
      have h3:¬o2 k:=fun e=>by
       rcases hb2.owns k e with h|h
       ·exact h2 h
       ·omega
      rw[World.putObj_heap_other h1,hb3.block k (by have:=hb2.size;omega) h3,hob k h1];exact hb2.block k hk' h2
     ·intro k hk'
      rcases hk' with h|h|h
      ·rcases hsub k h with h|h
       ·exact .inl ((ho k).2 (.inl h))
       ·exact .inr h
      ·exact .inl ((ho k).2 (.inr (.inl h)))
      ·exact .inl ((ho k).2 (.inr (.inr h)))
     ·intro k hk'
      rw[World.putObj_size];rcases hk' with h|h|h
      ·exact hb3.live k h
      ·omega
      ·omega
    ·intro k h
     refine⟨?_,by rw[World.putObj_size];exact hb3.live k h,fun e=>no1 (e ▸ h),fun e=>no2 ((show k=w.heap.size by omega) ▸ h)⟩;intro hr;rcases hsub k h with h|h
     ·exact(hn k h).1 hr
     ·have:=(hR k hr).1;omega
   have turn:∀(W3 W4:World) (o3:Nat->Prop),W4.heap.size=W3.heap.size->(∀k,k≠w.heap.size+1->W4.heap[k]? = W3.heap[k]?)->W4.os=W3.os->W4.tape=W3.tape->W4.output=W3.output->¬o3 (w.heap.size+1)->IterStep w.heap.size M o3 W3 W4 :=
    fun W3 W4 o3 h1 h2 h3 h4 h5 h6=>⟨h3,h4,h5,by omega,fun k _ h=>h2 k (by rintro rfl;rcases h with h|h;omega;exact h6 h)⟩
   rintro e a3 W3 hp;cases e with
   | normal =>
    obtain⟨o3,hb3,hi3⟩:=hp;obtain⟨W4,hr,h1,h2,h3,h4,h5,h6,h7,h8,h9,h10,h11⟩:=fin none o3 W3 hb3;exact⟨_,W4,hr,.inl ⟨_,h10,.inl ⟨rfl,o3,fun _=>Iff.rfl,h11,hI o3 _ W3 W4 hi3 (turn W3 W4 o3 h1 h2 h3 h4 h5 h8),h6,h7⟩⟩⟩
   | ret =>
    obtain⟨o3,hb3,hi3⟩:=hp;obtain⟨W4,hr,h1,h2,h3,h4,h5,h6,h7,h8,h9,h10,h11⟩:=fin (some .ret) o3 W3 hb3;exact⟨_,W4,hr,.inl ⟨_,h10,.inr ⟨rfl,o3,fun _=>Iff.rfl,h11,_,hIx _ o3 _ W3 W4 hi3 (turn W3 W4 o3 h1 h2 h3 h4 h5 h8),h6,h7⟩⟩⟩
   | exit id =>
    obtain⟨o3,hb3,hi3⟩:=hp;obtain⟨W4,hr,h1,h2,h3,h4,h5,h6,h7,h8,h9,h10,h11⟩:=fin (some (.exit id)) o3 W3 hb3;exact⟨_,W4,hr,.inl ⟨_,h10,.inr ⟨rfl,o3,fun _=>Iff.rfl,h11,_,hIx _ o3 _ W3 W4 hi3 (turn W3 W4 o3 h1 h2 h3 h4 h5 h8),h6,h7⟩⟩⟩
   | goto t =>
    obtain⟨o3,hb3,hi3⟩:=hp;obtain⟨W4,hr,h1,h2,h3,h4,h5,h6,h7,h8,h9,h10,h11⟩:=fin (some (.goto t)) o3 W3 hb3;exact⟨_,W4,hr,.inl ⟨_,h10,.inr ⟨rfl,o3,fun _=>Iff.rfl,h11,_,hIx _ o3 _ W3 W4 hi3 (turn W3 W4 o3 h1 h2 h3 h4 h5 h8),h6,h7⟩⟩⟩
   | panic ch=>exact hp.2.2.elim
   | outgrown=>exact hp.elim
  | exit id=>exact hp.elim
  | goto t=>exact hp.elim
  | ret=>exact hp.elim
  | panic ch=>exact hp.elim
  | outgrown=>exact hp.elim
 ·-- BEHIND THE ITERATOR
  rintro e W2 h
  have own_put:∀(o1:Nat->Prop) (X:World) (o:Obj),(∀k,o1 k->¬R k/\k<X.heap.size/\k≠w.heap.size+1/\k+1≠w.heap.size+1)->∀k,o1 k->¬R k/\k<(X.putObj (w.heap.size+1) o).heap.size/\k≠w.heap.size :=
   fun o1 X o hn k hk=>⟨(hn k hk).1,by rw[World.putObj_size];exact(hn k hk).2.1,by have:=(hn k hk).2.2.2;omega⟩
  rcases h with ⟨hpn,⟨v,rfl⟩,own,o1,ho,hn,hi,hl,hk⟩|⟨⟨v,rfl⟩,own,pre,hpre,o1,ho,hn,c,hi,hl,hk⟩|⟨ch,rfl,hp⟩|⟨ch,hpn,rfl,own,o1,ho,hn,hi,hl,hk⟩
  ·have hrun:=run_endLoop (P:=P) hl (by rw[hrec];simp)
   refine⟨none,_,by rw[hrec] at hrun;exact hrun,?_⟩;exact hdone _ o1 _ (Nat.le_refl _) (own_put o1 _ _ hn) (hI o1 _ W2 _ hi (IterStep.of_putObj _ (by omega) (fun h=>(hn _ h).2.2.1 rfl))) ((World.putObj_heap_other (by omega)).trans hk)
  ·have hrun:=run_endLoop (P:=P) hl (by rw[hrec];simp)
   refine⟨some c,_,by rw[hrec] at hrun;exact hrun,?_⟩;exact hstop _ o1 c pre _ (Nat.le_refl _) (own_put o1 _ _ hn) hpre (hIx c o1 pre W2 _ hi (IterStep.of_putObj _ (by omega) (fun h=>(hn _ h).2.2.1 rfl))) ((World.putObj_heap_other (by omega)).trans hk)
  ·exact hp.elim
  ·cases hpn
end Go.Han
namespace Go.Proofs.YtolpbjjapodmnaaGreatDoor
open Go.RowKit Go.Han
set_option maxRecDepth 100000
attribute [local irreducible] wpStill wpQuiet
set_option maxHeartbeats 8000000
section
attribute [local go_sem] Oper.semAt_some
structure LayB (W:World) (N cb:Nat) (A:Option Addr) (n cp:Nat) (i k:Int):Prop where
 c:W.heap[N]? = some (.cells #[.pointer (some ⟨cb,0,none⟩)] 115 (0,0))
 parts:W.heap[N+1]? = some (.cells #[.slice A n cp] 76 (0,0))
 frm:W.heap[N+1+1]? = some (.cells #[.int .i64 i] 3 (0,0))
 unt:W.heap[N+1+1+1]? = some (.cells #[.int .i64 k] 3 (0,0))
 lay:W.heap[N+1+1+1+1+1]? = some (.cells #[.func (.func 218) #[] #[.pointer (some ⟨N+1,0,none⟩),.pointer (some ⟨N+1+1+1,0,none⟩),.pointer (some ⟨N+1+1+1+1,0,none⟩),.pointer (some ⟨N,0,none⟩),.pointer (some ⟨N+1+1+1+1+1,0,none⟩)]] 278 (0,0))
def Xhn (cb:Nat) (A:Option Addr) (n cp:Nat) (i k:Int) (w:World) (e:Ending) (w':World):Prop :=
 e = .returned (.func (.func 219) #[] #[.pointer (some ⟨w.heap.size+1+1+1+1+1,0,none⟩),.pointer (some ⟨w.heap.size+1+1,0,none⟩)])/\LayB w' w.heap.size cb A n cp i k/\w'.heap[w.heap.size+1+1+1+1]? = some (.cells #[.slice none 0 0] 49 (0,0))/\Below w.heap.size w w'/\w'.heap.size=w.heap.size+1+1+1+1+1+1
theorem Xz1 (cb:Nat) (A:Option Addr) (n cp:Nat) (i k:Int) (w:World) :
  Calls Tryz.prog 180 #[.pointer (some ⟨cb,0,none⟩),.slice A n cp,.int .i64 i,.int .i64 k] w (Xhn cb A n cp i k w):=by
 have hmf:∀(fn:Fn) (first cap:Array Value) (w:World),(Instr.makeFunc fn first cap).run Tryz.prog w = .ok (.func fn first cap) w:=fun _ _ _ _=>rfl;obtain⟨W6,hW6⟩:∃W6,((((((w.alloc (.cells #[.pointer (some ⟨cb,0,none⟩)] 115)).alloc (.cells #[.slice A n cp] 76)).alloc (.cells #[.int .i64 i] 3)).alloc (.cells #[.int .i64 k] 3)).alloc (.cells #[.slice none 0 0] 49)).alloc (.cells #[.nilFunc] 278))=W6:=⟨_,rfl⟩
 have hz6:W6.heap.size=w.heap.size+1+1+1+1+1+1:=by rw[<- hW6];simp only[World.size_alloc]
 have hB6:Below w.heap.size w W6:=by rw[<- hW6];exact Xg (Xg (Xg (Xg (Xg ba_q _) _) _) _) _
 have f0:W6.heap[w.heap.size]? = some (.cells #[.pointer (some ⟨cb,0,none⟩)] 115 (0,0)):=by
  rw[<- hW6];iterate 5 refine(Below.heap_alloc _ _ _ (by simp only[World.size_alloc];omega)).trans ?_
  exact World.alloc_heap_new _ _
 have f1:W6.heap[w.heap.size+1]? = some (.cells #[.slice A n cp] 76 (0,0)):=by
  rw[<- hW6];iterate 4 refine(Below.heap_alloc _ _ _ (by simp only[World.size_alloc];omega)).trans ?_
  exact Xo _ _ _ (by simp)
 have f2:W6.heap[w.heap.size+1+1]? = some (.cells #[.int .i64 i] 3 (0,0)):=by
  rw[<- hW6];iterate 3 refine(Below.heap_alloc _ _ _ (by simp only[World.size_alloc];omega)).trans ?_
  exact Xo _ _ _ (by simp)
 have f3:W6.heap[w.heap.size+1+1+1]? = some (.cells #[.int .i64 k] 3 (0,0)):=by
  rw[<- hW6];iterate 2 refine(Below.heap_alloc _ _ _ (by simp only[World.size_alloc];omega)).trans ?_
  exact Xo _ _ _ (by simp)
 have f4:W6.heap[w.heap.size+1+1+1+1]? = some (.cells #[.slice none 0 0] 49 (0,0)):=by
  rw[<- hW6];refine(Below.heap_alloc _ _ _ (by simp only[World.size_alloc];omega)).trans ?_;exact Xo _ _ _ (by simp)
 have f5:W6.heap[w.heap.size+1+1+1+1+1]? = some (.cells #[.nilFunc] 278 (0,0)):=by
  rw[<- hW6];exact Xo _ _ _ (by simp)
 have c5:=Xe f5;have z5:=Xf f5 0
 have hst:(store ⟨w.heap.size+1+1+1+1+1,0,none⟩ (.func (.func 218) #[] #[.pointer (some ⟨w.heap.size+1,0,none⟩),.pointer (some ⟨w.heap.size+1+1+1,0,none⟩),.pointer (some ⟨w.heap.size+1+1+1+1,0,none⟩),.pointer (some ⟨w.heap.size,0,none⟩),.pointer (some ⟨w.heap.size+1+1+1+1+1,0,none⟩)])).run Tryz.prog W6 = .ok () (W6.setCell ⟨w.heap.size+1+1+1+1+1,0,none⟩ (.func (.func 218) #[] #[.pointer (some ⟨w.heap.size+1,0,none⟩),.pointer (some ⟨w.heap.size+1+1+1,0,none⟩),.pointer (some ⟨w.heap.size+1+1+1+1,0,none⟩),.pointer (some ⟨w.heap.size,0,none⟩),.pointer (some ⟨w.heap.size+1+1+1+1+1,0,none⟩)])):=by
  rw[run_store _ _ _ _ _ rfl];rw[c5,z5];rfl
 have hfin:Xhn cb A n cp i k w (.returned (.func (.func 219) #[] #[.pointer (some ⟨w.heap.size+1+1+1+1+1,0,none⟩),.pointer (some ⟨w.heap.size+1+1,0,none⟩)])) (W6.setCell ⟨w.heap.size+1+1+1+1+1,0,none⟩ (.func (.func 218) #[] #[.pointer (some ⟨w.heap.size+1,0,none⟩),.pointer (some ⟨w.heap.size+1+1+1,0,none⟩),.pointer (some ⟨w.heap.size+1+1+1+1,0,none⟩),.pointer (some ⟨w.heap.size,0,none⟩),.pointer (some ⟨w.heap.size+1+1+1+1+1,0,none⟩)])):=by
  have ot:∀ {b:Nat} {o:Obj},W6.heap[b]? = some o->b<w.heap.size+1+1+1+1+1->(W6.setCell ⟨w.heap.size+1+1+1+1+1,0,none⟩ (.func (.func 218) #[] #[.pointer (some ⟨w.heap.size+1,0,none⟩),.pointer (some ⟨w.heap.size+1+1+1,0,none⟩),.pointer (some ⟨w.heap.size+1+1+1+1,0,none⟩),.pointer (some ⟨w.heap.size,0,none⟩),.pointer (some ⟨w.heap.size+1+1+1+1+1,0,none⟩)])).heap[b]? = some o:=fun {b o} h hb=>(Below.heap_setCell _ _ _ _ (by show b≠w.heap.size+1+1+1+1+1;omega)).trans h;refine⟨rfl,⟨ot f0 (by omega),ot f1 (by omega),ot f2 (by omega),ot f3 (by omega),Xs f5 0 _⟩,ot f4 (by omega),hB6.setCell (p:=⟨w.heap.size+1+1+1+1+1,0,none⟩) (by show w.heap.size<=w.heap.size+1+1+1+1+1;omega) _,by simpa[World.setCell] using hz6⟩
 have HF:=Xa hfin;clear f0 f1 f2 f3 f4 f5 hz6 hB6 hfin;go_enter Tryz.func180,Tryz.ntmps180
 go_wp2_with fail
 go_ret;exact HF.out
end
def EncW (es:List Nat) (vs:Array Value) (W:World):Prop:=∃A cp,vs=#[.slice A es.length cp]/\Rd W A ((es.map (fun m:Nat=>(m:Int))).flatMap intC)/\es.length<=cp/\(∀b off,A=some ⟨b,off,none⟩->0<es.length->∃cs fr,W.heap[b]? = some (.cells cs 3 fr))
structure LaySt (w0:World) (N B0 B1:Nat) (R:Nat->Prop) (J:(Nat->Prop)->List (List Nat)->World->Prop) (own:Nat->Prop) (ys:List (List Nat)) (es:List Nat) (v:Value) (W:World):Prop where
 j:J own ys W
 keep:∀b,R b->b≠N+1+1+1+1->W.heap[b]? = w0.heap[b]?
 apart:∀b,own b->¬R b
 live:∀b,own b->b<W.heap.size
 size:B1<=W.heap.size
 box:W.heap[N+1+1+1+1]? = some (.cells #[v] 49 (0,0))
 row:OwnI W B1 v (es.map (fun m:Nat=>(m:Int)))
 free:∀g,v.ownBlock=some g->¬own g
theorem LaySt.ext {w0:World} {N B0 B1:Nat} {R M:Nat->Prop} {J:(Nat->Prop)->List (List Nat)->World->Prop} {own:Nat->Prop} {ys:List (List Nat)} {es:List Nat} {v:Value} {W W':World} (h:LaySt w0 N B0 B1 R J own ys es v W) (hJ:Yp B0 M J) (ha:∀b,R b->b<W.heap.size) (hb:Below W.heap.size W W'):LaySt w0 N B0 B1 R J own ys es v W' :=
 ⟨hJ own ys W W' h.j (IterStep.of_below hb),fun b hR hn=>(hb.block b (ha b hR)).trans (h.keep b hR hn),h.apart,fun b ho=>Nat.lt_of_lt_of_le (h.live b ho) hb.size,Nat.le_trans h.size hb.size,(hb.block _ (Xd h.box)).trans h.box,h.row.ext hb,h.free⟩
theorem LaySt.enc {w0:World} {N B0 B1:Nat} {R:Nat->Prop} {J:(Nat->Prop)->List (List Nat)->World->Prop} {own:Nat->Prop} {ys:List (List Nat)} {es:List Nat} {v:Value} {W:World} (h:LaySt w0 N B0 B1 R J own ys es v W):EncW es #[v] W:=by
 obtain⟨A,cp,rfl,hr,_⟩:=h.row.form (by decide);rw[List.length_map];refine⟨A,cp,rfl,hr,?_,fun b off hA h0=>?_⟩
 ·rcases h.row.2 with ⟨h1,h2⟩|⟨g9,c9,cur,h1,_,_,h4,h5,_⟩
  ·injection h1 with _ h3 h4
   rw[List.length_map] at h3;omega
  ·injection h1 with _ h2 h6
   subst h6;rw[List.length_map] at h4;exact h4
 ·rcases h.row.2 with ⟨h1,h2⟩|⟨g9,c9,cur,h1,_,h3,_⟩
  ·injection h1 with _ h3 _
   rw[List.length_map] at h3;omega
  ·injection h1 with h1 _ _
   rw[hA] at h1;cases h1;exact⟨_,_,h3⟩
section
variable {w0:World} {N B0 B1:Nat} {R M:Nat->Prop} {J:(Nat->Prop)->List (List Nat)->World->Prop} {own:Nat->Prop} {ys:List (List Nat)} {es:List Nat} {v:Value} {W:World}
theorem LaySt.push (h:LaySt w0 N B0 B1 R J own ys es v W) (hJ:Yp B0 M J) (hM:M (N+1+1+1+1)) (hRN:R (N+1+1+1+1)) (hRB:∀k,R k->k<B0) (hB:B0<=B1) {W1:World} {v':Value} {m:Nat}
  (ho:OwnI W1 B1 v' ((es++[m]).map (fun m:Nat=>(m:Int)))) (hg:W.grownBy W1 v.ownBlock) (hv:v'.ownBlock=v.ownBlock\/v'.ownBlock=some W.heap.size) :
  LaySt w0 N B0 B1 R J own ys (es++[m]) v' (W1.setCell ⟨N+1+1+1+1,0,none⟩ v'):=by
 have hN:=hRB _ hRN;have hother:∀k,k≠N+1+1+1+1->(W1.setCell ⟨N+1+1+1+1,0,none⟩ v').heap[k]? = W1.heap[k]? := fun k hk=>Below.heap_setCell _ _ _ _ hk;have hz:(W1.setCell ⟨N+1+1+1+1,0,none⟩ v').heap.size=W1.heap.size:=by simp[World.setCell]
 have hrow:∀g,v.ownBlock=some g->B1<=g/\g<W.heap.size:=fun g hg=>h.row.lt g hg;have hsz:=h.size;refine⟨hJ own ys W _ h.j ⟨hg.os,hg.tape,hg.output,by rw[hz];exact hg.size,fun k hk hc=>?_⟩,fun b hR hn=>?_,h.apart,fun b hb=>by rw[hz];exact Nat.lt_of_lt_of_le (h.live b hb) hg.size,by rw[hz];exact Nat.le_trans hsz hg.size,?_,ho.block fun g hg'=>hother g ?_,fun g hg'=>?_⟩
 ·have hne:k≠N+1+1+1+1:=by
   rintro rfl;rcases hc with hc|hc
   ·exact hc.2 hM
   ·exact h.apart _ hc hRN
  refine(hother k hne).trans (hg.block k hk fun e=>?_);rcases hc with hc|hc
  ·have:=(hrow k e.symm).1;omega
  ·exact h.free k e.symm hc
 ·refine(hother b hn).trans ((hg.block b (by have:=hRB b hR;omega) fun e=>?_).trans (h.keep b hR hn))
  have:=(hrow b e.symm).1;have:=hRB b hR;omega
 ·have hb1:W1.heap[N+1+1+1+1]? = some (.cells #[v] 49 (0,0)):=(hg.block _ (Xd h.box) fun e=>by have:=(hrow _ e.symm).1;omega).trans h.box
  exact Xs hb1 0 _
 ·have:=(ho.lt g hg').1;omega
 ·rcases hv with e|e
  ·exact h.free g (e ▸ hg')
  ·rw[e] at hg'
   cases hg';intro hc;have:=h.live _ hc;omega
theorem LaySt.form {m:Nat} (h:LaySt w0 N B0 B1 R J own ys (es++[m]) v W):∃g cp,v = .slice (some ⟨g,0,none⟩) (es.length+1) cp/\es.length+1<=cp:=by
 rcases h.row.2 with ⟨h1,h2⟩|⟨g9,c9,cur,h1,h2,h3,h4,h5,_⟩
 ·simp at h2
 ·rw[List.length_map,List.length_append] at h1 h4
  exact⟨g9,c9,h1,h4⟩
theorem LaySt.pop {m g cp:Nat} (h:LaySt w0 N B0 B1 R J own ys (es++[m]) (.slice (some ⟨g,0,none⟩) (es.length+1) cp) W) (hJ:Yp B0 M J) (hM:M (N+1+1+1+1)) (hRN:R (N+1+1+1+1)) (hRB:∀k,R k->k<B0) (hB:B0<=B1) :
  LaySt w0 N B0 B1 R J own ys es (.slice (some ⟨g,0,none⟩) es.length cp) (W.setCell ⟨N+1+1+1+1,0,none⟩ (.slice (some ⟨g,0,none⟩) es.length cp)):=by
 have hN:=hRB _ hRN;have hother:∀k,k≠N+1+1+1+1->(W.setCell ⟨N+1+1+1+1,0,none⟩ (.slice (some ⟨g,0,none⟩) es.length cp)).heap[k]? = W.heap[k]? := fun k hk=>Below.heap_setCell _ _ _ _ hk;have hz:(W.setCell ⟨N+1+1+1+1,0,none⟩ (.slice (some ⟨g,0,none⟩) es.length cp)).heap.size=W.heap.size:=by simp[World.setCell]
 have hrow:=h.row.lt g rfl;have hsz:=h.size;refine⟨hJ own ys W _ h.j ⟨rfl,rfl,rfl,by rw[hz];exact Nat.le_refl _,fun k hk hc=>hother k ?_⟩,fun b hR hn=>(hother b hn).trans (h.keep b hR hn),h.apart,fun b hb=>by rw[hz];exact h.live b hb,by rw[hz];exact hsz,Xs h.box 0 _,?_,fun g' hg'=>h.free g' hg'⟩
 ·rintro rfl
  rcases hc with hc|hc
  ·exact hc.2 hM
  ·exact h.apart _ hc hRN
 ·have ho:OwnI W B1 (.slice (some ⟨g,0,none⟩) es.length cp) (es.map (fun m:Nat=>(m:Int))):=by
   obtain⟨_,h2⟩:=h.row;refine⟨Vj _,?_⟩;rcases h2 with ⟨_,h2⟩|⟨g9,c9,cur,h1,h2,h3,h4,h5,h6,h7⟩
   ·simp at h2
   ·injection h1 with e1 _ e3
    cases e1;subst e3;refine .inr ⟨g,cp,cur,by rw[List.length_map],h2,h3,by rw[List.length_map];rw[List.length_map,List.length_append] at h4;omega,h5,h6,?_⟩;rw[List.length_map,Nat.mul_one];have h8:=congrArg (List.take es.length) h7;rw[List.take_take,List.length_map,List.length_append,Nat.mul_one,Nat.min_eq_left (by omega),List.map_append,List.flatMap_append] at h8;rw[h8,List.take_left' (by rw[Vj,List.length_map,Nat.mul_one])]
  refine ho.block fun g' hg'=>hother g' ?_;have:=(ho.lt g' hg').1;omega
theorem LaySt.body {own':Nat->Prop} {W':World} {y:List Nat} (h:LaySt w0 N B0 B1 R J own ys es v W) (hRN:R (N+1+1+1+1)) (hRB:∀k,R k->k<B0) (hB:B0<=B1) (hb:BodyStep own own' W W') (hj:J own' (ys++[y]) W'):LaySt w0 N B0 B1 R J own' (ys++[y]) es v W':=by
 have hsz:=h.size;have hR:∀b,R b->W'.heap[b]? = W.heap[b]? := fun b hr=>hb.block b (by have:=hRB b hr;omega) fun ho=>h.apart b ho hr;refine⟨hj,fun b hr hn=>(hR b hr).trans (h.keep b hr hn),fun b ho hr=>?_,hb.live,Nat.le_trans hsz hb.size,(hR _ hRN).trans h.box,h.row.block fun g hg=>hb.block g (h.row.lt g hg).2 (h.free g hg),fun g hg ho=>?_⟩
 ·rcases hb.owns b ho with h1|h1
  ·exact h.apart b h1 hr
  ·have:=hRB b hr;omega
 ·rcases hb.owns g ho with h1|h1
  ·exact h.free g hg h1
  ·have:=(h.row.lt g hg).2;omega
end
section
attribute [local go_sem] Oper.semAt_some
theorem Xsr (A:Option Addr) (cp n k:Nat) (W:World) (h:k<=n) (hc:n<=cp) :
  (Instr.slice 49 (.slice A n cp) none (some (.int .i64 k)) none).run Tryz.prog W = .ok (.slice (subA A cp 0 1) k cp) W:=by
 have e:=run_slice_h (P:=Tryz.prog) (w:=W) 49 A n cp (by rw[Tryz.underlying49];rfl) .i64 (k:Int) (by omega) (by omega);rw[e];have h2:((k:Int)).toNat=k:=by omega
 rw[h2];have h3:(Go.sizeOf (Tryz.prog.elem 49)).run Tryz.prog W = .ok 1 W:=by kernel_rfl
 rw[h3];rfl
theorem Xsq (g cp n k:Nat) (W:World) (h:k<=n) (hc:n<=cp) :
  (Instr.slice 49 (.slice (some ⟨g,0,none⟩) n cp) none (some (.int .i64 k)) none).run Tryz.prog W = .ok (.slice (some ⟨g,0,none⟩) k cp) W:=by
 have h1:=Xsr (some ⟨g,0,none⟩) cp n k W h hc
 rwa [show subA (some ⟨g,0,none⟩) cp 0 1=some ⟨g,0,none⟩ from by unfold subA;split<;>simp[Addr.add]] at h1
structure LayEnv (w0:World) (N cb kb wb top:Nat) (g:Gram) (its:SlS ItemG) (n:Nat) (A:Option Addr) (cp:Nat) (parts:List PartG) (i0 k:Nat) (R:Nat->Prop):Prop where
 box:LayB w0 N cb A parts.length cp i0 k
 chart:Xdf w0 cb g its n kb wb
 words:WordsM (fun b=>b<top/\b≠kb) w0 wb its.xs
 rd:Rd w0 A (parts.flatMap PartG.cells)
 far:∀b off,A=some ⟨b,off,none⟩->b<top/\b≠kb
 rN:∀b,N<=b->b<=N+1+1+1+1+1->R b
 rt:∀b,b<top->b≠kb->R b
 tN:top<=N
 hc:cb<top/\cb≠kb
 hw:wb<top/\wb≠kb
structure LayAt (W:World) (N cb kb wb top:Nat) (g:Gram) (its:SlS ItemG) (n:Nat) (A:Option Addr) (cp:Nat) (parts:List PartG) (k:Nat):Prop where
 c:W.heap[N]? = some (.cells #[.pointer (some ⟨cb,0,none⟩)] 115 (0,0))
 p:W.heap[N+1]? = some (.cells #[.slice A parts.length cp] 76 (0,0))
 u:W.heap[N+1+1+1]? = some (.cells #[.int .i64 k] 3 (0,0))
 l:W.heap[N+1+1+1+1+1]? = some (.cells #[.func (.func 218) #[] #[.pointer (some ⟨N+1,0,none⟩),.pointer (some ⟨N+1+1+1,0,none⟩),.pointer (some ⟨N+1+1+1+1,0,none⟩),.pointer (some ⟨N,0,none⟩),.pointer (some ⟨N+1+1+1+1+1,0,none⟩)]] 278 (0,0))
 chart:Xdf W cb g its n kb wb
 words:WordsM (fun b=>b<top/\b≠kb) W wb its.xs
 rd:Rd W A (parts.flatMap PartG.cells)
 top:top<=N
theorem LayEnv.at_ {w0 W:World} {N cb kb wb top:Nat} {g:Gram} {its:SlS ItemG} {n:Nat} {A:Option Addr} {cp:Nat} {parts:List PartG} {i0 k:Nat} {R:Nat->Prop} (h:LayEnv w0 N cb kb wb top g its n A cp parts i0 k R)
  (hk:∀b,R b->b≠N+1+1+1+1->W.heap[b]? = w0.heap[b]?) (hz:w0.heap.size<=W.heap.size):LayAt W N cb kb wb top g its n A cp parts k:=by
 have hT:=h.tN;have ht:∀b,b<top->b≠kb->W.heap[b]? = w0.heap[b]? := fun b h1 h2=>hk b (h.rt b h1 h2) (by omega);refine⟨(hk _ (h.rN _ (by omega) (by omega)) (by omega)).trans h.box.c,(hk _ (h.rN _ (by omega) (by omega)) (by omega)).trans h.box.parts,(hk _ (h.rN _ (by omega) (by omega)) (by omega)).trans h.box.unt,(hk _ (h.rN _ (by omega) (by omega)) (by omega)).trans h.box.lay,(ht cb h.hc.1 h.hc.2).trans h.chart,h.words.keep (ht wb h.hw.1 h.hw.2) (fun b hb=>ht b hb.1 hb.2) hz,?_,hT⟩;rcases h.rd with h0|⟨b,off,rfl,hlt,hc⟩
 ·exact .inl h0
 ·have hf:=h.far b off rfl
  exact .inr ⟨b,off,rfl,Nat.lt_of_lt_of_le hlt hz,fun j u hu=>(World.cell?_of_block (w:=w0) (ht b hf.1 hf.2)).trans (hc j u hu)⟩
theorem LayAt.ext {W V:World} {N cb kb wb top:Nat} {g:Gram} {its:SlS ItemG} {n:Nat} {A:Option Addr} {cp:Nat} {parts:List PartG} {k:Nat} (h:LayAt W N cb kb wb top g its n A cp parts k) (hb:Below W.heap.size W V):LayAt V N cb kb wb top g its n A cp parts k :=
 have hlt:=Xd h.c;have hT:=h.top
 ⟨(hb.block _ (Xd h.c)).trans h.c,(hb.block _ (Xd h.p)).trans h.p,(hb.block _ (Xd h.u)).trans h.u,(hb.block _ (Xd h.l)).trans h.l,(hb.block _ (Xd h.chart)).trans h.chart,
  h.words.keep (hb.block _ h.words.lt) (fun b hs=>hb.block b (by omega)) hb.size,h.rd.ext hb,hT⟩
def LayPost (w0:World) (N B0 B1:Nat) (R:Nat->Prop) (J Jx:(Nat->Prop)->List (List Nat)->World->Prop) (xs ys:List (List Nat)) (es:List Nat) (ways:List (List Nat)) (e:Ending) (W':World):Prop :=
 (e = .returned (.bool true)/\∃own' v',LaySt w0 N B0 B1 R J own' (ys++ways.map (es++·)) es v' W')\/(e = .returned (.bool false)/\∃own' pre,pre <+: xs/\Jx own' pre W')
def Xa9 (st:Int->ByteArray->Bool) (ps:List PartG) (i k d:Nat):List (List Nat):=(List.range' (i+1) d).flatMap fun m=>(Ya st ps m k).map (m :: ·)
theorem Xg1 (st:Int->ByteArray->Bool) (ps:List PartG) (i k d:Nat):Xa9 st ps i k (d+1)=Xa9 st ps i k d++(Ya st ps (i+1+d) k).map ((i+1+d) :: ·):=by
 unfold Xa9;rw[List.range'_concat,List.flatMap_append];simp
theorem Xs9 (st:Int->ByteArray->Bool) (ps:List PartG) (i k:Nat) {d d':Nat} (h:d<=d'):Xa9 st ps i k d <+: Xa9 st ps i k d':=by
 obtain⟨e,rfl⟩:=Nat.le.dest h
 induction e with
 | zero=>exact List.prefix_refl _
 | succ e ih=>exact(ih (by omega)).trans ⟨_,(Xg1 st ps i k (d+e)).symm⟩
theorem Xz2 (st:Int->ByteArray->Bool) {q:PartG} (hq:¬q.text.size≠0) (ps:List PartG) (i k:Nat) (h:¬k<i+(ps.length+1)):Ya st (q :: ps) i k=Xa9 st ps i k (k-ps.length-i):=by
 rw[Ya,if_neg h,if_neg hq];rfl
theorem Xv9 (st:Int->ByteArray->Bool) {q:PartG} (hq:q.text.size≠0) (ps:List PartG) (i k:Nat) (h:¬k<i+(ps.length+1)):Ya st (q :: ps) i k=if st i q.text=true then Ya st ps (i+1) k else []:=by
 rw[Ya,if_neg h,if_pos hq]
theorem Xrm (st:Int->ByteArray->Bool) (q:PartG) (ps:List PartG) (i k:Nat) (h:k<i+(ps.length+1)):Ya st (q :: ps) i k=[]:=by
 rw[Ya,if_pos h]
theorem X2a {ys xs a b:List (List Nat)} {es:List Nat} (h:ys++a.map (es++·) <+: xs) (hb:b <+: a):ys++b.map (es++·) <+: xs:=by
 obtain⟨t,rfl⟩:=hb;refine List.IsPrefix.trans ?_ h;rw[List.map_append,<- List.append_assoc];exact List.prefix_append _ _
theorem Xug (ys a b:List (List Nat)) (es:List Nat) (m:Nat):(ys++a.map (es++·))++b.map ((es++[m])++·)=ys++(a++b.map (m :: ·)).map (es++·):=by
 rw[List.map_append,List.map_map,List.append_assoc]
 congr 2
 exact List.map_congr_left fun z _=>by simp
theorem LaySt.boxG {w0:World} {N B0 B1:Nat} {R:Nat->Prop} {J:(Nat->Prop)->List (List Nat)->World->Prop} {own:Nat->Prop} {ys:List (List Nat)} {es:List Nat} {v:Value} {W W1:World} (h:LaySt w0 N B0 B1 R J own ys es v W) (_:R (N+1+1+1+1)) (_:∀k,R k->k<B0) (hB:B0<=B1) (hg:W.grownBy W1 v.ownBlock) {b:Nat} {o:Obj} (hb:W.heap[b]? = some o) (hl:b<B0):W1.heap[b]? = some o :=
 (hg.block b (Xd hb) fun e=>by have:=(h.row.lt b e.symm).1;omega).trans hb
theorem LayPost.two {w0:World} {N B0 B1:Nat} {R:Nat->Prop} {J Jx:(Nat->Prop)->List (List Nat)->World->Prop} {xs ys:List (List Nat)} {es:List Nat} {ways:List (List Nat)} {e:Ending} {W':World} (h:LayPost w0 N B0 B1 R J Jx xs ys es ways e W') :
  (e = .returned (.bool true)/\∃own' v',LaySt w0 N B0 B1 R J own' (ys++ways.map (es++·)) es v' W')\/(e = .returned (.bool false)/\∃own' pre,pre <+: xs/\Jx own' pre W'):=h
section
variable {w0:World} {N B0 B1 cb kb wb top:Nat} {R M:Nat->Prop} {J Jx:(Nat->Prop)->List (List Nat)->World->Prop} {l':Nat} {xs:List (List Nat)} {g:Gram} {its:SlS ItemG} {n:Nat} {A:Option Addr} {cp:Nat} {parts:List PartG} {i0 k:Nat}
structure Xe0 (w0:World) (N B0 B1 cb kb wb top:Nat) (R M:Nat->Prop) (J Jx:(Nat->Prop)->List (List Nat)->World->Prop) (l':Nat) (xs:List (List Nat)) (g:Gram) (its:SlS ItemG) (n:Nat) (A:Option Addr) (cp:Nat) (parts:List PartG) (i0 k:Nat):Prop where
 env:LayEnv w0 N cb kb wb top g its n A cp parts i0 k R
 size:w0.heap.size<=B1
 rb:∀b,R b->b<B0
 bb:B0<=B1
 st:Yp B0 M J
 m:M (N+1+1+1+1)
 y:∀own pre x vs W1,J own pre W1->pre++[x] <+: xs->EncW x vs W1->(∀k,own k->¬R k)->(∀k,own k->k<W1.heap.size)->YieldAt Fence.wide 0 Tryz.prog l' vs W1 (V0 J Jx (fun _ _=>False) own (pre++[x]) W1)
 few:parts.length<=4
 low:k<=16
def Vs (p i:Nat) (l' N:Nat):Array Value:=#[.int .i64 p,.int .i64 i,.func (.yield l') #[] #[],.pointer (some ⟨N+1,0,none⟩),.pointer (some ⟨N+1+1+1,0,none⟩),.pointer (some ⟨N+1+1+1+1,0,none⟩),.pointer (some ⟨N,0,none⟩),.pointer (some ⟨N+1+1+1+1+1,0,none⟩)]
theorem X18 (U:Xe0 w0 N B0 B1 cb kb wb top R M J Jx l' xs g its n A cp parts i0 k) (i:Nat) (own:Nat->Prop) (ys:List (List Nat)) (es:List Nat) (v:Value) (W:World) (hi:i<=k) (hS:LaySt w0 N B0 B1 R J own ys es v W)
  (hpre:ys++(Ya (Xp its.xs) [] i k).map (es++·) <+: xs):Calls Tryz.prog 218 (Vs parts.length i l' N) W (LayPost w0 N B0 B1 R J Jx xs ys es (Ya (Xp its.xs) [] i k)):=by
 have hL:=U.env.at_ hS.keep (Nat.le_trans U.size hS.size);have cp0:=Xe hL.p;have cu0:=Xe hL.u;have ce0:=Xe hS.box;have h4:=U.few;have h16:=U.low;refine(callsIn_wide (n:=0)).1 ?_;unfold Vs;refine callsIn_of_wp Tryz.func218 rfl trivial ?_;simp only[Tryz.ntmps218,Zr,Nat.reduceAdd,Nat.reduceSub];by_cases hik:i=k
 ·subst hik
  have hw:Ya (Xp its.xs) [] i i=[[]]:=by unfold Ya;rw[if_pos rfl]
  rw[hw] at hpre ⊢;have hys:ys++[([]:List Nat)].map (es++·)=ys++[es]:=by simp
  rw[hys] at hpre;obtain⟨fn,tmps,assign,body,hyy,hrd⟩:=U.y own ys es #[v] W hS.j hpre hS.enc hS.apart hS.live
  have fin:∀e w9,V0 J Jx (fun _ _=>False) own (ys++[es]) W e w9->(e = .returned (.bool true)/\LayPost w0 N B0 B1 R J Jx xs ys es [[]] (.returned (.bool true)) w9)\/(e = .returned (.bool false)/\LayPost w0 N B0 B1 R J Jx xs ys es [[]] (.returned (.bool false)) w9):=by
   rintro e w9 (⟨own',hb,⟨rfl,hj⟩|⟨rfl,hj⟩⟩|⟨_,_,h⟩)
   ·exact .inl ⟨rfl,.inl ⟨rfl,own',v,by rw[hys];exact hS.body (U.env.rN _ (by omega) (by omega)) U.rb U.bb hb hj⟩⟩
   ·exact .inr ⟨rfl,.inr ⟨rfl,own',_,hpre,hj⟩⟩
   ·exact h.elim
  have HF:=Xa fin;have HRd:=Xa hrd;clear U hL hS hrd hpre hw hys fin;gi_wp2_with (have hmark:=hyy;refine⟨rfl,HRd.out.mono ?_⟩;intro e w9 h9;rcases HF.out e w9 h9 with ⟨rfl,k9⟩|⟨rfl,k9⟩<;>have H9:=Xa k9<;>clear k9 h9)
  all_goals
   go_ret;exact H9.out
 ·have hw:Ya (Xp its.xs) [] i k=[]:=by unfold Ya;rw[if_neg hik]
  rw[hw];have hfin:LayPost w0 N B0 B1 R J Jx xs ys es [] (.returned (.bool true)) W:=.inl ⟨rfl,own,v,by simpa using hS⟩;have HF:=Xa hfin;clear U hL hS hpre hw hfin;have g5:¬(i:Int)=(k:Int):=by omega
  clear hik hi ce0;generalize (i:Int)=x at *;generalize (k:Int)=y at *;have g3:(x != y)=true:=by simp[g5]
  have g4:(x == y)=false:=by simp[g5]
  gi_wp2_with fail
  refine⟨(fun _ h=>(by cases h)),?_⟩;gi_wp2_with fail
  go_ret;exact HF.out
theorem Xqr {s:ByteArray} (h:¬s.size≠0):(s.toList != [])=false:=by
 have h1:=List.isEmpty_iff.1 (Up (s:=s) (by omega));simp[h1]
theorem Xqs {s:ByteArray} (h:s.size≠0):(s.toList != [])=true:=by
 have h1:=Uo (s:=s) (by omega);cases hs:s.toList with
 | nil=>rw[hs] at h1;cases h1
 | cons a l=>rfl
theorem Xv8 (U:Xe0 w0 N B0 B1 cb kb wb top R M J Jx l' xs g its n A cp parts i0 k) (q:PartG) (ps:List PartG) (p i:Nat) (own:Nat->Prop) (ys:List (List Nat)) (es:List Nat) (v:Value) (W:World) (hp:p+(ps.length+1)=parts.length) (hi:i<=k) (hk:k<i+(ps.length+1)) (hS:LaySt w0 N B0 B1 R J own ys es v W) :
  Calls Tryz.prog 218 (Vs p i l' N) W (LayPost w0 N B0 B1 R J Jx xs ys es (Ya (Xp its.xs) (q :: ps) i k)):=by
 have hL:=U.env.at_ hS.keep (Nat.le_trans U.size hS.size);have cp0:=Xe hL.p;have cu0:=Xe hL.u;have h4:=U.few;have h16:=U.low;rw[Xrm _ _ _ _ _ hk];have hfin:LayPost w0 N B0 B1 R J Jx xs ys es [] (.returned (.bool true)) W:=.inl ⟨rfl,own,v,by simpa using hS⟩;have HF:=Xa hfin;have hl:((parts.length:Nat):Int)-(p:Int)=((ps.length+1:Nat):Int):=by omega
 have g1:(((ps.length:Nat):Int)+1 == 0)=false:=by simp;omega
 have g2:decide ((k:Int)-(i:Int)<((ps.length+1:Nat):Int))=true:=decide_eq_true (by omega);clear U hL hS hfin;refine(callsIn_wide (n:=0)).1 ?_;unfold Vs;refine callsIn_of_wp Tryz.func218 rfl trivial ?_;simp only[Tryz.ntmps218,Zr,Nat.reduceAdd,Nat.reduceSub];gi_wp2_with fail
 go_ret;exact HF.out
theorem Xz0 (U:Xe0 w0 N B0 B1 cb kb wb top R M J Jx l' xs g its n A cp parts i0 k) (q:PartG) (ps:List PartG) (p i:Nat) (own:Nat->Prop) (ys:List (List Nat)) (es:List Nat) (v:Value) (W:World) (hp:p+(ps.length+1)=parts.length) (hq:∀h:p<parts.length,parts[p]=q) (hi:i<=k) (hk:¬k<i+(ps.length+1)) (ht:q.text.size≠0) (hS:LaySt w0 N B0 B1 R J own ys es v W)
  (hpre:ys++(Ya (Xp its.xs) (q :: ps) i k).map (es++·) <+: xs)
  (hrec:∀V,Below W.heap.size W V->ys++(Ya (Xp its.xs) ps (i+1) k).map (es++·) <+: xs->Calls Tryz.prog 218 (Vs (p+1) (i+1) l' N) V (LayPost w0 N B0 B1 R J Jx xs ys es (Ya (Xp its.xs) ps (i+1) k))) :
  Calls Tryz.prog 218 (Vs p i l' N) W (LayPost w0 N B0 B1 R J Jx xs ys es (Ya (Xp its.xs) (q :: ps) i k)):=by
 have hL:=U.env.at_ hS.keep (Nat.le_trans U.size hS.size);have hT:=hL.top;have hlN:=Xd hL.c;have cp0:=Xe hL.p;have cu0:=Xe hL.u;have cc0:=Xe hL.c;have cl0:=Xe hL.l;have cch:=hL.chart;have c9:=gblk cch 9;have h4:=U.few;have h16:=U.low;obtain⟨A2,cp2,xs2,hlook,hlie,hany⟩:=hL.words.look (i:=(i:Int)) (by omega) (by omega);have hlk:=hlook W.drew rfl;have hl2:=hlie W.drew (fun _ _=>rfl) (Nat.le_refl _);have hpl:p<parts.length:=by omega
 obtain⟨bA,off,hA,hbA,hcA⟩:=hL.rd.elem (s:=3) PartG.size_cells (by omega) (k:=p) hpl;have e2:=hcA 2 _ rfl;rw[hq hpl] at e2;have k1:=Xqs ht;have k2:=Uo (s:=q.text) (by omega);have k3:¬q.text.toList=[]:=by intro h;rw[h] at k2;cases k2
 rw[Xv9 _ ht _ _ _ hk] at hpre ⊢;have hl:((parts.length:Nat):Int)-(p:Int)=((ps.length+1:Nat):Int):=by omega
 have g1:(((ps.length:Nat):Int)+1 == 0)=false:=by simp;omega
 have g2:decide ((k:Int)-(i:Int)<((ps.length+1:Nat):Int))=false:=decide_eq_false (by omega);have g3:0<=(p:Int):=by omega
 have g4:(p:Int)<(parts.length:Int):=by omega
 have hwp:IntKind.i64.wrap ((p:Int)+1)=((p+1:Nat):Int):=by rw[IntWalk.i64_in _ (by omega)];rfl
 have hwi:IntKind.i64.wrap ((i:Int)+1)=((i+1:Nat):Int):=by rw[IntWalk.i64_in _ (by omega)];rfl
 have hC:=Xkw A2 cp2 xs2 q.text W.drew (by have h:=hl2.rd;rwa [show strs xs2=xs2.flatMap (fun b:ByteArray=>[Value.string b]) from by unfold strs;rw[List.map_eq_flatMap]] at h) (Nat.le_trans hl2.cap hl2.max);rw[hany q.text] at hC;rw[hA] at cp0;have hwf:∀f,Fence.wide.fn f=True:=fun f=>by simp[Fence.wide]
 cases hst:Xp its.xs i q.text
 ·rw[hst] at hC
  have hfin:LayPost w0 N B0 B1 R J Jx xs ys es [] (.returned (.bool true)) W.drew:=.inl ⟨rfl,own,v,by simpa using hS.ext U.st (fun b hb=>by have:=U.rb b hb;have:=U.bb;have:=hS.size;omega) bd_q⟩;have HF:=Xa hfin;have HC:=Xa hC;rw[if_neg (by simp)];clear U hL hS hpre hfin hrec hC hcA hq hlie hlook hl2 hany hst;refine(callsIn_wide (n:=0)).1 ?_;unfold Vs;refine callsIn_of_wp Tryz.func218 rfl trivial ?_;simp only[Tryz.ntmps218,Zr,Nat.reduceAdd,Nat.reduceSub];gi_wp2_with fail
  refine wpIn_wide.2 ?_;refine wp_region_still_lit (by kernel_rfl) (by kernel_rfl) ?_;repeat still_step
  still_call HC.out
  repeat still_step
  refine wpStill_nil ?_;gi_wp2_with fail
  go_ret;exact HF.out
 ·rw[hst] at hC
  rw[hst,if_pos rfl] at hpre;rw[if_pos rfl];have hR:=hrec W.drew bd_q hpre;have hR':Calls Tryz.prog 218 #[.int .i64 ((p:Int)+1),.int .i64 ((i:Int)+1),.func (.yield l') #[] #[],.pointer (some ⟨N+1,0,none⟩),.pointer (some ⟨N+1+1+1,0,none⟩),.pointer (some ⟨N+1+1+1+1,0,none⟩),.pointer (some ⟨N,0,none⟩),.pointer (some ⟨N+1+1+1+1+1,0,none⟩)] W.drew (LayPost w0 N B0 B1 R J Jx xs ys es (Ya (Xp its.xs) ps (i+1) k)):=hR;have HR:=Xa hR';have HC:=Xa hC;clear U hL hS hpre hrec hR hR' hC hcA hq hlie hlook hl2 hany hst;refine(callsIn_wide (n:=0)).1 ?_;unfold Vs;refine callsIn_of_wp Tryz.func218 rfl trivial ?_;simp only[Tryz.ntmps218,Zr,Nat.reduceAdd,Nat.reduceSub];gi_wp2_with fail
  refine Zz 20 (by kernel_rfl) (by kernel_rfl) ?_;simp only[List.take_succ_cons,List.take_zero,List.drop_succ_cons,List.drop_zero];repeat still_step
  still_call HC.out
  repeat still_step
  refine wpStill_nil ?_;gi_wp2_with (refine⟨rfl,(callsIn_wide.2 HR.out).mono ?_⟩;intro e w9 h9;rcases h9.two with ⟨rfl,k9⟩|⟨rfl,k9⟩<;>have H9:=Xa k9<;>clear k9 h9)
  ·go_ret
   exact .inl ⟨rfl,H9.out⟩
  ·go_ret
   exact .inr ⟨rfl,H9.out⟩
theorem X17 (U:Xe0 w0 N B0 B1 cb kb wb top R M J Jx l' xs g its n A cp parts i0 k) (q:PartG) (ps:List PartG) (p i:Nat) (own:Nat->Prop) (ys:List (List Nat)) (es:List Nat) (v:Value) (W:World) (hp:p+(ps.length+1)=parts.length) (hq:∀h:p<parts.length,parts[p]=q) (hi:i<=k) (hk:¬k<i+(ps.length+1)) (ht:¬q.text.size≠0) (he:es.length+(ps.length+1)<=4) (hS:LaySt w0 N B0 B1 R J own ys es v W)
  (hpre:ys++(Ya (Xp its.xs) (q :: ps) i k).map (es++·) <+: xs)
  (hrec:∀(m:Nat) (own:Nat->Prop) (ys:List (List Nat)) (es:List Nat) (v:Value) (V:World),m<=k->es.length+ps.length<=4->LaySt w0 N B0 B1 R J own ys es v V->ys++(Ya (Xp its.xs) ps m k).map (es++·) <+: xs->Calls Tryz.prog 218 (Vs (p+1) m l' N) V (LayPost w0 N B0 B1 R J Jx xs ys es (Ya (Xp its.xs) ps m k))) :
  Calls Tryz.prog 218 (Vs p i l' N) W (LayPost w0 N B0 B1 R J Jx xs ys es (Ya (Xp its.xs) (q :: ps) i k)):=by
 have hL:=U.env.at_ hS.keep (Nat.le_trans U.size hS.size);have hlN:=Xd hL.c;have cp0:=Xe hL.p;have cu0:=Xe hL.u;have h4:=U.few;have h16:=U.low;have hpl:p<parts.length:=by omega
 obtain⟨bA,off,hA,hbA,hcA⟩:=hL.rd.elem (s:=3) PartG.size_cells (by omega) (k:=p) hpl;have e2:=hcA 2 _ rfl;rw[hq hpl] at e2;have k1:=Xqr ht;have k2:=Up (s:=q.text) (by omega);have k3:q.text.toList=[]:=List.isEmpty_iff.1 k2;rw[Xz2 _ ht _ _ _ hk] at hpre ⊢;have hl:((parts.length:Nat):Int)-(p:Int)=((ps.length+1:Nat):Int):=by omega
 have g1:(((ps.length:Nat):Int)+1 == 0)=false:=by simp;omega
 have g2:decide ((k:Int)-(i:Int)<((ps.length+1:Nat):Int))=false:=decide_eq_false (by omega);have g3:0<=(p:Int):=by omega
 have g4:(p:Int)<(parts.length:Int):=by omega
 rw[hA] at cp0;have HU:=Xa U;have HR:=Xa hrec;have HS:=Xa hS;have Hpre:=Xa hpre;obtain⟨T,hTe⟩:∃T,k-ps.length-i=T:=⟨_,rfl⟩
 have hTi:i+T+ps.length=k:=by omega
 have HT:=Xa hTe;clear U hL hS hpre hrec hcA hq hTe;refine(callsIn_wide (n:=0)).1 ?_;unfold Vs;refine callsIn_of_wp Tryz.func218 rfl trivial ?_;simp only[Tryz.ntmps218,Zr,Nat.reduceAdd,Nat.reduceSub];gi_wp2_with fail
 gi_loopw [13] (fun mv wr=>∃(d:Nat) (own':Nat->Prop) (v':Value),d<=T/\mv = .int .i64 (((i+1+d:Nat):Int))/\Hid (LaySt w0 N B0 B1 R J own' (ys++(Xa9 (Xp its.xs) ps i k d).map (es++·)) es v' wr)) (fun mv _=>k+1-(intOf mv).toNat)
 case atStart=>exact⟨0,own,v,Nat.zero_le _,by go_num,by (show LaySt _ _ _ _ _ _ _ _ _ _ _);simpa[Xa9] using HS.out⟩
 case round =>
  obtain⟨d,own2,v2,hd,rfl,hS2⟩:=hrel;have hL2:=HU.out.env.at_ hS2.out.keep (Nat.le_trans HU.out.size hS2.out.size);have cu2:=Xe hL2.u;have cl2:=Xe hL2.l;have ce2:=Xe hS2.out.box;obtain⟨m,hm⟩:∃m,i+1+d=m:=⟨_,rfl⟩
  by_cases hlt:d<T
  ·have q1:(m:Int)<=(k:Int)-((ps.length+1:Nat):Int)+1:=by omega
   have q2:(m:Int)<=(k:Int)-((ps.length:Int)+1)+1:=(by omega);have hws:=Xg1 (Xp its.xs) ps i k d;rw[hm] at hws ⊢;have Hws:=Xa hws;have Hm:=Xa hm
   have hrow:wr.ownsRow B1 3 1 v2 es.length ((es.map (fun m:Nat=>(m:Int))).flatMap intC):=by
    have h:=hS2.out.row;unfold OwnI OwnL at h
    rwa [List.length_map] at h
   have hRB:=HU.out.rb;have hRN:=HU.out.env.rN (N+1+1+1+1) (by omega) (by omega);have hB01:=HU.out.bb;have hBw:=hS2.out.size;have hbN:=hRB _ hRN;have hb5:=hRB _ (HU.out.env.rN (N+1+1+1+1+1) (by omega) (by omega));have HSa:=Xa (hS2.out.ext HU.out.st (fun b hb=>by have:=hRB b hb;omega) (Xg (Below.refl wr.heap.size wr) (.cells #[.int .i64 (m:Int)] 3)));have Hla:=Xa ((Below.heap_alloc wr (.cells #[.int .i64 (m:Int)] 3) _ (Xd hL2.l)).trans hL2.l);have hz:(wr.alloc (.cells #[.int .i64 (m:Int)] 3)).heap.size=wr.heap.size+1:=(by simp);obtain⟨i0,hi0,hz0,hz1,hz2⟩:=info_parts T4;have hN45:N+1+1+1+1+1≠N+1+1+1+1:=by omega
   have hpr:(ys++(Xa9 (Xp its.xs) ps i k d).map (es++·))++(Ya (Xp its.xs) ps m k).map ((es++[m])++·) <+: xs:=by
    rw[Xug,<- hws];refine X2a Hpre.out ?_;rw[HT.out];exact Xs9 _ _ _ _ hlt
   have Hpr:=Xa hpr;have hmk:m<=k:=(by omega);have hel:(es++[m]).length+ps.length<=4:=(by rw[List.length_append];simp;omega);have Hel:=Xa hel;clear hws hm hL2 hRB hpr hel;gi_wp2_with (first|(gi_at_builtin;refine Za _ rfl _ _ 49 rfl B1 3 i0 (.int .i64 0) 1 8 Tryz.underlying49 hi0 hz0 hz1 hz2 rfl (by decide) _ _ _ rfl (hrow.alloc _) ⟨wr.heap.size,0,none⟩ 1 1 [.int .i64 (m:Int)] rfl rfl (cell_one_new _ _ _) (by simp[Value.oneCell']) (by unfold maxLen;omega) (by omega) (by simp;omega) ?_;intro v3 w3 hown3 hgrow hat;obtain⟨g3,cap3,rfl⟩:=ownsRow_succ hown3;have hbx3:=HSa.out.boxG hRN HU.out.rb hB01 hgrow HSa.out.box hbN;have hc3:=Xe hbx3;have hf3:=Xf hbx3 0;have hl3:=Xe (HSa.out.boxG hRN HU.out.rb hB01 hgrow Hla.out hb5);have hpush:=HSa.out.push HU.out.st HU.out.m hRN HU.out.rb hB01 (m:=m) (by rw[List.map_append];exact OwnL.snoc (m:Int) (by rw[List.length_map];exact hown3)) hgrow hat;have HC:=Xa (HR.out m own2 _ (es++[m]) _ _ hmk Hel.out hpush Hpr.out);clear hpush hbx3)|(have hmark:=hl3;refine⟨trivial,rfl,(callsIn_wide.2 HC.out).mono ?_⟩;intro e w9 h9;rcases h9.two with ⟨rfl,own5,v5,hS5⟩|⟨rfl,k9⟩<;>(first|(obtain⟨g5,cp5,rfl,hle5⟩:=hS5.form;have hbx5:=hS5.box;have hc5:=Xe hbx5;have hf5:=Xf hbx5 0;have hup5:=Xsq g5 cp5 (es.length+1) es.length w9 (by omega) hle5;have H5:=Xa hS5;clear hS5 hbx5 h9)|(have H9:=Xa k9;clear k9 h9))))
   ·go_roundw
    case rel =>
     refine⟨d+1,own5,.slice (some ⟨g5,0,none⟩) es.length cp5,by omega,by rw[show i+1+(d+1)=m+1 from by have:=Hm.out;omega];go_num,?_⟩;have h:=H5.out.pop HU.out.st HU.out.m hRN HU.out.rb hB01;rw[Xug,<- Hws.out] at h;exact h
    case measure=>simp[intOf];omega
   ·go_ret
    exact .inr ⟨rfl,H9.out⟩
  ·have q1:¬(m:Int)<=(k:Int)-((ps.length+1:Nat):Int)+1:=by omega
   have q2:¬(m:Int)<=(k:Int)-((ps.length:Int)+1)+1:=(by omega);obtain rfl:d=T:=by omega
   rw[hm];clear hm hL2 HU HR;gi_wp2_with fail
   go_ret;exact .inl ⟨rfl,own2,v2,by rw[HT.out];exact hS2.out⟩
theorem lay1 (U:Xe0 w0 N B0 B1 cb kb wb top R M J Jx l' xs g its n A cp parts i0 k):∀(ps:List PartG) (p i:Nat) (own:Nat->Prop) (ys:List (List Nat)) (es:List Nat) (v:Value) (W:World),parts.drop p=ps->p+ps.length=parts.length->i<=k->es.length+ps.length<=4->LaySt w0 N B0 B1 R J own ys es v W ->
  ys++(Ya (Xp its.xs) ps i k).map (es++·) <+: xs->Calls Tryz.prog 218 (Vs p i l' N) W (LayPost w0 N B0 B1 R J Jx xs ys es (Ya (Xp its.xs) ps i k))
 | [],p,i,own,ys,es,v,W,_,hp,hi,_,hS,hpre=>by
  obtain rfl:p=parts.length:=by simpa using hp
  exact X18 U i own ys es v W hi hS hpre
 | q :: ps,p,i,own,ys,es,v,W,hd,hp,hi,he,hS,hpre=>by
  have hp':p+(ps.length+1)=parts.length:=by simpa using hp
  have hq:∀h:p<parts.length,parts[p]=q:=fun h=>by
   rw[List.drop_eq_getElem_cons h] at hd;exact(List.cons.inj hd).1
  have hd':parts.drop (p+1)=ps:=by
   rw[List.drop_eq_getElem_cons (by omega)] at hd;exact(List.cons.inj hd).2
  have he':es.length+(ps.length+1)<=4:=by simpa using he
  by_cases hk:k<i+(ps.length+1)
  ·exact Xv8 U q ps p i own ys es v W hp' hi hk hS
  ·by_cases ht:q.text.size≠0
   ·exact Xz0 U q ps p i own ys es v W hp' hq hi hk ht hS hpre fun V hV hpr=>lay1 U ps (p+1) (i+1) own ys es v V hd' (by omega) (by omega) (by omega) (hS.ext U.st (fun b hb=>by have:=U.rb b hb;have:=U.bb;have:=hS.size;omega) hV) hpr
   ·exact X17 U q ps p i own ys es v W hp' hq hi hk ht he' hS hpre fun m own ys es v V hm hes hSV hpr=>lay1 U ps (p+1) m own ys es v V hd' (by omega) hm hes hSV hpr
end
end
end Go.Proofs.YtolpbjjapodmnaaGreatDoor
