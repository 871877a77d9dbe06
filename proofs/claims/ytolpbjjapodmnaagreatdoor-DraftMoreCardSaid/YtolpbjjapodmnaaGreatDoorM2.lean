/- Texts of this claim, one after the other: RangeW, RangeX, RangeK, Utf, Utf9, Ref9a, Points. -/
import Derived.Test.YtolpbjjapodmnaaGreatDoorM1
import Derived.Test.YtolpbjjapodmnaaGreatDoorShelf
import Derived.Lib.TrimU
import Derived.Lib.DecodeNEq
import Derived.Shelf.Unicode.DecodeSlow
import Derived.Deep.RegionWith
import Derived.RangeFuncBound
/- A range over a function that yields what lies in its own memory: the iterator's contract, the caller's law. Plain theorems about the machine's steps. Conditions: none. -/
namespace Go.Han
open Go.RowKit
variable {P:Program}
structure OneStep (l:Nat) (W W':World):Prop where
 os:W'.os=W.os
 tape:W'.tape=W.tape
 output:W'.output=W.output
 size:W'.heap.size=W.heap.size
 block:∀k,k≠l->W'.heap[k]? = W.heap[k]?
theorem OneStep.iter {l B0:Nat} {M own:Nat->Prop} {W W':World} (h:OneStep l W W') (hl:B0<=l) (hn:¬own l):IterStep B0 M own W W' :=
 ⟨h.os,h.tape,h.output,by rw[h.size];exact Nat.le_refl _,fun k _ ho=>h.block k (by rintro rfl;rcases ho with ho|ho;omega;exact hn ho)⟩
end Go.Han
/- A range over a calm function: between two rounds it only lays new blocks, and no round stops it. The iterator's contract, the caller's law. Plain theorems about the machine's steps. Conditions: none. -/
namespace Go.Han
open Go.RowKit
variable {P:Program}
def YieldX (P:Program) (l:Nat) (vs:Array Value) (E:World->Prop) (V:World) (R:Ending->World->Prop):Prop :=
 ∃fn tmps assign body,∀V',Below V.heap.size V V'->E V'->(Instr.yield l vs).run P V' = .ok (.round l fn tmps assign body) V'/\RoundIn Fence.wide 0 P l fn tmps assign body V' R
def Xhm {α:Type} (P:Program) (g:Nat) (lb:Array Value) (Enc:α->Array Value->World->Prop) (R:Nat->Prop) (xs:List α) (w0:World):Prop :=
 ∀(l:Nat) (J:List α->World->Prop) (W:World),
  (∀s V,J s V->∀k,R k->V.heap[k]? = w0.heap[k]?)->(∀s V V',J s V->Below V.heap.size V V'->J s V') ->
  (∀pre x vs V,J pre V->pre++[x] <+: xs->YieldX P l vs (Enc x vs) V (fun e V'=>e = .returned (.bool true)/\J (pre++[x]) V')) ->
  J [] W->Calls P g (#[.func (.yield l) #[] #[]]++lb) W (fun e V'=>(∃v,e = .returned v)/\J xs V')
def Uc (o:Obj):Prop:=∀cs t fr,o ≠ .cells cs t fr
def KeepsX (W W':World):Prop:=∀(k:Nat) (o:Obj),W.heap[k]? = some o->Uc o->W'.heap[k]? = some o
theorem KeepsX.refl (W:World):KeepsX W W:=fun _ _ h _=>h
theorem KeepsX.trans {A B C:World} (h:KeepsX A B) (k:KeepsX B C):KeepsX A C:=fun j o ho hn=>k j o (h j o ho hn) hn
theorem KeepsX.below {W W':World} (h:Below W.heap.size W W'):KeepsX W W':=fun k _ ho _=>(h.block k (Array.getElem?_eq_some_iff.1 ho).1).trans ho
theorem KeepsX.grown {W W':World} {row:Option Nat} (h:W.grownBy W' row) (hr:∀g,row=some g->∃cs t fr,W.heap[g]? = some (.cells cs t fr)):KeepsX W W':=fun k o ho hn =>
 (h.block k (Array.getElem?_eq_some_iff.1 ho).1 (by
  intro e;obtain⟨cs,t,fr,hc⟩:=hr k e.symm;rw[hc] at ho;exact hn cs t fr (Option.some.inj ho).symm)).trans ho
theorem KeepsX.setCell {W:World} {b t:Nat} {cs:Array Value} {fr:Nat×Nat} (h:W.heap[b]? = some (.cells cs t fr)) (j:Nat) (v:Value):KeepsX W (W.setCell ⟨b,j,none⟩ v):=fun k o ho hn =>
 (Below.heap_setCell _ _ _ _ (by
  rintro rfl;have:=h.symm.trans ho;exact hn cs t fr (Option.some.inj this).symm)).trans ho
theorem Zh (r:Loop):Uc (.loop r):=fun _ _ _ h=>by cases h
theorem Tr (r:Option (List Deferred)):Uc (.deferred r):=fun _ _ _ h=>by cases h
theorem OneStep.put (W:World) (l:Nat) (o:Obj):OneStep l W (W.putObj l o):=⟨rfl,rfl,rfl,by simp,fun _ hk=>World.putObj_heap_other hk⟩
theorem Xx0 {α:Type} {f:FuncId} {fn:Func} (hfn:P.funcs[f]? = some fn) {g:Operand} {ps:Array Tmp} {assign body:Code} {Q:Exit->Act->World->Prop} {a:Act} {w:World}
  {gf:Nat} {lb:Array Value} (hg:a.eval g = .func (.func gf) #[] lb) (eg:∀args w,(callFunc gf args).run P w = .ok (.enter gf args) w)
  {Enc:α->Array Value->World->Prop} {R:Nat->Prop} {xs:List α} {w0:World} (hit:Xhm P gf lb Enc R xs w0) (hps:∀x vs W,Enc x vs W->vs.size=ps.size)
  (I:List α->World->Prop) (hIR:∀s V,I s V->∀k,R k->V.heap[k]? = w0.heap[k]?) (hIb:∀s V V',I s V->Below V.heap.size V V'->I s V')
  (hIo:∀s V V' l o,I s V->w.heap.size<=l->V.heap[l]? = some o->Uc o->OneStep l V V'->I s V') (h0:I [] w)
  (Ia:α->Act->List α->World->Prop) (hIa:∀x a' s V V' l o,Ia x a' s V->w.heap.size<=l->V.heap[l]? = some o->Uc o->OneStep l V V'->Ia x a' s V')
  (hassign:∀(l:Nat) (pre:List α) (x:α) (vs:Array Value) (W:World),I pre W->pre++[x] <+: xs->Enc x vs W ->
   assign.wpIn (Fence.wide.inRound l) 0 P (Exit.then (fun a' W'=>KeepsX W W'/\Ia x a' pre W') (fun _ _ _=>False)) {tmps:=(ps.zip vs).foldl (fun t (p,v)=>t.setIfInBounds p v) a.tmps,defers:=[]} W)
  (hbody:∀(l:Nat) (pre:List α) (x:α) (a':Act) (W:World),Ia x a' pre W->pre++[x] <+: xs ->
   body.wpIn (Fence.wide.inRound l) 0 P (Exit.then (fun _ W'=>KeepsX W W'/\I (pre++[x]) W') (fun _ _ _=>False)) a' W)
  (hdone:∀(D:Nat) (W:World),w.heap.size<=D->I xs W->W.heap[D]? = some (.deferred (some []))->Q .normal {a with defers:={target:=.collected D,args:=#[]} :: a.defers} W) :
  wpAt P f (Code.rangeFunc g ps assign body) Q a w:=by
 obtain⟨rec,hrec⟩:∃rec:LoopState->Option Code->Loop,rec=fun st pe=>{state:=st,pending:=pe,fn:=f,tmps:=a.tmps,params:=ps,assign,body,defers:=w.heap.size}:=⟨_,rfl⟩
 obtain⟨W1,hW1⟩:∃W1,(w.alloc (.deferred (some []))).alloc (.loop (rec .ready none))=W1:=⟨_,rfl⟩
 have hL1:W1.heap[w.heap.size+1]? = some (.loop (rec .ready none)):=by
  rw[<- hW1];have:=World.alloc_heap_new (w.alloc (.deferred (some []))) (.loop (rec .ready none));rwa [World.size_alloc] at this
 have hK1:W1.heap[w.heap.size]? = some (.deferred (some [])):=by
  rw[<- hW1];exact(Below.heap_alloc _ _ _ (by simp)).trans (World.alloc_heap_new w _)
 have hI1:I [] W1:=hIb [] w W1 h0 (by rw[<- hW1];exact Xg ba_q _)
 refine Vc (l:=w.heap.size+1) (mark:=[{target:=.collected w.heap.size,args:=#[]}]) (w₁:=W1) (w₁':=W1) (w₂:=W1)
  (d:={target:=.fn (.func gf) lb,args:=#[.func (.yield (w.heap.size+1)) #[] #[]]}) (gf:=gf) (args:=#[.func (.yield (w.heap.size+1)) #[] #[]]++lb) ?_ ?_ ?_ ?_
 ·rw[<- hW1,hrec];exact run_enterLoop_outer _ _ _ _ _
 ·simp only[resolve,hg];simp[go_sem]
 ·simp[invoke,go_sem,eg]
 refine(hit (w.heap.size+1) (fun pre W=>I pre W/\W.heap[w.heap.size+1]? = some (.loop (rec .ready none))/\W.heap[w.heap.size]? = some (.deferred (some []))) W1
  (fun s V h=>hIR s V h.1) (fun s V V' h hb=>⟨hIb s V V' h.1 hb,(hb.block _ (Array.getElem?_eq_some_iff.1 h.2.1).1).trans h.2.1,(hb.block _ (Array.getElem?_eq_some_iff.1 h.2.2).1).trans h.2.2⟩) ?_ ⟨hI1,hL1,hK1⟩).mono ?_
 ·-- ONE ROUND
  rintro pre x vs W0 ⟨hi0,hl0,hk0⟩ hpre;refine⟨f,(ps.zip vs).foldl (fun t (p,v)=>t.setIfInBounds p v) a.tmps,assign,body,fun W hbW hE=>?_⟩;have hi:=hIb _ _ _ hi0 hbW;have hl:=(hbW.block _ (Array.getElem?_eq_some_iff.1 hl0).1).trans hl0;have hk:=(hbW.block _ (Array.getElem?_eq_some_iff.1 hk0).1).trans hk0;have hlt:w.heap.size+1<W.heap.size:=(Array.getElem?_eq_some_iff.1 hl).1;have hy:=run_yield (P:=P) (args:=vs) hl (by rw[hrec];exact hps _ _ _ hE);rw[hrec] at hy;refine⟨hy,Zq hfn (wpIn_mono (hassign (w.heap.size+1) pre x vs W hi hpre hE) ?_)⟩;rintro e a' Wa hp;cases e with
  | normal =>
   obtain⟨hkx,hia⟩:=hp;have hla:=hkx _ _ hl (Zh _);have hka:=hkx _ _ hk (Tr _);have hlta:w.heap.size+1<Wa.heap.size:=(Array.getElem?_eq_some_iff.1 hla).1;refine⟨_,run_beginRound hla (by rw[hrec]),?_⟩;have hib:=hIa x a' pre Wa _ _ _ hia (by omega) hla (Zh _) (OneStep.put Wa (w.heap.size+1) (.loop {rec .ready none with state:=.busy}));have hlb:(Wa.putObj (w.heap.size+1) (.loop {rec .ready none with state:=.busy})).heap[w.heap.size+1]? = some (.loop {rec .ready none with state:=.busy}):=World.putObj_heap_same hlta;have hkb:(Wa.putObj (w.heap.size+1) (.loop {rec .ready none with state:=.busy})).heap[w.heap.size]? = some (.deferred (some [])):=(World.putObj_heap_other (by omega)).trans hka;refine wpIn_mono (hbody (w.heap.size+1) pre x a' _ hib hpre) ?_;rintro e a3 W3 hp;cases e with
   | normal =>
    obtain⟨hkx3,hi3⟩:=hp;have hl3:=hkx3 _ _ hlb (Zh _);have hk3:=hkx3 _ _ hkb (Tr _);have hlt3:=(Array.getElem?_eq_some_iff.1 hl3).1;refine⟨_,_,run_endRound none hl3,by simp,?_,?_,?_⟩
    ·exact hIo _ _ _ _ _ hi3 (by omega) hl3 (Zh _) (OneStep.put _ _ _)
    ·rw[World.putObj_heap_same hlt3,hrec];rfl
    ·exact(World.putObj_heap_other (by omega)).trans hk3
   | exit id=>exact hp.elim
   | goto t=>exact hp.elim
   | ret=>exact hp.elim
   | panic ch=>exact hp.elim
   | outgrown=>exact hp.elim
  | exit id=>exact hp.elim
  | goto t=>exact hp.elim
  | ret=>exact hp.elim
  | panic ch=>exact hp.elim
  | outgrown=>exact hp.elim
 ·-- BEHIND THE ITERATOR
  rintro e W2 ⟨⟨v,rfl⟩,hi,hl,hk⟩;have hrun:=run_endLoop (P:=P) hl (by rw[hrec];simp);refine⟨none,_,by rw[hrec] at hrun;exact hrun,?_⟩;exact hdone _ _ (Nat.le_refl _) (hIo _ _ _ _ _ hi (by omega) hl (Zh _) (OneStep.put _ _ _)) ((World.putObj_heap_other (by omega)).trans hk)
end Go.Han
/- A range over a function that no round stops; the iterator leans on memory that the rounds leave alone, and what it yields lies in blocks that the caller does not own. The iterator's contract, the caller's law. Plain theorems about the machine's steps. Conditions: none. -/
namespace Go.Han
open Go.RowKit
variable {P:Program}
structure Xd4 (R:Nat->Prop) (w0 W:World):Prop where
 os:W.os=w0.os
 tape:W.tape=w0.tape
 output:W.output=w0.output
 size:w0.heap.size<=W.heap.size
 block:∀k,R k->k<w0.heap.size/\W.heap[k]? = w0.heap[k]?
def Ti (R own:Nat->Prop) (W:World):Prop:=∀k,own k->¬R k/\k<W.heap.size
def RoundK {α:Type} (J:(Nat->Prop)->List α->World->Prop) (own:Nat->Prop) (ys:List α) (V:World) (e:Ending) (V':World):Prop :=
 e = .returned (.bool true)/\∃own',BodyStep own own' V V'/\J own' ys V'
def DoneK {α:Type} (J:(Nat->Prop)->List α->World->Prop) (own₀:Nat->Prop) (xs:List α) (W:World) (e:Ending) (V':World):Prop :=
 (∃v,e = .returned v)/\∃own',BodyStep own₀ own' W V'/\J own' xs V'
def AskK {α:Type} (P:Program) (l:Nat) (Enc:(Nat->Prop)->α->Array Value->World->Prop) (R:Nat->Prop) (xs:List α) (J:(Nat->Prop)->List α->World->Prop):Prop :=
 ∀own pre x vs V,J own pre V->pre++[x] <+: xs->Enc own x vs V->Ti R own V->YieldAt Fence.wide 0 P l vs V (RoundK J own (pre++[x]) V)
def Xbk {α:Type} (B:Nat) (J:(Nat->Prop)->List α->World->Prop):Prop :=
 (∀own s V V',J own s V->Below V.heap.size V V'->J own s V')/\∀own s V V' l o,J own s V->B<=l->¬own l->V.heap[l]? = some o->Uc o->OneStep l V V'->J own s V'
def Xno {α:Type} (P:Program) (g:Nat) (lb:Array Value) (Enc:(Nat->Prop)->α->Array Value->World->Prop) (R:Nat->Prop) (xs:List α) (w0:World):Prop :=
 ∀(l:Nat) (J:(Nat->Prop)->List α->World->Prop) (own₀:Nat->Prop) (W:World),
  Xd4 R w0 W->Ti R own₀ W->Xbk W.heap.size J->AskK P l Enc R xs J->J own₀ [] W ->
  Calls P g (#[.func (.yield l) #[] #[]]++lb) W (DoneK J own₀ xs W)
theorem BodyStep.grow {own:Nat->Prop} {W V:World} (hb:Below W.heap.size W V) (h:∀k,own k->k<W.heap.size):BodyStep own own W V:=⟨hb.os,hb.tape,hb.output,hb.size,fun k hk _=>hb.block k hk,fun _ h => .inl h,fun k hk=>Nat.lt_of_lt_of_le (h k hk) hb.size⟩
theorem OneStep.body {l:Nat} {own:Nat->Prop} {W V:World} (h:OneStep l W V) (hl:own l) (hw:∀k,own k->k<W.heap.size):BodyStep own own W V:=⟨h.os,h.tape,h.output,by rw[h.size];exact Nat.le_refl _,fun k _ hk=>h.block k (by rintro rfl;exact hk hl),fun _ h => .inl h,fun k hk=>by rw[h.size];exact hw k hk⟩
theorem Xl9 {α:Type} {f:FuncId} {fn:Func} (hfn:P.funcs[f]? = some fn) {g:Operand} {ps:Array Tmp} {assign body:Code} {Q:Exit->Act->World->Prop} {a:Act} {w:World}
  {gf:Nat} {lb:Array Value} (hg:a.eval g = .func (.func gf) #[] lb) (eg:∀args w,(callFunc gf args).run P w = .ok (.enter gf args) w)
  {Enc:(Nat->Prop)->α->Array Value->World->Prop} {R:Nat->Prop} {xs:List α} {w0:World} (hit:Xno P gf lb Enc R xs w0) (hR:Xd4 R w0 w) (hps:∀own x vs W,Enc own x vs W->vs.size=ps.size)
  (hEnc:∀own own2 x vs W,(∀k,own k->own2 k)->Enc own2 x vs W->Enc own x vs W)
  (I:(Nat->Prop)->List α->World->Prop) (hI:Xbk w.heap.size I)
  (own₀:Nat->Prop) (hown:Ti R own₀ w) (h0:I own₀ [] w)
  (Ia:α->Act->(Nat->Prop)->List α->World->Prop) (hIa:∀x a' own s V V' l o,Ia x a' own s V->w.heap.size<=l->¬own l->V.heap[l]? = some o->Uc o->OneStep l V V'->Ia x a' own s V')
  (hassign:∀(l:Nat) (own:Nat->Prop) (pre:List α) (x:α) (vs:Array Value) (W:World),I own pre W->pre++[x] <+: xs->Enc own x vs W->Ti R own W->BodyStep own₀ own w W ->
   assign.wpIn (Fence.wide.inRound l) 0 P (Exit.then (fun a' W'=>∃own',BodyStep own own' W W'/\Ia x a' own' pre W') (fun _ _ _=>False)) {tmps:=(ps.zip vs).foldl (fun t (p,v)=>t.setIfInBounds p v) a.tmps,defers:=[]} W)
  (hbody:∀(l:Nat) (own:Nat->Prop) (pre:List α) (x:α) (a':Act) (W:World),Ia x a' own pre W->pre++[x] <+: xs->Ti R own W->BodyStep own₀ own w W ->
   body.wpIn (Fence.wide.inRound l) 0 P (Exit.then (fun _ W'=>∃own',BodyStep own own' W W'/\I own' (pre++[x]) W') (fun _ _ _=>False)) a' W)
  (hdone:∀(D:Nat) (own:Nat->Prop) (W:World),w.heap.size<=D->¬own D->Ti R own W->BodyStep own₀ own w W->I own xs W->W.heap[D]? = some (.deferred (some []))->Q .normal {a with defers:={target:=.collected D,args:=#[]} :: a.defers} W) :
  wpAt P f (Code.rangeFunc g ps assign body) Q a w:=by
 obtain⟨rec,hrec⟩:∃rec:LoopState->Option Code->Loop,rec=fun st pe=>{state:=st,pending:=pe,fn:=f,tmps:=a.tmps,params:=ps,assign,body,defers:=w.heap.size}:=⟨_,rfl⟩
 obtain⟨W1,hW1⟩:∃W1,(w.alloc (.deferred (some []))).alloc (.loop (rec .ready none))=W1:=⟨_,rfl⟩
 have hL1:W1.heap[w.heap.size+1]? = some (.loop (rec .ready none)):=by
  rw[<- hW1];have:=World.alloc_heap_new (w.alloc (.deferred (some []))) (.loop (rec .ready none));rwa [World.size_alloc] at this
 have hK1:W1.heap[w.heap.size]? = some (.deferred (some [])):=by
  rw[<- hW1];exact(Below.heap_alloc _ _ _ (by simp)).trans (World.alloc_heap_new w _)
 have hbl:Below w.heap.size w W1:=by rw[<- hW1];exact Xg ba_q _
 have hsz:W1.heap.size=w.heap.size+2:=by rw[<- hW1];simp
 have hIb:=hI.1;have hIo:=hI.2;have hI1:I own₀ [] W1:=hIb own₀ [] w W1 h0 hbl;have hR1:Xd4 R w0 W1:=⟨hbl.os.trans hR.os,hbl.tape.trans hR.tape,hbl.output.trans hR.output,Nat.le_trans hR.size hbl.size,fun k hk=>⟨(hR.block k hk).1,(hbl.block k (Nat.lt_of_lt_of_le (hR.block k hk).1 hR.size)).trans (hR.block k hk).2⟩⟩
 have hRs:∀k,R k->k<w.heap.size:=fun k hk=>Nat.lt_of_lt_of_le (hR.block k hk).1 hR.size
 -- what holds between two rounds; o1: the caller's own, the loop's two blocks beside them
 obtain⟨J,hJ⟩:∃J:(Nat->Prop)->List α->World->Prop,J=fun own pre W=>∃o1,(∀k,own k↔(o1 k\/k=w.heap.size\/k=w.heap.size+1))/\(∀k,o1 k->¬R k/\k<W.heap.size/\k≠w.heap.size/\k≠w.heap.size+1)/\BodyStep own₀ o1 w W/\I o1 pre W/\W.heap[w.heap.size+1]? = some (.loop (rec .ready none))/\W.heap[w.heap.size]? = some (.deferred (some [])):=⟨_,rfl⟩
 refine Vc (l:=w.heap.size+1) (mark:=[{target:=.collected w.heap.size,args:=#[]}]) (w₁:=W1) (w₁':=W1) (w₂:=W1)
  (d:={target:=.fn (.func gf) lb,args:=#[.func (.yield (w.heap.size+1)) #[] #[]]}) (gf:=gf) (args:=#[.func (.yield (w.heap.size+1)) #[] #[]]++lb) ?_ ?_ ?_ ?_
 ·rw[<- hW1,hrec];exact run_enterLoop_outer _ _ _ _ _
 ·simp only[resolve,hg];simp[go_sem]
 ·simp[invoke,go_sem,eg]
 have hown1:Ti R (fun k=>own₀ k\/k=w.heap.size\/k=w.heap.size+1) W1:=by
  rintro k (h|h|h)
  ·exact⟨(hown k h).1,by have:=(hown k h).2;omega⟩
  ·exact⟨fun hr=>by have:=hRs k hr;omega,by omega⟩
  ·exact⟨fun hr=>by have:=hRs k hr;omega,by omega⟩
 refine(hit (w.heap.size+1) J (fun k=>own₀ k\/k=w.heap.size\/k=w.heap.size+1) W1 hR1 hown1 ?_ ?_ ?_).mono ?_
 ·rw[hJ]
  refine⟨?_,?_⟩;rotate_left
  ·rintro own s V V' l o ⟨o1,ho,hn,hbs,hi,hl,hk⟩ hBl hno hlo hnc hs
   refine⟨o1,ho,fun k h=>⟨(hn k h).1,by rw[hs.size];exact(hn k h).2.1,(hn k h).2.2⟩,⟨hs.os.trans hbs.os,hs.tape.trans hbs.tape,hs.output.trans hbs.output,by rw[hs.size];exact hbs.size,fun k hk' hno'=>(hs.block k (by omega)).trans (hbs.block k hk' hno'),hbs.owns,fun k h=>by rw[hs.size];exact(hn k h).2.1⟩,hIo _ _ _ _ _ _ hi (by omega) (fun h=>hno ((ho l).2 (.inl h))) hlo hnc hs,(hs.block _ (by omega)).trans hl,(hs.block _ (by omega)).trans hk⟩
  rintro own s V V' ⟨o1,ho,hn,hbs,hi,hl,hk⟩ hb;exact⟨o1,ho,fun k h=>⟨(hn k h).1,Nat.lt_of_lt_of_le (hn k h).2.1 hb.size,(hn k h).2.2⟩,hbs.trans (.grow hb fun k h=>(hn k h).2.1),hIb _ _ _ _ hi hb,(hb.block _ (Array.getElem?_eq_some_iff.1 hl).1).trans hl,(hb.block _ (Array.getElem?_eq_some_iff.1 hk).1).trans hk⟩
 ·-- ONE ROUND
  rw[hJ];rintro own pre x vs W ⟨o1,ho,hn,hbs0,hi,hl,hk⟩ hpre hE _;have hlt:w.heap.size+1<W.heap.size:=(Array.getElem?_eq_some_iff.1 hl).1;have hy:=run_yield (P:=P) (args:=vs) hl (by rw[hrec];exact hps _ _ _ _ hE);rw[hrec] at hy;have hE1:=hEnc o1 own x vs W (fun k h=>(ho k).2 (.inl h)) hE;refine⟨f,_,assign,body,hy,Zq hfn (wpIn_mono (hassign (w.heap.size+1) o1 pre x vs W hi hpre hE1 (fun k h=>⟨(hn k h).1,(hn k h).2.1⟩) hbs0) ?_)⟩;rintro e a' Wa hp;cases e with
  | normal =>
   obtain⟨o2,hb2,hia⟩:=hp
   have hn2:∀k,o2 k->¬R k/\k<Wa.heap.size/\k≠w.heap.size/\k≠w.heap.size+1:=by
    intro k hk';rcases hb2.owns k hk' with h|h
    ·exact⟨(hn k h).1,hb2.live k hk',(hn k h).2.2⟩
    ·exact⟨fun hr=>by have:=hRs k hr;omega,hb2.live k hk',by omega,by omega⟩
   have hla:=hb2.same hl (fun h=>(hn _ h).2.2.2 rfl);have hka:=hb2.same hk (fun h=>(hn _ h).2.2.1 rfl);have hlta:w.heap.size+1<Wa.heap.size:=(Array.getElem?_eq_some_iff.1 hla).1;refine⟨_,run_beginRound hla (by rw[hrec]),?_⟩;have hs1:=OneStep.put Wa (w.heap.size+1) (.loop {rec .ready none with state:=.busy});obtain⟨Wb,hWb⟩:∃Wb,Wa.putObj (w.heap.size+1) (.loop {rec .ready none with state:=.busy})=Wb:=⟨_,rfl⟩
   have hlb:Wb.heap[w.heap.size+1]? = some (.loop {rec .ready none with state:=.busy}):=(by rw[<- hWb];exact World.putObj_heap_same hlta);rw[hWb] at hs1 ⊢;have hkb:Wb.heap[w.heap.size]? = some (.deferred (some [])):=(hs1.block _ (by omega)).trans hka;have hib:=hIa x a' o2 pre Wa Wb _ _ hia (by omega) (fun h=>(hn2 _ h).2.2.2 rfl) hla (Zh _) hs1;have hbs2:BodyStep own₀ o2 w Wb:=⟨hs1.os.trans (hb2.os.trans hbs0.os),hs1.tape.trans (hb2.tape.trans hbs0.tape),hs1.output.trans (hb2.output.trans hbs0.output),by rw[hs1.size];exact Nat.le_trans hbs0.size hb2.size,fun k hk' hno=>(hs1.block k (by omega)).trans ((hbs0.trans hb2).block k hk' hno),(hbs0.trans hb2).owns,fun k h=>by rw[hs1.size];exact(hn2 k h).2.1⟩
   refine wpIn_mono (hbody (w.heap.size+1) o2 pre x a' Wb hib hpre (fun k h=>⟨(hn2 k h).1,by rw[hs1.size];exact(hn2 k h).2.1⟩) hbs2) ?_;rintro e a3 W3 hp;cases e with
   | normal =>
    obtain⟨o3,hb3,hi3⟩:=hp
    have hn3:∀k,o3 k->¬R k/\k<W3.heap.size/\k≠w.heap.size/\k≠w.heap.size+1:=by
     intro k hk';rcases hb3.owns k hk' with h|h
     ·exact⟨(hn2 k h).1,hb3.live k hk',(hn2 k h).2.2⟩
     ·rw[hs1.size] at h
      exact⟨fun hr=>by have:=hRs k hr;omega,hb3.live k hk',by omega,by omega⟩
    have hl3:=hb3.same hlb (fun h=>(hn2 _ h).2.2.2 rfl);have hk3:=hb3.same hkb (fun h=>(hn2 _ h).2.2.1 rfl);have hlt3:=(Array.getElem?_eq_some_iff.1 hl3).1;have hs3:=OneStep.put W3 (w.heap.size+1) (.loop {rec .ready none with state:=.ready});refine⟨_,_,run_endRound none hl3,by simp,?_⟩;refine⟨fun k=>o3 k\/k=w.heap.size\/k=w.heap.size+1,?_,o3,fun _=>Iff.rfl,fun k h=>⟨(hn3 k h).1,by rw[World.putObj_size];exact(hn3 k h).2.1,(hn3 k h).2.2⟩,?_,?_,?_,?_⟩
    ·refine⟨hb3.os.trans (hs1.os.trans hb2.os),hb3.tape.trans (hs1.tape.trans hb2.tape),hb3.output.trans (hs1.output.trans hb2.output),?_,?_,?_,?_⟩
     ·have:=hb2.size;have:=hb3.size;have:=hs1.size;simp;omega
     ·intro k hk' hno
      have h1:k≠w.heap.size+1:=fun e=>hno ((ho k).2 (.inr (.inr e)));have h2:¬o1 k:=fun e=>hno ((ho k).2 (.inl e))
      have h3:¬o2 k:=fun e=>by
       rcases hb2.owns k e with h|h
       ·exact h2 h
       ·omega
      rw[World.putObj_heap_other h1,hb3.block k (by have:=hb2.size;have:=hs1.size;omega) h3,hs1.block k h1];exact hb2.block k hk' h2
     ·intro k hk'
      rcases hk' with h|h|h
      ·rcases hb3.owns k h with h|h
       ·rcases hb2.owns k h with h|h
        ·exact .inl ((ho k).2 (.inl h))
        ·exact .inr h
       ·exact .inr (by have:=hb2.size;have:=hs1.size;omega)
      ·exact .inl ((ho k).2 (.inr (.inl h)))
      ·exact .inl ((ho k).2 (.inr (.inr h)))
     ·intro k hk'
      rw[World.putObj_size];rcases hk' with h|h|h
      ·exact(hn3 k h).2.1
      ·omega
      ·omega
    ·have hbs3:=hbs2.trans hb3
     exact⟨hbs3.os,hbs3.tape,hbs3.output,by rw[World.putObj_size];exact hbs3.size,fun k hk' hno=>(World.putObj_heap_other (by omega)).trans (hbs3.block k hk' hno),hbs3.owns,fun k h=>by rw[World.putObj_size];exact(hn3 k h).2.1⟩
    ·exact hIo _ _ _ _ _ _ hi3 (by omega) (fun h=>(hn3 _ h).2.2.2 rfl) hl3 (Zh _) (OneStep.put _ _ _)
    ·rw[World.putObj_heap_same hlt3,hrec];rfl
    ·exact(World.putObj_heap_other (by omega)).trans hk3
   | exit id=>exact hp.elim
   | goto t=>exact hp.elim
   | ret=>exact hp.elim
   | panic ch=>exact hp.elim
   | outgrown=>exact hp.elim
  | exit id=>exact hp.elim
  | goto t=>exact hp.elim
  | ret=>exact hp.elim
  | panic ch=>exact hp.elim
  | outgrown=>exact hp.elim
 ·rw[hJ]
  exact⟨own₀,fun _=>Iff.rfl,fun k h=>⟨(hown k h).1,by have:=(hown k h).2;omega,by have:=(hown k h).2;omega,by have:=(hown k h).2;omega⟩,.grow hbl fun k h=>(hown k h).2,hI1,hL1,hK1⟩
 ·-- BEHIND THE ITERATOR
  rw[hJ];rintro e W2 ⟨⟨v,rfl⟩,own,_,o1,ho,hn,hbs,hi,hl,hk⟩;have hrun:=run_endLoop (P:=P) hl (by rw[hrec];simp);refine⟨none,_,by rw[hrec] at hrun;exact hrun,?_⟩;refine hdone _ o1 _ (Nat.le_refl _) (fun h=>(hn _ h).2.2.1 rfl) (fun k h=>⟨(hn k h).1,by rw[World.putObj_size];exact(hn k h).2.1⟩) ?_ (hIo _ _ _ _ _ _ hi (by omega) (fun h=>(hn _ h).2.2.2 rfl) hl (Zh _) (OneStep.put _ _ _)) ((World.putObj_heap_other (by omega)).trans hk);exact⟨hbs.os,hbs.tape,hbs.output,by rw[World.putObj_size];exact hbs.size,fun k hk' hno=>(World.putObj_heap_other (by omega)).trans (hbs.block k hk' hno),hbs.owns,fun k h=>by rw[World.putObj_size];exact(hn k h).2.1⟩
end Go.Han
/- The code points of a string, as plain functions on lists of bytes. No program in sight. -/
namespace Go.Han
open Go.Lib
def Yq (l:List UInt8) (i:Nat):Nat:=(l[i]?.getD 0).toNat
def dec (l:List UInt8):Nat×Nat:=decodeN l.length (Yq l 0) (Yq l 1) (Yq l 2) (Yq l 3)
def badB (d:Nat×Nat):Bool:=d.1 == 65533 && decide (d.2<2)
def Tz:Nat->List UInt8->List Nat×Bool
 | 0,_=>([],true)
 | _+1,[]=>([],true)
 | f+1,c :: l=>if badB (dec (c :: l)) then ([],false) else ((dec (c :: l)).1 :: (Tz f ((c :: l).drop (dec (c :: l)).2)).1,(Tz f ((c :: l).drop (dec (c :: l)).2)).2)
def Yt (l:List UInt8):List Nat×Bool:=Tz l.length l
theorem Xci (l:List UInt8):1<=(dec l).2:=decodeN_ge1 _ _ _ _ _
theorem Xep:∀(f f':Nat) (l:List UInt8),l.length<=f->l.length<=f'->Tz f l=Tz f' l
 | 0,0,_,_,_=>rfl
 | 0,f'+1,l,h,_=>by
  have:l=[]:=List.eq_nil_of_length_eq_zero (by omega);subst this;rfl
 | f+1,0,l,_,h=>by
  have:l=[]:=List.eq_nil_of_length_eq_zero (by omega);subst this;rfl
 | f+1,f'+1,[],_,_=>rfl
 | f+1,f'+1,c :: l,h,h'=>by
  have h1:=Xci (c :: l);have e:=Xep f f' ((c :: l).drop (dec (c :: l)).2) (by simp at h ⊢;omega) (by simp at h' ⊢;omega);simp only[Tz,e]
theorem Xw3:Yt []=([],true):=rfl
theorem Xa5 (l:List UInt8) (h:l≠[]):Yt l=if badB (dec l) then ([],false) else ((dec l).1 :: (Yt (l.drop (dec l).2)).1,(Yt (l.drop (dec l).2)).2):=by
 cases l with
 | nil=>exact absurd rfl h
 | cons c l =>
  have h1:=Xci (c :: l);have e:=Xep l.length ((c :: l).drop (dec (c :: l)).2).length ((c :: l).drop (dec (c :: l)).2) (by simp;omega) (Nat.le_refl _);unfold Yt;simp only[List.length_cons,Tz,e]
theorem Xlu (l:List UInt8) (h:l≠[]) (hb:badB (dec l)=true):Yt l=([],false):=by rw[Xa5 l h,if_pos hb]
theorem Xi7 (l:List UInt8) (h:l≠[]) (hb:badB (dec l)=false):Yt l=((dec l).1 :: (Yt (l.drop (dec l).2)).1,(Yt (l.drop (dec l).2)).2):=by rw[Xa5 l h,hb];rfl
theorem Xb5:∀(f:Nat) (l:List UInt8),(Tz f l).1.length<=l.length
 | 0,_=>Nat.zero_le _
 | _+1,[]=>Nat.le_refl _
 | f+1,c :: l=>by
  have h1:=Xci (c :: l);have ih:=Xb5 f ((c :: l).drop (dec (c :: l)).2);simp only[Tz];split
  ·exact Nat.zero_le _
  ·simp at ih ⊢;omega
theorem Xeq (l:List UInt8):(Yt l).1.length<=l.length:=Xb5 _ l
theorem Xon (s:ByteArray) (i:Nat):(s.get! i).toNat=Yq s.data.toList i:=by
 unfold Yq;cases s with
 | mk d =>
  show (d[i]!).toNat=_;rw[Array.getElem!_eq_getD,Array.getD_eq_getD_getElem?];simp;rfl
theorem Xmt (s:ByteArray) (h:s.data.toList≠[]):decodeGo s=dec s.data.toList:=by
 have hs:¬s.size=0:=fun e=>h (List.eq_nil_of_length_eq_zero ((Go.Lib.size_eq s).symm.trans e));unfold decodeGo;rw[if_neg hs,decode_at];simp only[Xon,Nat.zero_add,Nat.sub_zero,dec]
 congr 1
theorem Xu8 (l:List UInt8) (hl:l≠[]):(dec l).1<=1114111/\(dec l).2<=l.length/\(dec l).2<=4:=by
 have hb:∀i,Yq l i<256:=fun i=>(l[i]?.getD 0).toNat_lt;have h0:=hb 0;have h1:=hb 1;have h2:=hb 2;have h3:=hb 3
 have hn:1<=l.length:=by cases l with|nil=>exact absurd rfl hl|cons _ _=>simp
 unfold dec decodeN;generalize Yq l 0=b0 at *;generalize Yq l 1=b1 at *;generalize Yq l 2=b2 at *;generalize Yq l 3=b3 at *;generalize l.length=n at *;repeat' split
 all_goals (refine⟨?_,?_,?_⟩<;>simp<;>omega)
theorem Xmy (s:ByteArray) (n:Nat):(s.extract n s.size).data.toList=s.data.toList.drop n:=by
 rw[Go.Lib.extract_data,Go.Lib.size_eq s];exact List.take_of_length_le (by simp)
end Go.Han
/- The code point with which bytes begin, as the reference has it: plain functions on lists of bytes, and that they answer as 'dec' does. No program in sight. -/
namespace Go.Han
open Go.Lib
end Go.Han
namespace Go.Proofs.YtolpbjjapodmnaaGreatDoor
open Go.RowKit Go.Han
set_option maxRecDepth 100000
attribute [local irreducible] wpStill wpQuiet
set_option maxHeartbeats 8000000
end Go.Proofs.YtolpbjjapodmnaaGreatDoor
/- The iterator of package text over the code points of a string: its contract. -/
namespace Go.Proofs.YtolpbjjapodmnaaGreatDoor
open Go.RowKit Go.Han
attribute [local go_sem] Oper.semAt_some
abbrev Tabs (w:World):Prop:=Lib.Utf8Tabs 1 2 w
def Xdz:List PanicEntry:=[{v:=.iface 212 (.agg #[]),recovered:=false}]
def Xb4 (l:List UInt8):Option (List PanicEntry):=if (Yt l).2 then none else some Xdz
set_option maxHeartbeats 400000 in
theorem X2b (b:Nat) (s:ByteArray) (w0:World) (hT:Tabs w0) (hb:w0.heap[b]? = some (.cells #[.string s] 9 (0,0))) :
  IterC Tryz.prog 202 #[.pointer (some ⟨b,0,none⟩)] (fun r:Nat=>#[.int .i64 r]) (fun k=>k=b\/k=1\/k=2) (fun k=>k=b)
   (Yt s.data.toList).1 (Xb4 s.data.toList) w0:=by
 intro l B0 J Jx Jp own₀ W hR hown hB0 hlive hJ hJx hY h0;refine(callsIn_wide (n:=0)).1 ?_;refine callsIn_of_wp Tryz.func202 rfl trivial ?_;simp only[Tryz.ntmps202,Zr,Nat.reduceAdd,Nat.reduceSub];gi_wp2
 gi_loopw [3] (fun _ wr=>∃(own:Nat->Prop) (pre:List Nat) (s':ByteArray),J own pre wr/\wr.heap[b]? = some (.cells #[.string s'] 9 (0,0))/\Tabs wr/\(∀k,own k->¬(k=b\/k=1\/k=2))/\(∀k,own k->k<wr.heap.size) /\
   Hid ((Yt s.data.toList).1=pre++(Yt s'.data.toList).1/\(Yt s.data.toList).2=(Yt s'.data.toList).2))
  (fun _ wr=>match wr.cell? ⟨b,0,none⟩ with|some (.string s')=>s'.size|_=>0)
 case atStart=>exact⟨own₀,[],s,h0,(hR b (.inl rfl)).2.trans hb,Xf0 hT fun k hk=>(hR k (.inr hk)).2,hown,hlive,by simp,rfl⟩
 case round =>
  obtain⟨own,pre,s',hj,hb',hT',hdis,hliv,HR⟩:=hrel;have hc:=Xe hb';have hf:=Xf hb' 0;have hlt:=Xd hb';by_cases hs:s'.data.toList=[]
  ·have hz:s'.size=0:=by rw[Lib.size_eq,hs];rfl
   have hz1:¬(0:Int)<(s'.size:Int):=(by omega);have hz2:decide ((0:Int)<(s'.size:Int))=false:=(by simpa using hz1);gi_wp2
   go_end0
   obtain⟨h1,h2⟩:=HR.out;rw[hs,Xw3] at h1 h2;simp only[List.append_nil] at h1;exact .inl ⟨by unfold Xb4;rw[h2];rfl,⟨_,rfl⟩,own,by rw[h1];exact hj⟩
  ·have hz:0<s'.size:=by rw[Lib.size_eq];exact List.length_pos_iff.2 hs
   have hz1:(0:Int)<(s'.size:Int):=(by omega);have hz2:decide ((0:Int)<(s'.size:Int))=true:=(by simpa using hz1);have hdec:=Xmt s' hs;have hrg:=Xu8 s'.data.toList hs;have hge:=Xci s'.data.toList;have hstep:=Xa5 s'.data.toList hs;generalize dec s'.data.toList=d at *;obtain⟨r,n⟩:=d;have cd:=Tryz.utf8_DecodeRuneInString s' wr hT';rw[hdec] at cd;have Cd:=Xa cd;clear hdec cd;have Hstep:=Xa hstep;clear hstep;simp only at hrg hge;gi_wp2_with fail
   refine⟨trivial,rfl,(callsIn_wide.2 Cd.out).mono ?_⟩;rintro e w1 ⟨rfl,hb1⟩;obtain⟨hc1,hf1⟩:=bcell hb1;have hz3:=hb1.size;by_cases hbad:badB (r,n)=true
   ·have hr:r=65533/\n<2:=by simpa[badB] using hbad
    obtain⟨rfl,hn2⟩:=hr;have hn:(n:Int)<2:=(by omega);gi_wp2
    obtain⟨h1,h2⟩:=HR.out;have h3:=Hstep.out;rw[if_pos hbad] at h3;rw[h3] at h1 h2;simp only[List.append_nil] at h1;refine⟨rfl,.inr (.inr (.inr ⟨Xdz,by unfold Xb4;rw[h2];rfl,rfl,own,?_⟩))⟩;rw[h1];exact hJ own pre wr w1 hj (IterStep.of_below hb1)
   ·have hbf:badB (r,n)=false:=by simpa using hbad
    have h3:=Hstep.out;rw[if_neg hbad] at h3;obtain⟨h1,h2⟩:=HR.out;rw[h3] at h1 h2;clear h3;have e1:(s'.extract n s'.size).data.toList=s'.data.toList.drop n:=Xmy s' n;have H1:=Xa h1;have H2:=Xa h2;have E1:=Xa e1;clear h1 h2 e1;have hj2:J own pre (w1.setCell ⟨b,0,none⟩ (.string (s'.extract n s'.size))):=hJ own pre wr _ hj (IterStep.setCell (M:=fun k=>k=b) (p:=⟨b,0,none⟩) (IterStep.of_below hb1) (.inr rfl) (fun h=>hdis b h (.inl rfl)) _);obtain⟨fn,tmps,assign,body,hy,hRd⟩:=hY own pre r _ hj2 (by rw[H1.out];exact⟨(Yt (s'.data.toList.drop n)).1,by simp⟩) hdis (fun k hk=>by simp;have:=hliv k hk;omega);have hns:n<=s'.size:=(by rw[Lib.size_eq];exact hrg.2.1);have hi32:(r:Int)<=1114111:=by have:=hrg.1;omega
    have hcase:((r:Int) == 65533)=false\/(((r:Int) == 65533)=true/\(2:Int)<=(n:Int)):=by
     by_cases hr:r=65533
     ·right
      simp[badB,hr] at hbf;refine⟨by simp;omega,by omega⟩
     ·left
      simp;omega
    rcases hcase with hr|⟨hr,hn2⟩
    all_goals
     gi_wp2
     refine⟨rfl,hRd.mono ?_⟩;rintro e W3 (⟨own',hbs,(⟨rfl,hj3⟩|⟨rfl,hjx⟩)⟩|⟨ch,rfl,hjp⟩)
     ·have hb3:W3.heap[b]? = some (.cells #[.string (s'.extract n s'.size)] 9 (0,0)) :=
       hbs.same (Xcr ((hb1.block b hlt).trans hb') _) (fun h=>hdis b h (.inl rfl))
      have hT3:Tabs W3:=Xf0 hT' fun k hk=>by
       have hkl:=Xng hT' k hk
       have hkb:k≠b:=by
        rintro rfl;have hk1:=hb';rcases hk with rfl|rfl
        ·have:=hT'.1 1 (by omega);simp[World.cell?,hk1] at this
        ·have:=(hT'.2 0 (by omega)).2;simp[World.cell?,hk1] at this
       rw[hbs.block k (by simp;omega) (fun h=>hdis k h (.inr hk)),Below.heap_setCell _ _ _ _ hkb];exact hb1.block k hkl
      have hc3:=Xe hb3
      have hdis3:∀k,own' k->¬(k=b\/k=1\/k=2):=fun k hk hr=>by
       rcases hbs.owns k hk with h|h
       ·exact hdis k h hr
       ·simp at h
        rcases hr with hr|hr
        ·omega
        ·have:=Xng hT' k hr;omega
      have Hc3:=Xa hc3;clear hc3 hc1 hf1 hc hf;gi_wp2
      go_roundw
      case rel =>
       refine⟨own',pre++[r],s'.extract n s'.size,hj3,hb3,hT3,hdis3,fun k hk=>hbs.live k hk,?_,?_⟩
       ·rw[H1.out,E1.out];simp
       ·rw[H2.out,E1.out]
      case measure =>
       rw[Hc3.out,Xe hb'];have:(s'.extract n s'.size).size=s'.data.toList.length-n:=(by rw[Lib.size_eq,E1.out];simp);have h4:=Lib.size_eq s';show (s'.extract n s'.size).size<s'.size;omega
     ·gi_wp2
      refine bodyPost_ret (results_none rfl _ _ _) rfl ?_;exact .inr (.inl ⟨⟨_,rfl⟩,own',pre++[r],⟨(Yt (s'.data.toList.drop n)).1,by rw[H1.out];simp⟩,hjx⟩)
     ·exact⟨rfl,.inr (.inr (.inl ⟨ch,rfl,hjp⟩))⟩
end Go.Proofs.YtolpbjjapodmnaaGreatDoor
