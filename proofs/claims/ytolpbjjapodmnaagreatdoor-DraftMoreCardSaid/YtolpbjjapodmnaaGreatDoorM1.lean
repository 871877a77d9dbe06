/- Texts of this claim, one after the other: Range, Base, RangeN. -/
import Derived.Test.YtolpbjjapodmnaaGreatDoorRows
import Derived.RangeFuncNested
import Derived.RangeFuncBound
import Derived.RangeFuncCalls
import Derived.RangeFuncLeaves
import Derived.WalkKit
import Derived.OwnWalkIn
import Derived.TacticsInMore
import Derived.LoopNIn
import Derived.LoopIn
import Derived.WalkSpells
import Derived.WalkLawsBesides
import Derived.Deep.QuietTactic
import Derived.BigQuiet
import Derived.Lib.Hide
import Derived.Recover
import Derived.Maps.AppendAt
import Derived.RangeFuncBox
import Derived.Shelf.Unicode.DecodeSlow
/- A range over a function whose rounds may also panic: the iterator's contract and the caller's law. Conditions: none; plain theorems about the machine's steps. -/
namespace Go.Han
open Go.RowKit
structure IterStep (B0:Nat) (M own:Nat->Prop) (W W':World):Prop where
 os:W'.os=W.os
 tape:W'.tape=W.tape
 output:W'.output=W.output
 size:W.heap.size<=W'.heap.size
 block:∀k,k<W.heap.size->((k<B0/\¬M k)\/own k)->W'.heap[k]? = W.heap[k]?
structure BodyStep (own own':Nat->Prop) (W W':World):Prop where
 os:W'.os=W.os
 tape:W'.tape=W.tape
 output:W'.output=W.output
 size:W.heap.size<=W'.heap.size
 block:∀k,k<W.heap.size->¬own k->W'.heap[k]? = W.heap[k]?
 owns:∀k,own' k->own k\/W.heap.size<=k
 live:∀k,own' k->k<W'.heap.size
def Yp {β:Type} (B0:Nat) (M:Nat->Prop) (J:(Nat->Prop)->β->World->Prop):Prop :=
 ∀own s W W',J own s W->IterStep B0 M own W W'->J own s W'
theorem BodyStep.trans {o1 o2 o3:Nat->Prop} {A B C:World} (h:BodyStep o1 o2 A B) (k:BodyStep o2 o3 B C):BodyStep o1 o3 A C :=
  ⟨k.os.trans h.os,k.tape.trans h.tape,k.output.trans h.output,Nat.le_trans h.size k.size,
   fun i hi hn=>(k.block i (Nat.lt_of_lt_of_le hi h.size) (fun ho=>by rcases h.owns i ho with h1|h1;exact hn h1;omega)).trans (h.block i hi hn),
   fun i hi=>by
     rcases k.owns i hi with h1|h1
     · exact h.owns i h1
     · exact .inr (Nat.le_trans h.size h1),
   k.live⟩
theorem IterStep.of_putObj {B0:Nat} {M own:Nat->Prop} {W:World} {l:Nat} (o:Obj) (hl:B0<=l) (hn:¬own l):IterStep B0 M own W (W.putObj l o) :=
 ⟨rfl,rfl,rfl,by simp,fun k _ h=>World.putObj_heap_other (by rintro rfl;rcases h with h|h;omega;exact hn h)⟩
variable {P:Program}
def V0 {β:Type} (J Jx:(Nat->Prop)->List β->World->Prop) (Jp:List PanicEntry->World->Prop) (own:Nat->Prop) (ys:List β) (W1:World) (e:Ending) (W':World):Prop :=
 (∃own',BodyStep own own' W1 W'/\((e = .returned (.bool true)/\J own' ys W')\/(e = .returned (.bool false)/\Jx own' ys W')))\/(∃ch,e = .panicked ch/\Jp ch W')
def Xd2 {β:Type} (J Jx:(Nat->Prop)->List β->World->Prop) (Jp:List PanicEntry->World->Prop) (xs:List β) (pe:Option (List PanicEntry)) (e:Ending) (W':World):Prop :=
 (pe=none/\(∃v,e = .returned v)/\∃own,J own xs W')\/((∃v,e = .returned v)/\∃own pre,pre <+: xs/\Jx own pre W') \/
  (∃ch,e = .panicked ch/\Jp ch W')\/(∃ch,pe=some ch/\e = .panicked ch/\∃own,J own xs W')
def IterC {α:Type} (P:Program) (g:Nat) (lb:Array Value) (encs:α->Array Value) (R M:Nat->Prop) (xs:List α) (pe:Option (List PanicEntry)) (w0:World):Prop :=
 ∀(l B0:Nat) (J Jx:(Nat->Prop)->List α->World->Prop) (Jp:List PanicEntry->World->Prop) (own₀:Nat->Prop) (W:World),
  (∀k,R k->k<B0/\W.heap[k]? = w0.heap[k]?)->(∀k,own₀ k->¬R k)->B0<=W.heap.size->(∀k,own₀ k->k<W.heap.size) ->
  Yp B0 M J->Yp B0 M Jx ->
  (∀own pre x W1,J own pre W1->pre++[x] <+: xs->(∀k,own k->¬R k)->(∀k,own k->k<W1.heap.size)->YieldAt Fence.wide 0 P l (encs x) W1 (V0 J Jx Jp own (pre++[x]) W1)) ->
  J own₀ [] W ->
  Calls P g (#[.func (.yield l) #[] #[]]++lb) W (Xd2 J Jx Jp xs pe)
def Xsj (P:Program) (l:Nat) (R:Ending->World->Prop):Exit->Act->World->Prop
 | .panic ch,a,w=>a.defers=[]/\R (.panicked ch) w
 | e,a,w=>roundPost P l R e a w
theorem Yf (P:Program) (fr:Frame) (cs:List Frame) (w:World):(lone fr cs w).fenced P Fence.wide:=fenced_wide P _
theorem Zq {l:Nat} {f:FuncId} {fn:Func} (hfn:P.funcs[f]? = some fn) {tmps:Array Value} {assign body:Code} {w:World} {R:Ending->World->Prop} {n:Nat}
  (h:assign.wpIn (Fence.wide.inRound l) n P (Exit.then (fun a₁ w₁=>∃w₂,(Instr.beginRound l).run P w₁ = .ok () w₂/\body.wpIn (Fence.wide.inRound l) n P (Xsj P l R) a₁ w₂) (fun _ _ _=>False))
   {tmps:=tmps,defers:=[]} w) :
  RoundIn Fence.wide n P l f tmps assign body w R:=by
 refine⟨trivial,fun c cs hr=>?_⟩
 let b:Frame:={(default:Frame) with fn:=f,kind:=.normal,roundOf:=some l}
 have hb0:Frame.round l f tmps assign body .normal=b.atR {tmps:=tmps,defers:=[]} [.code assign,.beginRound,.code body]:=by
  simp[Frame.round,Frame.atR,b]
 have hr':(Fence.wide.inRound l).room ((c :: cs).length+1+n):=hr;obtain⟨e,a₁,w₁,hq,harr⟩:=h b [.beginRound,.code body] (c :: cs) rfl trivial hr';rw[<- hb0] at harr;cases e with
 | normal =>
  obtain⟨w₂,hbr,hbody⟩:=hq
  have s1:StepsIn (Machine.fenced P Fence.wide) P (lone (b.atR a₁ [.beginRound,.code body]) (c :: cs) w₁) (lone (b.atR a₁ [.code body]) (c :: cs) w₂) :=
   .one (Yf _ _ _ _) (stepR_beginRound rfl hbr)
  obtain⟨e₂,a₂,w₃,hq₂,harr₂⟩:=hbody b [] (c :: cs) rfl trivial hr';cases e₂ with
  | normal =>
   obtain⟨v,w₄,hend,hR⟩:=hq₂;exact⟨.returned v,w₄,hR,(StepsIn.trans harr s1).trans (StepsIn.trans harr₂ (.one (Yf _ _ _ _) (stepR_round_end rfl rfl hend)))⟩
  | ret =>
   obtain⟨v,w₄,hend,hR⟩:=hq₂;obtain⟨k₁,hs⟩:=harr₂.2 rfl;exact⟨.returned v,w₄,hR,(StepsIn.trans harr s1).trans (StepsIn.trans hs (.one (Yf _ _ _ _) (stepR_round_ret rfl rfl hend)))⟩
  | exit id =>
   obtain⟨v,w₄,hend,hR⟩:=hq₂;obtain⟨k₁,hk,hs⟩:=harr₂.2 rfl rfl;exact⟨.returned v,w₄,hR,(StepsIn.trans harr s1).trans (StepsIn.trans hs (.one (Yf _ _ _ _) (stepR_round_exit rfl rfl hk hend)))⟩
  | goto t =>
   obtain⟨v,w₄,hend,hR⟩:=hq₂;obtain⟨k₁,hk,hs⟩:=harr₂.2 rfl rfl;exact⟨.returned v,w₄,hR,(StepsIn.trans harr s1).trans (StepsIn.trans hs (.one (Yf _ _ _ _) (stepR_round_goto rfl rfl hk hend)))⟩
  | panic chain =>
   obtain⟨hd,hR⟩:=hq₂;obtain⟨k₁,hs⟩:=harr₂;exact⟨.panicked chain,w₃,hR,(StepsIn.trans harr s1).trans (StepsIn.trans hs (.one (Yf _ _ _ _) (step_leave_panicked ⟨rfl,hd,fn,hfn⟩)))⟩
  | outgrown=>exact hq₂.elim
 | exit id=>exact hq.elim
 | goto t=>exact hq.elim
 | ret=>exact hq.elim
 | panic chain=>exact hq.elim
 | outgrown=>exact hq.elim
def wpAt (P:Program) (f:FuncId) (c:Code) (Q:Exit->Act->World->Prop) (a:Act) (w:World):Prop :=
 ∀(b:Frame) (k:List Item) (cs:List Frame),b.roundOf=none->b.fn=f ->
  ∃e a' w',Q e a' w'/\ArrivesIn (Machine.fenced P Fence.wide) P (lone (b.atR a (.code c :: k)) cs w) b k cs e a' w'
section
variable {f:FuncId} {Q:Exit->Act->World->Prop} {a:Act} {w:World}
theorem X2p {c:Code} {n:Nat} (h:c.wpIn Fence.wide n P Q a w):wpAt P f c Q a w:=fun b k cs hro _=>h b k cs hro trivial (room_wide _)
theorem Ur {c:Code} (h:c.wp P Q a w):wpAt P f c Q a w:=X2p (n:=0) (wpIn_wide.2 h)
theorem Uq {x y:Code} (h:wpAt P f x (Exit.then (wpAt P f y Q) Q) a w):wpAt P f (Code.seq x y) Q a w:=by
 intro b k cs hro hb;have h0:=Yf P (b.atR a (.code (.seq x y) :: k)) cs w;obtain⟨e,a₁,w₁,hq,harr⟩:=h b (.code y :: k) cs hro hb;cases e with
 | normal =>
  obtain⟨e₂,a₂,w₂,hq₂,harr₂⟩:=hq b k cs hro hb;exact⟨e₂,a₂,w₂,hq₂,.of_steps (.head h0 stepR_seq harr) harr₂⟩
 | exit id=>exact⟨_,a₁,w₁,hq,.of_steps (.one h0 stepR_seq) (.pass (x:=.code y) rfl (fun _ _ => .inl (by simp)) harr)⟩
 | goto l=>exact⟨_,a₁,w₁,hq,.of_steps (.one h0 stepR_seq) (.pass (x:=.code y) rfl (fun _ _ => .inl (by simp)) harr)⟩
 | ret=>exact⟨_,a₁,w₁,hq,.of_steps (.one h0 stepR_seq) (.pass (x:=.code y) rfl (fun _ _ => .inl (by simp)) harr)⟩
 | panic ch=>exact⟨_,a₁,w₁,hq,.of_steps (.one h0 stepR_seq) (.pass (x:=.code y) rfl (fun _ _ => .inl (by simp)) harr)⟩
 | outgrown=>exact⟨_,a₁,w₁,hq,.of_steps (.one h0 stepR_seq) (.pass (x:=.code y) rfl (fun _ _ => .inl (by simp)) harr)⟩
theorem Xm {x y:Code} (h:∀K:Act->World->Prop,(∀a w,wpAt P f y Q a w->K a w)->x.wp P (Exit.then K Q) a w):wpAt P f (Code.seq x y) Q a w :=
 Uq (Ur (h _ fun _ _ h=>h))
theorem Zl {id:Nat} {c:Code} (h:wpAt P f c (Exit.inBlock id Q) a w):wpAt P f (Code.block id c) Q a w:=by
 intro b k cs hro hb;have h0:=Yf P (b.atR a (.code (.block id c) :: k)) cs w;obtain⟨e,a₁,w₁,hq,harr⟩:=h b (.inBlock id :: k) cs hro hb;cases e with
 | normal=>exact⟨.normal,a₁,w₁,hq,.head h0 stepR_block (StepsIn.trans harr (.one (Yf _ _ _ _) stepR_inBlock))⟩
 | exit id' =>
  by_cases hid:id'=id
  ·simp only[Exit.inBlock,hid,if_true] at hq
   exact⟨.normal,a₁,w₁,hq,.head h0 stepR_block (harr.1 k (by simp[exitTo,hid]))⟩
  ·simp only[Exit.inBlock,hid,if_false] at hq
   have this:(id == id')=false:=(by simp;exact fun h=>hid h.symm);have hx:exitTo id' (.inBlock id :: k)=exitTo id' k:=by simp[exitTo,this]
   exact⟨.exit id',a₁,w₁,hq,fun k' hk => .head h0 stepR_block (harr.1 k' (by rw[hx];exact hk)),
    fun hr' hk=>let ⟨k₁,h1,h2⟩:=harr.2 hr' (by rw[hx];exact hk);⟨k₁,h1,.head h0 stepR_block h2⟩⟩
 | goto l =>
  have hx:gotoIn l (.inBlock id :: k)=gotoIn l k:=by simp[gotoIn]
  exact⟨_,a₁,w₁,hq,fun k' hk => .head h0 stepR_block (harr.1 k' (by rw[hx];exact hk)),
   fun hr' hk=>let ⟨k₁,h1,h2⟩:=harr.2 hr' (by rw[hx];exact hk);⟨k₁,h1,.head h0 stepR_block h2⟩⟩
 | ret=>exact⟨_,a₁,w₁,hq,.of_steps (.one h0 stepR_block) harr⟩
 | panic ch=>exact⟨_,a₁,w₁,hq,.of_steps (.one h0 stepR_block) harr⟩
 | outgrown=>exact⟨_,a₁,w₁,hq,.of_steps (.one h0 stepR_block) harr⟩
theorem Z0 {fn:Func} {c:Code} {args:Array Value} {R:Ending->World->Prop} (hf:P.funcs[f]? = some fn) (hb:fn.body=some c)
  (h:wpAt P f c (bodyPostM Fence.wide 0 P fn R) {tmps:=args++Array.replicate (fn.ntmps-args.size) undef,defers:=[]} w):Calls P f args w R:=by
 refine(callsIn_wide (n:=0)).1 ⟨trivial,fun cs hr=>?_⟩
 let b:Frame:={(default:Frame) with fn:=f,kind:=.normal,roundOf:=none}
 have henter:Frame.enter P f args .normal =
   b.atR {tmps:=args++Array.replicate (fn.ntmps-args.size) undef,defers:=[]} [.code c]:=by
  simp[Frame.enter,Frame.atR,hf,hb,b]
 obtain⟨e,a',w',hq,harr⟩:=h b [] cs rfl rfl;rw[<- henter] at harr;cases e with
 | normal =>
  obtain⟨e',w'',fr',hR,hs,hfn,hl⟩:=leaves_stepsInM a'.defers .returning w' {b.atR a' [] with mode:=.returning} cs rfl rfl rfl hf rfl trivial hr hq;exact⟨e',w'',fr',hR,ComesIn.of_steps (StepsIn.trans harr (.one (Yf _ _ _ _) (stepR_end rfl))) hs,hfn,hl⟩
 | ret =>
  obtain⟨todo,hs₀⟩:=harr.1 rfl;obtain⟨e',w'',fr',hR,hs,hfn,hl⟩:=leaves_stepsInM a'.defers .returning w' {b.atR a' todo with mode:=.returning} cs rfl rfl rfl hf rfl trivial hr hq;exact⟨e',w'',fr',hR,ComesIn.of_steps hs₀ hs,hfn,hl⟩
 | panic chain =>
  obtain⟨todo,hs₀⟩:=harr;obtain⟨e',w'',fr',hR,hs,hfn,hl⟩:=leaves_stepsInM a'.defers (.panicking chain) w' {b.atR a' todo with mode:=.panicking chain} cs rfl rfl rfl hf rfl trivial hr hq;exact⟨e',w'',fr',hR,ComesIn.of_steps hs₀ hs,hfn,hl⟩
 | exit id=>exact hq.elim
 | goto l=>exact hq.elim
 | outgrown=>exact⟨.outgrown,w',b,hq,harr.resolve_left (by simp[b]),rfl,trivial⟩
def Xpg (P:Program) (f:FuncId) (l:Nat) (Q:Exit->Act->World->Prop) (a':Act):Ending->World->Prop
  | .returned _,w₃=>∃jump w₄,(Instr.endLoop l).run P w₃ = .ok jump w₄ /\
      (match jump with
       | none=>Q .normal a' w₄
       | some c=>wpAt P f c Q a' w₄)
  | .panicked chain,w₃=>Q (.panic chain) a' w₃
  | .outgrown,_=>False
theorem Vc {g:Operand} {ps:Array Tmp} {assign body:Code} {l:Nat} {mark:List Deferred} {w₁ w₁' w₂:World} {d:Deferred} {gf:FuncId} {args:Array Value}
  (he:(Instr.enterLoop f a.tmps ps assign body none).run P w = .ok (l,mark) w₁)
  (hres:(resolve a.eval (rangeCall g l) 0).run P w₁ = .ok d w₁') (hinv:(invoke d.target d.args).run P w₁' = .ok (.enter gf args) w₂)
  (hcall:Calls P gf args w₂ (Xpg P f l Q {a with defers:=mark++a.defers})):wpAt P f (Code.rangeFunc g ps assign body) Q a w:=by
 intro b k cs hro hb;rw[<- hro,<- hb] at he;have henter:=stepR_rangeFunc (P:=P) (b:=b) (a:=a) (k:=k) (cs:=cs) (w:=w) he hres hinv;obtain⟨e,w₃,fr,hR,hsteps,hfn,hleave⟩:=((callsIn_wide (n:=0)).2 hcall).2 (b.atR {a with defers:=mark++a.defers} (.inRangeFunc l :: k) :: cs) (room_wide _);have h0:=Yf P (b.atR a (.code (.rangeFunc g ps assign body) :: k)) cs w;cases e with
 | outgrown=>exact hR.elim
 | returned v =>
  obtain⟨jump,w₄,hend,hj⟩:=hR
  have sback:StepsIn (Machine.fenced P Fence.wide) P (lone (b.atR a (.code (.rangeFunc g ps assign body) :: k)) cs w) (lone (b.atR {a with defers:=mark++a.defers} ((jump.map Item.code).toList++k)) cs w₄):=by
   refine .head h0 henter (StepsIn.trans hsteps (.head (Yf _ _ _ _) ?_ (.one (Yf _ _ _ _) (stepR_endRangeFunc hend))));rw[<- finish_atR_inRangeFunc l v];exact step_leave_returned hleave
  cases jump with
  | none=>exact⟨.normal,_,w₄,hj,sback⟩
  | some c =>
   obtain⟨e',a'',w₅,hq,harr⟩:=hj b k cs hro hb;exact⟨e',a'',w₅,hq,.of_steps sback harr⟩
 | panicked chain =>
  refine⟨.panic chain,_,w₃,hR,.inRangeFunc l :: k,.head h0 henter (StepsIn.trans hsteps (.one (Yf _ _ _ _) ?_))⟩;rw[<- Frame.raise_atR];exact step_leave_panicked hleave
end
def Xi5 {α:Type} (I:(Nat->Prop)->List α->World->Prop) (Ix:Code->(Nat->Prop)->List α->World->Prop) (Ip:List PanicEntry->World->Prop) (own:Nat->Prop) (xs:List α) (W:World):Exit->Act->World->Prop
 | .normal,_,W'=>∃own',BodyStep own own' W W'/\I own' xs W'
 | .ret,_,W'=>∃own',BodyStep own own' W W'/\Ix .ret own' xs W'
 | .exit id,_,W'=>∃own',BodyStep own own' W W'/\Ix (.exit id) own' xs W'
 | .goto t,_,W'=>∃own',BodyStep own own' W W'/\Ix (.goto t) own' xs W'
 | .panic ch,a,W'=>a.defers=[]/\(∃own',BodyStep own own' W W')/\Ip ch W'
 | .outgrown,_,_=>False
def Xkm (R:Nat->Prop) (l:Nat) (own:Nat->Prop) (W:World):Prop:=(∀k,own k->¬R k/\k<W.heap.size/\k≠l/\k+1≠l)
theorem BodyStep.same {own own':Nat->Prop} {W W':World} (h:BodyStep own own' W W') {k:Nat} {o:Obj} (hk:W.heap[k]? = some o) (hn:¬own k):W'.heap[k]? = some o :=
 (h.block k (Array.getElem?_eq_some_iff.1 hk).1 hn).trans hk
theorem Xxy {α:Type} {f:FuncId} {fn:Func} (hfn:P.funcs[f]? = some fn) {g:Operand} {ps:Array Tmp} {assign body:Code} {Q:Exit->Act->World->Prop} {a:Act} {w:World}
  {gf:Nat} {lb:Array Value} (hg:a.eval g = .func (.func gf) #[] lb) (eg:∀args w,(callFunc gf args).run P w = .ok (.enter gf args) w)
  {encs:α->Array Value} {R M:Nat->Prop} {xs:List α} {pe:Option (List PanicEntry)} {w0:World} (hit:IterC P gf lb encs R M xs pe w0)
  (hR:∀k,R k->k<w.heap.size/\w.heap[k]? = w0.heap[k]?) (hps:∀x,(encs x).size=ps.size)
  (I:(Nat->Prop)->List α->World->Prop) (Ix:Code->(Nat->Prop)->List α->World->Prop) (Ip:List PanicEntry->World->Prop)
  (hI:Yp w.heap.size M I) (hIx:∀c,Yp w.heap.size M (Ix c))
  (own₀:Nat->Prop) (hown:∀k,own₀ k->k<w.heap.size/\¬R k) (h0:I own₀ [] w)
  (Ia:α->Act->(Nat->Prop)->List α->World->Prop) (hIa:∀x a',Yp w.heap.size M (Ia x a'))
  (hassign:∀(l:Nat) (own:Nat->Prop) (pre:List α) (x:α) (W:World),I own pre W->w.heap.size<l->l<W.heap.size->Xkm R l own W->pre++[x] <+: xs ->
   assign.wpIn (Fence.wide.inRound l) 0 P (Exit.then (fun a' W'=>∃own',BodyStep own own' W W'/\Ia x a' own' pre W') (fun _ _ _=>False))
    {tmps:=(ps.zip (encs x)).foldl (fun t (p,v)=>t.setIfInBounds p v) a.tmps,defers:=[]} W)
  (hbody:∀(l:Nat) (own:Nat->Prop) (pre:List α) (x:α) (a':Act) (W:World),Ia x a' own pre W->w.heap.size<l->l<W.heap.size->Xkm R l own W->pre++[x] <+: xs ->
   body.wpIn (Fence.wide.inRound l) 0 P (Xi5 I Ix Ip own (pre++[x]) W) a' W)
  (hdone:∀(D:Nat) (own:Nat->Prop) (W:World),w.heap.size<=D->pe=none->I own xs W->W.heap[D]? = some (.deferred (some []))->Q .normal {a with defers:={target:=.collected D,args:=#[]} :: a.defers} W)
  (hstop:∀(D:Nat) (own:Nat->Prop) (c:Code) (pre:List α) (W:World),w.heap.size<=D->pre <+: xs->Ix c own pre W->W.heap[D]? = some (.deferred (some []))->wpAt P f c Q {a with defers:={target:=.collected D,args:=#[]} :: a.defers} W)
  (hpan:∀(D:Nat) (ch:List PanicEntry) (W:World),w.heap.size<=D->Ip ch W->W.heap[D]? = some (.deferred (some []))->Q (.panic ch) {a with defers:={target:=.collected D,args:=#[]} :: a.defers} W)
  (hpe:∀(D:Nat) (own:Nat->Prop) (ch:List PanicEntry) (W:World),w.heap.size<=D->pe=some ch->I own xs W->W.heap[D]? = some (.deferred (some []))->Q (.panic ch) {a with defers:={target:=.collected D,args:=#[]} :: a.defers} W) :
  wpAt P f (Code.rangeFunc g ps assign body) Q a w:=by
 obtain⟨rec,hrec⟩:∃rec:LoopState->Option Code->Loop,rec=fun st pe=>{state:=st,pending:=pe,fn:=f,tmps:=a.tmps,params:=ps,assign,body,defers:=w.heap.size}:=⟨_,rfl⟩
 obtain⟨W1,hW1⟩:∃W1,(w.alloc (.deferred (some []))).alloc (.loop (rec .ready none))=W1:=⟨_,rfl⟩
 have hsz:W1.heap.size=w.heap.size+2:=by rw[<- hW1];simp
 have hL1:W1.heap[w.heap.size+1]? = some (.loop (rec .ready none)):=by
  rw[<- hW1];have:=World.alloc_heap_new (w.alloc (.deferred (some []))) (.loop (rec .ready none));rwa [World.size_alloc] at this
 have hK1:W1.heap[w.heap.size]? = some (.deferred (some [])):=by
  rw[<- hW1];exact(Below.heap_alloc _ _ _ (by simp)).trans (World.alloc_heap_new w _)
 have hB1:∀k,k<w.heap.size->W1.heap[k]? = w.heap[k]? := by
  intro k hk;rw[<- hW1];exact(Below.heap_alloc _ _ _ (by simp;omega)).trans (Below.heap_alloc _ _ _ hk)
 have hI1:I own₀ [] W1:=hI own₀ [] w W1 h0 ⟨by rw[<- hW1];rfl,by rw[<- hW1];rfl,by rw[<- hW1];rfl,by omega,fun k hk _=>hB1 k hk⟩
 -- the caller's own blocks, with the loop's two
 have both:∀own:Nat->Prop,(∀k,own k->¬R k/\k≠w.heap.size/\k≠w.heap.size+1)->∀k,(own k\/k=w.heap.size\/k=w.heap.size+1)->¬R k:=by
  intro own h k hk hr;rcases hk with hk|hk|hk
  ·exact(h k hk).1 hr
  ·have:=(hR k hr).1;omega
  ·have:=(hR k hr).1;omega
 refine Vc (l:=w.heap.size+1) (mark:=[{target:=.collected w.heap.size,args:=#[]}]) (w₁:=W1) (w₁':=W1) (w₂:=W1)
  (d:={target:=.fn (.func gf) lb,args:=#[.func (.yield (w.heap.size+1)) #[] #[]]}) (gf:=gf) (args:=#[.func (.yield (w.heap.size+1)) #[] #[]]++lb) ?_ ?_ ?_ ?_
 ·rw[<- hW1,hrec];exact run_enterLoop_outer _ _ _ _ _
 ·simp only[resolve,hg];simp[go_sem]
 ·simp[invoke,go_sem,eg]
 refine(hit (w.heap.size+1) w.heap.size
  (fun own pre W=>∃o1,(∀k,own k↔(o1 k\/k=w.heap.size\/k=w.heap.size+1))/\(∀k,o1 k->¬R k/\k<W.heap.size/\k≠w.heap.size+1/\k+1≠w.heap.size+1)/\I o1 pre W/\W.heap[w.heap.size+1]? = some (.loop (rec .ready none))/\W.heap[w.heap.size]? = some (.deferred (some [])))
  (fun own pre W=>∃o1,(∀k,own k↔(o1 k\/k=w.heap.size\/k=w.heap.size+1))/\(∀k,o1 k->¬R k/\k<W.heap.size/\k≠w.heap.size+1/\k+1≠w.heap.size+1)/\∃c,Ix c o1 pre W/\W.heap[w.heap.size+1]? = some (.loop (rec .done (some c)))/\W.heap[w.heap.size]? = some (.deferred (some [])))
  (fun ch W=>Ip ch W/\W.heap[w.heap.size]? = some (.deferred (some [])))
  (fun k=>own₀ k\/k=w.heap.size\/k=w.heap.size+1) W1 (fun k hk=>⟨(hR k hk).1,(hB1 k (hR k hk).1).trans (hR k hk).2⟩)
  (both own₀ (fun k hk=>⟨(hown k hk).2,by have:=(hown k hk).1;omega,by have:=(hown k hk).1;omega⟩)) (by omega)
  (fun k hk=>by rcases hk with h|h|h;have:=(hown k h).1;omega;omega;omega) ?_ ?_ ?_ ⟨own₀,fun _=>Iff.rfl,fun k hk=>⟨(hown k hk).2,by have:=(hown k hk).1;omega,by have:=(hown k hk).1;omega,by have:=(hown k hk).1;omega⟩,hI1,hL1,hK1⟩).mono ?_
 ·rintro own pre A B ⟨o1,ho,hn,hi,hl,hk⟩ st
  have hlt:=(Array.getElem?_eq_some_iff.1 hl).1;have hlt':=(Array.getElem?_eq_some_iff.1 hk).1
  exact⟨o1,ho,fun k hk'=>⟨(hn k hk').1,Nat.lt_of_lt_of_le (hn k hk').2.1 st.size,(hn k hk').2.2⟩,hI o1 pre A B hi ⟨st.os,st.tape,st.output,st.size,fun k hk' h=>st.block k hk' (h.imp id (fun h=>(ho k).2 (.inl h)))⟩,
   (st.block _ hlt (.inr ((ho _).2 (.inr (.inr rfl))))).trans hl,(st.block _ hlt' (.inr ((ho _).2 (.inr (.inl rfl))))).trans hk⟩
 ·rintro own pre A B ⟨o1,ho,hn,c,hi,hl,hk⟩ st
  have hlt:=(Array.getElem?_eq_some_iff.1 hl).1;have hlt':=(Array.getElem?_eq_some_iff.1 hk).1
  exact⟨o1,ho,fun k hk'=>⟨(hn k hk').1,Nat.lt_of_lt_of_le (hn k hk').2.1 st.size,(hn k hk').2.2⟩,c,hIx c o1 pre A B hi ⟨st.os,st.tape,st.output,st.size,fun k hk' h=>st.block k hk' (h.imp id (fun h=>(ho k).2 (.inl h)))⟩,
   (st.block _ hlt (.inr ((ho _).2 (.inr (.inr rfl))))).trans hl,(st.block _ hlt' (.inr ((ho _).2 (.inr (.inl rfl))))).trans hk⟩
 ·-- ONE ROUND
  rintro own pre x W ⟨o1,ho,hn,hi,hl,hk⟩ hpre hnR hlive;have hlt:w.heap.size+1<W.heap.size:=(Array.getElem?_eq_some_iff.1 hl).1;have hy:=run_yield (P:=P) (args:=encs x) hl (by rw[hrec];exact hps x);rw[hrec] at hy;refine⟨f,_,assign,body,hy,Zq hfn (wpIn_mono (hassign (w.heap.size+1) o1 pre x W hi (by omega) hlt hn hpre) ?_)⟩;rintro e a' Wa hp;cases e with
  | normal =>
   obtain⟨o2,hb2,hia⟩:=hp
   have hn2:∀k,o2 k->¬R k/\k<Wa.heap.size/\k≠w.heap.size+1/\k+1≠w.heap.size+1:=by
    intro k hk';refine⟨?_,hb2.live k hk',?_⟩
    ·intro hr
     rcases hb2.owns k hk' with h|h
     ·exact(hn k h).1 hr
     ·have:=(hR k hr).1;omega
    ·rcases hb2.owns k hk' with h|h
     ·exact(hn k h).2.2
     ·omega
   have hla:=hb2.same hl (fun h=>(hn _ h).2.2.1 rfl);have hka:=hb2.same hk (fun h=>(hn _ h).2.2.2 rfl);have hlta:w.heap.size+1<Wa.heap.size:=(Array.getElem?_eq_some_iff.1 hla).1;refine⟨_,run_beginRound hla (by rw[hrec]),?_⟩;obtain⟨Wb,hWb⟩:∃Wb,Wa.putObj (w.heap.size+1) (.loop {rec .ready none with state:=.busy})=Wb:=⟨_,rfl⟩
   rw[hWb];have hszb:Wb.heap.size=Wa.heap.size:=(by rw[<- hWb];simp);have hob:∀k,k≠w.heap.size+1->Wb.heap[k]? = Wa.heap[k]? := fun k hk'=>by rw[<- hWb];exact World.putObj_heap_other hk'
   have hlb:Wb.heap[w.heap.size+1]? = some (.loop {rec .ready none with state:=.busy}):=(by rw[<- hWb];exact World.putObj_heap_same hlta);have hkb:Wb.heap[w.heap.size]? = some (.deferred (some [])):=(hob _ (by omega)).trans hka;have hib:Ia x a' o2 pre Wb:=hIa x a' o2 pre Wa Wb hia ⟨by rw[<- hWb];rfl,by rw[<- hWb];rfl,by rw[<- hWb];rfl,by omega,fun k _ h=>hob k (by rintro rfl;rcases h with h|h;omega;exact(hn2 _ h).2.2.1 rfl)⟩;refine wpIn_mono (hbody (w.heap.size+1) o2 pre x a' Wb hib (by omega) (by omega) (fun k hk'=>⟨(hn2 k hk').1,by have:=(hn2 k hk').2.1;omega,(hn2 k hk').2.2⟩) hpre) ?_
   -- what the round's end comes to
   have fin:∀(jump:Option Code) (o3:Nat->Prop) (W3:World),BodyStep o2 o3 Wb W3 ->
     ∃W4,(Instr.endRound (w.heap.size+1) jump).run P W3 = .ok (.bool jump.isNone) W4/\W4.heap.size=W3.heap.size/\(∀k,k≠w.heap.size+1->W4.heap[k]? = W3.heap[k]?)/\W4.os=W3.os/\W4.tape=W3.tape/\W4.output=W3.output /\
     W4.heap[w.heap.size+1]? = some (.loop (rec (if jump.isNone then .ready else .done) jump))/\W4.heap[w.heap.size]? = some (.deferred (some []))/\¬o3 (w.heap.size+1)/\¬o3 w.heap.size /\
     BodyStep own (fun k=>o3 k\/k=w.heap.size\/k=w.heap.size+1) W W4/\(∀k,o3 k->¬R k/\k<W4.heap.size/\k≠w.heap.size+1/\k+1≠w.heap.size+1):=by
    intro jump o3 W3 hb3;have hl3:=hb3.same hlb (fun h=>(hn2 _ h).2.2.1 rfl);have hk3:=hb3.same hkb (fun h=>(hn2 _ h).2.2.2 rfl);have hlt3:=(Array.getElem?_eq_some_iff.1 hl3).1;have hrun:=run_endRound (P:=P) jump hl3
    have no1:¬o3 (w.heap.size+1):=fun h=>by
     rcases hb3.owns _ h with h|h
     ·exact(hn2 _ h).2.2.1 rfl
     ·omega
    have no2:¬o3 w.heap.size:=fun h=>by
     rcases hb3.owns _ h with h|h
     ·exact(hn2 _ h).2.2.2 rfl
     ·omega
    have hsub:∀k,o3 k->o1 k\/W.heap.size<=k:=by
     intro k h;rcases hb3.owns k h with h|h
     ·exact hb2.owns k h
     ·exact .inr (by have:=hb2.size;omega)
    refine⟨_,hrun,by simp,fun k hk'=>World.putObj_heap_other hk',rfl,rfl,rfl,?_,(World.putObj_heap_other (by omega)).trans hk3,no1,no2,?_,?_⟩
    ·rw[World.putObj_heap_same hlt3,hrec]
    ·refine⟨?_,?_,?_,?_,?_,?_,?_⟩
     ·exact hb3.os.trans ((by rw[<- hWb];rfl:Wb.os=Wa.os).trans hb2.os)
     ·exact hb3.tape.trans ((by rw[<- hWb];rfl:Wb.tape=Wa.tape).trans hb2.tape)
     ·exact hb3.output.trans ((by rw[<- hWb];rfl:Wb.output=Wa.output).trans hb2.output)
     ·have:=hb2.size;have:=hb3.size;simp;omega
     ·intro k hk' hno
      have h1:k≠w.heap.size+1:=fun e=>hno ((ho k).2 (.inr (.inr e)));have h2:¬o1 k:=fun e=>hno ((ho k).2 (.inl e))
      have h3:¬o2 k:=fun e=>by
       rcases hb2.owns k e with h|h
       ·exact h2 h
       ·omega
      rw[World.putObj_heap_other h1,hb3.block k (by have:=hb2.size;omega) h3,hob k h1];exact hb2.block k hk' h2
     ·intro k hk'
      rcases hk' with h|h|h
      ·rcases hsub k h with h|h
       ·exact .inl ((ho k).2 (.inl h))
       ·exact .inr h
      ·exact .inl ((ho k).2 (.inr (.inl h)))
      ·exact .inl ((ho k).2 (.inr (.inr h)))
     ·intro k hk'
      rw[World.putObj_size];rcases hk' with h|h|h
      ·exact hb3.live k h
      ·omega
      ·omega
    ·intro k h
     refine⟨?_,by rw[World.putObj_size];exact hb3.live k h,fun e=>no1 (e ▸ h),fun e=>no2 ((show k=w.heap.size by omega) ▸ h)⟩;intro hr;rcases hsub k h with h|h
     ·exact(hn k h).1 hr
     ·have:=(hR k hr).1;omega
   have turn:∀(W3 W4:World) (o3:Nat->Prop),W4.heap.size=W3.heap.size->(∀k,k≠w.heap.size+1->W4.heap[k]? = W3.heap[k]?)->W4.os=W3.os->W4.tape=W3.tape->W4.output=W3.output->¬o3 (w.heap.size+1)->IterStep w.heap.size M o3 W3 W4 :=
    fun W3 W4 o3 h1 h2 h3 h4 h5 h6=>⟨h3,h4,h5,by omega,fun k _ h=>h2 k (by rintro rfl;rcases h with h|h;omega;exact h6 h)⟩
   rintro e a3 W3 hp;cases e with
   | normal =>
    obtain⟨o3,hb3,hi3⟩:=hp;obtain⟨W4,hr,h1,h2,h3,h4,h5,h6,h7,h8,h9,h10,h11⟩:=fin none o3 W3 hb3;exact⟨_,W4,hr,.inl ⟨_,h10,.inl ⟨rfl,o3,fun _=>Iff.rfl,h11,hI o3 _ W3 W4 hi3 (turn W3 W4 o3 h1 h2 h3 h4 h5 h8),h6,h7⟩⟩⟩
   | ret =>
    obtain⟨o3,hb3,hi3⟩:=hp;obtain⟨W4,hr,h1,h2,h3,h4,h5,h6,h7,h8,h9,h10,h11⟩:=fin (some .ret) o3 W3 hb3;exact⟨_,W4,hr,.inl ⟨_,h10,.inr ⟨rfl,o3,fun _=>Iff.rfl,h11,_,hIx _ o3 _ W3 W4 hi3 (turn W3 W4 o3 h1 h2 h3 h4 h5 h8),h6,h7⟩⟩⟩
   | exit id =>
    obtain⟨o3,hb3,hi3⟩:=hp;obtain⟨W4,hr,h1,h2,h3,h4,h5,h6,h7,h8,h9,h10,h11⟩:=fin (some (.exit id)) o3 W3 hb3;exact⟨_,W4,hr,.inl ⟨_,h10,.inr ⟨rfl,o3,fun _=>Iff.rfl,h11,_,hIx _ o3 _ W3 W4 hi3 (turn W3 W4 o3 h1 h2 h3 h4 h5 h8),h6,h7⟩⟩⟩
   | goto t =>
    obtain⟨o3,hb3,hi3⟩:=hp;obtain⟨W4,hr,h1,h2,h3,h4,h5,h6,h7,h8,h9,h10,h11⟩:=fin (some (.goto t)) o3 W3 hb3;exact⟨_,W4,hr,.inl ⟨_,h10,.inr ⟨rfl,o3,fun _=>Iff.rfl,h11,_,hIx _ o3 _ W3 W4 hi3 (turn W3 W4 o3 h1 h2 h3 h4 h5 h8),h6,h7⟩⟩⟩
   | panic ch =>
    obtain⟨hd,⟨o3,hb3⟩,hp3⟩:=hp;exact⟨hd,.inr ⟨ch,rfl,hp3,hb3.same hkb (fun h=>(hn2 _ h).2.2.2 rfl)⟩⟩
   | outgrown=>exact hp.elim
  | exit id=>exact hp.elim
  | goto t=>exact hp.elim
  | ret=>exact hp.elim
  | panic ch=>exact hp.elim
  | outgrown=>exact hp.elim
 ·-- BEHIND THE ITERATOR
  rintro e W2 h;rcases h with ⟨hpn,⟨v,rfl⟩,own,o1,ho,hn,hi,hl,hk⟩|⟨⟨v,rfl⟩,own,pre,hpre,o1,ho,hn,c,hi,hl,hk⟩|⟨ch,rfl,hp,hk⟩|⟨ch,hpn,rfl,own,o1,ho,hn,hi,hl,hk⟩
  ·have hrun:=run_endLoop (P:=P) hl (by rw[hrec];simp)
   refine⟨none,_,by rw[hrec] at hrun;exact hrun,?_⟩;exact hdone _ o1 _ (Nat.le_refl _) hpn (hI o1 _ W2 _ hi (IterStep.of_putObj _ (by omega) (fun h=>(hn _ h).2.2.1 rfl))) ((World.putObj_heap_other (by omega)).trans hk)
  ·have hrun:=run_endLoop (P:=P) hl (by rw[hrec];simp)
   refine⟨some c,_,by rw[hrec] at hrun;exact hrun,?_⟩;exact hstop _ o1 c pre _ (Nat.le_refl _) hpre (hIx c o1 pre W2 _ hi (IterStep.of_putObj _ (by omega) (fun h=>(hn _ h).2.2.1 rfl))) ((World.putObj_heap_other (by omega)).trans hk)
  ·exact hpan _ ch W2 (Nat.le_refl _) hp hk
  ·exact hpe _ o1 ch W2 (Nat.le_refl _) hpn hi hk
theorem Qk {fn:Func} {tmps:Array Value} {R:Ending->World->Prop} {D:Nat} {W:World} {v:Value} (hdef:W.heap[D]? = some (.deferred (some [])))
  (hres:(results fn tmps).run P (W.putObj D (.deferred none)) = .ok v (W.putObj D (.deferred none))) (hR:R (.returned v) (W.putObj D (.deferred none))) :
  LeavesInM Fence.wide 0 P fn tmps R [{target:=.collected D,args:=#[]}] .returning W :=
 ⟨by simp,.inl ⟨_,_,rfl,run_takeDeferred hdef,⟨_,hres,hR⟩⟩⟩
theorem Xkf {fn:Func} {tmps:Array Value} {R:Ending->World->Prop} {D:Nat} {W:World} {ch:List PanicEntry} (hdef:W.heap[D]? = some (.deferred (some [])))
  (hR:R (.panicked ch) (W.putObj D (.deferred none))) :
  LeavesInM Fence.wide 0 P fn tmps R [{target:=.collected D,args:=#[]}] (.panicking ch) W :=
 ⟨by simp,.inl ⟨_,_,rfl,run_takeDeferred hdef,hR⟩⟩
end Go.Han
/- Small lemmas for walks: what lies below a block number, cells that are read, draws. -/
namespace Go.Han
open Go.RowKit
theorem bcell {W w1:World} (hb:Below W.heap.size W w1):(∀b o,b<W.heap.size->w1.cell? ⟨b,o,none⟩=W.cell? ⟨b,o,none⟩)/\(∀b o,b<W.heap.size->w1.frozen? ⟨b,o,none⟩=W.frozen? ⟨b,o,none⟩) :=
 ⟨fun b o h=>hb.cell (p:=⟨b,o,none⟩) h,fun b o h=>hb.frozen (p:=⟨b,o,none⟩) h⟩
theorem Xb {a b c:World} (h:Below a.heap.size a b) (k:Below b.heap.size b c):Below a.heap.size a c:=h.trans (k.mono h.size)
theorem Xg {a b:World} (h:Below a.heap.size a b) (o:Obj):Below a.heap.size a (b.alloc o):=h.alloc h.size o
theorem Xr {a b:World} (h:Below a.heap.size a b):Below a.heap.size a b.drew:=h.drew
theorem Xe {w:World} {b t:Nat} {v:Value} (h:w.heap[b]? = some (.cells #[v] t (0,0))):w.cell? ⟨b,0,none⟩=some v:=by
 simp[World.cell?,h]
theorem Xf {w:World} {b t:Nat} {cs:Array Value} (h:w.heap[b]? = some (.cells cs t (0,0))) (o:Nat):w.frozen? ⟨b,o,none⟩=false:=by
 simp[World.frozen?,h]
theorem Xd {w:World} {b:Nat} {o:Obj} (h:w.heap[b]? = some o):b<w.heap.size:=(Array.getElem?_eq_some_iff.1 h).1
theorem Xa {p:Prop} (h:p):Hid p:=Lib.hid h
theorem Xi {w w':World} {b:Nat} {o:Obj} (hb:Below w.heap.size w w') (h:w.heap[b]? = some o):w'.heap[b]? = some o:=(hb.block _ (Xd h)).trans h
theorem Zr:(∀l:List Value,l.toArray.size=l.length)/\(∀(a:Value) (l:List Value),(a :: l).length=l.length+1)/\(([]:List Value).length=0)/\(∀(n:Nat) (a:Value),Array.replicate (n+1) a=(Array.replicate n a).push a)/\(∀a:Value,Array.replicate 0 a=#[])/\(∀(l:List Value) (a:Value),l.toArray.push a=(l++[a]).toArray)/\(∀l m:List Value,l.toArray++m.toArray=(l++m).toArray)/\(∀l:List Value,[]++l=l)/\(∀(a:Value) (l m:List Value),(a :: l)++m=a :: (l++m)) :=
 ⟨fun _=>by simp,fun _ _=>by simp,by simp,fun _ _=>Array.replicate_succ,fun _=>by simp,fun _ _=>by simp,fun _ _=>by simp,fun _=>by simp,fun _ _ _=>by simp⟩
theorem bo_q {b:Nat} {w:World}:Below b w w:=Below.refl b w
theorem ba_q {w:World} {o:Obj}:Below w.heap.size w (w.alloc o):=Xg (Below.refl _ _) _
theorem bd_q {w:World}:Below w.heap.size w w.drew:=Xr (Below.refl _ _)
theorem X5 {w v:World} {o:Obj} (h:w.alloc o=v):Below w.heap.size w v:=by rw[<- h];exact Xg (Below.refl _ _) _
theorem Yg {w v:World} {o:Obj} (h:w.alloc o=v):v.heap[w.heap.size]? = some o:=by rw[<- h];exact World.alloc_heap_new _ _
theorem Ql {w:World} {a:Addr} {v:Value} (h:w.cell? a=some v):a.block<w.heap.size:=by
 unfold World.cell? at h;rcases Nat.lt_or_ge a.block w.heap.size with h1|h1
 ·exact h1
 ·rw[Array.getElem?_eq_none h1] at h;simp at h
theorem Xcr {w:World} {b t:Nat} {v:Value} (h:w.heap[b]? = some (.cells #[v] t (0,0))) (u:Value):(w.setCell ⟨b,0,none⟩ u).heap[b]? = some (.cells #[u] t (0,0)):=by
 simp[World.setCell,Array.getElem?_modify,h]
theorem IterStep.refl (B0:Nat) (M own:Nat->Prop) (W:World):IterStep B0 M own W W:=⟨rfl,rfl,rfl,Nat.le_refl _,fun _ _ _=>rfl⟩
theorem IterStep.trans {B0:Nat} {M own:Nat->Prop} {A B C:World} (h:IterStep B0 M own A B) (k:IterStep B0 M own B C):IterStep B0 M own A C :=
 ⟨k.os.trans h.os,k.tape.trans h.tape,k.output.trans h.output,Nat.le_trans h.size k.size,fun i hi ho=>(k.block i (Nat.lt_of_lt_of_le hi h.size) ho).trans (h.block i hi ho)⟩
theorem IterStep.of_below {B0:Nat} {M own:Nat->Prop} {A B:World} (h:Below A.heap.size A B):IterStep B0 M own A B :=
 ⟨h.os,h.tape,h.output,h.size,fun i hi _=>h.block i hi⟩
theorem IterStep.setCell {B0:Nat} {M own:Nat->Prop} {A B:World} (h:IterStep B0 M own A B) {p:Addr} (hp:B0<=p.block\/M p.block) (hn:¬own p.block) (u:Value):IterStep B0 M own A (B.setCell p u) :=
 h.trans ⟨rfl,rfl,rfl,by simp[World.setCell],fun i _ ho=>Below.heap_setCell _ _ _ _ (by
  rintro rfl;rcases ho with ⟨h1,h2⟩|ho
  ·rcases hp with hp|hp
   ·omega
   ·exact h2 hp
  ·exact hn ho)⟩
theorem IterStep.alloc {B0:Nat} {M own:Nat->Prop} {A B:World} (h:IterStep B0 M own A B) (o:Obj):IterStep B0 M own A (B.alloc o) :=
 h.trans (IterStep.of_below ((Below.refl _ _).alloc (Nat.le_refl _) o))
theorem IterStep.drew {B0:Nat} {M own:Nat->Prop} {A B:World} (h:IterStep B0 M own A B):IterStep B0 M own A B.drew :=
 h.trans (IterStep.of_below (Below.refl _ _).drew)
theorem Xf0 {g1 g2:Nat} {w w':World} (h:Lib.Utf8Tabs g1 g2 w) (hk:∀k,(k=g1\/k=g2)->w'.heap[k]? = w.heap[k]?):Lib.Utf8Tabs g1 g2 w':=by
 refine⟨fun c hc=>?_,fun i hi=>⟨?_,?_⟩⟩
 ·rw[World.cell?_of_block (w:=w) (hk _ (.inl rfl))];exact h.1 c hc
 ·rw[World.cell?_of_block (w:=w) (hk _ (.inr rfl))];exact(h.2 i hi).1
 ·rw[World.cell?_of_block (w:=w) (hk _ (.inr rfl))];exact(h.2 i hi).2
theorem Xng {g1 g2:Nat} {w:World} (h:Lib.Utf8Tabs g1 g2 w):∀k,(k=g1\/k=g2)->k<w.heap.size:=by
 rintro k (rfl|rfl)
 ·exact Ql (h.1 0 (by omega))
 ·exact Ql (h.2 0 (by omega)).1
theorem Xa8 {g1 g2:Nat} {w w':World} (h:Lib.Utf8Tabs g1 g2 w) (hb:Below w.heap.size w w'):Lib.Utf8Tabs g1 g2 w' :=
 Xf0 h fun k hk=>hb.block k (Xng h k hk)
structure Only (M:Nat->Prop) (w w':World):Prop where
 os:w'.os=w.os
 tape:w'.tape=w.tape
 output:w'.output=w.output
 size:w.heap.size<=w'.heap.size
 block:∀k,k<w.heap.size->¬M k->w'.heap[k]? = w.heap[k]?
theorem Only.refl (M:Nat->Prop) (w:World):Only M w w:=⟨rfl,rfl,rfl,Nat.le_refl _,fun _ _ _=>rfl⟩
theorem Only.trans {M:Nat->Prop} {a b c:World} (h:Only M a b) (k:Only M b c):Only M a c :=
 ⟨k.os.trans h.os,k.tape.trans h.tape,k.output.trans h.output,Nat.le_trans h.size k.size,fun i hi hn=>(k.block i (Nat.lt_of_lt_of_le hi h.size) hn).trans (h.block i hi hn)⟩
theorem Only.of_below {M:Nat->Prop} {a b:World} (h:Below a.heap.size a b):Only M a b:=⟨h.os,h.tape,h.output,h.size,fun i hi _=>h.block i hi⟩
theorem Only.below {M:Nat->Prop} {a b:World} (h:Only M a b) (hM:∀k,M k->a.heap.size<=k):Below a.heap.size a b:=⟨h.os,h.tape,h.output,h.size,fun i hi=>h.block i hi (fun hm=>by have:=hM i hm;omega)⟩
theorem Only.alloc {M:Nat->Prop} {a b:World} (h:Only M a b) (o:Obj):Only M a (b.alloc o):=h.trans (.of_below ((Below.refl _ _).alloc (Nat.le_refl _) o))
theorem Only.drew {M:Nat->Prop} {a b:World} (h:Only M a b):Only M a b.drew:=h.trans (.of_below (Below.refl _ _).drew)
theorem Only.ext {M:Nat->Prop} {a b c:World} (h:Only M a b) (k:Below b.heap.size b c):Only M a c:=h.trans (.of_below k)
theorem Only.setCell {M:Nat->Prop} {a b:World} (h:Only M a b) {p:Addr} (hp:M p.block\/a.heap.size<=p.block) (u:Value):Only M a (b.setCell p u) :=
 ⟨h.os,h.tape,h.output,by simpa[World.setCell] using h.size,fun i hi hn=>(Below.heap_setCell _ _ _ _ (by rintro rfl;rcases hp with hp|hp;exact hn hp;omega)).trans (h.block i hi hn)⟩
theorem Only.iter {M own:Nat->Prop} {B0:Nat} {a b c:World} (h:Only M a b) (k:IterStep B0 M own b c) (hB:a.heap.size<=B0):Only M a c :=
 ⟨k.os.trans h.os,k.tape.trans h.tape,k.output.trans h.output,Nat.le_trans h.size k.size,fun i hi hn=>(k.block i (Nat.lt_of_lt_of_le hi h.size) (.inl ⟨by omega,hn⟩)).trans (h.block i hi hn)⟩
theorem Only.of_below' {M:Nat->Prop} {a b c:World} {B:Nat} (h:Only M a b) (k:Below B b c) (hB:∀i,i<a.heap.size->¬M i->i<B):Only M a c :=
 ⟨k.os.trans h.os,k.tape.trans h.tape,k.output.trans h.output,Nat.le_trans h.size k.size,fun i hi hn=>(k.block i (hB i hi hn)).trans (h.block i hi hn)⟩
theorem Xae {w w':World} {base e size n:Nat} {v:Value} {xs:List Value} (h:w.ownsRow base e size v n xs) (hb:∀g,v.ownBlock=some g->w'.heap[g]? = w.heap[g]?):w'.ownsRow base e size v n xs:=by
 refine⟨h.1,?_⟩;rcases h.2 with hn|⟨g,cap,cur,rfl,hbs,hgg,rest⟩
 ·exact .inl hn
 ·exact .inr ⟨g,cap,cur,rfl,hbs,(hb g rfl).trans hgg,rest⟩
theorem Xen (W:World) {B r:Nat} (o:Obj) (h:B<=r):Below B W (W.putObj r o) :=
 ⟨rfl,rfl,rfl,by simp,fun _ hk=>World.putObj_heap_other (by omega)⟩
theorem BodyStep.refl {own:Nat->Prop} {W:World} (h:∀k,own k->k<W.heap.size):BodyStep own own W W:=⟨rfl,rfl,rfl,Nat.le_refl _,fun _ _ _=>rfl,fun _ h => .inl h,h⟩
theorem BodyStep.below {own:Nat->Prop} {W w1 w2:World} (h:BodyStep own own W w1) (hb:Below w1.heap.size w1 w2):BodyStep own own W w2 :=
 ⟨hb.os.trans h.os,hb.tape.trans h.tape,hb.output.trans h.output,Nat.le_trans h.size hb.size,fun k hk hn=>(hb.block k (Nat.lt_of_lt_of_le hk h.size)).trans (h.block k hk hn),h.owns,fun k hk=>Nat.lt_of_lt_of_le (h.live k hk) hb.size⟩
theorem BodyStep.alloc {own:Nat->Prop} {W w1:World} (h:BodyStep own own W w1) (o:Obj):BodyStep own own W (w1.alloc o):=h.below ((Below.refl _ _).alloc (Nat.le_refl _) o)
theorem BodyStep.grown {own:Nat->Prop} {W w1 w2:World} (h:BodyStep own own W w1) {row:Option Nat} (hg:w1.grownBy w2 row) (hr:∀k,row=some k->own k\/W.heap.size<=k):BodyStep own own W w2 :=
 ⟨hg.os.trans h.os,hg.tape.trans h.tape,hg.output.trans h.output,Nat.le_trans h.size hg.size,fun k hk hn=>(hg.block k (Nat.lt_of_lt_of_le hk h.size) (fun e=>by
  rcases hr k e.symm with h1|h1
  ·exact hn h1
  ·omega)).trans (h.block k hk hn),h.owns,fun k hk=>Nat.lt_of_lt_of_le (h.live k hk) hg.size⟩
theorem BodyStep.setCell {own:Nat->Prop} {W w1:World} (h:BodyStep own own W w1) {p:Addr} (hp:own p.block\/W.heap.size<=p.block) (u:Value):BodyStep own own W (w1.setCell p u) :=
 ⟨h.os,h.tape,h.output,by simpa[World.setCell] using h.size,fun k hk hn=>(Below.heap_setCell _ _ _ _ (by rintro rfl;rcases hp with hp|hp;exact hn hp;omega)).trans (h.block k hk hn),h.owns,fun k hk=>by simpa[World.setCell] using h.live k hk⟩
theorem BodyStep.turn {own own':Nat->Prop} {W w1:World} (h:BodyStep own own W w1) (ho:∀k,own' k->own k\/W.heap.size<=k) (hl:∀k,own' k->k<w1.heap.size):BodyStep own own' W w1 :=
 ⟨h.os,h.tape,h.output,h.size,h.block,ho,hl⟩
theorem BodyStep.only {own own' M:Nat->Prop} {W W' w:World} (h:BodyStep own own' W W') (k:Only M w W) (ho:∀i,i<w.heap.size->own i->M i):Only M w W' :=
 ⟨h.os.trans k.os,h.tape.trans k.tape,h.output.trans k.output,Nat.le_trans k.size h.size,fun i hi hn=>(h.block i (Nat.lt_of_lt_of_le hi k.size) (fun hx=>hn (ho i hi hx))).trans (k.block i hi hn)⟩
theorem Za {F:Fence} {n:Nat} {P:Program} (w:World) {ops:Array Oper} {rest:List Oper} {o:Oper} {a:Act} {Q:Exit->Act->World->Prop}
  (hg:o.guard=none) (s x:Operand) (t:TypeId) (hop:o.op=Op.call {callee:=Callee.builtin Builtin.append,args:=#[s,x],argTypes:=#[t,t]})
  (base:Nat) (e:TypeId) (i:TypeInfo) (z:Value) (size bytes:Nat) (h1:P.underlying t=some (.slice e)) (h2:P.info? e=some i) (h3:i.zero=some z) (h4:i.size=size) (h5:i.bytes=bytes) (h6:z.cells.size=size) (h7:0<size)
  (v:Value) (k:Nat) (xs:List Value) (hs:a.eval s=v) (hown:w.ownsRow base e size v k xs) (ad:Addr) (m c:Nat) (news:List Value) (hx:a.eval x = .slice (some ad) m c) (hn:news.length=m*size)
  (hc:∀j u,news[j]? = some u->w.cell? (ad.add j)=some u) (h1c:∀u∈news,u.oneCell'=true) (b1:k+m<=maxLen) (b2:(k+m)*bytes<=140737488355328) (b3:base<=w.heap.size)
  (hK:∀v' w',w'.ownsRow base e size v' (k+m) (xs++news)->w.grownBy w' v.ownBlock->(v'.ownBlock=v.ownBlock\/v'.ownBlock=some w.heap.size)->wpListIn F n P ops Q rest (a.put o.dst v') w') :
  wpListIn F n P ops Q (o :: rest) a w:=by
 refine wpListIn_plain hg fun K hK'=>?_;obtain⟨v',w',hrun,r1,r2,_,r3⟩:=run_append_own_at (P:=P) w base t o.type e i z size bytes h1 h2 h3 h4 h5 h6 h7 v k xs hown ad m c news hn hc h1c b1 b2 b3;unfold Oper.wpIn;refine⟨?_,?_⟩
 ·simp[Oper.about,hop,resolve,Target.leads,Sem.run_pure]
 ·rw[Oper.semAt_plain F _ _ (by rw[hop];intro c hc';cases hc')]
  simp[execOp,hop,resolve,invoke,builtin,hs,hx,hrun,Result.andThen];exact hK' _ _ (hK v' w' r1 r2 r3)
def Rd (w:World) (A:Option Addr) (xs:List Value):Prop :=
 xs=[]\/∃b off,A=some ⟨b,off,none⟩/\b<w.heap.size/\∀(j:Nat) (u:Value),xs[j]? = some u->w.cell? ⟨b,off+j,none⟩=some u
theorem Rd.nil (w:World) (A:Option Addr):Rd w A []:=.inl rfl
theorem Rd.ext {w w':World} {A:Option Addr} {xs:List Value} (h:Rd w A xs) (hb:Below w.heap.size w w'):Rd w' A xs:=by
 rcases h with h|⟨b,off,rfl,hlt,hc⟩
 ·exact .inl h
 ·exact .inr ⟨b,off,rfl,Nat.lt_of_lt_of_le hlt hb.size,fun j u hu=>(hb.cell (p:=⟨b,off+j,none⟩) hlt).trans (hc j u hu)⟩
theorem Rd.block {w w':World} {A:Option Addr} {xs:List Value} (h:Rd w A xs) (hs:w.heap.size<=w'.heap.size) (hb:∀a,A=some a->w'.heap[a.block]? = w.heap[a.block]?):Rd w' A xs:=by
 rcases h with h|⟨b,off,rfl,hlt,hc⟩
 ·exact .inl h
 ·exact .inr ⟨b,off,rfl,Nat.lt_of_lt_of_le hlt hs,fun j u hu=>(World.cell?_of_block (w:=w) (a:=⟨b,off+j,none⟩) (hb ⟨b,off,none⟩ rfl)).trans (hc j u hu)⟩
theorem Rd.at_ {w:World} {A:Option Addr} {xs:List Value} (h:Rd w A xs) {k:Nat} (hk:k<xs.length):∃b off,A=some ⟨b,off,none⟩/\b<w.heap.size/\∀(j:Nat) (u:Value),xs[j]? = some u->w.cell? ⟨b,off+j,none⟩=some u:=by
 rcases h with rfl|h
 ·simp at hk
 ·exact h
def SlOf (w:World) (size:Nat) (v:Value) (n:Nat) (xs:List Value):Prop :=
 ∃A c,v = .slice A n c/\n<=c/\c<=maxLen/\xs.length=n*size/\Rd w A xs
theorem SlOf.ext {w w':World} {size n:Nat} {v:Value} {xs:List Value} (h:SlOf w size v n xs) (hb:Below w.heap.size w w'):SlOf w' size v n xs:=by
 obtain⟨A,c,rfl,h1,h2,h3,h4⟩:=h;exact⟨A,c,rfl,h1,h2,h3,h4.ext hb⟩
theorem SlOf.nil (w:World) (size:Nat):SlOf w size (.slice none 0 0) 0 []:=⟨none,0,rfl,Nat.le_refl _,by unfold maxLen;omega,by simp,.inl rfl⟩
theorem SlOf.of_own {w:World} {base e size n:Nat} {v:Value} {xs:List Value} (h:w.ownsRow base e size v n xs):SlOf w size v n xs:=by
 rcases h.2 with ⟨rfl,rfl⟩|⟨g,cap,cur,rfl,hb,hg,hn,hm,hs,ht⟩
 ·have:xs=[]:=List.eq_nil_of_length_eq_zero (by simpa using h.1)
  subst this;exact SlOf.nil w size
 ·refine⟨some ⟨g,0,none⟩,cap,rfl,hn,hm,h.1,.inr ⟨g,0,rfl,Xd hg,fun j u hu=>?_⟩⟩
  have:=h.cells (g:=g) rfl j u hu
  rwa [show (⟨g,0,none⟩:Addr).add j=⟨g,0+j,none⟩ from by unfold Addr.add;split<;>simp_all] at this
theorem Xh8 {α β:Type} (f:α->List β) (s:Nat) (hs:∀x,(f x).length=s):∀(l:List α) (k j:Nat) (hk:k<l.length),j<s->(l.flatMap f)[k*s+j]? = (f l[k])[j]?
 | [],k,_,hk,_=>absurd hk (by simp)
 | x :: l,0,j,_,hj=>by
  simp only[List.flatMap_cons,Nat.zero_mul,Nat.zero_add,List.getElem_cons_zero];exact List.getElem?_append_left (by rw[hs];exact hj)
 | x :: l,k+1,j,hk,hj=>by
  simp only[List.flatMap_cons,List.getElem_cons_succ];rw[List.getElem?_append_right (by rw[hs];rw[Nat.succ_mul];omega),hs,show (k+1)*s+j-s=k*s+j by rw[Nat.succ_mul];omega];exact Xh8 f s hs l k j (by simpa using hk) hj
theorem Y0 {α β:Type} (f:α->List β) (s:Nat) (hs:∀x,(f x).length=s) (l:List α):(l.flatMap f).length=l.length*s:=by
 induction l with
 | nil=>simp
 | cons x l ih=>simp only[List.flatMap_cons,List.length_append,hs,ih,List.length_cons,Nat.succ_mul];omega
theorem Rd.elem {α:Type} {w:World} {A:Option Addr} {f:α->List Value} {s:Nat} {l:List α} (h:Rd w A (l.flatMap f)) (hs:∀x,(f x).length=s) (hs0:0<s) {k:Nat} (hk:k<l.length) :
  ∃b off,A=some ⟨b,off,none⟩/\b<w.heap.size/\∀(j:Nat) (u:Value),(f l[k])[j]? = some u->w.cell? ⟨b,off+k*s+j,none⟩=some u:=by
 have hlen:0<(l.flatMap f).length:=by rw[Y0 f s hs];exact Nat.mul_pos (by omega) hs0
 obtain⟨b,off,rfl,hb,hc⟩:=h.at_ hlen;refine⟨b,off,rfl,hb,fun j u hu=>?_⟩;have hj:j<s:=by rw[<- hs l[k]];exact(List.getElem?_eq_some_iff.1 hu).1
 rw[Nat.add_assoc];exact hc _ u ((Xh8 f s hs l k j hk hj).trans hu)
/-! ### Maps with integer keys, by their entries -/
section
variable {P:Program}
end
end Go.Han
/- A range over a function whose rounds do not panic: the iterator's contract, the caller's law (which tells that the loop's own blocks are not the caller's). Plain theorems about the machine's steps. -/
namespace Go.Han
open Go.RowKit
variable {P:Program}
def IterN {α:Type} (P:Program) (g:Nat) (lb:Array Value) (encs:α->Array Value) (R M:Nat->Prop) (xs:List α) (w0:World):Prop :=
 ∀(l B0:Nat) (J Jx:(Nat->Prop)->List α->World->Prop) (own₀:Nat->Prop) (W:World),
  (∀k,R k->k<B0/\W.heap[k]? = w0.heap[k]?)->(∀k,own₀ k->¬R k)->B0<=W.heap.size->(∀k,own₀ k->k<W.heap.size) ->
  Yp B0 M J->Yp B0 M Jx ->
  (∀own pre x W1,J own pre W1->pre++[x] <+: xs->(∀k,own k->¬R k)->(∀k,own k->k<W1.heap.size)->YieldAt Fence.wide 0 P l (encs x) W1 (V0 J Jx (fun _ _=>False) own (pre++[x]) W1)) ->
  J own₀ [] W ->
  Calls P g (#[.func (.yield l) #[] #[]]++lb) W (Xd2 J Jx (fun _ _=>False) xs none)
theorem IterC.n {α:Type} {g:Nat} {lb:Array Value} {encs:α->Array Value} {R M:Nat->Prop} {xs:List α} {w0:World} (h:IterC P g lb encs R M xs none w0):IterN P g lb encs R M xs w0 :=
 fun l B0 J Jx own₀ W=>h l B0 J Jx (fun _ _=>False) own₀ W
def ItInv {α:Type} (w0:World) (B0:Nat) (R:Nat->Prop) (J:(Nat->Prop)->List α->World->Prop) (ys:List α) (wr:World):Prop :=
 ∃own,J own ys wr/\(∀j,R j->wr.heap[j]? = w0.heap[j]?)/\(∀j,own j->¬R j)/\(∀j,own j->j<wr.heap.size)/\B0<=wr.heap.size
def Xx4 (w0:World) (R:Nat->Prop):Prop:=∀j,R j->j<w0.heap.size
theorem Xhr {w0 W:World} {R:Nat->Prop} (ha:Xx4 w0 R) (h:∀j,R j->W.heap[j]? = w0.heap[j]?) {j:Nat} (hj:R j):j<W.heap.size:=by
 rcases Nat.lt_or_ge j W.heap.size with h1|h1
 ·exact h1
 ·have h2:=h j hj
  rw[Array.getElem?_eq_none h1] at h2;have:=Array.getElem?_eq_none_iff.1 h2.symm;have:=ha j hj;omega
theorem ItInv.ext {α:Type} {w0:World} {B0:Nat} {R M:Nat->Prop} {J:(Nat->Prop)->List α->World->Prop} {ys:List α} {wr W:World} (h:ItInv w0 B0 R J ys wr) (hJ:Yp B0 M J) (ha:Xx4 w0 R) (hb:Below wr.heap.size wr W):ItInv w0 B0 R J ys W:=by
 obtain⟨own,hj,hR,hd,hl,hB⟩:=h;exact⟨own,hJ own ys wr W hj (IterStep.of_below hb),fun j hjR=>(hb.block j (Xhr ha hR hjR)).trans (hR j hjR),hd,fun j hj=>Nat.lt_of_lt_of_le (hl j hj) hb.size,Nat.le_trans hB hb.size⟩
theorem ItInv.body {α:Type} {w0:World} {B0:Nat} {R own own':Nat->Prop} {J:(Nat->Prop)->List α->World->Prop} {ys:List α} {W1 W3:World} (hj:J own' ys W3) (hbs:BodyStep own own' W1 W3) (ha:Xx4 w0 R)
  (hR:∀j,R j->W1.heap[j]? = w0.heap[j]?) (hd:∀j,own j->¬R j) (hB:B0<=W1.heap.size):ItInv w0 B0 R J ys W3:=by
 refine⟨own',hj,fun j hjR=>(hbs.block j (Xhr ha hR hjR) (fun h=>hd j h hjR)).trans (hR j hjR),fun j hjo hjR=>?_,hbs.live,Nat.le_trans hB hbs.size⟩;rcases hbs.owns j hjo with h|h
 ·exact hd j h hjR
 ·have:=Xhr ha hR hjR;omega
section
variable {f:FuncId} {Q:Exit->Act->World->Prop} {a:Act} {w:World}
end
theorem Xkg {fn:Func} {tmps:Array Value} {R:Ending->World->Prop} {W:World} {v:Value} (hres:(results fn tmps).run P W = .ok v W) (hR:R (.returned v) W) :
  LeavesInM Fence.wide 0 P fn tmps R [] .returning W:=⟨v,hres,hR⟩
end Go.Han
