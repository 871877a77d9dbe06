/- A range over a function whose rounds may also panic: the iterator's contract and the caller's law. Conditions: none; plain theorems about the machine's steps. -/
import Derived.RangeFuncNested
import Derived.RangeFuncBound
import Derived.RangeFuncCalls
import Derived.RangeFuncLeaves
import Derived.WalkKit
import Derived.OwnWalkIn
import Derived.TacticsInMore
import Derived.LoopNIn
import Derived.LoopIn
namespace Go.Han
open Go.RowKit

/-- What the iterator does between two rounds: it leaves alone what lay below B0 (but for its own blocks M), and what the caller's loop owns. -/
structure IterStep (B0 : Nat) (M own : Nat → Prop) (W W' : World) : Prop where
  os : W'.os = W.os
  tape : W'.tape = W.tape
  output : W'.output = W.output
  size : W.heap.size ≤ W'.heap.size
  block : ∀ k, k < W.heap.size → ((k < B0 ∧ ¬ M k) ∨ own k) → W'.heap[k]? = W.heap[k]?

/-- What a round does: it turns only blocks that the caller's loop owns; what it owns behind is that, and new blocks. -/
structure BodyStep (own own' : Nat → Prop) (W W' : World) : Prop where
  os : W'.os = W.os
  tape : W'.tape = W.tape
  output : W'.output = W.output
  size : W.heap.size ≤ W'.heap.size
  block : ∀ k, k < W.heap.size → ¬ own k → W'.heap[k]? = W.heap[k]?
  owns : ∀ k, own' k → own k ∨ W.heap.size ≤ k
  live : ∀ k, own' k → k < W'.heap.size

def Stable {β : Type} (B0 : Nat) (M : Nat → Prop) (J : (Nat → Prop) → β → World → Prop) : Prop :=
  ∀ own s W W', J own s W → IterStep B0 M own W W' → J own s W'

theorem BodyStep.trans {o1 o2 o3 : Nat → Prop} {A B C : World} (h : BodyStep o1 o2 A B) (k : BodyStep o2 o3 B C) : BodyStep o1 o3 A C :=
  ⟨k.os.trans h.os, k.tape.trans h.tape, k.output.trans h.output, Nat.le_trans h.size k.size,
   fun i hi hn => (k.block i (Nat.lt_of_lt_of_le hi h.size) (fun ho => by rcases h.owns i ho with h1 | h1; exact hn h1; omega)).trans (h.block i hi hn),
   fun i hi => by
     rcases k.owns i hi with h1 | h1
     · exact h.owns i h1
     · exact .inr (Nat.le_trans h.size h1),
   k.live⟩

theorem IterStep.of_putObj {B0 : Nat} {M own : Nat → Prop} {W : World} {l : Nat} (o : Obj) (hl : B0 ≤ l) (hn : ¬ own l) : IterStep B0 M own W (W.putObj l o) :=
  ⟨rfl, rfl, rfl, by simp, fun k _ h => World.putObj_heap_other (by rintro rfl; rcases h with h | h; omega; exact hn h)⟩

variable {P : Program}

/-- How one round may end, for the iterator. -/
def RoundPost {β : Type} (J Jx : (Nat → Prop) → List β → World → Prop) (Jp : List PanicEntry → World → Prop) (own : Nat → Prop) (ys : List β) (W1 : World) (e : Ending) (W' : World) : Prop :=
  (∃ own', BodyStep own own' W1 W' ∧ ((e = .returned (.bool true) ∧ J own' ys W') ∨ (e = .returned (.bool false) ∧ Jx own' ys W'))) ∨ (∃ ch, e = .panicked ch ∧ Jp ch W')
/-- How the iterator may end. -/
def IterPost {β : Type} (J Jx : (Nat → Prop) → List β → World → Prop) (Jp : List PanicEntry → World → Prop) (xs : List β) (pe : Option (List PanicEntry)) (e : Ending) (W' : World) : Prop :=
  (pe = none ∧ (∃ v, e = .returned v) ∧ ∃ own, J own xs W') ∨ ((∃ v, e = .returned v) ∧ ∃ own pre, pre <+: xs ∧ Jx own pre W') ∨
    (∃ ch, e = .panicked ch ∧ Jp ch W') ∨ (∃ ch, pe = some ch ∧ e = .panicked ch ∧ ∃ own, J own xs W')
/-- THE ITERATOR's CONTRACT: it yields xs, one by one, and then returns (pe none) or panics (pe some). R: the blocks that it leans on; M: those of them that it turns itself. -/
def IterC {α : Type} (P : Program) (g : Nat) (lb : Array Value) (encs : α → Array Value) (R M : Nat → Prop) (xs : List α) (pe : Option (List PanicEntry)) (w0 : World) : Prop :=
  ∀ (l B0 : Nat) (J Jx : (Nat → Prop) → List α → World → Prop) (Jp : List PanicEntry → World → Prop) (own₀ : Nat → Prop) (W : World),
    (∀ k, R k → k < B0 ∧ W.heap[k]? = w0.heap[k]?) → (∀ k, own₀ k → ¬ R k) → B0 ≤ W.heap.size → (∀ k, own₀ k → k < W.heap.size) →
    Stable B0 M J → Stable B0 M Jx →
    (∀ own pre x W1, J own pre W1 → pre ++ [x] <+: xs → (∀ k, own k → ¬ R k) → (∀ k, own k → k < W1.heap.size) → YieldAt Fence.wide 0 P l (encs x) W1 (RoundPost J Jx Jp own (pre ++ [x]) W1)) →
    J own₀ [] W →
    Calls P g (#[.func (.yield l) #[] #[]] ++ lb) W (IterPost J Jx Jp xs pe)

/-- 'roundPost' with a panic taken in. -/
def roundPostP (P : Program) (l : Nat) (R : Ending → World → Prop) : Exit → Act → World → Prop
  | .panic ch, a, w => a.defers = [] ∧ R (.panicked ch) w
  | e, a, w => roundPost P l R e a w

theorem fenced_any (P : Program) (fr : Frame) (cs : List Frame) (w : World) : (lone fr cs w).fenced P Fence.wide := fenced_wide P _

theorem roundIn_of_wpInP {l : Nat} {f : FuncId} {fn : Func} (hfn : P.funcs[f]? = some fn) {tmps : Array Value} {assign body : Code} {w : World} {R : Ending → World → Prop} {n : Nat}
    (h : assign.wpIn (Fence.wide.inRound l) n P (Exit.then (fun a₁ w₁ => ∃ w₂, (Instr.beginRound l).run P w₁ = .ok () w₂ ∧ body.wpIn (Fence.wide.inRound l) n P (roundPostP P l R) a₁ w₂) (fun _ _ _ => False))
      { tmps := tmps, defers := [] } w) :
    RoundIn Fence.wide n P l f tmps assign body w R := by
  refine ⟨trivial, fun c cs hr => ?_⟩
  let b : Frame := { (default : Frame) with fn := f, kind := .normal, roundOf := some l }
  have hb0 : Frame.round l f tmps assign body .normal = b.atR { tmps := tmps, defers := [] } [.code assign, .beginRound, .code body] := by
    simp [Frame.round, Frame.atR, b]
  have hr' : (Fence.wide.inRound l).room ((c :: cs).length + 1 + n) := hr
  obtain ⟨e, a₁, w₁, hq, harr⟩ := h b [.beginRound, .code body] (c :: cs) rfl trivial hr'
  rw [← hb0] at harr
  cases e with
  | normal =>
    obtain ⟨w₂, hbr, hbody⟩ := hq
    have s1 : StepsIn (Machine.fenced P Fence.wide) P (lone (b.atR a₁ [.beginRound, .code body]) (c :: cs) w₁) (lone (b.atR a₁ [.code body]) (c :: cs) w₂) :=
      .one (fenced_any _ _ _ _) (stepR_beginRound rfl hbr)
    obtain ⟨e₂, a₂, w₃, hq₂, harr₂⟩ := hbody b [] (c :: cs) rfl trivial hr'
    cases e₂ with
    | normal =>
      obtain ⟨v, w₄, hend, hR⟩ := hq₂
      exact ⟨.returned v, w₄, hR, (StepsIn.trans harr s1).trans (StepsIn.trans harr₂ (.one (fenced_any _ _ _ _) (stepR_round_end rfl rfl hend)))⟩
    | ret =>
      obtain ⟨v, w₄, hend, hR⟩ := hq₂
      obtain ⟨k₁, hs⟩ := harr₂.2 rfl
      exact ⟨.returned v, w₄, hR, (StepsIn.trans harr s1).trans (StepsIn.trans hs (.one (fenced_any _ _ _ _) (stepR_round_ret rfl rfl hend)))⟩
    | exit id =>
      obtain ⟨v, w₄, hend, hR⟩ := hq₂
      obtain ⟨k₁, hk, hs⟩ := harr₂.2 rfl rfl
      exact ⟨.returned v, w₄, hR, (StepsIn.trans harr s1).trans (StepsIn.trans hs (.one (fenced_any _ _ _ _) (stepR_round_exit rfl rfl hk hend)))⟩
    | goto t =>
      obtain ⟨v, w₄, hend, hR⟩ := hq₂
      obtain ⟨k₁, hk, hs⟩ := harr₂.2 rfl rfl
      exact ⟨.returned v, w₄, hR, (StepsIn.trans harr s1).trans (StepsIn.trans hs (.one (fenced_any _ _ _ _) (stepR_round_goto rfl rfl hk hend)))⟩
    | panic chain =>
      obtain ⟨hd, hR⟩ := hq₂
      obtain ⟨k₁, hs⟩ := harr₂
      exact ⟨.panicked chain, w₃, hR, (StepsIn.trans harr s1).trans (StepsIn.trans hs (.one (fenced_any _ _ _ _) (step_leave_panicked ⟨rfl, hd, fn, hfn⟩)))⟩
    | outgrown => exact hq₂.elim
  | exit id => exact hq.elim
  | goto t => exact hq.elim
  | ret => exact hq.elim
  | panic chain => exact hq.elim
  | outgrown => exact hq.elim


/-- A piece of code of function f, walked in an ordinary frame of f. -/
def wpAt (P : Program) (f : FuncId) (c : Code) (Q : Exit → Act → World → Prop) (a : Act) (w : World) : Prop :=
  ∀ (b : Frame) (k : List Item) (cs : List Frame), b.roundOf = none → b.fn = f →
    ∃ e a' w', Q e a' w' ∧ ArrivesIn (Machine.fenced P Fence.wide) P (lone (b.atR a (.code c :: k)) cs w) b k cs e a' w'

section
variable {f : FuncId} {Q : Exit → Act → World → Prop} {a : Act} {w : World}
theorem wpAt_in {c : Code} {n : Nat} (h : c.wpIn Fence.wide n P Q a w) : wpAt P f c Q a w := fun b k cs hro _ => h b k cs hro trivial (room_wide _)
theorem wpAt_wp {c : Code} (h : c.wp P Q a w) : wpAt P f c Q a w := wpAt_in (n := 0) (wpIn_wide.2 h)
theorem wpAt_mono {c : Code} {Q' : Exit → Act → World → Prop} (h : wpAt P f c Q a w) (hq : ∀ e a w, Q e a w → Q' e a w) : wpAt P f c Q' a w :=
  fun b k cs hro hb => let ⟨e, a', w', q, r⟩ := h b k cs hro hb; ⟨e, a', w', hq _ _ _ q, r⟩
theorem wpAt_seq {x y : Code} (h : wpAt P f x (Exit.then (wpAt P f y Q) Q) a w) : wpAt P f (Code.seq x y) Q a w := by
  intro b k cs hro hb
  have h0 := fenced_any P (b.atR a (.code (.seq x y) :: k)) cs w
  obtain ⟨e, a₁, w₁, hq, harr⟩ := h b (.code y :: k) cs hro hb
  cases e with
  | normal =>
    obtain ⟨e₂, a₂, w₂, hq₂, harr₂⟩ := hq b k cs hro hb
    exact ⟨e₂, a₂, w₂, hq₂, .of_steps (.head h0 stepR_seq harr) harr₂⟩
  | exit id => exact ⟨_, a₁, w₁, hq, .of_steps (.one h0 stepR_seq) (.pass (x := .code y) rfl (fun _ _ => .inl (by simp)) harr)⟩
  | goto l => exact ⟨_, a₁, w₁, hq, .of_steps (.one h0 stepR_seq) (.pass (x := .code y) rfl (fun _ _ => .inl (by simp)) harr)⟩
  | ret => exact ⟨_, a₁, w₁, hq, .of_steps (.one h0 stepR_seq) (.pass (x := .code y) rfl (fun _ _ => .inl (by simp)) harr)⟩
  | panic ch => exact ⟨_, a₁, w₁, hq, .of_steps (.one h0 stepR_seq) (.pass (x := .code y) rfl (fun _ _ => .inl (by simp)) harr)⟩
  | outgrown => exact ⟨_, a₁, w₁, hq, .of_steps (.one h0 stepR_seq) (.pass (x := .code y) rfl (fun _ _ => .inl (by simp)) harr)⟩
/-- The usual use: the first piece holds no range over a function. -/
theorem wpAt_seq_wp {x y : Code} (h : ∀ K : Act → World → Prop, (∀ a w, wpAt P f y Q a w → K a w) → x.wp P (Exit.then K Q) a w) : wpAt P f (Code.seq x y) Q a w :=
  wpAt_seq (wpAt_wp (h _ fun _ _ h => h))
theorem wpAt_block {id : Nat} {c : Code} (h : wpAt P f c (Exit.inBlock id Q) a w) : wpAt P f (Code.block id c) Q a w := by
  intro b k cs hro hb
  have h0 := fenced_any P (b.atR a (.code (.block id c) :: k)) cs w
  obtain ⟨e, a₁, w₁, hq, harr⟩ := h b (.inBlock id :: k) cs hro hb
  cases e with
  | normal => exact ⟨.normal, a₁, w₁, hq, .head h0 stepR_block (StepsIn.trans harr (.one (fenced_any _ _ _ _) stepR_inBlock))⟩
  | exit id' =>
    by_cases hid : id' = id
    · simp only [Exit.inBlock, hid, if_true] at hq
      exact ⟨.normal, a₁, w₁, hq, .head h0 stepR_block (harr.1 k (by simp [exitTo, hid]))⟩
    · simp only [Exit.inBlock, hid, if_false] at hq
      have this : (id == id') = false := by simp; exact fun h => hid h.symm
      have hx : exitTo id' (.inBlock id :: k) = exitTo id' k := by simp [exitTo, this]
      exact ⟨.exit id', a₁, w₁, hq, fun k' hk => .head h0 stepR_block (harr.1 k' (by rw [hx]; exact hk)),
        fun hr' hk => let ⟨k₁, h1, h2⟩ := harr.2 hr' (by rw [hx]; exact hk); ⟨k₁, h1, .head h0 stepR_block h2⟩⟩
  | goto l =>
    have hx : gotoIn l (.inBlock id :: k) = gotoIn l k := by simp [gotoIn]
    exact ⟨_, a₁, w₁, hq, fun k' hk => .head h0 stepR_block (harr.1 k' (by rw [hx]; exact hk)),
      fun hr' hk => let ⟨k₁, h1, h2⟩ := harr.2 hr' (by rw [hx]; exact hk); ⟨k₁, h1, .head h0 stepR_block h2⟩⟩
  | ret => exact ⟨_, a₁, w₁, hq, .of_steps (.one h0 stepR_block) harr⟩
  | panic ch => exact ⟨_, a₁, w₁, hq, .of_steps (.one h0 stepR_block) harr⟩
  | outgrown => exact ⟨_, a₁, w₁, hq, .of_steps (.one h0 stepR_block) harr⟩
theorem wpAt_cond {c : Operand} {x y : Code} {t : Bool} (hc : a.eval c = .bool t) (h : wpAt P f (if t then x else y) Q a w) : wpAt P f (Code.cond c x y) Q a w :=
  fun b k cs hro hb => let ⟨e, a', w', q, r⟩ := h b k cs hro hb; ⟨e, a', w', q, .of_steps (.one (fenced_any _ _ _ _) (stepR_cond hc)) r⟩
/-- A function's contract from its body, where the body holds a range over a function. -/
theorem calls_of_wpAt {fn : Func} {c : Code} {args : Array Value} {R : Ending → World → Prop} (hf : P.funcs[f]? = some fn) (hb : fn.body = some c)
    (h : wpAt P f c (bodyPostM Fence.wide 0 P fn R) { tmps := args ++ Array.replicate (fn.ntmps - args.size) undef, defers := [] } w) : Calls P f args w R := by
  refine (callsIn_wide (n := 0)).1 ⟨trivial, fun cs hr => ?_⟩
  let b : Frame := { (default : Frame) with fn := f, kind := .normal, roundOf := none }
  have henter : Frame.enter P f args .normal =
      b.atR { tmps := args ++ Array.replicate (fn.ntmps - args.size) undef, defers := [] } [.code c] := by
    simp [Frame.enter, Frame.atR, hf, hb, b]
  obtain ⟨e, a', w', hq, harr⟩ := h b [] cs rfl rfl
  rw [← henter] at harr
  cases e with
  | normal =>
    obtain ⟨e', w'', fr', hR, hs, hfn, hl⟩ := leaves_stepsInM a'.defers .returning w' { b.atR a' [] with mode := .returning } cs rfl rfl rfl hf rfl trivial hr hq
    exact ⟨e', w'', fr', hR, ComesIn.of_steps (StepsIn.trans harr (.one (fenced_any _ _ _ _) (stepR_end rfl))) hs, hfn, hl⟩
  | ret =>
    obtain ⟨todo, hs₀⟩ := harr.1 rfl
    obtain ⟨e', w'', fr', hR, hs, hfn, hl⟩ := leaves_stepsInM a'.defers .returning w' { b.atR a' todo with mode := .returning } cs rfl rfl rfl hf rfl trivial hr hq
    exact ⟨e', w'', fr', hR, ComesIn.of_steps hs₀ hs, hfn, hl⟩
  | panic chain =>
    obtain ⟨todo, hs₀⟩ := harr
    obtain ⟨e', w'', fr', hR, hs, hfn, hl⟩ := leaves_stepsInM a'.defers (.panicking chain) w' { b.atR a' todo with mode := .panicking chain } cs rfl rfl rfl hf rfl trivial hr hq
    exact ⟨e', w'', fr', hR, ComesIn.of_steps hs₀ hs, hfn, hl⟩
  | exit id => exact hq.elim
  | goto l => exact hq.elim
  | outgrown => exact ⟨.outgrown, w', b, hq, harr.resolve_left (by simp [b]), rfl, trivial⟩
/-- What is asked when the iterator has ended. -/
def rangePostAt (P : Program) (f : FuncId) (l : Nat) (Q : Exit → Act → World → Prop) (a' : Act) : Ending → World → Prop
  | .returned _, w₃ => ∃ jump w₄, (Instr.endLoop l).run P w₃ = .ok jump w₄ ∧
      (match jump with
       | none => Q .normal a' w₄
       | some c => wpAt P f c Q a' w₄)
  | .panicked chain, w₃ => Q (.panic chain) a' w₃
  | .outgrown, _ => False
theorem wpAt_rangeFunc {g : Operand} {ps : Array Tmp} {assign body : Code} {l : Nat} {mark : List Deferred} {w₁ w₁' w₂ : World} {d : Deferred} {gf : FuncId} {args : Array Value}
    (he : (Instr.enterLoop f a.tmps ps assign body none).run P w = .ok (l, mark) w₁)
    (hres : (resolve a.eval (rangeCall g l) 0).run P w₁ = .ok d w₁') (hinv : (invoke d.target d.args).run P w₁' = .ok (.enter gf args) w₂)
    (hcall : Calls P gf args w₂ (rangePostAt P f l Q { a with defers := mark ++ a.defers })) : wpAt P f (Code.rangeFunc g ps assign body) Q a w := by
  intro b k cs hro hb
  rw [← hro, ← hb] at he
  have henter := stepR_rangeFunc (P := P) (b := b) (a := a) (k := k) (cs := cs) (w := w) he hres hinv
  obtain ⟨e, w₃, fr, hR, hsteps, hfn, hleave⟩ := ((callsIn_wide (n := 0)).2 hcall).2 (b.atR { a with defers := mark ++ a.defers } (.inRangeFunc l :: k) :: cs) (room_wide _)
  have h0 := fenced_any P (b.atR a (.code (.rangeFunc g ps assign body) :: k)) cs w
  cases e with
  | outgrown => exact hR.elim
  | returned v =>
    obtain ⟨jump, w₄, hend, hj⟩ := hR
    have sback : StepsIn (Machine.fenced P Fence.wide) P (lone (b.atR a (.code (.rangeFunc g ps assign body) :: k)) cs w) (lone (b.atR { a with defers := mark ++ a.defers } ((jump.map Item.code).toList ++ k)) cs w₄) := by
      refine .head h0 henter (StepsIn.trans hsteps (.head (fenced_any _ _ _ _) ?_ (.one (fenced_any _ _ _ _) (stepR_endRangeFunc hend))))
      rw [← finish_atR_inRangeFunc l v]; exact step_leave_returned hleave
    cases jump with
    | none => exact ⟨.normal, _, w₄, hj, sback⟩
    | some c =>
      obtain ⟨e', a'', w₅, hq, harr⟩ := hj b k cs hro hb
      exact ⟨e', a'', w₅, hq, .of_steps sback harr⟩
  | panicked chain =>
    refine ⟨.panic chain, _, w₃, hR, .inRangeFunc l :: k, .head h0 henter (StepsIn.trans hsteps (.one (fenced_any _ _ _ _) ?_))⟩
    rw [← Frame.raise_atR]; exact step_leave_panicked hleave
end

/-- How a round's body may end, for the caller's law. -/
def roundEnd {α : Type} (I : (Nat → Prop) → List α → World → Prop) (Ix : Code → (Nat → Prop) → List α → World → Prop) (Ip : List PanicEntry → World → Prop) (own : Nat → Prop) (xs : List α) (W : World) : Exit → Act → World → Prop
  | .normal, _, W' => ∃ own', BodyStep own own' W W' ∧ I own' xs W'
  | .ret, _, W' => ∃ own', BodyStep own own' W W' ∧ Ix .ret own' xs W'
  | .exit id, _, W' => ∃ own', BodyStep own own' W W' ∧ Ix (.exit id) own' xs W'
  | .goto t, _, W' => ∃ own', BodyStep own own' W W' ∧ Ix (.goto t) own' xs W'
  | .panic ch, a, W' => a.defers = [] ∧ (∃ own', BodyStep own own' W W') ∧ Ip ch W'
  | .outgrown, _, _ => False

/-- What may be said of a block number that the caller owns. -/
def Owned (R : Nat → Prop) (l : Nat) (own : Nat → Prop) (W : World) : Prop := (∀ k, own k → ¬ R k ∧ k < W.heap.size ∧ k ≠ l ∧ k + 1 ≠ l)

theorem BodyStep.same {own own' : Nat → Prop} {W W' : World} (h : BodyStep own own' W W') {k : Nat} {o : Obj} (hk : W.heap[k]? = some o) (hn : ¬ own k) : W'.heap[k]? = some o :=
  (h.block k (Array.getElem?_eq_some_iff.1 hk).1 hn).trans hk

/-- THE CALLER's LAW. -/
theorem wp_rangeP {α : Type} {f : FuncId} {fn : Func} (hfn : P.funcs[f]? = some fn) {g : Operand} {ps : Array Tmp} {assign body : Code} {Q : Exit → Act → World → Prop} {a : Act} {w : World}
    {gf : Nat} {lb : Array Value} (hg : a.eval g = .func (.func gf) #[] lb) (eg : ∀ args w, (callFunc gf args).run P w = .ok (.enter gf args) w)
    {encs : α → Array Value} {R M : Nat → Prop} {xs : List α} {pe : Option (List PanicEntry)} {w0 : World} (hit : IterC P gf lb encs R M xs pe w0)
    (hR : ∀ k, R k → k < w.heap.size ∧ w.heap[k]? = w0.heap[k]?) (hps : ∀ x, (encs x).size = ps.size)
    (I : (Nat → Prop) → List α → World → Prop) (Ix : Code → (Nat → Prop) → List α → World → Prop) (Ip : List PanicEntry → World → Prop)
    (hI : Stable w.heap.size M I) (hIx : ∀ c, Stable w.heap.size M (Ix c))
    (own₀ : Nat → Prop) (hown : ∀ k, own₀ k → k < w.heap.size ∧ ¬ R k) (h0 : I own₀ [] w)
    (Ia : α → Act → (Nat → Prop) → List α → World → Prop) (hIa : ∀ x a', Stable w.heap.size M (Ia x a'))
    (hassign : ∀ (l : Nat) (own : Nat → Prop) (pre : List α) (x : α) (W : World), I own pre W → w.heap.size < l → l < W.heap.size → Owned R l own W → pre ++ [x] <+: xs →
      assign.wpIn (Fence.wide.inRound l) 0 P (Exit.then (fun a' W' => ∃ own', BodyStep own own' W W' ∧ Ia x a' own' pre W') (fun _ _ _ => False))
        { tmps := (ps.zip (encs x)).foldl (fun t (p, v) => t.setIfInBounds p v) a.tmps, defers := [] } W)
    (hbody : ∀ (l : Nat) (own : Nat → Prop) (pre : List α) (x : α) (a' : Act) (W : World), Ia x a' own pre W → w.heap.size < l → l < W.heap.size → Owned R l own W → pre ++ [x] <+: xs →
      body.wpIn (Fence.wide.inRound l) 0 P (roundEnd I Ix Ip own (pre ++ [x]) W) a' W)
    (hdone : ∀ (D : Nat) (own : Nat → Prop) (W : World), w.heap.size ≤ D → pe = none → I own xs W → W.heap[D]? = some (.deferred (some [])) → Q .normal { a with defers := { target := .collected D, args := #[] } :: a.defers } W)
    (hstop : ∀ (D : Nat) (own : Nat → Prop) (c : Code) (pre : List α) (W : World), w.heap.size ≤ D → pre <+: xs → Ix c own pre W → W.heap[D]? = some (.deferred (some [])) → wpAt P f c Q { a with defers := { target := .collected D, args := #[] } :: a.defers } W)
    (hpan : ∀ (D : Nat) (ch : List PanicEntry) (W : World), w.heap.size ≤ D → Ip ch W → W.heap[D]? = some (.deferred (some [])) → Q (.panic ch) { a with defers := { target := .collected D, args := #[] } :: a.defers } W)
    (hpe : ∀ (D : Nat) (own : Nat → Prop) (ch : List PanicEntry) (W : World), w.heap.size ≤ D → pe = some ch → I own xs W → W.heap[D]? = some (.deferred (some [])) → Q (.panic ch) { a with defers := { target := .collected D, args := #[] } :: a.defers } W) :
    wpAt P f (Code.rangeFunc g ps assign body) Q a w := by
  obtain ⟨rec, hrec⟩ : ∃ rec : LoopState → Option Code → Loop, rec = fun st pe => { state := st, pending := pe, fn := f, tmps := a.tmps, params := ps, assign, body, defers := w.heap.size } := ⟨_, rfl⟩
  obtain ⟨W1, hW1⟩ : ∃ W1, (w.alloc (.deferred (some []))).alloc (.loop (rec .ready none)) = W1 := ⟨_, rfl⟩
  have hsz : W1.heap.size = w.heap.size + 2 := by rw [← hW1]; simp
  have hL1 : W1.heap[w.heap.size + 1]? = some (.loop (rec .ready none)) := by
    rw [← hW1]; have := World.alloc_heap_new (w.alloc (.deferred (some []))) (.loop (rec .ready none)); rwa [World.size_alloc] at this
  have hK1 : W1.heap[w.heap.size]? = some (.deferred (some [])) := by
    rw [← hW1]; exact (Below.heap_alloc _ _ _ (by simp)).trans (World.alloc_heap_new w _)
  have hB1 : ∀ k, k < w.heap.size → W1.heap[k]? = w.heap[k]? := by
    intro k hk
    rw [← hW1]; exact (Below.heap_alloc _ _ _ (by simp; omega)).trans (Below.heap_alloc _ _ _ hk)
  have hI1 : I own₀ [] W1 := hI own₀ [] w W1 h0 ⟨by rw [← hW1]; rfl, by rw [← hW1]; rfl, by rw [← hW1]; rfl, by omega, fun k hk _ => hB1 k hk⟩
  -- the caller's own blocks, with the loop's two
  have both : ∀ own : Nat → Prop, (∀ k, own k → ¬ R k ∧ k ≠ w.heap.size ∧ k ≠ w.heap.size + 1) → ∀ k, (own k ∨ k = w.heap.size ∨ k = w.heap.size + 1) → ¬ R k := by
    intro own h k hk hr
    rcases hk with hk | hk | hk
    · exact (h k hk).1 hr
    · have := (hR k hr).1; omega
    · have := (hR k hr).1; omega
  refine wpAt_rangeFunc (l := w.heap.size + 1) (mark := [{ target := .collected w.heap.size, args := #[] }]) (w₁ := W1) (w₁' := W1) (w₂ := W1)
    (d := { target := .fn (.func gf) lb, args := #[.func (.yield (w.heap.size + 1)) #[] #[]] }) (gf := gf) (args := #[.func (.yield (w.heap.size + 1)) #[] #[]] ++ lb) ?_ ?_ ?_ ?_
  · rw [← hW1, hrec]; exact run_enterLoop_outer _ _ _ _ _
  · simp only [resolve, hg]; simp [go_sem]
  · simp [invoke, go_sem, eg]
  refine (hit (w.heap.size + 1) w.heap.size
    (fun own pre W => ∃ o1, (∀ k, own k ↔ (o1 k ∨ k = w.heap.size ∨ k = w.heap.size + 1)) ∧ (∀ k, o1 k → ¬ R k ∧ k < W.heap.size ∧ k ≠ w.heap.size + 1 ∧ k + 1 ≠ w.heap.size + 1) ∧ I o1 pre W ∧ W.heap[w.heap.size + 1]? = some (.loop (rec .ready none)) ∧ W.heap[w.heap.size]? = some (.deferred (some [])))
    (fun own pre W => ∃ o1, (∀ k, own k ↔ (o1 k ∨ k = w.heap.size ∨ k = w.heap.size + 1)) ∧ (∀ k, o1 k → ¬ R k ∧ k < W.heap.size ∧ k ≠ w.heap.size + 1 ∧ k + 1 ≠ w.heap.size + 1) ∧ ∃ c, Ix c o1 pre W ∧ W.heap[w.heap.size + 1]? = some (.loop (rec .done (some c))) ∧ W.heap[w.heap.size]? = some (.deferred (some [])))
    (fun ch W => Ip ch W ∧ W.heap[w.heap.size]? = some (.deferred (some [])))
    (fun k => own₀ k ∨ k = w.heap.size ∨ k = w.heap.size + 1) W1 (fun k hk => ⟨(hR k hk).1, (hB1 k (hR k hk).1).trans (hR k hk).2⟩)
    (both own₀ (fun k hk => ⟨(hown k hk).2, by have := (hown k hk).1; omega, by have := (hown k hk).1; omega⟩)) (by omega)
    (fun k hk => by rcases hk with h | h | h; have := (hown k h).1; omega; omega; omega) ?_ ?_ ?_ ⟨own₀, fun _ => Iff.rfl, fun k hk => ⟨(hown k hk).2, by have := (hown k hk).1; omega, by have := (hown k hk).1; omega, by have := (hown k hk).1; omega⟩, hI1, hL1, hK1⟩).mono ?_
  · rintro own pre A B ⟨o1, ho, hn, hi, hl, hk⟩ st
    have hlt := (Array.getElem?_eq_some_iff.1 hl).1
    have hlt' := (Array.getElem?_eq_some_iff.1 hk).1
    exact ⟨o1, ho, fun k hk' => ⟨(hn k hk').1, Nat.lt_of_lt_of_le (hn k hk').2.1 st.size, (hn k hk').2.2⟩, hI o1 pre A B hi ⟨st.os, st.tape, st.output, st.size, fun k hk' h => st.block k hk' (h.imp id (fun h => (ho k).2 (.inl h)))⟩,
      (st.block _ hlt (.inr ((ho _).2 (.inr (.inr rfl))))).trans hl, (st.block _ hlt' (.inr ((ho _).2 (.inr (.inl rfl))))).trans hk⟩
  · rintro own pre A B ⟨o1, ho, hn, c, hi, hl, hk⟩ st
    have hlt := (Array.getElem?_eq_some_iff.1 hl).1
    have hlt' := (Array.getElem?_eq_some_iff.1 hk).1
    exact ⟨o1, ho, fun k hk' => ⟨(hn k hk').1, Nat.lt_of_lt_of_le (hn k hk').2.1 st.size, (hn k hk').2.2⟩, c, hIx c o1 pre A B hi ⟨st.os, st.tape, st.output, st.size, fun k hk' h => st.block k hk' (h.imp id (fun h => (ho k).2 (.inl h)))⟩,
      (st.block _ hlt (.inr ((ho _).2 (.inr (.inr rfl))))).trans hl, (st.block _ hlt' (.inr ((ho _).2 (.inr (.inl rfl))))).trans hk⟩
  · -- ONE ROUND
    rintro own pre x W ⟨o1, ho, hn, hi, hl, hk⟩ hpre hnR hlive
    have hlt : w.heap.size + 1 < W.heap.size := (Array.getElem?_eq_some_iff.1 hl).1
    have hy := run_yield (P := P) (args := encs x) hl (by rw [hrec]; exact hps x)
    rw [hrec] at hy
    refine ⟨f, _, assign, body, hy, roundIn_of_wpInP hfn (wpIn_mono (hassign (w.heap.size + 1) o1 pre x W hi (by omega) hlt hn hpre) ?_)⟩
    rintro e a' Wa hp
    cases e with
    | normal =>
      obtain ⟨o2, hb2, hia⟩ := hp
      have hn2 : ∀ k, o2 k → ¬ R k ∧ k < Wa.heap.size ∧ k ≠ w.heap.size + 1 ∧ k + 1 ≠ w.heap.size + 1 := by
        intro k hk'
        refine ⟨?_, hb2.live k hk', ?_⟩
        · intro hr
          rcases hb2.owns k hk' with h | h
          · exact (hn k h).1 hr
          · have := (hR k hr).1; omega
        · rcases hb2.owns k hk' with h | h
          · exact (hn k h).2.2
          · omega
      have hla := hb2.same hl (fun h => (hn _ h).2.2.1 rfl)
      have hka := hb2.same hk (fun h => (hn _ h).2.2.2 rfl)
      have hlta : w.heap.size + 1 < Wa.heap.size := (Array.getElem?_eq_some_iff.1 hla).1
      refine ⟨_, run_beginRound hla (by rw [hrec]), ?_⟩
      obtain ⟨Wb, hWb⟩ : ∃ Wb, Wa.putObj (w.heap.size + 1) (.loop { rec .ready none with state := .busy }) = Wb := ⟨_, rfl⟩
      rw [hWb]
      have hszb : Wb.heap.size = Wa.heap.size := by rw [← hWb]; simp
      have hob : ∀ k, k ≠ w.heap.size + 1 → Wb.heap[k]? = Wa.heap[k]? := fun k hk' => by rw [← hWb]; exact World.putObj_heap_other hk'
      have hlb : Wb.heap[w.heap.size + 1]? = some (.loop { rec .ready none with state := .busy }) := by rw [← hWb]; exact World.putObj_heap_same hlta
      have hkb : Wb.heap[w.heap.size]? = some (.deferred (some [])) := (hob _ (by omega)).trans hka
      have hib : Ia x a' o2 pre Wb := hIa x a' o2 pre Wa Wb hia ⟨by rw [← hWb]; rfl, by rw [← hWb]; rfl, by rw [← hWb]; rfl, by omega, fun k _ h => hob k (by rintro rfl; rcases h with h | h; omega; exact (hn2 _ h).2.2.1 rfl)⟩
      refine wpIn_mono (hbody (w.heap.size + 1) o2 pre x a' Wb hib (by omega) (by omega) (fun k hk' => ⟨(hn2 k hk').1, by have := (hn2 k hk').2.1; omega, (hn2 k hk').2.2⟩) hpre) ?_
      -- what the round's end comes to
      have fin : ∀ (jump : Option Code) (o3 : Nat → Prop) (W3 : World), BodyStep o2 o3 Wb W3 →
          ∃ W4, (Instr.endRound (w.heap.size + 1) jump).run P W3 = .ok (.bool jump.isNone) W4 ∧ W4.heap.size = W3.heap.size ∧ (∀ k, k ≠ w.heap.size + 1 → W4.heap[k]? = W3.heap[k]?) ∧ W4.os = W3.os ∧ W4.tape = W3.tape ∧ W4.output = W3.output ∧
          W4.heap[w.heap.size + 1]? = some (.loop (rec (if jump.isNone then .ready else .done) jump)) ∧ W4.heap[w.heap.size]? = some (.deferred (some [])) ∧ ¬ o3 (w.heap.size + 1) ∧ ¬ o3 w.heap.size ∧
          BodyStep own (fun k => o3 k ∨ k = w.heap.size ∨ k = w.heap.size + 1) W W4 ∧ (∀ k, o3 k → ¬ R k ∧ k < W4.heap.size ∧ k ≠ w.heap.size + 1 ∧ k + 1 ≠ w.heap.size + 1) := by
        intro jump o3 W3 hb3
        have hl3 := hb3.same hlb (fun h => (hn2 _ h).2.2.1 rfl)
        have hk3 := hb3.same hkb (fun h => (hn2 _ h).2.2.2 rfl)
        have hlt3 := (Array.getElem?_eq_some_iff.1 hl3).1
        have hrun := run_endRound (P := P) jump hl3
        have no1 : ¬ o3 (w.heap.size + 1) := fun h => by
          rcases hb3.owns _ h with h | h
          · exact (hn2 _ h).2.2.1 rfl
          · omega
        have no2 : ¬ o3 w.heap.size := fun h => by
          rcases hb3.owns _ h with h | h
          · exact (hn2 _ h).2.2.2 rfl
          · omega
        have hsub : ∀ k, o3 k → o1 k ∨ W.heap.size ≤ k := by
          intro k h
          rcases hb3.owns k h with h | h
          · exact hb2.owns k h
          · exact .inr (by have := hb2.size; omega)
        refine ⟨_, hrun, by simp, fun k hk' => World.putObj_heap_other hk', rfl, rfl, rfl, ?_, (World.putObj_heap_other (by omega)).trans hk3, no1, no2, ?_, ?_⟩
        · rw [World.putObj_heap_same hlt3, hrec]
        · refine ⟨?_, ?_, ?_, ?_, ?_, ?_, ?_⟩
          · exact hb3.os.trans ((by rw [← hWb]; rfl : Wb.os = Wa.os).trans hb2.os)
          · exact hb3.tape.trans ((by rw [← hWb]; rfl : Wb.tape = Wa.tape).trans hb2.tape)
          · exact hb3.output.trans ((by rw [← hWb]; rfl : Wb.output = Wa.output).trans hb2.output)
          · have := hb2.size; have := hb3.size; simp; omega
          · intro k hk' hno
            have h1 : k ≠ w.heap.size + 1 := fun e => hno ((ho k).2 (.inr (.inr e)))
            have h2 : ¬ o1 k := fun e => hno ((ho k).2 (.inl e))
            have h3 : ¬ o2 k := fun e => by
              rcases hb2.owns k e with h | h
              · exact h2 h
              · omega
            rw [World.putObj_heap_other h1, hb3.block k (by have := hb2.size; omega) h3, hob k h1]
            exact hb2.block k hk' h2
          · intro k hk'
            rcases hk' with h | h | h
            · rcases hsub k h with h | h
              · exact .inl ((ho k).2 (.inl h))
              · exact .inr h
            · exact .inl ((ho k).2 (.inr (.inl h)))
            · exact .inl ((ho k).2 (.inr (.inr h)))
          · intro k hk'
            rw [World.putObj_size]
            rcases hk' with h | h | h
            · exact hb3.live k h
            · omega
            · omega
        · intro k h
          refine ⟨?_, by rw [World.putObj_size]; exact hb3.live k h, fun e => no1 (e ▸ h), fun e => no2 ((show k = w.heap.size by omega) ▸ h)⟩
          intro hr
          rcases hsub k h with h | h
          · exact (hn k h).1 hr
          · have := (hR k hr).1; omega
      have turn : ∀ (W3 W4 : World) (o3 : Nat → Prop), W4.heap.size = W3.heap.size → (∀ k, k ≠ w.heap.size + 1 → W4.heap[k]? = W3.heap[k]?) → W4.os = W3.os → W4.tape = W3.tape → W4.output = W3.output → ¬ o3 (w.heap.size + 1) → IterStep w.heap.size M o3 W3 W4 :=
        fun W3 W4 o3 h1 h2 h3 h4 h5 h6 => ⟨h3, h4, h5, by omega, fun k _ h => h2 k (by rintro rfl; rcases h with h | h; omega; exact h6 h)⟩
      rintro e a3 W3 hp
      cases e with
      | normal =>
        obtain ⟨o3, hb3, hi3⟩ := hp
        obtain ⟨W4, hr, h1, h2, h3, h4, h5, h6, h7, h8, h9, h10, h11⟩ := fin none o3 W3 hb3
        exact ⟨_, W4, hr, .inl ⟨_, h10, .inl ⟨rfl, o3, fun _ => Iff.rfl, h11, hI o3 _ W3 W4 hi3 (turn W3 W4 o3 h1 h2 h3 h4 h5 h8), h6, h7⟩⟩⟩
      | ret =>
        obtain ⟨o3, hb3, hi3⟩ := hp
        obtain ⟨W4, hr, h1, h2, h3, h4, h5, h6, h7, h8, h9, h10, h11⟩ := fin (some .ret) o3 W3 hb3
        exact ⟨_, W4, hr, .inl ⟨_, h10, .inr ⟨rfl, o3, fun _ => Iff.rfl, h11, _, hIx _ o3 _ W3 W4 hi3 (turn W3 W4 o3 h1 h2 h3 h4 h5 h8), h6, h7⟩⟩⟩
      | exit id =>
        obtain ⟨o3, hb3, hi3⟩ := hp
        obtain ⟨W4, hr, h1, h2, h3, h4, h5, h6, h7, h8, h9, h10, h11⟩ := fin (some (.exit id)) o3 W3 hb3
        exact ⟨_, W4, hr, .inl ⟨_, h10, .inr ⟨rfl, o3, fun _ => Iff.rfl, h11, _, hIx _ o3 _ W3 W4 hi3 (turn W3 W4 o3 h1 h2 h3 h4 h5 h8), h6, h7⟩⟩⟩
      | goto t =>
        obtain ⟨o3, hb3, hi3⟩ := hp
        obtain ⟨W4, hr, h1, h2, h3, h4, h5, h6, h7, h8, h9, h10, h11⟩ := fin (some (.goto t)) o3 W3 hb3
        exact ⟨_, W4, hr, .inl ⟨_, h10, .inr ⟨rfl, o3, fun _ => Iff.rfl, h11, _, hIx _ o3 _ W3 W4 hi3 (turn W3 W4 o3 h1 h2 h3 h4 h5 h8), h6, h7⟩⟩⟩
      | panic ch =>
        obtain ⟨hd, ⟨o3, hb3⟩, hp3⟩ := hp
        exact ⟨hd, .inr ⟨ch, rfl, hp3, hb3.same hkb (fun h => (hn2 _ h).2.2.2 rfl)⟩⟩
      | outgrown => exact hp.elim
    | exit id => exact hp.elim
    | goto t => exact hp.elim
    | ret => exact hp.elim
    | panic ch => exact hp.elim
    | outgrown => exact hp.elim
  · -- BEHIND THE ITERATOR
    rintro e W2 h
    rcases h with ⟨hpn, ⟨v, rfl⟩, own, o1, ho, hn, hi, hl, hk⟩ | ⟨⟨v, rfl⟩, own, pre, hpre, o1, ho, hn, c, hi, hl, hk⟩ | ⟨ch, rfl, hp, hk⟩ | ⟨ch, hpn, rfl, own, o1, ho, hn, hi, hl, hk⟩
    · have hrun := run_endLoop (P := P) hl (by rw [hrec]; simp)
      refine ⟨none, _, by rw [hrec] at hrun; exact hrun, ?_⟩
      exact hdone _ o1 _ (Nat.le_refl _) hpn (hI o1 _ W2 _ hi (IterStep.of_putObj _ (by omega) (fun h => (hn _ h).2.2.1 rfl))) ((World.putObj_heap_other (by omega)).trans hk)
    · have hrun := run_endLoop (P := P) hl (by rw [hrec]; simp)
      refine ⟨some c, _, by rw [hrec] at hrun; exact hrun, ?_⟩
      exact hstop _ o1 c pre _ (Nat.le_refl _) hpre (hIx c o1 pre W2 _ hi (IterStep.of_putObj _ (by omega) (fun h => (hn _ h).2.2.1 rfl))) ((World.putObj_heap_other (by omega)).trans hk)
    · exact hpan _ ch W2 (Nat.le_refl _) hp hk
    · exact hpe _ o1 ch W2 (Nat.le_refl _) hpn hi hk

/-- A function that holds one range over a function returns, or panics: the mark among its deferred calls is taken. -/
theorem leavesM_ret {fn : Func} {tmps : Array Value} {R : Ending → World → Prop} {D : Nat} {W : World} {v : Value} (hdef : W.heap[D]? = some (.deferred (some [])))
    (hres : (results fn tmps).run P (W.putObj D (.deferred none)) = .ok v (W.putObj D (.deferred none))) (hR : R (.returned v) (W.putObj D (.deferred none))) :
    LeavesInM Fence.wide 0 P fn tmps R [{ target := .collected D, args := #[] }] .returning W :=
  ⟨by simp, .inl ⟨_, _, rfl, run_takeDeferred hdef, ⟨_, hres, hR⟩⟩⟩
theorem leavesM_panic {fn : Func} {tmps : Array Value} {R : Ending → World → Prop} {D : Nat} {W : World} {ch : List PanicEntry} (hdef : W.heap[D]? = some (.deferred (some [])))
    (hR : R (.panicked ch) (W.putObj D (.deferred none))) :
    LeavesInM Fence.wide 0 P fn tmps R [{ target := .collected D, args := #[] }] (.panicking ch) W :=
  ⟨by simp, .inl ⟨_, _, rfl, run_takeDeferred hdef, hR⟩⟩

end Go.Han
