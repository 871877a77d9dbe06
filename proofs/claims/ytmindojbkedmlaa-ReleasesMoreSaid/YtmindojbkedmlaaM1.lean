/- Texts of this claim, one after the other: Range, Base, HouP, AudP, RelP, Own, Gen. -/
import Derived.Test.YtmindojbkedmlaaRows
import Derived.RangeFuncNested
import Derived.RangeFuncBound
import Derived.RangeFuncCalls
import Derived.RangeFuncLeaves
import Derived.WalkKit
import Derived.OwnWalkIn
import Derived.TacticsInMore
import Derived.LoopNIn
import Derived.LoopIn
import Derived.WalkSpells
import Derived.WalkLawsBesides
import Derived.Deep.QuietTactic
import Derived.BigQuiet
import Derived.Lib.Hide
import Derived.Recover
import Derived.Maps.AppendAt
import Derived.RangeFuncBox
import Derived.Shelf.Unicode.DecodeSlow
/- A range over a function whose rounds may also panic: the iterator's contract and the caller's law. Conditions: none; plain theorems about the machine's steps. -/
namespace Go.Han
open Go.RowKit

/-- What the iterator does between two rounds: it leaves alone what lay below B0 (but for its own blocks M), and what the caller's loop owns. -/
structure IterStep (B0 : Nat) (M own : Nat → Prop) (W W' : World) : Prop where
  os : W'.os = W.os
  tape : W'.tape = W.tape
  output : W'.output = W.output
  size : W.heap.size ≤ W'.heap.size
  block : ∀ k, k < W.heap.size → ((k < B0 ∧ ¬ M k) ∨ own k) → W'.heap[k]? = W.heap[k]?

/-- What a round does: it turns only blocks that the caller's loop owns; what it owns behind is that, and new blocks. -/
structure BodyStep (own own' : Nat → Prop) (W W' : World) : Prop where
  os : W'.os = W.os
  tape : W'.tape = W.tape
  output : W'.output = W.output
  size : W.heap.size ≤ W'.heap.size
  block : ∀ k, k < W.heap.size → ¬ own k → W'.heap[k]? = W.heap[k]?
  owns : ∀ k, own' k → own k ∨ W.heap.size ≤ k
  live : ∀ k, own' k → k < W'.heap.size

def Stable {β : Type} (B0 : Nat) (M : Nat → Prop) (J : (Nat → Prop) → β → World → Prop) : Prop :=
  ∀ own s W W', J own s W → IterStep B0 M own W W' → J own s W'

theorem BodyStep.trans {o1 o2 o3 : Nat → Prop} {A B C : World} (h : BodyStep o1 o2 A B) (k : BodyStep o2 o3 B C) : BodyStep o1 o3 A C :=
  ⟨k.os.trans h.os, k.tape.trans h.tape, k.output.trans h.output, Nat.le_trans h.size k.size,
   fun i hi hn => (k.block i (Nat.lt_of_lt_of_le hi h.size) (fun ho => by rcases h.owns i ho with h1 | h1; exact hn h1; omega)).trans (h.block i hi hn),
   fun i hi => by
     rcases k.owns i hi with h1 | h1
     · exact h.owns i h1
     · exact .inr (Nat.le_trans h.size h1),
   k.live⟩

theorem IterStep.of_putObj {B0 : Nat} {M own : Nat → Prop} {W : World} {l : Nat} (o : Obj) (hl : B0 ≤ l) (hn : ¬ own l) : IterStep B0 M own W (W.putObj l o) :=
  ⟨rfl, rfl, rfl, by simp, fun k _ h => World.putObj_heap_other (by rintro rfl; rcases h with h | h; omega; exact hn h)⟩

variable {P : Program}

/-- How one round may end, for the iterator. -/
def RoundPost {β : Type} (J Jx : (Nat → Prop) → List β → World → Prop) (Jp : List PanicEntry → World → Prop) (own : Nat → Prop) (ys : List β) (W1 : World) (e : Ending) (W' : World) : Prop :=
  (∃ own', BodyStep own own' W1 W' ∧ ((e = .returned (.bool true) ∧ J own' ys W') ∨ (e = .returned (.bool false) ∧ Jx own' ys W'))) ∨ (∃ ch, e = .panicked ch ∧ Jp ch W')
/-- How the iterator may end. -/
def IterPost {β : Type} (J Jx : (Nat → Prop) → List β → World → Prop) (Jp : List PanicEntry → World → Prop) (xs : List β) (pe : Option (List PanicEntry)) (e : Ending) (W' : World) : Prop :=
  (pe = none ∧ (∃ v, e = .returned v) ∧ ∃ own, J own xs W') ∨ ((∃ v, e = .returned v) ∧ ∃ own pre, pre <+: xs ∧ Jx own pre W') ∨
    (∃ ch, e = .panicked ch ∧ Jp ch W') ∨ (∃ ch, pe = some ch ∧ e = .panicked ch ∧ ∃ own, J own xs W')
/-- THE ITERATOR's CONTRACT: it yields xs, one by one, and then returns (pe none) or panics (pe some). R: the blocks that it leans on; M: those of them that it turns itself. -/
def IterC {α : Type} (P : Program) (g : Nat) (lb : Array Value) (encs : α → Array Value) (R M : Nat → Prop) (xs : List α) (pe : Option (List PanicEntry)) (w0 : World) : Prop :=
  ∀ (l B0 : Nat) (J Jx : (Nat → Prop) → List α → World → Prop) (Jp : List PanicEntry → World → Prop) (own₀ : Nat → Prop) (W : World),
    (∀ k, R k → k < B0 ∧ W.heap[k]? = w0.heap[k]?) → (∀ k, own₀ k → ¬ R k) → B0 ≤ W.heap.size → (∀ k, own₀ k → k < W.heap.size) →
    Stable B0 M J → Stable B0 M Jx →
    (∀ own pre x W1, J own pre W1 → pre ++ [x] <+: xs → (∀ k, own k → ¬ R k) → (∀ k, own k → k < W1.heap.size) → YieldAt Fence.wide 0 P l (encs x) W1 (RoundPost J Jx Jp own (pre ++ [x]) W1)) →
    J own₀ [] W →
    Calls P g (#[.func (.yield l) #[] #[]] ++ lb) W (IterPost J Jx Jp xs pe)

/-- 'roundPost' with a panic taken in. -/
def roundPostP (P : Program) (l : Nat) (R : Ending → World → Prop) : Exit → Act → World → Prop
  | .panic ch, a, w => a.defers = [] ∧ R (.panicked ch) w
  | e, a, w => roundPost P l R e a w

theorem fenced_any (P : Program) (fr : Frame) (cs : List Frame) (w : World) : (lone fr cs w).fenced P Fence.wide := fenced_wide P _

theorem roundIn_of_wpInP {l : Nat} {f : FuncId} {fn : Func} (hfn : P.funcs[f]? = some fn) {tmps : Array Value} {assign body : Code} {w : World} {R : Ending → World → Prop} {n : Nat}
    (h : assign.wpIn (Fence.wide.inRound l) n P (Exit.then (fun a₁ w₁ => ∃ w₂, (Instr.beginRound l).run P w₁ = .ok () w₂ ∧ body.wpIn (Fence.wide.inRound l) n P (roundPostP P l R) a₁ w₂) (fun _ _ _ => False))
      { tmps := tmps, defers := [] } w) :
    RoundIn Fence.wide n P l f tmps assign body w R := by
  refine ⟨trivial, fun c cs hr => ?_⟩
  let b : Frame := { (default : Frame) with fn := f, kind := .normal, roundOf := some l }
  have hb0 : Frame.round l f tmps assign body .normal = b.atR { tmps := tmps, defers := [] } [.code assign, .beginRound, .code body] := by
    simp [Frame.round, Frame.atR, b]
  have hr' : (Fence.wide.inRound l).room ((c :: cs).length + 1 + n) := hr
  obtain ⟨e, a₁, w₁, hq, harr⟩ := h b [.beginRound, .code body] (c :: cs) rfl trivial hr'
  rw [← hb0] at harr
  cases e with
  | normal =>
    obtain ⟨w₂, hbr, hbody⟩ := hq
    have s1 : StepsIn (Machine.fenced P Fence.wide) P (lone (b.atR a₁ [.beginRound, .code body]) (c :: cs) w₁) (lone (b.atR a₁ [.code body]) (c :: cs) w₂) :=
      .one (fenced_any _ _ _ _) (stepR_beginRound rfl hbr)
    obtain ⟨e₂, a₂, w₃, hq₂, harr₂⟩ := hbody b [] (c :: cs) rfl trivial hr'
    cases e₂ with
    | normal =>
      obtain ⟨v, w₄, hend, hR⟩ := hq₂
      exact ⟨.returned v, w₄, hR, (StepsIn.trans harr s1).trans (StepsIn.trans harr₂ (.one (fenced_any _ _ _ _) (stepR_round_end rfl rfl hend)))⟩
    | ret =>
      obtain ⟨v, w₄, hend, hR⟩ := hq₂
      obtain ⟨k₁, hs⟩ := harr₂.2 rfl
      exact ⟨.returned v, w₄, hR, (StepsIn.trans harr s1).trans (StepsIn.trans hs (.one (fenced_any _ _ _ _) (stepR_round_ret rfl rfl hend)))⟩
    | exit id =>
      obtain ⟨v, w₄, hend, hR⟩ := hq₂
      obtain ⟨k₁, hk, hs⟩ := harr₂.2 rfl rfl
      exact ⟨.returned v, w₄, hR, (StepsIn.trans harr s1).trans (StepsIn.trans hs (.one (fenced_any _ _ _ _) (stepR_round_exit rfl rfl hk hend)))⟩
    | goto t =>
      obtain ⟨v, w₄, hend, hR⟩ := hq₂
      obtain ⟨k₁, hk, hs⟩ := harr₂.2 rfl rfl
      exact ⟨.returned v, w₄, hR, (StepsIn.trans harr s1).trans (StepsIn.trans hs (.one (fenced_any _ _ _ _) (stepR_round_goto rfl rfl hk hend)))⟩
    | panic chain =>
      obtain ⟨hd, hR⟩ := hq₂
      obtain ⟨k₁, hs⟩ := harr₂
      exact ⟨.panicked chain, w₃, hR, (StepsIn.trans harr s1).trans (StepsIn.trans hs (.one (fenced_any _ _ _ _) (step_leave_panicked ⟨rfl, hd, fn, hfn⟩)))⟩
    | outgrown => exact hq₂.elim
  | exit id => exact hq.elim
  | goto t => exact hq.elim
  | ret => exact hq.elim
  | panic chain => exact hq.elim
  | outgrown => exact hq.elim


/-- A piece of code of function f, walked in an ordinary frame of f. -/
def wpAt (P : Program) (f : FuncId) (c : Code) (Q : Exit → Act → World → Prop) (a : Act) (w : World) : Prop :=
  ∀ (b : Frame) (k : List Item) (cs : List Frame), b.roundOf = none → b.fn = f →
    ∃ e a' w', Q e a' w' ∧ ArrivesIn (Machine.fenced P Fence.wide) P (lone (b.atR a (.code c :: k)) cs w) b k cs e a' w'

section
variable {f : FuncId} {Q : Exit → Act → World → Prop} {a : Act} {w : World}
theorem wpAt_in {c : Code} {n : Nat} (h : c.wpIn Fence.wide n P Q a w) : wpAt P f c Q a w := fun b k cs hro _ => h b k cs hro trivial (room_wide _)
theorem wpAt_wp {c : Code} (h : c.wp P Q a w) : wpAt P f c Q a w := wpAt_in (n := 0) (wpIn_wide.2 h)
theorem wpAt_mono {c : Code} {Q' : Exit → Act → World → Prop} (h : wpAt P f c Q a w) (hq : ∀ e a w, Q e a w → Q' e a w) : wpAt P f c Q' a w :=
  fun b k cs hro hb => let ⟨e, a', w', q, r⟩ := h b k cs hro hb; ⟨e, a', w', hq _ _ _ q, r⟩
theorem wpAt_seq {x y : Code} (h : wpAt P f x (Exit.then (wpAt P f y Q) Q) a w) : wpAt P f (Code.seq x y) Q a w := by
  intro b k cs hro hb
  have h0 := fenced_any P (b.atR a (.code (.seq x y) :: k)) cs w
  obtain ⟨e, a₁, w₁, hq, harr⟩ := h b (.code y :: k) cs hro hb
  cases e with
  | normal =>
    obtain ⟨e₂, a₂, w₂, hq₂, harr₂⟩ := hq b k cs hro hb
    exact ⟨e₂, a₂, w₂, hq₂, .of_steps (.head h0 stepR_seq harr) harr₂⟩
  | exit id => exact ⟨_, a₁, w₁, hq, .of_steps (.one h0 stepR_seq) (.pass (x := .code y) rfl (fun _ _ => .inl (by simp)) harr)⟩
  | goto l => exact ⟨_, a₁, w₁, hq, .of_steps (.one h0 stepR_seq) (.pass (x := .code y) rfl (fun _ _ => .inl (by simp)) harr)⟩
  | ret => exact ⟨_, a₁, w₁, hq, .of_steps (.one h0 stepR_seq) (.pass (x := .code y) rfl (fun _ _ => .inl (by simp)) harr)⟩
  | panic ch => exact ⟨_, a₁, w₁, hq, .of_steps (.one h0 stepR_seq) (.pass (x := .code y) rfl (fun _ _ => .inl (by simp)) harr)⟩
  | outgrown => exact ⟨_, a₁, w₁, hq, .of_steps (.one h0 stepR_seq) (.pass (x := .code y) rfl (fun _ _ => .inl (by simp)) harr)⟩
/-- The usual use: the first piece holds no range over a function. -/
theorem wpAt_seq_wp {x y : Code} (h : ∀ K : Act → World → Prop, (∀ a w, wpAt P f y Q a w → K a w) → x.wp P (Exit.then K Q) a w) : wpAt P f (Code.seq x y) Q a w :=
  wpAt_seq (wpAt_wp (h _ fun _ _ h => h))
theorem wpAt_block {id : Nat} {c : Code} (h : wpAt P f c (Exit.inBlock id Q) a w) : wpAt P f (Code.block id c) Q a w := by
  intro b k cs hro hb
  have h0 := fenced_any P (b.atR a (.code (.block id c) :: k)) cs w
  obtain ⟨e, a₁, w₁, hq, harr⟩ := h b (.inBlock id :: k) cs hro hb
  cases e with
  | normal => exact ⟨.normal, a₁, w₁, hq, .head h0 stepR_block (StepsIn.trans harr (.one (fenced_any _ _ _ _) stepR_inBlock))⟩
  | exit id' =>
    by_cases hid : id' = id
    · simp only [Exit.inBlock, hid, if_true] at hq
      exact ⟨.normal, a₁, w₁, hq, .head h0 stepR_block (harr.1 k (by simp [exitTo, hid]))⟩
    · simp only [Exit.inBlock, hid, if_false] at hq
      have this : (id == id') = false := by simp; exact fun h => hid h.symm
      have hx : exitTo id' (.inBlock id :: k) = exitTo id' k := by simp [exitTo, this]
      exact ⟨.exit id', a₁, w₁, hq, fun k' hk => .head h0 stepR_block (harr.1 k' (by rw [hx]; exact hk)),
        fun hr' hk => let ⟨k₁, h1, h2⟩ := harr.2 hr' (by rw [hx]; exact hk); ⟨k₁, h1, .head h0 stepR_block h2⟩⟩
  | goto l =>
    have hx : gotoIn l (.inBlock id :: k) = gotoIn l k := by simp [gotoIn]
    exact ⟨_, a₁, w₁, hq, fun k' hk => .head h0 stepR_block (harr.1 k' (by rw [hx]; exact hk)),
      fun hr' hk => let ⟨k₁, h1, h2⟩ := harr.2 hr' (by rw [hx]; exact hk); ⟨k₁, h1, .head h0 stepR_block h2⟩⟩
  | ret => exact ⟨_, a₁, w₁, hq, .of_steps (.one h0 stepR_block) harr⟩
  | panic ch => exact ⟨_, a₁, w₁, hq, .of_steps (.one h0 stepR_block) harr⟩
  | outgrown => exact ⟨_, a₁, w₁, hq, .of_steps (.one h0 stepR_block) harr⟩
theorem wpAt_cond {c : Operand} {x y : Code} {t : Bool} (hc : a.eval c = .bool t) (h : wpAt P f (if t then x else y) Q a w) : wpAt P f (Code.cond c x y) Q a w :=
  fun b k cs hro hb => let ⟨e, a', w', q, r⟩ := h b k cs hro hb; ⟨e, a', w', q, .of_steps (.one (fenced_any _ _ _ _) (stepR_cond hc)) r⟩
/-- A function's contract from its body, where the body holds a range over a function. -/
theorem calls_of_wpAt {fn : Func} {c : Code} {args : Array Value} {R : Ending → World → Prop} (hf : P.funcs[f]? = some fn) (hb : fn.body = some c)
    (h : wpAt P f c (bodyPostM Fence.wide 0 P fn R) { tmps := args ++ Array.replicate (fn.ntmps - args.size) undef, defers := [] } w) : Calls P f args w R := by
  refine (callsIn_wide (n := 0)).1 ⟨trivial, fun cs hr => ?_⟩
  let b : Frame := { (default : Frame) with fn := f, kind := .normal, roundOf := none }
  have henter : Frame.enter P f args .normal =
      b.atR { tmps := args ++ Array.replicate (fn.ntmps - args.size) undef, defers := [] } [.code c] := by
    simp [Frame.enter, Frame.atR, hf, hb, b]
  obtain ⟨e, a', w', hq, harr⟩ := h b [] cs rfl rfl
  rw [← henter] at harr
  cases e with
  | normal =>
    obtain ⟨e', w'', fr', hR, hs, hfn, hl⟩ := leaves_stepsInM a'.defers .returning w' { b.atR a' [] with mode := .returning } cs rfl rfl rfl hf rfl trivial hr hq
    exact ⟨e', w'', fr', hR, ComesIn.of_steps (StepsIn.trans harr (.one (fenced_any _ _ _ _) (stepR_end rfl))) hs, hfn, hl⟩
  | ret =>
    obtain ⟨todo, hs₀⟩ := harr.1 rfl
    obtain ⟨e', w'', fr', hR, hs, hfn, hl⟩ := leaves_stepsInM a'.defers .returning w' { b.atR a' todo with mode := .returning } cs rfl rfl rfl hf rfl trivial hr hq
    exact ⟨e', w'', fr', hR, ComesIn.of_steps hs₀ hs, hfn, hl⟩
  | panic chain =>
    obtain ⟨todo, hs₀⟩ := harr
    obtain ⟨e', w'', fr', hR, hs, hfn, hl⟩ := leaves_stepsInM a'.defers (.panicking chain) w' { b.atR a' todo with mode := .panicking chain } cs rfl rfl rfl hf rfl trivial hr hq
    exact ⟨e', w'', fr', hR, ComesIn.of_steps hs₀ hs, hfn, hl⟩
  | exit id => exact hq.elim
  | goto l => exact hq.elim
  | outgrown => exact ⟨.outgrown, w', b, hq, harr.resolve_left (by simp [b]), rfl, trivial⟩
/-- What is asked when the iterator has ended. -/
def rangePostAt (P : Program) (f : FuncId) (l : Nat) (Q : Exit → Act → World → Prop) (a' : Act) : Ending → World → Prop
  | .returned _, w₃ => ∃ jump w₄, (Instr.endLoop l).run P w₃ = .ok jump w₄ ∧
      (match jump with
       | none => Q .normal a' w₄
       | some c => wpAt P f c Q a' w₄)
  | .panicked chain, w₃ => Q (.panic chain) a' w₃
  | .outgrown, _ => False
theorem wpAt_rangeFunc {g : Operand} {ps : Array Tmp} {assign body : Code} {l : Nat} {mark : List Deferred} {w₁ w₁' w₂ : World} {d : Deferred} {gf : FuncId} {args : Array Value}
    (he : (Instr.enterLoop f a.tmps ps assign body none).run P w = .ok (l, mark) w₁)
    (hres : (resolve a.eval (rangeCall g l) 0).run P w₁ = .ok d w₁') (hinv : (invoke d.target d.args).run P w₁' = .ok (.enter gf args) w₂)
    (hcall : Calls P gf args w₂ (rangePostAt P f l Q { a with defers := mark ++ a.defers })) : wpAt P f (Code.rangeFunc g ps assign body) Q a w := by
  intro b k cs hro hb
  rw [← hro, ← hb] at he
  have henter := stepR_rangeFunc (P := P) (b := b) (a := a) (k := k) (cs := cs) (w := w) he hres hinv
  obtain ⟨e, w₃, fr, hR, hsteps, hfn, hleave⟩ := ((callsIn_wide (n := 0)).2 hcall).2 (b.atR { a with defers := mark ++ a.defers } (.inRangeFunc l :: k) :: cs) (room_wide _)
  have h0 := fenced_any P (b.atR a (.code (.rangeFunc g ps assign body) :: k)) cs w
  cases e with
  | outgrown => exact hR.elim
  | returned v =>
    obtain ⟨jump, w₄, hend, hj⟩ := hR
    have sback : StepsIn (Machine.fenced P Fence.wide) P (lone (b.atR a (.code (.rangeFunc g ps assign body) :: k)) cs w) (lone (b.atR { a with defers := mark ++ a.defers } ((jump.map Item.code).toList ++ k)) cs w₄) := by
      refine .head h0 henter (StepsIn.trans hsteps (.head (fenced_any _ _ _ _) ?_ (.one (fenced_any _ _ _ _) (stepR_endRangeFunc hend))))
      rw [← finish_atR_inRangeFunc l v]; exact step_leave_returned hleave
    cases jump with
    | none => exact ⟨.normal, _, w₄, hj, sback⟩
    | some c =>
      obtain ⟨e', a'', w₅, hq, harr⟩ := hj b k cs hro hb
      exact ⟨e', a'', w₅, hq, .of_steps sback harr⟩
  | panicked chain =>
    refine ⟨.panic chain, _, w₃, hR, .inRangeFunc l :: k, .head h0 henter (StepsIn.trans hsteps (.one (fenced_any _ _ _ _) ?_))⟩
    rw [← Frame.raise_atR]; exact step_leave_panicked hleave
end

/-- How a round's body may end, for the caller's law. -/
def roundEnd {α : Type} (I : (Nat → Prop) → List α → World → Prop) (Ix : Code → (Nat → Prop) → List α → World → Prop) (Ip : List PanicEntry → World → Prop) (own : Nat → Prop) (xs : List α) (W : World) : Exit → Act → World → Prop
  | .normal, _, W' => ∃ own', BodyStep own own' W W' ∧ I own' xs W'
  | .ret, _, W' => ∃ own', BodyStep own own' W W' ∧ Ix .ret own' xs W'
  | .exit id, _, W' => ∃ own', BodyStep own own' W W' ∧ Ix (.exit id) own' xs W'
  | .goto t, _, W' => ∃ own', BodyStep own own' W W' ∧ Ix (.goto t) own' xs W'
  | .panic ch, a, W' => a.defers = [] ∧ (∃ own', BodyStep own own' W W') ∧ Ip ch W'
  | .outgrown, _, _ => False

/-- What may be said of a block number that the caller owns. -/
def Owned (R : Nat → Prop) (l : Nat) (own : Nat → Prop) (W : World) : Prop := (∀ k, own k → ¬ R k ∧ k < W.heap.size ∧ k ≠ l ∧ k + 1 ≠ l)

theorem BodyStep.same {own own' : Nat → Prop} {W W' : World} (h : BodyStep own own' W W') {k : Nat} {o : Obj} (hk : W.heap[k]? = some o) (hn : ¬ own k) : W'.heap[k]? = some o :=
  (h.block k (Array.getElem?_eq_some_iff.1 hk).1 hn).trans hk

/-- THE CALLER's LAW. -/
theorem wp_rangeP {α : Type} {f : FuncId} {fn : Func} (hfn : P.funcs[f]? = some fn) {g : Operand} {ps : Array Tmp} {assign body : Code} {Q : Exit → Act → World → Prop} {a : Act} {w : World}
    {gf : Nat} {lb : Array Value} (hg : a.eval g = .func (.func gf) #[] lb) (eg : ∀ args w, (callFunc gf args).run P w = .ok (.enter gf args) w)
    {encs : α → Array Value} {R M : Nat → Prop} {xs : List α} {pe : Option (List PanicEntry)} {w0 : World} (hit : IterC P gf lb encs R M xs pe w0)
    (hR : ∀ k, R k → k < w.heap.size ∧ w.heap[k]? = w0.heap[k]?) (hps : ∀ x, (encs x).size = ps.size)
    (I : (Nat → Prop) → List α → World → Prop) (Ix : Code → (Nat → Prop) → List α → World → Prop) (Ip : List PanicEntry → World → Prop)
    (hI : Stable w.heap.size M I) (hIx : ∀ c, Stable w.heap.size M (Ix c))
    (own₀ : Nat → Prop) (hown : ∀ k, own₀ k → k < w.heap.size ∧ ¬ R k) (h0 : I own₀ [] w)
    (Ia : α → Act → (Nat → Prop) → List α → World → Prop) (hIa : ∀ x a', Stable w.heap.size M (Ia x a'))
    (hassign : ∀ (l : Nat) (own : Nat → Prop) (pre : List α) (x : α) (W : World), I own pre W → w.heap.size < l → l < W.heap.size → Owned R l own W → pre ++ [x] <+: xs →
      assign.wpIn (Fence.wide.inRound l) 0 P (Exit.then (fun a' W' => ∃ own', BodyStep own own' W W' ∧ Ia x a' own' pre W') (fun _ _ _ => False))
        { tmps := (ps.zip (encs x)).foldl (fun t (p, v) => t.setIfInBounds p v) a.tmps, defers := [] } W)
    (hbody : ∀ (l : Nat) (own : Nat → Prop) (pre : List α) (x : α) (a' : Act) (W : World), Ia x a' own pre W → w.heap.size < l → l < W.heap.size → Owned R l own W → pre ++ [x] <+: xs →
      body.wpIn (Fence.wide.inRound l) 0 P (roundEnd I Ix Ip own (pre ++ [x]) W) a' W)
    (hdone : ∀ (D : Nat) (own : Nat → Prop) (W : World), w.heap.size ≤ D → pe = none → I own xs W → W.heap[D]? = some (.deferred (some [])) → Q .normal { a with defers := { target := .collected D, args := #[] } :: a.defers } W)
    (hstop : ∀ (D : Nat) (own : Nat → Prop) (c : Code) (pre : List α) (W : World), w.heap.size ≤ D → pre <+: xs → Ix c own pre W → W.heap[D]? = some (.deferred (some [])) → wpAt P f c Q { a with defers := { target := .collected D, args := #[] } :: a.defers } W)
    (hpan : ∀ (D : Nat) (ch : List PanicEntry) (W : World), w.heap.size ≤ D → Ip ch W → W.heap[D]? = some (.deferred (some [])) → Q (.panic ch) { a with defers := { target := .collected D, args := #[] } :: a.defers } W)
    (hpe : ∀ (D : Nat) (own : Nat → Prop) (ch : List PanicEntry) (W : World), w.heap.size ≤ D → pe = some ch → I own xs W → W.heap[D]? = some (.deferred (some [])) → Q (.panic ch) { a with defers := { target := .collected D, args := #[] } :: a.defers } W) :
    wpAt P f (Code.rangeFunc g ps assign body) Q a w := by
  obtain ⟨rec, hrec⟩ : ∃ rec : LoopState → Option Code → Loop, rec = fun st pe => { state := st, pending := pe, fn := f, tmps := a.tmps, params := ps, assign, body, defers := w.heap.size } := ⟨_, rfl⟩
  obtain ⟨W1, hW1⟩ : ∃ W1, (w.alloc (.deferred (some []))).alloc (.loop (rec .ready none)) = W1 := ⟨_, rfl⟩
  have hsz : W1.heap.size = w.heap.size + 2 := by rw [← hW1]; simp
  have hL1 : W1.heap[w.heap.size + 1]? = some (.loop (rec .ready none)) := by
    rw [← hW1]; have := World.alloc_heap_new (w.alloc (.deferred (some []))) (.loop (rec .ready none)); rwa [World.size_alloc] at this
  have hK1 : W1.heap[w.heap.size]? = some (.deferred (some [])) := by
    rw [← hW1]; exact (Below.heap_alloc _ _ _ (by simp)).trans (World.alloc_heap_new w _)
  have hB1 : ∀ k, k < w.heap.size → W1.heap[k]? = w.heap[k]? := by
    intro k hk
    rw [← hW1]; exact (Below.heap_alloc _ _ _ (by simp; omega)).trans (Below.heap_alloc _ _ _ hk)
  have hI1 : I own₀ [] W1 := hI own₀ [] w W1 h0 ⟨by rw [← hW1]; rfl, by rw [← hW1]; rfl, by rw [← hW1]; rfl, by omega, fun k hk _ => hB1 k hk⟩
  -- the caller's own blocks, with the loop's two
  have both : ∀ own : Nat → Prop, (∀ k, own k → ¬ R k ∧ k ≠ w.heap.size ∧ k ≠ w.heap.size + 1) → ∀ k, (own k ∨ k = w.heap.size ∨ k = w.heap.size + 1) → ¬ R k := by
    intro own h k hk hr
    rcases hk with hk | hk | hk
    · exact (h k hk).1 hr
    · have := (hR k hr).1; omega
    · have := (hR k hr).1; omega
  refine wpAt_rangeFunc (l := w.heap.size + 1) (mark := [{ target := .collected w.heap.size, args := #[] }]) (w₁ := W1) (w₁' := W1) (w₂ := W1)
    (d := { target := .fn (.func gf) lb, args := #[.func (.yield (w.heap.size + 1)) #[] #[]] }) (gf := gf) (args := #[.func (.yield (w.heap.size + 1)) #[] #[]] ++ lb) ?_ ?_ ?_ ?_
  · rw [← hW1, hrec]; exact run_enterLoop_outer _ _ _ _ _
  · simp only [resolve, hg]; simp [go_sem]
  · simp [invoke, go_sem, eg]
  refine (hit (w.heap.size + 1) w.heap.size
    (fun own pre W => ∃ o1, (∀ k, own k ↔ (o1 k ∨ k = w.heap.size ∨ k = w.heap.size + 1)) ∧ (∀ k, o1 k → ¬ R k ∧ k < W.heap.size ∧ k ≠ w.heap.size + 1 ∧ k + 1 ≠ w.heap.size + 1) ∧ I o1 pre W ∧ W.heap[w.heap.size + 1]? = some (.loop (rec .ready none)) ∧ W.heap[w.heap.size]? = some (.deferred (some [])))
    (fun own pre W => ∃ o1, (∀ k, own k ↔ (o1 k ∨ k = w.heap.size ∨ k = w.heap.size + 1)) ∧ (∀ k, o1 k → ¬ R k ∧ k < W.heap.size ∧ k ≠ w.heap.size + 1 ∧ k + 1 ≠ w.heap.size + 1) ∧ ∃ c, Ix c o1 pre W ∧ W.heap[w.heap.size + 1]? = some (.loop (rec .done (some c))) ∧ W.heap[w.heap.size]? = some (.deferred (some [])))
    (fun ch W => Ip ch W ∧ W.heap[w.heap.size]? = some (.deferred (some [])))
    (fun k => own₀ k ∨ k = w.heap.size ∨ k = w.heap.size + 1) W1 (fun k hk => ⟨(hR k hk).1, (hB1 k (hR k hk).1).trans (hR k hk).2⟩)
    (both own₀ (fun k hk => ⟨(hown k hk).2, by have := (hown k hk).1; omega, by have := (hown k hk).1; omega⟩)) (by omega)
    (fun k hk => by rcases hk with h | h | h; have := (hown k h).1; omega; omega; omega) ?_ ?_ ?_ ⟨own₀, fun _ => Iff.rfl, fun k hk => ⟨(hown k hk).2, by have := (hown k hk).1; omega, by have := (hown k hk).1; omega, by have := (hown k hk).1; omega⟩, hI1, hL1, hK1⟩).mono ?_
  · rintro own pre A B ⟨o1, ho, hn, hi, hl, hk⟩ st
    have hlt := (Array.getElem?_eq_some_iff.1 hl).1
    have hlt' := (Array.getElem?_eq_some_iff.1 hk).1
    exact ⟨o1, ho, fun k hk' => ⟨(hn k hk').1, Nat.lt_of_lt_of_le (hn k hk').2.1 st.size, (hn k hk').2.2⟩, hI o1 pre A B hi ⟨st.os, st.tape, st.output, st.size, fun k hk' h => st.block k hk' (h.imp id (fun h => (ho k).2 (.inl h)))⟩,
      (st.block _ hlt (.inr ((ho _).2 (.inr (.inr rfl))))).trans hl, (st.block _ hlt' (.inr ((ho _).2 (.inr (.inl rfl))))).trans hk⟩
  · rintro own pre A B ⟨o1, ho, hn, c, hi, hl, hk⟩ st
    have hlt := (Array.getElem?_eq_some_iff.1 hl).1
    have hlt' := (Array.getElem?_eq_some_iff.1 hk).1
    exact ⟨o1, ho, fun k hk' => ⟨(hn k hk').1, Nat.lt_of_lt_of_le (hn k hk').2.1 st.size, (hn k hk').2.2⟩, c, hIx c o1 pre A B hi ⟨st.os, st.tape, st.output, st.size, fun k hk' h => st.block k hk' (h.imp id (fun h => (ho k).2 (.inl h)))⟩,
      (st.block _ hlt (.inr ((ho _).2 (.inr (.inr rfl))))).trans hl, (st.block _ hlt' (.inr ((ho _).2 (.inr (.inl rfl))))).trans hk⟩
  · -- ONE ROUND
    rintro own pre x W ⟨o1, ho, hn, hi, hl, hk⟩ hpre hnR hlive
    have hlt : w.heap.size + 1 < W.heap.size := (Array.getElem?_eq_some_iff.1 hl).1
    have hy := run_yield (P := P) (args := encs x) hl (by rw [hrec]; exact hps x)
    rw [hrec] at hy
    refine ⟨f, _, assign, body, hy, roundIn_of_wpInP hfn (wpIn_mono (hassign (w.heap.size + 1) o1 pre x W hi (by omega) hlt hn hpre) ?_)⟩
    rintro e a' Wa hp
    cases e with
    | normal =>
      obtain ⟨o2, hb2, hia⟩ := hp
      have hn2 : ∀ k, o2 k → ¬ R k ∧ k < Wa.heap.size ∧ k ≠ w.heap.size + 1 ∧ k + 1 ≠ w.heap.size + 1 := by
        intro k hk'
        refine ⟨?_, hb2.live k hk', ?_⟩
        · intro hr
          rcases hb2.owns k hk' with h | h
          · exact (hn k h).1 hr
          · have := (hR k hr).1; omega
        · rcases hb2.owns k hk' with h | h
          · exact (hn k h).2.2
          · omega
      have hla := hb2.same hl (fun h => (hn _ h).2.2.1 rfl)
      have hka := hb2.same hk (fun h => (hn _ h).2.2.2 rfl)
      have hlta : w.heap.size + 1 < Wa.heap.size := (Array.getElem?_eq_some_iff.1 hla).1
      refine ⟨_, run_beginRound hla (by rw [hrec]), ?_⟩
      obtain ⟨Wb, hWb⟩ : ∃ Wb, Wa.putObj (w.heap.size + 1) (.loop { rec .ready none with state := .busy }) = Wb := ⟨_, rfl⟩
      rw [hWb]
      have hszb : Wb.heap.size = Wa.heap.size := by rw [← hWb]; simp
      have hob : ∀ k, k ≠ w.heap.size + 1 → Wb.heap[k]? = Wa.heap[k]? := fun k hk' => by rw [← hWb]; exact World.putObj_heap_other hk'
      have hlb : Wb.heap[w.heap.size + 1]? = some (.loop { rec .ready none with state := .busy }) := by rw [← hWb]; exact World.putObj_heap_same hlta
      have hkb : Wb.heap[w.heap.size]? = some (.deferred (some [])) := (hob _ (by omega)).trans hka
      have hib : Ia x a' o2 pre Wb := hIa x a' o2 pre Wa Wb hia ⟨by rw [← hWb]; rfl, by rw [← hWb]; rfl, by rw [← hWb]; rfl, by omega, fun k _ h => hob k (by rintro rfl; rcases h with h | h; omega; exact (hn2 _ h).2.2.1 rfl)⟩
      refine wpIn_mono (hbody (w.heap.size + 1) o2 pre x a' Wb hib (by omega) (by omega) (fun k hk' => ⟨(hn2 k hk').1, by have := (hn2 k hk').2.1; omega, (hn2 k hk').2.2⟩) hpre) ?_
      -- what the round's end comes to
      have fin : ∀ (jump : Option Code) (o3 : Nat → Prop) (W3 : World), BodyStep o2 o3 Wb W3 →
          ∃ W4, (Instr.endRound (w.heap.size + 1) jump).run P W3 = .ok (.bool jump.isNone) W4 ∧ W4.heap.size = W3.heap.size ∧ (∀ k, k ≠ w.heap.size + 1 → W4.heap[k]? = W3.heap[k]?) ∧ W4.os = W3.os ∧ W4.tape = W3.tape ∧ W4.output = W3.output ∧
          W4.heap[w.heap.size + 1]? = some (.loop (rec (if jump.isNone then .ready else .done) jump)) ∧ W4.heap[w.heap.size]? = some (.deferred (some [])) ∧ ¬ o3 (w.heap.size + 1) ∧ ¬ o3 w.heap.size ∧
          BodyStep own (fun k => o3 k ∨ k = w.heap.size ∨ k = w.heap.size + 1) W W4 ∧ (∀ k, o3 k → ¬ R k ∧ k < W4.heap.size ∧ k ≠ w.heap.size + 1 ∧ k + 1 ≠ w.heap.size + 1) := by
        intro jump o3 W3 hb3
        have hl3 := hb3.same hlb (fun h => (hn2 _ h).2.2.1 rfl)
        have hk3 := hb3.same hkb (fun h => (hn2 _ h).2.2.2 rfl)
        have hlt3 := (Array.getElem?_eq_some_iff.1 hl3).1
        have hrun := run_endRound (P := P) jump hl3
        have no1 : ¬ o3 (w.heap.size + 1) := fun h => by
          rcases hb3.owns _ h with h | h
          · exact (hn2 _ h).2.2.1 rfl
          · omega
        have no2 : ¬ o3 w.heap.size := fun h => by
          rcases hb3.owns _ h with h | h
          · exact (hn2 _ h).2.2.2 rfl
          · omega
        have hsub : ∀ k, o3 k → o1 k ∨ W.heap.size ≤ k := by
          intro k h
          rcases hb3.owns k h with h | h
          · exact hb2.owns k h
          · exact .inr (by have := hb2.size; omega)
        refine ⟨_, hrun, by simp, fun k hk' => World.putObj_heap_other hk', rfl, rfl, rfl, ?_, (World.putObj_heap_other (by omega)).trans hk3, no1, no2, ?_, ?_⟩
        · rw [World.putObj_heap_same hlt3, hrec]
        · refine ⟨?_, ?_, ?_, ?_, ?_, ?_, ?_⟩
          · exact hb3.os.trans ((by rw [← hWb]; rfl : Wb.os = Wa.os).trans hb2.os)
          · exact hb3.tape.trans ((by rw [← hWb]; rfl : Wb.tape = Wa.tape).trans hb2.tape)
          · exact hb3.output.trans ((by rw [← hWb]; rfl : Wb.output = Wa.output).trans hb2.output)
          · have := hb2.size; have := hb3.size; simp; omega
          · intro k hk' hno
            have h1 : k ≠ w.heap.size + 1 := fun e => hno ((ho k).2 (.inr (.inr e)))
            have h2 : ¬ o1 k := fun e => hno ((ho k).2 (.inl e))
            have h3 : ¬ o2 k := fun e => by
              rcases hb2.owns k e with h | h
              · exact h2 h
              · omega
            rw [World.putObj_heap_other h1, hb3.block k (by have := hb2.size; omega) h3, hob k h1]
            exact hb2.block k hk' h2
          · intro k hk'
            rcases hk' with h | h | h
            · rcases hsub k h with h | h
              · exact .inl ((ho k).2 (.inl h))
              · exact .inr h
            · exact .inl ((ho k).2 (.inr (.inl h)))
            · exact .inl ((ho k).2 (.inr (.inr h)))
          · intro k hk'
            rw [World.putObj_size]
            rcases hk' with h | h | h
            · exact hb3.live k h
            · omega
            · omega
        · intro k h
          refine ⟨?_, by rw [World.putObj_size]; exact hb3.live k h, fun e => no1 (e ▸ h), fun e => no2 ((show k = w.heap.size by omega) ▸ h)⟩
          intro hr
          rcases hsub k h with h | h
          · exact (hn k h).1 hr
          · have := (hR k hr).1; omega
      have turn : ∀ (W3 W4 : World) (o3 : Nat → Prop), W4.heap.size = W3.heap.size → (∀ k, k ≠ w.heap.size + 1 → W4.heap[k]? = W3.heap[k]?) → W4.os = W3.os → W4.tape = W3.tape → W4.output = W3.output → ¬ o3 (w.heap.size + 1) → IterStep w.heap.size M o3 W3 W4 :=
        fun W3 W4 o3 h1 h2 h3 h4 h5 h6 => ⟨h3, h4, h5, by omega, fun k _ h => h2 k (by rintro rfl; rcases h with h | h; omega; exact h6 h)⟩
      rintro e a3 W3 hp
      cases e with
      | normal =>
        obtain ⟨o3, hb3, hi3⟩ := hp
        obtain ⟨W4, hr, h1, h2, h3, h4, h5, h6, h7, h8, h9, h10, h11⟩ := fin none o3 W3 hb3
        exact ⟨_, W4, hr, .inl ⟨_, h10, .inl ⟨rfl, o3, fun _ => Iff.rfl, h11, hI o3 _ W3 W4 hi3 (turn W3 W4 o3 h1 h2 h3 h4 h5 h8), h6, h7⟩⟩⟩
      | ret =>
        obtain ⟨o3, hb3, hi3⟩ := hp
        obtain ⟨W4, hr, h1, h2, h3, h4, h5, h6, h7, h8, h9, h10, h11⟩ := fin (some .ret) o3 W3 hb3
        exact ⟨_, W4, hr, .inl ⟨_, h10, .inr ⟨rfl, o3, fun _ => Iff.rfl, h11, _, hIx _ o3 _ W3 W4 hi3 (turn W3 W4 o3 h1 h2 h3 h4 h5 h8), h6, h7⟩⟩⟩
      | exit id =>
        obtain ⟨o3, hb3, hi3⟩ := hp
        obtain ⟨W4, hr, h1, h2, h3, h4, h5, h6, h7, h8, h9, h10, h11⟩ := fin (some (.exit id)) o3 W3 hb3
        exact ⟨_, W4, hr, .inl ⟨_, h10, .inr ⟨rfl, o3, fun _ => Iff.rfl, h11, _, hIx _ o3 _ W3 W4 hi3 (turn W3 W4 o3 h1 h2 h3 h4 h5 h8), h6, h7⟩⟩⟩
      | goto t =>
        obtain ⟨o3, hb3, hi3⟩ := hp
        obtain ⟨W4, hr, h1, h2, h3, h4, h5, h6, h7, h8, h9, h10, h11⟩ := fin (some (.goto t)) o3 W3 hb3
        exact ⟨_, W4, hr, .inl ⟨_, h10, .inr ⟨rfl, o3, fun _ => Iff.rfl, h11, _, hIx _ o3 _ W3 W4 hi3 (turn W3 W4 o3 h1 h2 h3 h4 h5 h8), h6, h7⟩⟩⟩
      | panic ch =>
        obtain ⟨hd, ⟨o3, hb3⟩, hp3⟩ := hp
        exact ⟨hd, .inr ⟨ch, rfl, hp3, hb3.same hkb (fun h => (hn2 _ h).2.2.2 rfl)⟩⟩
      | outgrown => exact hp.elim
    | exit id => exact hp.elim
    | goto t => exact hp.elim
    | ret => exact hp.elim
    | panic ch => exact hp.elim
    | outgrown => exact hp.elim
  · -- BEHIND THE ITERATOR
    rintro e W2 h
    rcases h with ⟨hpn, ⟨v, rfl⟩, own, o1, ho, hn, hi, hl, hk⟩ | ⟨⟨v, rfl⟩, own, pre, hpre, o1, ho, hn, c, hi, hl, hk⟩ | ⟨ch, rfl, hp, hk⟩ | ⟨ch, hpn, rfl, own, o1, ho, hn, hi, hl, hk⟩
    · have hrun := run_endLoop (P := P) hl (by rw [hrec]; simp)
      refine ⟨none, _, by rw [hrec] at hrun; exact hrun, ?_⟩
      exact hdone _ o1 _ (Nat.le_refl _) hpn (hI o1 _ W2 _ hi (IterStep.of_putObj _ (by omega) (fun h => (hn _ h).2.2.1 rfl))) ((World.putObj_heap_other (by omega)).trans hk)
    · have hrun := run_endLoop (P := P) hl (by rw [hrec]; simp)
      refine ⟨some c, _, by rw [hrec] at hrun; exact hrun, ?_⟩
      exact hstop _ o1 c pre _ (Nat.le_refl _) hpre (hIx c o1 pre W2 _ hi (IterStep.of_putObj _ (by omega) (fun h => (hn _ h).2.2.1 rfl))) ((World.putObj_heap_other (by omega)).trans hk)
    · exact hpan _ ch W2 (Nat.le_refl _) hp hk
    · exact hpe _ o1 ch W2 (Nat.le_refl _) hpn hi hk

/-- A function that holds one range over a function returns, or panics: the mark among its deferred calls is taken. -/
theorem leavesM_ret {fn : Func} {tmps : Array Value} {R : Ending → World → Prop} {D : Nat} {W : World} {v : Value} (hdef : W.heap[D]? = some (.deferred (some [])))
    (hres : (results fn tmps).run P (W.putObj D (.deferred none)) = .ok v (W.putObj D (.deferred none))) (hR : R (.returned v) (W.putObj D (.deferred none))) :
    LeavesInM Fence.wide 0 P fn tmps R [{ target := .collected D, args := #[] }] .returning W :=
  ⟨by simp, .inl ⟨_, _, rfl, run_takeDeferred hdef, ⟨_, hres, hR⟩⟩⟩
theorem leavesM_panic {fn : Func} {tmps : Array Value} {R : Ending → World → Prop} {D : Nat} {W : World} {ch : List PanicEntry} (hdef : W.heap[D]? = some (.deferred (some [])))
    (hR : R (.panicked ch) (W.putObj D (.deferred none))) :
    LeavesInM Fence.wide 0 P fn tmps R [{ target := .collected D, args := #[] }] (.panicking ch) W :=
  ⟨by simp, .inl ⟨_, _, rfl, run_takeDeferred hdef, hR⟩⟩

end Go.Han

/- Small lemmas for walks: what lies below a block number, cells that are read, draws. -/
namespace Go.Han
open Go.RowKit

theorem bcell {W w1 : World} (hb : Below W.heap.size W w1) : (∀ b o, b < W.heap.size → w1.cell? ⟨b, o, none⟩ = W.cell? ⟨b, o, none⟩) ∧ (∀ b o, b < W.heap.size → w1.frozen? ⟨b, o, none⟩ = W.frozen? ⟨b, o, none⟩) :=
  ⟨fun b o h => hb.cell (p := ⟨b, o, none⟩) h, fun b o h => hb.frozen (p := ⟨b, o, none⟩) h⟩

theorem ext_trans {a b c : World} (h : Below a.heap.size a b) (k : Below b.heap.size b c) : Below a.heap.size a c := h.trans (k.mono h.size)
theorem ext_alloc {a b : World} (h : Below a.heap.size a b) (o : Obj) : Below a.heap.size a (b.alloc o) := h.alloc h.size o
theorem ext_set {a b : World} (h : Below a.heap.size a b) {p : Addr} (hp : a.heap.size ≤ p.block) (u : Value) : Below a.heap.size a (b.setCell p u) := h.setCell hp u
theorem ext_drew {a b : World} (h : Below a.heap.size a b) : Below a.heap.size a b.drew := h.drew

/-- A block that is known whole: one cell, not frozen. -/
theorem cell_one {w : World} {b t : Nat} {v : Value} (h : w.heap[b]? = some (.cells #[v] t (0, 0))) : w.cell? ⟨b, 0, none⟩ = some v := by
  simp [World.cell?, h]
theorem frozen_one {w : World} {b t : Nat} {cs : Array Value} (h : w.heap[b]? = some (.cells cs t (0, 0))) (o : Nat) : w.frozen? ⟨b, o, none⟩ = false := by
  simp [World.frozen?, h]
theorem lt_block {w : World} {b : Nat} {o : Obj} (h : w.heap[b]? = some o) : b < w.heap.size := (Array.getElem?_eq_some_iff.1 h).1
theorem lt_cell {w : World} {a : Addr} {v : Value} (h : w.cell? a = some v) : a.block < w.heap.size := by
  unfold World.cell? at h
  rcases Nat.lt_or_ge a.block w.heap.size with h1 | h1
  · exact h1
  · rw [Array.getElem?_eq_none h1] at h; simp at h
theorem set_one {w : World} {b t : Nat} {v : Value} (h : w.heap[b]? = some (.cells #[v] t (0, 0))) (u : Value) : (w.setCell ⟨b, 0, none⟩ u).heap[b]? = some (.cells #[u] t (0, 0)) := by
  simp [World.setCell, Array.getElem?_modify, h]

/-- Frame steps over an iterator's own turns. -/
theorem IterStep.refl (B0 : Nat) (M own : Nat → Prop) (W : World) : IterStep B0 M own W W := ⟨rfl, rfl, rfl, Nat.le_refl _, fun _ _ _ => rfl⟩
theorem IterStep.trans {B0 : Nat} {M own : Nat → Prop} {A B C : World} (h : IterStep B0 M own A B) (k : IterStep B0 M own B C) : IterStep B0 M own A C :=
  ⟨k.os.trans h.os, k.tape.trans h.tape, k.output.trans h.output, Nat.le_trans h.size k.size, fun i hi ho => (k.block i (Nat.lt_of_lt_of_le hi h.size) ho).trans (h.block i hi ho)⟩
theorem IterStep.of_below {B0 : Nat} {M own : Nat → Prop} {A B : World} (h : Below A.heap.size A B) : IterStep B0 M own A B :=
  ⟨h.os, h.tape, h.output, h.size, fun i hi _ => h.block i hi⟩
theorem IterStep.setCell {B0 : Nat} {M own : Nat → Prop} {A B : World} (h : IterStep B0 M own A B) {p : Addr} (hp : B0 ≤ p.block ∨ M p.block) (hn : ¬ own p.block) (u : Value) : IterStep B0 M own A (B.setCell p u) :=
  h.trans ⟨rfl, rfl, rfl, by simp [World.setCell], fun i _ ho => Below.heap_setCell _ _ _ _ (by
    rintro rfl
    rcases ho with ⟨h1, h2⟩ | ho
    · rcases hp with hp | hp
      · omega
      · exact h2 hp
    · exact hn ho)⟩
theorem IterStep.alloc {B0 : Nat} {M own : Nat → Prop} {A B : World} (h : IterStep B0 M own A B) (o : Obj) : IterStep B0 M own A (B.alloc o) :=
  h.trans (IterStep.of_below ((Below.refl _ _).alloc (Nat.le_refl _) o))
theorem IterStep.drew {B0 : Nat} {M own : Nat → Prop} {A B : World} (h : IterStep B0 M own A B) : IterStep B0 M own A B.drew :=
  h.trans (IterStep.of_below (Below.refl _ _).drew)

theorem utf_below {g1 g2 : Nat} {w w' : World} (h : Lib.Utf8Tabs g1 g2 w) (hk : ∀ k, (k = g1 ∨ k = g2) → w'.heap[k]? = w.heap[k]?) : Lib.Utf8Tabs g1 g2 w' := by
  refine ⟨fun c hc => ?_, fun i hi => ⟨?_, ?_⟩⟩
  · rw [World.cell?_of_block (w := w) (hk _ (.inl rfl))]; exact h.1 c hc
  · rw [World.cell?_of_block (w := w) (hk _ (.inr rfl))]; exact (h.2 i hi).1
  · rw [World.cell?_of_block (w := w) (hk _ (.inr rfl))]; exact (h.2 i hi).2
theorem utf_lt {g1 g2 : Nat} {w : World} (h : Lib.Utf8Tabs g1 g2 w) : ∀ k, (k = g1 ∨ k = g2) → k < w.heap.size := by
  rintro k (rfl | rfl)
  · exact lt_cell (h.1 0 (by omega))
  · exact lt_cell (h.2 0 (by omega)).1
theorem utf_ext {g1 g2 : Nat} {w w' : World} (h : Lib.Utf8Tabs g1 g2 w) (hb : Below w.heap.size w w') : Lib.Utf8Tabs g1 g2 w' :=
  utf_below h fun k hk => hb.block k (utf_lt h k hk)

/-- Only the blocks of M, and new ones, have turned. -/
structure Only (M : Nat → Prop) (w w' : World) : Prop where
  os : w'.os = w.os
  tape : w'.tape = w.tape
  output : w'.output = w.output
  size : w.heap.size ≤ w'.heap.size
  block : ∀ k, k < w.heap.size → ¬ M k → w'.heap[k]? = w.heap[k]?
theorem Only.refl (M : Nat → Prop) (w : World) : Only M w w := ⟨rfl, rfl, rfl, Nat.le_refl _, fun _ _ _ => rfl⟩
theorem Only.trans {M : Nat → Prop} {a b c : World} (h : Only M a b) (k : Only M b c) : Only M a c :=
  ⟨k.os.trans h.os, k.tape.trans h.tape, k.output.trans h.output, Nat.le_trans h.size k.size, fun i hi hn => (k.block i (Nat.lt_of_lt_of_le hi h.size) hn).trans (h.block i hi hn)⟩
theorem Only.of_below {M : Nat → Prop} {a b : World} (h : Below a.heap.size a b) : Only M a b := ⟨h.os, h.tape, h.output, h.size, fun i hi _ => h.block i hi⟩
theorem Only.below {M : Nat → Prop} {a b : World} (h : Only M a b) (hM : ∀ k, M k → a.heap.size ≤ k) : Below a.heap.size a b := ⟨h.os, h.tape, h.output, h.size, fun i hi => h.block i hi (fun hm => by have := hM i hm; omega)⟩
theorem Only.alloc {M : Nat → Prop} {a b : World} (h : Only M a b) (o : Obj) : Only M a (b.alloc o) := h.trans (.of_below ((Below.refl _ _).alloc (Nat.le_refl _) o))
theorem Only.drew {M : Nat → Prop} {a b : World} (h : Only M a b) : Only M a b.drew := h.trans (.of_below (Below.refl _ _).drew)
theorem Only.ext {M : Nat → Prop} {a b c : World} (h : Only M a b) (k : Below b.heap.size b c) : Only M a c := h.trans (.of_below k)
theorem Only.setCell {M : Nat → Prop} {a b : World} (h : Only M a b) {p : Addr} (hp : M p.block ∨ a.heap.size ≤ p.block) (u : Value) : Only M a (b.setCell p u) :=
  ⟨h.os, h.tape, h.output, by simpa [World.setCell] using h.size, fun i hi hn => (Below.heap_setCell _ _ _ _ (by rintro rfl; rcases hp with hp | hp; exact hn hp; omega)).trans (h.block i hi hn)⟩
theorem Only.iter {M own : Nat → Prop} {B0 : Nat} {a b c : World} (h : Only M a b) (k : IterStep B0 M own b c) (hB : a.heap.size ≤ B0) : Only M a c :=
  ⟨k.os.trans h.os, k.tape.trans h.tape, k.output.trans h.output, Nat.le_trans h.size k.size, fun i hi hn => (k.block i (Nat.lt_of_lt_of_le hi h.size) (.inl ⟨by omega, hn⟩)).trans (h.block i hi hn)⟩
theorem Only.of_below' {M : Nat → Prop} {a b c : World} {B : Nat} (h : Only M a b) (k : Below B b c) (hB : ∀ i, i < a.heap.size → ¬ M i → i < B) : Only M a c :=
  ⟨k.os.trans h.os, k.tape.trans h.tape, k.output.trans h.output, Nat.le_trans h.size k.size, fun i hi hn => (k.block i (hB i hi hn)).trans (h.block i hi hn)⟩

theorem ownsRow_of_block {w w' : World} {base e size n : Nat} {v : Value} {xs : List Value} (h : w.ownsRow base e size v n xs) (hb : ∀ g, v.ownBlock = some g → w'.heap[g]? = w.heap[g]?) : w'.ownsRow base e size v n xs := by
  refine ⟨h.1, ?_⟩
  rcases h.2 with hn | ⟨g, cap, cur, rfl, hbs, hgg, rest⟩
  · exact .inl hn
  · exact .inr ⟨g, cap, cur, rfl, hbs, (hb g rfl).trans hgg, rest⟩
theorem putObj_below (W : World) {B r : Nat} (o : Obj) (h : B ≤ r) : Below B W (W.putObj r o) :=
  ⟨rfl, rfl, rfl, by simp, fun _ hk => World.putObj_heap_other (by omega)⟩

theorem BodyStep.refl {own : Nat → Prop} {W : World} (h : ∀ k, own k → k < W.heap.size) : BodyStep own own W W := ⟨rfl, rfl, rfl, Nat.le_refl _, fun _ _ _ => rfl, fun _ h => .inl h, h⟩
theorem BodyStep.below {own : Nat → Prop} {W w1 w2 : World} (h : BodyStep own own W w1) (hb : Below w1.heap.size w1 w2) : BodyStep own own W w2 :=
  ⟨hb.os.trans h.os, hb.tape.trans h.tape, hb.output.trans h.output, Nat.le_trans h.size hb.size, fun k hk hn => (hb.block k (Nat.lt_of_lt_of_le hk h.size)).trans (h.block k hk hn), h.owns, fun k hk => Nat.lt_of_lt_of_le (h.live k hk) hb.size⟩
theorem BodyStep.alloc {own : Nat → Prop} {W w1 : World} (h : BodyStep own own W w1) (o : Obj) : BodyStep own own W (w1.alloc o) := h.below ((Below.refl _ _).alloc (Nat.le_refl _) o)
theorem BodyStep.grown {own : Nat → Prop} {W w1 w2 : World} (h : BodyStep own own W w1) {row : Option Nat} (hg : w1.grownBy w2 row) (hr : ∀ k, row = some k → own k ∨ W.heap.size ≤ k) : BodyStep own own W w2 :=
  ⟨hg.os.trans h.os, hg.tape.trans h.tape, hg.output.trans h.output, Nat.le_trans h.size hg.size, fun k hk hn => (hg.block k (Nat.lt_of_lt_of_le hk h.size) (fun e => by
    rcases hr k e.symm with h1 | h1
    · exact hn h1
    · omega)).trans (h.block k hk hn), h.owns, fun k hk => Nat.lt_of_lt_of_le (h.live k hk) hg.size⟩
theorem BodyStep.setCell {own : Nat → Prop} {W w1 : World} (h : BodyStep own own W w1) {p : Addr} (hp : own p.block ∨ W.heap.size ≤ p.block) (u : Value) : BodyStep own own W (w1.setCell p u) :=
  ⟨h.os, h.tape, h.output, by simpa [World.setCell] using h.size, fun k hk hn => (Below.heap_setCell _ _ _ _ (by rintro rfl; rcases hp with hp | hp; exact hn hp; omega)).trans (h.block k hk hn), h.owns, fun k hk => by simpa [World.setCell] using h.live k hk⟩
theorem BodyStep.turn {own own' : Nat → Prop} {W w1 : World} (h : BodyStep own own W w1) (ho : ∀ k, own' k → own k ∨ W.heap.size ≤ k) (hl : ∀ k, own' k → k < w1.heap.size) : BodyStep own own' W w1 :=
  ⟨h.os, h.tape, h.output, h.size, h.block, ho, hl⟩
theorem BodyStep.only {own own' M : Nat → Prop} {W W' w : World} (h : BodyStep own own' W W') (k : Only M w W) (ho : ∀ i, i < w.heap.size → own i → M i) : Only M w W' :=
  ⟨h.os.trans k.os, h.tape.trans k.tape, h.output.trans k.output, Nat.le_trans k.size h.size, fun i hi hn => (h.block i (Nat.lt_of_lt_of_le hi k.size) (fun hx => hn (ho i hi hx))).trans (k.block i hi hn)⟩

/-- append onto a row of the call's own, inside a fence: where the new row lies. -/
theorem wpListIn_append_at {F : Fence} {n : Nat} {P : Program} (w : World) {ops : Array Oper} {rest : List Oper} {o : Oper} {a : Act} {Q : Exit → Act → World → Prop}
    (hg : o.guard = none) (s x : Operand) (t : TypeId) (hop : o.op = Op.call { callee := Callee.builtin Builtin.append, args := #[s, x], argTypes := #[t, t] })
    (base : Nat) (e : TypeId) (i : TypeInfo) (z : Value) (size bytes : Nat) (h1 : P.underlying t = some (.slice e)) (h2 : P.info? e = some i) (h3 : i.zero = some z) (h4 : i.size = size) (h5 : i.bytes = bytes) (h6 : z.cells.size = size) (h7 : 0 < size)
    (v : Value) (k : Nat) (xs : List Value) (hs : a.eval s = v) (hown : w.ownsRow base e size v k xs) (ad : Addr) (m c : Nat) (news : List Value) (hx : a.eval x = .slice (some ad) m c) (hn : news.length = m * size)
    (hc : ∀ j u, news[j]? = some u → w.cell? (ad.add j) = some u) (h1c : ∀ u ∈ news, u.oneCell' = true) (b1 : k + m ≤ maxLen) (b2 : (k + m) * bytes ≤ 140737488355328) (b3 : base ≤ w.heap.size)
    (hK : ∀ v' w', w'.ownsRow base e size v' (k + m) (xs ++ news) → w.grownBy w' v.ownBlock → (v'.ownBlock = v.ownBlock ∨ v'.ownBlock = some w.heap.size) → wpListIn F n P ops Q rest (a.put o.dst v') w') :
    wpListIn F n P ops Q (o :: rest) a w := by
  refine wpListIn_plain hg fun K hK' => ?_
  obtain ⟨v', w', hrun, r1, r2, _, r3⟩ := run_append_own_at (P := P) w base t o.type e i z size bytes h1 h2 h3 h4 h5 h6 h7 v k xs hown ad m c news hn hc h1c b1 b2 b3
  unfold Oper.wpIn
  refine ⟨?_, ?_⟩
  · simp [Oper.about, hop, resolve, Target.leads, Sem.run_pure]
  · rw [Oper.semAt_plain F _ _ (by rw [hop]; intro c hc'; cases hc')]
    simp [execOp, hop, resolve, invoke, builtin, hs, hx, hrun, Result.andThen]
    exact hK' _ _ (hK v' w' r1 r2 r3)

/-- A slice at A holds the cells xs. -/
def Rd (w : World) (A : Option Addr) (xs : List Value) : Prop :=
  xs = [] ∨ ∃ b off, A = some ⟨b, off, none⟩ ∧ b < w.heap.size ∧ ∀ (j : Nat) (u : Value), xs[j]? = some u → w.cell? ⟨b, off + j, none⟩ = some u
theorem Rd.nil (w : World) (A : Option Addr) : Rd w A [] := .inl rfl
theorem Rd.ext {w w' : World} {A : Option Addr} {xs : List Value} (h : Rd w A xs) (hb : Below w.heap.size w w') : Rd w' A xs := by
  rcases h with h | ⟨b, off, rfl, hlt, hc⟩
  · exact .inl h
  · exact .inr ⟨b, off, rfl, Nat.lt_of_lt_of_le hlt hb.size, fun j u hu => (hb.cell (p := ⟨b, off + j, none⟩) hlt).trans (hc j u hu)⟩
theorem Rd.block {w w' : World} {A : Option Addr} {xs : List Value} (h : Rd w A xs) (hs : w.heap.size ≤ w'.heap.size) (hb : ∀ a, A = some a → w'.heap[a.block]? = w.heap[a.block]?) : Rd w' A xs := by
  rcases h with h | ⟨b, off, rfl, hlt, hc⟩
  · exact .inl h
  · exact .inr ⟨b, off, rfl, Nat.lt_of_lt_of_le hlt hs, fun j u hu => (World.cell?_of_block (w := w) (a := ⟨b, off + j, none⟩) (hb ⟨b, off, none⟩ rfl)).trans (hc j u hu)⟩
theorem Rd.at_ {w : World} {A : Option Addr} {xs : List Value} (h : Rd w A xs) {k : Nat} (hk : k < xs.length) : ∃ b off, A = some ⟨b, off, none⟩ ∧ b < w.heap.size ∧ ∀ (j : Nat) (u : Value), xs[j]? = some u → w.cell? ⟨b, off + j, none⟩ = some u := by
  rcases h with rfl | h
  · simp at hk
  · exact h
/-- A slice value that reads as xs, elements of 'size' cells. -/
def SlOf (w : World) (size : Nat) (v : Value) (n : Nat) (xs : List Value) : Prop :=
  ∃ A c, v = .slice A n c ∧ n ≤ c ∧ c ≤ maxLen ∧ xs.length = n * size ∧ Rd w A xs
theorem SlOf.ext {w w' : World} {size n : Nat} {v : Value} {xs : List Value} (h : SlOf w size v n xs) (hb : Below w.heap.size w w') : SlOf w' size v n xs := by
  obtain ⟨A, c, rfl, h1, h2, h3, h4⟩ := h
  exact ⟨A, c, rfl, h1, h2, h3, h4.ext hb⟩
theorem SlOf.nil (w : World) (size : Nat) : SlOf w size (.slice none 0 0) 0 [] := ⟨none, 0, rfl, Nat.le_refl _, by unfold maxLen; omega, by simp, .inl rfl⟩
theorem SlOf.of_own {w : World} {base e size n : Nat} {v : Value} {xs : List Value} (h : w.ownsRow base e size v n xs) : SlOf w size v n xs := by
  rcases h.2 with ⟨rfl, rfl⟩ | ⟨g, cap, cur, rfl, hb, hg, hn, hm, hs, ht⟩
  · have : xs = [] := List.eq_nil_of_length_eq_zero (by simpa using h.1)
    subst this
    exact SlOf.nil w size
  · refine ⟨some ⟨g, 0, none⟩, cap, rfl, hn, hm, h.1, .inr ⟨g, 0, rfl, lt_block hg, fun j u hu => ?_⟩⟩
    have := h.cells (g := g) rfl j u hu
    rwa [show (⟨g, 0, none⟩ : Addr).add j = ⟨g, 0 + j, none⟩ from by unfold Addr.add; split <;> simp_all] at this

theorem flat_get {α β : Type} (f : α → List β) (s : Nat) (hs : ∀ x, (f x).length = s) : ∀ (l : List α) (k j : Nat) (hk : k < l.length), j < s → (l.flatMap f)[k * s + j]? = (f l[k])[j]?
  | [], k, _, hk, _ => absurd hk (by simp)
  | x :: l, 0, j, _, hj => by
    simp only [List.flatMap_cons, Nat.zero_mul, Nat.zero_add, List.getElem_cons_zero]
    exact List.getElem?_append_left (by rw [hs]; exact hj)
  | x :: l, k + 1, j, hk, hj => by
    simp only [List.flatMap_cons, List.getElem_cons_succ]
    rw [List.getElem?_append_right (by rw [hs]; rw [Nat.succ_mul]; omega), hs, show (k + 1) * s + j - s = k * s + j by rw [Nat.succ_mul]; omega]
    exact flat_get f s hs l k j (by simpa using hk) hj
theorem flat_len {α β : Type} (f : α → List β) (s : Nat) (hs : ∀ x, (f x).length = s) (l : List α) : (l.flatMap f).length = l.length * s := by
  induction l with
  | nil => simp
  | cons x l ih => simp only [List.flatMap_cons, List.length_append, hs, ih, List.length_cons, Nat.succ_mul]; omega
/-- A slice of structs of s cells is read at element k. -/
theorem Rd.elem {α : Type} {w : World} {A : Option Addr} {f : α → List Value} {s : Nat} {l : List α} (h : Rd w A (l.flatMap f)) (hs : ∀ x, (f x).length = s) (hs0 : 0 < s) {k : Nat} (hk : k < l.length) :
    ∃ b off, A = some ⟨b, off, none⟩ ∧ b < w.heap.size ∧ ∀ (j : Nat) (u : Value), (f l[k])[j]? = some u → w.cell? ⟨b, off + k * s + j, none⟩ = some u := by
  have hlen : 0 < (l.flatMap f).length := by rw [flat_len f s hs]; exact Nat.mul_pos (by omega) hs0
  obtain ⟨b, off, rfl, hb, hc⟩ := h.at_ hlen
  refine ⟨b, off, rfl, hb, fun j u hu => ?_⟩
  have hj : j < s := by rw [← hs l[k]]; exact (List.getElem?_eq_some_iff.1 hu).1
  rw [Nat.add_assoc]
  exact hc _ u ((flat_get f s hs l k j hk hj).trans hu)

/-! ### Maps with integer keys, by their entries -/
section
variable {P : Program}
theorem run_checkKey_int' {kt : TypeId} {kk : IntKind} (hk : P.underlying kt = some (.int kk)) (e : Bool) (d : Nat) (n : Int) (w : World) : (Instr.checkKey e (d + 1) kt (.int kk n)).run P w = .ok () w := by
  unfold Instr.checkKey
  simp [run_underlying hk]
theorem run_findKey_now {kt : TypeId} {k : Value} {es : List MapEntry} {d : TypeDesc} {r : Option (Nat × Value)} (hk : P.underlying kt = some d) (hf : Instr.findNow d k es 0 = some r) (w : World) : (Instr.findKey kt k es).run P w = .ok r w := by
  simp [Instr.findKey, run_underlying hk, hf]
theorem run_mapUpdate_new {w : World} {r clock : Nat} {es : Array MapEntry} {t kt et : TypeId} {kk : IntKind} (n : Int) (v : Value) (ht : P.underlying t = some (.map kt et)) (hk : P.underlying kt = some (.int kk))
    (h : w.heap[r]? = some (.map es clock)) (hf : Instr.findNow (.int kk) (.int kk n) es.toList 0 = some none) :
    (Instr.mapUpdate t (.map (some r)) (.int kk n) v).run P w = .ok () (w.putObj r (.map (es.push { key := .int kk n, val := v, born := clock }) (clock + 1))) := by
  unfold Instr.mapUpdate
  simp only [Sem.run_bind, run_underlying ht, Result.andThen_ok, getObj, Sem.run, h, run_checkKey_int' hk false 9999, run_findKey_now hk hf, setObj]
  rfl
theorem run_lookup_int {w : World} {r clock : Nat} {es : Array MapEntry} {t kt et : TypeId} {kk : IntKind} (n : Int) (ht : P.underlying t = some (.map kt et)) (hk : P.underlying kt = some (.int kk))
    (h : w.heap[r]? = some (.map es clock)) {i : Nat} {v : Value} (hf : Instr.findNow (.int kk) (.int kk n) es.toList 0 = some (some (i, v))) (ok : Bool) :
    (Instr.lookup t (.map (some r)) (.int kk n) ok).run P w = .ok (if ok then .tuple #[v, .bool true] else v) w := by
  unfold Instr.lookup
  simp only [Sem.run_bind, run_underlying ht, Result.andThen_ok, getObj, Sem.run, h, Sem.run_pure, run_checkKey_int' hk _ 9999, run_findKey_now hk hf]
theorem run_lookup_none {w : World} {r clock : Nat} {es : Array MapEntry} {t kt et : TypeId} {kk : IntKind} (n : Int) (z : Value) (ht : P.underlying t = some (.map kt et)) (hk : P.underlying kt = some (.int kk)) (hz : ∀ w, (zeroValue et).run P w = .ok z w)
    (h : w.heap[r]? = some (.map es clock)) (hf : Instr.findNow (.int kk) (.int kk n) es.toList 0 = some none) (ok : Bool) :
    (Instr.lookup t (.map (some r)) (.int kk n) ok).run P w = .ok (if ok then .tuple #[z, .bool false] else z) w := by
  unfold Instr.lookup
  simp only [Sem.run_bind, run_underlying ht, Result.andThen_ok, getObj, Sem.run, h, Sem.run_pure, run_checkKey_int' hk _ 9999, run_findKey_now hk hf, hz]
end
theorem set_push {α : Type} (a : Array α) (x y : α) : (a.push x).setIfInBounds a.size y = a.push y := by
  apply Array.ext_getElem?
  intro i
  rw [Array.getElem?_setIfInBounds, Array.getElem?_push, Array.getElem?_push]
  by_cases h : a.size = i
  · subst h; simp
  · rw [if_neg h, if_neg (Ne.symm h), if_neg (Ne.symm h)]
theorem putObj_alloc (w : World) (o o' : Obj) : (w.alloc o).putObj w.heap.size o' = w.alloc o' := by
  show ({ w with heap := (w.heap.push o).setIfInBounds w.heap.size o' } : World) = { w with heap := w.heap.push o' }
  rw [set_push]
end Go.Han

/- Decisions of the house and verdicts, in plain Lean. No program in sight. -/
namespace Go.Proofs.Ytmindojbkedmlaa
open Go.RowKit Go.Han

structure House where
  no : Int
  kind : Int
  speaker : Int
  first : Int
  last : Int
  lang : Int
  frm : Int
  until_ : Int
  known : Int
  ms : Int
deriving DecidableEq
def House.cells (h : House) : List Value := [.int .i64 h.no, .int .i64 h.kind, .int .i64 h.speaker, .int .i64 h.first, .int .i64 h.last, .int .i64 h.lang, .int .i64 h.frm, .int .i64 h.until_, .int .i64 h.known, .int .i64 h.ms]
def House.val (h : House) : Value := .agg #[.int .i64 h.no, .int .i64 h.kind, .int .i64 h.speaker, .int .i64 h.first, .int .i64 h.last, .int .i64 h.lang, .int .i64 h.frm, .int .i64 h.until_, .int .i64 h.known, .int .i64 h.ms]
theorem House.size_cells (h : House) : h.cells.length = 10 := rfl
def hflat (l : List House) : List Value := l.flatMap House.cells

def rngB (n lo hi : Int) : Bool := decide (lo ≤ n) && decide (n ≤ hi)
def spanB (a b : Int) : Bool := decide (0 ≤ a) && decide (a < b) && decide (b ≤ 1099511627776)
def timeB (n : Int) : Bool := decide (0 ≤ n) && decide (n < 1099511627776)
def spkB (n : Int) : Bool := decide (0 ≤ n) && decide (n < 64)
def lngB (n : Int) : Bool := decide (0 ≤ n) && decide (n < 32)
/-- A decision that is right, condition by condition as the code asks. -/
def c1B (h : House) : Bool := rngB h.no 0 1048576 && rngB h.kind 1 5
def c2B (h : House) : Bool := rngB h.speaker (-1) 63
def c3B (h : House) : Bool := rngB h.lang (-1) 31
def c4B (h : House) : Bool := spanB h.first h.last && spanB h.frm h.until_ && rngB h.known 0 1099511627775
def c5B (h : House) : Bool := if h.kind = 3 then rngB h.ms 1 1073741824 else decide (h.ms = 0)
def House.ok (h : House) : Bool := c1B h && c2B h && c3B h && c4B h && c5B h
structure House.Ok (h : House) : Prop where
  n0 : 0 ≤ h.no
  n1 : h.no ≤ 1048576
  k0 : 1 ≤ h.kind
  k1 : h.kind ≤ 5
  s0 : -1 ≤ h.speaker
  s1 : h.speaker ≤ 63
  l0 : -1 ≤ h.lang
  l1 : h.lang ≤ 31
  f0 : 0 ≤ h.first
  f1 : h.first < h.last
  f2 : h.last ≤ 1099511627776
  t0 : 0 ≤ h.frm
  t1 : h.frm < h.until_
  t2 : h.until_ ≤ 1099511627776
  w0 : 0 ≤ h.known
  w1 : h.known ≤ 1099511627775
  m : (h.kind = 3 ∧ 1 ≤ h.ms ∧ h.ms ≤ 1073741824) ∨ (h.kind ≠ 3 ∧ h.ms = 0)
theorem House.ok_iff {h : House} : h.ok = true ↔ h.Ok := by
  unfold House.ok c1B c2B c3B c4B c5B rngB spanB
  constructor
  · intro e
    by_cases hk : h.kind = 3
    · simp only [hk, if_true, Bool.and_eq_true, decide_eq_true_eq] at e
      constructor <;> omega
    · simp only [hk, if_false, Bool.and_eq_true, decide_eq_true_eq] at e
      constructor <;> omega
  · intro e
    obtain ⟨_, _, _, _, _, _, _, _, _, _, _, _, _, _, _, _, hm⟩ := e
    by_cases hk : h.kind = 3
    · simp only [hk, if_true, Bool.and_eq_true, decide_eq_true_eq]
      omega
    · simp only [hk, if_false, Bool.and_eq_true, decide_eq_true_eq]
      omega
/-- All are right, and their numbers go up. -/
def hasc : Int → List House → Bool
  | _, [] => true
  | p, h :: t => h.ok && (decide (p < h.no) && hasc h.no t)
def hchk (l : List House) : Int := if 1024 < l.length then 2 else if hasc (-1) l then 0 else 350
theorem hasc_cons {p : Int} {h : House} {t : List House} : hasc p (h :: t) = true ↔ h.Ok ∧ p < h.no ∧ hasc h.no t = true := by
  rw [hasc]; simp [House.ok_iff]
theorem hasc_mono {p q : Int} (h : p ≤ q) : ∀ {l : List House}, hasc q l = true → hasc p l = true
  | [], _ => rfl
  | x :: t, e => by
    obtain ⟨a, b, c⟩ := hasc_cons.1 e
    exact hasc_cons.2 ⟨a, by omega, c⟩
theorem hasc_ok : ∀ {l : List House} {p : Int}, hasc p l = true → ∀ h ∈ l, h.Ok ∧ p < h.no
  | x :: t, p, e, h, hh => by
    obtain ⟨a, b, c⟩ := hasc_cons.1 e
    rcases List.mem_cons.1 hh with rfl | hh
    · exact ⟨a, b⟩
    · obtain ⟨d, f⟩ := hasc_ok c h hh
      exact ⟨d, by omega⟩
theorem hasc_filter (q : House → Bool) : ∀ {l : List House} {p : Int}, hasc p l = true → hasc p (l.filter q) = true
  | [], _, _ => rfl
  | x :: t, p, e => by
    obtain ⟨a, b, c⟩ := hasc_cons.1 e
    cases hq : q x with
    | true => rw [List.filter_cons_of_pos hq]; exact hasc_cons.2 ⟨a, b, hasc_filter q c⟩
    | false => rw [List.filter_cons_of_neg (by rw [hq]; decide)]; exact hasc_mono (by omega) (hasc_filter q c)
/-- With the number of the last one taken for the beginning of the rest. -/
def lastNo (p : Int) : List House → Int
  | [] => p
  | h :: t => lastNo h.no t
theorem hasc_append {l r : List House} : ∀ {p : Int}, hasc p (l ++ r) = true ↔ hasc p l = true ∧ hasc (lastNo p l) r = true := by
  induction l with
  | nil => intro p; simp [hasc, lastNo]
  | cons h t ih =>
    intro p
    rw [List.cons_append, hasc_cons, hasc_cons, ih, lastNo]
    exact ⟨fun ⟨a, b, c, d⟩ => ⟨⟨a, b, c⟩, d⟩, fun ⟨⟨a, b, c⟩, d⟩ => ⟨a, b, c, d⟩⟩
theorem lastNo_snoc (l : List House) (h : House) : ∀ p, lastNo p (l ++ [h]) = h.no := by
  induction l with
  | nil => intro p; rfl
  | cons x t ih => intro p; exact ih x.no
theorem hasc_snoc {l : List House} {h : House} {p : Int} : hasc p (l ++ [h]) = true ↔ hasc p l = true ∧ h.Ok ∧ lastNo p l < h.no := by
  rw [hasc_append, hasc_cons]; simp [hasc]
theorem hchk_cases (l : List House) : hchk l = 0 ∨ hchk l = 2 ∨ hchk l = 350 := by
  unfold hchk; split
  · exact .inr (.inl rfl)
  · split
    · exact .inl rfl
    · exact .inr (.inr rfl)
theorem hchk_ok {l : List House} (h : hchk l = 0) : l.length ≤ 1024 ∧ hasc (-1) l = true := by
  unfold hchk at h
  split at h
  · cases h
  · split at h
    · rename_i a b; exact ⟨by omega, b⟩
    · cases h
theorem hchk_mk {l : List House} (h1 : l.length ≤ 1024) (h2 : hasc (-1) l = true) : hchk l = 0 := by
  unfold hchk; rw [if_neg (by omega), if_pos h2]

/-! ### Verdicts -/
structure Asked where
  speaker : Int
  begun : Int
  lang : Int
  at_ : Int
  known : Int
def Asked.ok (a : Asked) : Bool := spkB a.speaker && timeB a.begun && lngB a.lang && timeB a.at_ && timeB a.known
/-- A decision is about a word, at some time. -/
def aboutB (h : House) (a : Asked) : Bool := (decide (h.speaker = -1) || decide (h.speaker = a.speaker)) && (decide (h.first ≤ a.begun) && decide (a.begun < h.last)) && (decide (h.lang = -1) || decide (h.lang = a.lang))
def inB (h : House) (t : Int) : Bool := decide (h.frm ≤ t) && decide (t < h.until_)
def covB (h : House) (a : Asked) : Bool := aboutB h a && inB h a.at_
def bindB (k : Int) (a : Asked) (h : House) : Bool := decide (h.kind = k) && decide (h.known ≤ a.known) && covB h a
/-- The numbers of the decisions of a kind that bind. -/
def bound (l : List House) (k : Int) (a : Asked) : List House := l.filter (bindB k a)
def maxNo (l : List House) : Int := l.foldl (fun m h => max m h.no) (-1)
def holdB (l : List House) (k : Int) (a : Asked) (h : House) : Bool :=
  if k = 1 then decide (maxNo (bound l 5 a) < h.no) else if k = 2 then decide (maxNo (bound l 4 a) < 0) else decide (a.at_ < a.begun + h.ms)
def holds (l : List House) (k : Int) (a : Asked) : List House := (bound l k a).filter (holdB l k a)
def firstNo : List House → Int
  | [] => -1
  | h :: _ => h.no
/-- The verdict, and the number of the decision. -/
def verd (l : List House) (a : Asked) : Int × Int :=
  if 0 ≤ firstNo (holds l 1 a) then (2, firstNo (holds l 1 a))
  else if 0 ≤ firstNo (holds l 2 a) then (2, firstNo (holds l 2 a))
  else if 0 ≤ firstNo (holds l 3 a) then (1, firstNo (holds l 3 a))
  else (0, -1)
def verdE (l : List House) (a : Asked) : Int := if hchk l = 0 then (if a.ok then 0 else 1) else hchk l
/-- What Verdict returns. -/
def verdR (l : List House) (a : Asked) : Int × Int := if verdE l a = 0 then verd l a else (0, 0)
end Go.Proofs.Ytmindojbkedmlaa

/- Sights and violations, in plain Lean. No program in sight. -/
namespace Go.Proofs.Ytmindojbkedmlaa
open Go.RowKit Go.Han

structure Sight where
  speaker : Int
  begun : Int
  lang : Int
  frm : Int
  until_ : Int
deriving DecidableEq
def Sight.cells (h : Sight) : List Value := [.int .i64 h.speaker, .int .i64 h.begun, .int .i64 h.lang, .int .i64 h.frm, .int .i64 h.until_]
def Sight.val (h : Sight) : Value := .agg #[.int .i64 h.speaker, .int .i64 h.begun, .int .i64 h.lang, .int .i64 h.frm, .int .i64 h.until_]
theorem Sight.size_cells (h : Sight) : h.cells.length = 5 := rfl
def sflat (l : List Sight) : List Value := l.flatMap Sight.cells
def Sight.ok (s : Sight) : Bool := spkB s.speaker && timeB s.begun && lngB s.lang && decide (0 ≤ s.frm) && decide (s.frm < s.until_) && decide (s.until_ ≤ 1099511627776)
structure Sight.Ok (s : Sight) : Prop where
  s0 : 0 ≤ s.speaker
  s1 : s.speaker < 64
  b0 : 0 ≤ s.begun
  b1 : s.begun < 1099511627776
  l0 : 0 ≤ s.lang
  l1 : s.lang < 32
  f0 : 0 ≤ s.frm
  f1 : s.frm < s.until_
  f2 : s.until_ ≤ 1099511627776
theorem Sight.ok_iff {s : Sight} : s.ok = true ↔ s.Ok := by
  unfold Sight.ok spkB timeB lngB
  simp only [Bool.and_eq_true, decide_eq_true_eq]
  constructor
  · intro h; constructor <;> omega
  · rintro ⟨_, _, _, _, _, _, _, _, _⟩; omega
/-- The error of the arguments. -/
def audE (l : List House) (s : List Sight) (known : Int) : Int :=
  if hchk l = 0 then (if 4096 < s.length then 2 else if s.all Sight.ok then (if timeB known then 0 else 1) else 390) else hchk l
def askOf (x : Sight) (t known : Int) : Asked := ⟨x.speaker, x.begun, x.lang, t, known⟩
/-- The number of the decision that forbids a sight at an instant. -/
def forb (l : List House) (kn : Int) (x : Sight) (t : Int) : Option Int :=
  if t < x.frm ∨ x.until_ ≤ t then none else if (verd l (askOf x t kn)).1 = 0 then none else some (verd l (askOf x t kn)).2
/-- The first of some sights that is forbidden at an instant. -/
def forbAt (l : List House) (kn : Int) : List Sight → Nat → Int → Option (Nat × Int × Int)
  | [], _, _ => none
  | x :: s, i, t => match forb l kn x t with
    | some no => some (i, t, no)
    | none => forbAt l kn s (i + 1) t
def findT (l : List House) (kn : Int) (s : List Sight) : List Int → Option (Nat × Int × Int)
  | [] => none
  | t :: T => match forbAt l kn s 0 t with
    | some r => some r
    | none => findT l kn s T
/-- The instants, in order. -/
structure Insts (l : List House) (s : List Sight) (T : List Int) : Prop where
  asc : T.Pairwise (fun a b => a < b)
  mem : ∀ t, t ∈ T ↔ (∃ h ∈ l, t = h.frm ∨ t = h.until_) ∨ ∃ x ∈ s, t = x.frm
theorem asc_ext : ∀ {A B : List Int}, A.Pairwise (fun a b => a < b) → B.Pairwise (fun a b => a < b) → (∀ t, t ∈ A ↔ t ∈ B) → A = B
  | [], [], _, _, _ => rfl
  | [], b :: B, _, _, h => by have := (h b).2 (by simp); simp at this
  | a :: A, [], _, _, h => by have := (h a).1 (by simp); simp at this
  | a :: A, b :: B, hA, hB, h => by
    rw [List.pairwise_cons] at hA hB
    have hab : a = b := by
      have h1 := (h a).1 (by simp)
      have h2 := (h b).2 (by simp)
      rcases List.mem_cons.1 h1 with h1 | h1
      · exact h1
      · rcases List.mem_cons.1 h2 with h2 | h2
        · exact h2.symm
        · have := hB.1 a h1; have := hA.1 b h2; omega
    subst hab
    refine congrArg _ (asc_ext hA.2 hB.2 fun t => ?_)
    have := h t
    simp only [List.mem_cons] at this
    constructor
    · intro ht
      rcases this.1 (.inr ht) with rfl | h
      · have := hA.1 t ht; omega
      · exact h
    · intro ht
      rcases this.2 (.inr ht) with rfl | h
      · have := hB.1 t ht; omega
      · exact h
def insU (t : Int) : List Int → List Int
  | [] => [t]
  | a :: T => if t < a then t :: a :: T else if t = a then a :: T else a :: insU t T
theorem mem_insU {t x : Int} : ∀ {T : List Int}, x ∈ insU t T ↔ x = t ∨ x ∈ T
  | [] => by simp [insU]
  | a :: T => by
    rw [insU]
    split
    · simp
    · split
      · rename_i h; subst h; simp
      · rw [List.mem_cons, mem_insU, List.mem_cons]
        constructor
        · rintro (h | h | h)
          · exact .inr (.inl h)
          · exact .inl h
          · exact .inr (.inr h)
        · rintro (h | h | h)
          · exact .inr (.inl h)
          · exact .inl h
          · exact .inr (.inr h)
theorem asc_insU (t : Int) : ∀ {T : List Int}, T.Pairwise (fun a b => a < b) → (insU t T).Pairwise (fun a b => a < b)
  | [], _ => by simp [insU]
  | a :: T, h => by
    have h' := h
    rw [List.pairwise_cons] at h
    rw [insU]
    split
    · rename_i hlt
      rw [List.pairwise_cons]
      refine ⟨fun b hb => ?_, h'⟩
      rcases List.mem_cons.1 hb with rfl | hb
      · exact hlt
      · have := h.1 b hb; omega
    · split
      · exact h'
      · rw [List.pairwise_cons]
        refine ⟨fun b hb => ?_, asc_insU t h.2⟩
        rcases mem_insU.1 hb with rfl | hb
        · omega
        · exact h.1 b hb
def sortU (l : List Int) : List Int := l.foldr insU []
theorem mem_sortU {x : Int} : ∀ {l : List Int}, x ∈ sortU l ↔ x ∈ l
  | [] => by simp [sortU]
  | a :: l => by
    show x ∈ insU a (sortU l) ↔ _
    rw [mem_insU, mem_sortU, List.mem_cons]
theorem asc_sortU : ∀ (l : List Int), (sortU l).Pairwise (fun a b => a < b)
  | [] => by simp [sortU]
  | a :: l => asc_insU a (asc_sortU l)
/-- All instants, in order and once each. -/
def instL (l : List House) (s : List Sight) : List Int := sortU ((l.flatMap fun h => [h.frm, h.until_]) ++ s.map (·.frm))
theorem instL_ok (l : List House) (s : List Sight) : Insts l s (instL l s) := by
  refine ⟨asc_sortU _, fun t => ?_⟩
  unfold instL
  rw [mem_sortU]
  simp only [List.mem_append, List.mem_flatMap, List.mem_map, List.mem_cons, List.not_mem_nil, or_false]
  constructor
  · rintro (⟨h, hh, e⟩ | ⟨x, hx, e⟩)
    · exact .inl ⟨h, hh, e⟩
    · exact .inr ⟨x, hx, e.symm⟩
  · rintro (⟨h, hh, e⟩ | ⟨x, hx, e⟩)
    · exact .inl ⟨h, hh, e⟩
    · exact .inr ⟨x, hx, e.symm⟩
theorem insts_eq {l : List House} {s : List Sight} {T : List Int} (h : Insts l s T) : T = instL l s :=
  asc_ext h.asc (instL_ok l s).asc fun t => (h.mem t).trans ((instL_ok l s).mem t).symm
def findA (l : List House) (s : List Sight) (kn : Int) : Option (Nat × Int × Int) := findT l kn s (instL l s)

/-! ### What the first violation is -/
structure FirstV (l : List House) (s : List Sight) (kn : Int) (i : Nat) (t no : Int) : Prop where
  hit : ∃ x, s[i]? = some x ∧ forb l kn x t = some no
  least : ∀ (j : Nat) (x : Sight) (u : Int), s[j]? = some x → (forb l kn x u).isSome = true → t < u ∨ (t = u ∧ i ≤ j)
def NoneV (l : List House) (s : List Sight) (kn : Int) : Prop := ∀ x ∈ s, ∀ u, forb l kn x u = none
theorem FirstV.uniq {l : List House} {s : List Sight} {kn : Int} {i j : Nat} {t u no no' : Int} (h : FirstV l s kn i t no) (k : FirstV l s kn j u no') : i = j ∧ t = u ∧ no = no' := by
  obtain ⟨x, hx, hf⟩ := h.hit
  obtain ⟨y, hy, hg⟩ := k.hit
  have h1 := h.least j y u hy (by rw [hg]; rfl)
  have h2 := k.least i x t hx (by rw [hf]; rfl)
  obtain ⟨rfl, rfl⟩ : i = j ∧ t = u := by omega
  rw [hx] at hy
  cases hy
  rw [hf] at hg
  cases hg
  exact ⟨rfl, rfl, rfl⟩
theorem FirstV.none {l : List House} {s : List Sight} {kn : Int} {i : Nat} {t no : Int} (h : FirstV l s kn i t no) (k : NoneV l s kn) : False := by
  obtain ⟨x, hx, hf⟩ := h.hit
  rw [k x (List.mem_of_getElem? hx) t] at hf
  cases hf
theorem forb_in {l : List House} {kn : Int} {x : Sight} {t no : Int} (h : forb l kn x t = some no) : x.frm ≤ t ∧ t < x.until_ ∧ (verd l (askOf x t kn)).1 ≠ 0 ∧ (verd l (askOf x t kn)).2 = no := by
  unfold forb at h
  by_cases h1 : t < x.frm ∨ x.until_ ≤ t
  · rw [if_pos h1] at h; cases h
  · rw [if_neg h1] at h
    by_cases h2 : (verd l (askOf x t kn)).1 = 0
    · rw [if_pos h2] at h; cases h
    · rw [if_neg h2] at h
      cases h
      exact ⟨by omega, by omega, h2, rfl⟩
theorem forb_mk {l : List House} {kn : Int} {x : Sight} {t : Int} (h1 : x.frm ≤ t) (h2 : t < x.until_) (h3 : (verd l (askOf x t kn)).1 ≠ 0) : forb l kn x t = some (verd l (askOf x t kn)).2 := by
  unfold forb
  rw [if_neg (by omega), if_neg h3]
theorem firstNo_pos {B : List House} (hok : ∀ h ∈ B, 0 ≤ h.no) : 0 ≤ firstNo B ↔ B ≠ [] := by
  cases B with
  | nil => simp [firstNo]
  | cons h t => have := hok h (by simp); simp [firstNo, this]
theorem holds_pos {l : List House} (hok : ∀ h ∈ l, h.Ok) (k : Int) (a : Asked) : 0 ≤ firstNo (holds l k a) ↔ holds l k a ≠ [] :=
  firstNo_pos fun h hh => (hok h (List.mem_filter.1 (List.mem_filter.1 hh).1).1).n0
theorem show_iff {l : List House} (hok : ∀ h ∈ l, h.Ok) (a : Asked) : (verd l a).1 = 0 ↔ holds l 1 a = [] ∧ holds l 2 a = [] ∧ holds l 3 a = [] := by
  unfold verd
  by_cases h1 : holds l 1 a = []
  · rw [if_neg (fun h => (holds_pos hok 1 a).1 h h1)]
    by_cases h2 : holds l 2 a = []
    · rw [if_neg (fun h => (holds_pos hok 2 a).1 h h2)]
      by_cases h3 : holds l 3 a = []
      · rw [if_neg (fun h => (holds_pos hok 3 a).1 h h3)]; simp [h1, h2, h3]
      · rw [if_pos ((holds_pos hok 3 a).2 h3)]; simp [h3]
    · rw [if_pos ((holds_pos hok 2 a).2 h2)]; simp [h2]
  · rw [if_pos ((holds_pos hok 1 a).2 h1)]; simp [h1]
/-- Between two instants with no border between them the same decisions bind. -/
theorem bound_same {l : List House} {x : Sight} {t u kn : Int} (h : ∀ h ∈ l, inB h t = inB h u) (k : Int) : bound l k (askOf x t kn) = bound l k (askOf x u kn) := by
  unfold bound
  refine List.filter_congr fun h' hh => ?_
  unfold bindB covB
  have : inB h' (askOf x t kn).at_ = inB h' (askOf x u kn).at_ := h h' hh
  rw [this]
  rfl
theorem forb_down {l : List House} (hok : ∀ h ∈ l, h.Ok) {x : Sight} {t u kn : Int} (hs : ∀ h ∈ l, inB h t = inB h u) (hle : u ≤ t) (hx : x.frm ≤ u) (h : (forb l kn x t).isSome = true) : (forb l kn x u).isSome = true := by
  obtain ⟨no, hno⟩ := Option.isSome_iff_exists.1 h
  obtain ⟨h1, h2, h3, _⟩ := forb_in hno
  rw [forb_mk hx (by omega) ?_]
  · rfl
  · intro h0
    apply h3
    rw [show_iff hok] at h0 ⊢
    obtain ⟨e1, e2, e3⟩ := h0
    have hb := fun k => bound_same (x := x) (kn := kn) hs k
    unfold holds at e1 e2 e3 ⊢
    rw [hb 1, hb 2, hb 3]
    refine ⟨?_, ?_, ?_⟩
    · rw [List.filter_eq_nil_iff] at e1 ⊢
      intro h' hh
      have := e1 h' hh
      unfold holdB at this ⊢
      rw [if_pos rfl] at this ⊢
      rw [hb 5]; exact this
    · rw [List.filter_eq_nil_iff] at e2 ⊢
      intro h' hh
      have := e2 h' hh
      unfold holdB at this ⊢
      rw [if_neg (by decide), if_pos rfl] at this ⊢
      rw [hb 4]; exact this
    · rw [List.filter_eq_nil_iff] at e3 ⊢
      intro h' hh
      have := e3 h' hh
      unfold holdB at this ⊢
      rw [if_neg (by decide), if_neg (by decide)] at this ⊢
      have t1 : ¬ (decide (u < x.begun + h'.ms) = true) := this
      show ¬ (decide (t < x.begun + h'.ms) = true)
      rw [decide_eq_true_eq] at t1 ⊢
      omega
/-- The greatest element that is not greater. -/
theorem greatest_le {t : Int} : ∀ {T : List Int}, (∃ a ∈ T, a ≤ t) → ∃ a ∈ T, a ≤ t ∧ ∀ b ∈ T, b ≤ t → b ≤ a
  | [], h => by obtain ⟨a, ha, _⟩ := h; cases ha
  | c :: T, h => by
    by_cases hT : ∃ a ∈ T, a ≤ t
    · obtain ⟨a, ha, hat, hm⟩ := greatest_le hT
      by_cases hc : c ≤ t ∧ a < c
      · refine ⟨c, by simp, hc.1, fun b hb hbt => ?_⟩
        rcases List.mem_cons.1 hb with rfl | hb
        · omega
        · have := hm b hb hbt; omega
      · refine ⟨a, by simp [ha], hat, fun b hb hbt => ?_⟩
        rcases List.mem_cons.1 hb with rfl | hb
        · omega
        · exact hm b hb hbt
    · obtain ⟨a, ha, hat⟩ := h
      rcases List.mem_cons.1 ha with rfl | ha
      · refine ⟨a, by simp, hat, fun b hb hbt => ?_⟩
        rcases List.mem_cons.1 hb with rfl | hb
        · omega
        · exact absurd ⟨b, hb, hbt⟩ hT
      · exact absurd ⟨a, ha, hat⟩ hT
/-- Whatever is forbidden is forbidden from an instant on: the sight's beginning, or a border. -/
theorem forb_from {l : List House} (hok : ∀ h ∈ l, h.Ok) {x : Sight} {t kn : Int} (h : (forb l kn x t).isSome = true) :
    ∃ u, u ≤ t ∧ (u = x.frm ∨ (x.frm < u ∧ u < x.until_ ∧ ∃ h ∈ l, u = h.frm ∨ u = h.until_)) ∧ (forb l kn x u).isSome = true := by
  obtain ⟨no, hno⟩ := Option.isSome_iff_exists.1 h
  obtain ⟨h1, h2, _, _⟩ := forb_in hno
  obtain ⟨a, ha, hat, hm⟩ := greatest_le (t := t) (T := x.frm :: (l.flatMap fun h => [h.frm, h.until_])) ⟨x.frm, by simp, h1⟩
  have hax : x.frm ≤ a := hm x.frm (by simp) h1
  have hmem : ∀ h' ∈ l, (h'.frm ≤ t → h'.frm ≤ a) ∧ (h'.until_ ≤ t → h'.until_ ≤ a) := fun h' hh =>
    ⟨fun hb => hm _ (by simp only [List.mem_cons, List.mem_flatMap]; exact .inr ⟨h', hh, by simp⟩) hb, fun hb => hm _ (by simp only [List.mem_cons, List.mem_flatMap]; exact .inr ⟨h', hh, by simp⟩) hb⟩
  refine ⟨a, hat, ?_, forb_down hok (fun h' hh => ?_) hat hax h⟩
  · rcases List.mem_cons.1 ha with rfl | ha
    · exact .inl rfl
    · by_cases e : a = x.frm
      · exact .inl e
      · obtain ⟨h', hh, hc⟩ := List.mem_flatMap.1 ha
        exact .inr ⟨by omega, by omega, h', hh, by simpa using hc⟩
  · obtain ⟨m1, m2⟩ := hmem h' hh
    unfold inB
    rw [Bool.eq_iff_iff]
    simp only [Bool.and_eq_true, decide_eq_true_eq]
    omega
theorem forbAt_spec (l : List House) (kn t : Int) : ∀ (s : List Sight) (k : Nat), (forbAt l kn s k t = none ∧ ∀ x ∈ s, forb l kn x t = none) ∨ ∃ i x no, s[i]? = some x ∧ forb l kn x t = some no ∧ forbAt l kn s k t = some (k + i, t, no) ∧ ∀ j y, j < i → s[j]? = some y → forb l kn y t = none
  | [], k => .inl ⟨rfl, by simp⟩
  | x :: s, k => by
    rw [forbAt]
    cases hx : forb l kn x t with
    | some no => exact .inr ⟨0, x, no, rfl, hx, rfl, fun j y hj => absurd hj (by omega)⟩
    | none =>
      simp only
      rcases forbAt_spec l kn t s (k + 1) with ⟨h1, h2⟩ | ⟨i, y, no, h1, h2, h3, h4⟩
      · refine .inl ⟨h1, fun y hy => ?_⟩
        rcases List.mem_cons.1 hy with rfl | hy
        · exact hx
        · exact h2 y hy
      · refine .inr ⟨i + 1, y, no, by simpa using h1, h2, by rw [h3]; congr 2; omega, fun j z hj hz => ?_⟩
        cases j with
        | zero => simp at hz; subst hz; exact hx
        | succ j => exact h4 j z (by omega) (by simpa using hz)
theorem findT_spec (l : List House) (kn : Int) (s : List Sight) : ∀ (T : List Int), T.Pairwise (fun a b => a < b) → (findT l kn s T = none ∧ ∀ t ∈ T, ∀ x ∈ s, forb l kn x t = none) ∨ ∃ i x t no, t ∈ T ∧ s[i]? = some x ∧ forb l kn x t = some no ∧ findT l kn s T = some (i, t, no) ∧ (∀ u ∈ T, u < t → ∀ y ∈ s, forb l kn y u = none) ∧ ∀ j y, j < i → s[j]? = some y → forb l kn y t = none
  | [], _ => .inl ⟨rfl, by simp⟩
  | t :: T, hT => by
    rw [List.pairwise_cons] at hT
    rw [findT]
    rcases forbAt_spec l kn t s 0 with ⟨h1, h2⟩ | ⟨i, x, no, h1, h2, h3, h4⟩
    · rw [h1]
      simp only
      rcases findT_spec l kn s T hT.2 with ⟨k1, k2⟩ | ⟨i, x, u, no, k1, k2, k3, k4, k5, k6⟩
      · refine .inl ⟨k1, fun u hu => ?_⟩
        rcases List.mem_cons.1 hu with rfl | hu
        · exact h2
        · exact k2 u hu
      · refine .inr ⟨i, x, u, no, by simp [k1], k2, k3, k4, fun v hv hvu => ?_, k6⟩
        rcases List.mem_cons.1 hv with rfl | hv
        · exact h2
        · exact k5 v hv hvu
    · rw [h3]
      refine .inr ⟨i, x, t, no, by simp, h1, h2, by simp, fun u hu hut => ?_, h4⟩
      rcases List.mem_cons.1 hu with rfl | hu
      · omega
      · have := hT.1 u hu; omega
theorem findA_spec {l : List House} (hok : ∀ h ∈ l, h.Ok) (s : List Sight) (kn : Int) : (findA l s kn = none ∧ NoneV l s kn) ∨ ∃ i t no, findA l s kn = some (i, t, no) ∧ FirstV l s kn i t no := by
  have hI := instL_ok l s
  have down : ∀ x ∈ s, ∀ t, (forb l kn x t).isSome = true → ∃ u ∈ instL l s, u ≤ t ∧ (forb l kn x u).isSome = true := fun x hx t h => by
    obtain ⟨u, hu, hc, hf⟩ := forb_from hok h
    refine ⟨u, (hI.mem u).2 ?_, hu, hf⟩
    rcases hc with rfl | ⟨_, _, h', hh, e⟩
    · exact .inr ⟨x, hx, rfl⟩
    · exact .inl ⟨h', hh, e⟩
  rcases findT_spec l kn s (instL l s) hI.asc with ⟨h1, h2⟩ | ⟨i, x, t, no, h1, h2, h3, h4, h5, h6⟩
  · refine .inl ⟨h1, fun x hx u => ?_⟩
    cases hf : forb l kn x u with
    | none => rfl
    | some no =>
      obtain ⟨v, hv, _, hfv⟩ := down x hx u (by rw [hf]; rfl)
      rw [h2 v hv x hx] at hfv
      cases hfv
  · refine .inr ⟨i, t, no, h4, ⟨x, h2, h3⟩, fun j y u hy hu => ?_⟩
    obtain ⟨v, hv, hvu, hfv⟩ := down y (List.mem_of_getElem? hy) u hu
    have hvt : t ≤ v := by
      rcases Int.lt_or_le v t with h | h
      · rw [h5 v hv h y (List.mem_of_getElem? hy)] at hfv; cases hfv
      · exact h
    by_cases e : t = u
    · refine .inr ⟨e, ?_⟩
      rcases Nat.lt_or_ge j i with h | h
      · subst e; rw [h6 j y h hy] at hu; cases hu
      · exact h
    · exact .inl (by omega)
theorem findA_some {l : List House} (hok : ∀ h ∈ l, h.Ok) {s : List Sight} {kn : Int} {i : Nat} {t no : Int} : findA l s kn = some (i, t, no) ↔ FirstV l s kn i t no := by
  rcases findA_spec hok s kn with ⟨h1, h2⟩ | ⟨i', t', no', h1, h2⟩
  · rw [h1]
    exact ⟨(fun h => by cases h), fun h => (h.none h2).elim⟩
  · rw [h1]
    constructor
    · intro h; cases h; exact h2
    · intro h
      obtain ⟨rfl, rfl, rfl⟩ := h2.uniq h
      rfl
theorem findA_none {l : List House} (hok : ∀ h ∈ l, h.Ok) {s : List Sight} {kn : Int} : findA l s kn = none ↔ NoneV l s kn := by
  rcases findA_spec hok s kn with ⟨h1, h2⟩ | ⟨i', t', no', h1, h2⟩
  · exact ⟨fun _ => h2, fun _ => h1⟩
  · rw [h1]
    exact ⟨(fun h => by cases h), fun h => (h2.none h).elim⟩
end Go.Proofs.Ytmindojbkedmlaa

/- Releases, plain: the instants of a timeline, its steps, the spans. No program in sight. -/
namespace Go.Proofs.Ytmindojbkedmlaa
open Go.RowKit Go.Han

structure Stp where
  at_ : Int
  state : Int
deriving DecidableEq
def Stp.cells (h : Stp) : List Value := [.int .i64 h.at_, .int .i64 h.state, .bool true]
theorem Stp.size_cells (h : Stp) : h.cells.length = 3 := rfl
def pflat (l : List Stp) : List Value := l.flatMap Stp.cells
structure Spn where
  frm : Int
  until_ : Int
deriving DecidableEq
def Spn.cells (h : Spn) : List Value := [.int .i64 h.frm, .int .i64 h.until_]
theorem Spn.size_cells (h : Spn) : h.cells.length = 2 := rfl
def nflat (l : List Spn) : List Value := l.flatMap Spn.cells
/-- The error of the arguments. -/
def relE (l : List House) (s b g kn : Int) : Int := if hchk l = 0 then (if spkB s && timeB b && lngB g && timeB kn then 0 else 1) else hchk l
/-- The steps from some instants, the last state known. -/
def stepsF (v : Int → Int) : Int → List Int → List Stp
  | _, [] => []
  | last, t :: T => if v t = last then stepsF v last T else ⟨t, v t⟩ :: stepsF v (v t) T
/-- The state behind some instants. -/
def lastS (v : Int → Int) : Int → List Int → Int
  | last, [] => last
  | _, t :: T => lastS v (v t) T
theorem stepsF_snoc (v : Int → Int) : ∀ (T : List Int) (last t : Int), stepsF v last (T ++ [t]) = stepsF v last T ++ (if v t = lastS v last T then [] else [⟨t, v t⟩])
  | [], last, t => by
    show stepsF v last [t] = [] ++ _
    rw [stepsF]; rfl
  | u :: T, last, t => by
    rw [List.cons_append, stepsF, stepsF, lastS]
    by_cases h : v u = last
    · rw [if_pos h, if_pos h, h]; exact stepsF_snoc v T last t
    · rw [if_neg h, if_neg h, stepsF_snoc v T (v u) t, List.cons_append]
theorem lastS_snoc (v : Int → Int) : ∀ (T : List Int) (last t : Int), lastS v last (T ++ [t]) = v t
  | [], _, _ => rfl
  | u :: T, _, t => lastS_snoc v T (v u) t
theorem stepsF_last (v : Int → Int) : ∀ (T : List Int) (last : Int), (stepsF v last T = [] ∧ lastS v last T = last) ∨ ∃ r x, stepsF v last T = r ++ [x] ∧ x.state = lastS v last T
  | [], last => .inl ⟨rfl, rfl⟩
  | u :: T, last => by
    rw [stepsF, lastS]
    by_cases h : v u = last
    · rw [if_pos h, h]; exact stepsF_last v T last
    · rw [if_neg h]
      rcases stepsF_last v T (v u) with ⟨h1, h2⟩ | ⟨r, x, h1, h2⟩
      · exact .inr ⟨[], ⟨u, v u⟩, by rw [h1]; rfl, h2.symm⟩
      · exact .inr ⟨⟨u, v u⟩ :: r, x, by rw [h1]; rfl, h2⟩
theorem stepsF_len (v : Int → Int) : ∀ (T : List Int) (last : Int), (stepsF v last T).length ≤ T.length
  | [], _ => Nat.le_refl _
  | u :: T, last => by
    rw [stepsF]
    split
    · exact Nat.le_succ_of_le (stepsF_len v T last)
    · exact Nat.succ_le_succ (stepsF_len v T (v u))
/-- The spans in which a word shows. -/
def spansF : List Stp → List Spn
  | [] => []
  | [x] => if x.state = 0 then [⟨x.at_, 1099511627776⟩] else []
  | x :: y :: r => (if x.state = 0 then [⟨x.at_, y.at_⟩] else []) ++ spansF (y :: r)
/-- The first instant from t on at which a word shows. -/
def nextF (t : Int) : List Spn → Option Int
  | [] => none
  | x :: r => if t < x.until_ then some (max t x.frm) else nextF t r
end Go.Proofs.Ytmindojbkedmlaa

/- Slices of the call's own, elements of any number of cells. No program in sight. -/
namespace Go.Han
open Go.RowKit
section
variable {α : Type} {f : α → List Value} {E sz : Nat} {w w' : World} {base : Nat} {v : Value} {l : List α}

/-- v owns the elements l. -/
def OwnL (f : α → List Value) (E sz : Nat) (w : World) (base : Nat) (v : Value) (l : List α) : Prop := w.ownsRow base E sz v l.length (l.flatMap f)
theorem OwnL.nil (f : α → List Value) (E sz : Nat) (w : World) (base : Nat) : OwnL f E sz w base (.slice none 0 0) [] := ⟨by simp, .inl ⟨rfl, rfl⟩⟩
theorem OwnL.form (h0 : 0 < sz) (h : OwnL f E sz w base v l) : ∃ A c, v = .slice A l.length c ∧ Rd w A (l.flatMap f) ∧ (A = none → l = []) := by
  obtain ⟨A, c, rfl, _, _, hl, hr⟩ := SlOf.of_own h
  refine ⟨A, c, rfl, hr, ?_⟩
  rintro rfl
  rcases hr with h | ⟨b, off, h, _⟩
  · rw [h] at hl
    refine List.eq_nil_of_length_eq_zero ?_
    rcases Nat.eq_zero_or_pos l.length with h | h
    · exact h
    · have := Nat.mul_pos h h0
      simp at hl
      omega
  · cases h
theorem OwnL.mono {b' : Nat} (h : OwnL f E sz w base v l) (hb : b' ≤ base) : OwnL f E sz w b' v l := by
  refine ⟨h.1, ?_⟩
  rcases h.2 with h | ⟨g, c, cur, h1, h2, h3⟩
  · exact .inl h
  · exact .inr ⟨g, c, cur, h1, Nat.le_trans hb h2, h3⟩
theorem OwnL.snoc (x : α) (h : w.ownsRow base E sz v (l.length + 1) (l.flatMap f ++ f x)) : OwnL f E sz w base v (l ++ [x]) := by
  unfold OwnL
  simpa using h
theorem OwnL.lt (h : OwnL f E sz w base v l) : ∀ g, v.ownBlock = some g → base ≤ g ∧ g < w.heap.size := fun g hg => World.ownsRow.lt h g hg
theorem OwnL.block (h : OwnL f E sz w base v l) (hb : ∀ g, v.ownBlock = some g → w'.heap[g]? = w.heap[g]?) : OwnL f E sz w' base v l := ownsRow_of_block h hb
theorem OwnL.ext (h : OwnL f E sz w base v l) (hb : Below w.heap.size w w') : OwnL f E sz w' base v l := h.block fun g hg => hb.block g (h.lt g hg).2
theorem OwnL.far {row : Option Nat} (h : OwnL f E sz w base v l) (hg : w.grownBy w' row) (hne : ∀ g, v.ownBlock = some g → some g ≠ row) : OwnL f E sz w' base v l := h.block fun g hgv => hg.block g (h.lt g hgv).2 (hne g hgv)
/-- A step that grows one's own row keeps what was there before. -/
theorem below_own {w0 : World} (h : Below w0.heap.size w0 w) (ho : OwnL f E sz w base v l) (hbase : w0.heap.size ≤ base) (hg : w.grownBy w' v.ownBlock) : Below w0.heap.size w0 w' :=
  ⟨hg.os.trans h.os, hg.tape.trans h.tape, hg.output.trans h.output, Nat.le_trans h.size hg.size, fun i hi => (hg.block i (Nat.lt_of_lt_of_le hi h.size) (fun e => by have := (ho.lt i e.symm).1; omega)).trans (h.block i hi)⟩
end
end Go.Han

/- Small lemmas: blocks, new slices, rows that grow. No program in sight. -/
namespace Go.Han
open Go.RowKit
theorem gblk {w : World} {b t : Nat} {cs : Array Value} {fr : Nat × Nat} (h : w.heap[b]? = some (.cells cs t fr)) (j : Nat) : w.cell? ⟨b, j, none⟩ = cs[j]? := by
  simp [World.cell?, h]
theorem galloc_at (w : World) (o : Obj) (n : Nat) (h : n = w.heap.size) : (w.alloc o).heap[n]? = some o := by
  subst h; exact World.alloc_heap_new _ _
theorem grd_blk {w : World} {b t : Nat} {cs : Array Value} {fr : Nat × Nat} {xs : List Value} (h : w.heap[b]? = some (.cells cs t fr)) (hx : cs.toList = xs) : Rd w (some ⟨b, 0, none⟩) xs := by
  refine .inr ⟨b, 0, rfl, lt_block h, fun j u hu => ?_⟩
  rw [Nat.zero_add, gblk h]
  rw [← hx] at hu
  simpa using hu
theorem grd_new {w : World} {cs : Array Value} {t : Nat} {xs : List Value} (hx : cs.toList = xs) : Rd (w.alloc (.cells cs t)) (some ⟨w.heap.size, 0, none⟩) xs := grd_blk (galloc_at _ _ _ rfl) hx
theorem gcells_new (w : World) (cs : List Value) (t : Nat) : ∀ (j : Nat) (u : Value), cs[j]? = some u → (w.alloc (.cells cs.toArray t)).cell? ((⟨w.heap.size, 0, none⟩ : Addr).add j) = some u := by
  intro j u hu
  rw [show (⟨w.heap.size, 0, none⟩ : Addr).add j = ⟨w.heap.size, j, none⟩ from by unfold Addr.add; split <;> simp_all, gblk (galloc_at _ _ _ rfl)]
  simpa using hu
theorem gcells_new2 (w : World) (o : Obj) (cs : List Value) (t : Nat) : ∀ (j : Nat) (u : Value), cs[j]? = some u → ((w.alloc o).alloc (.cells cs.toArray t)).cell? ((⟨w.heap.size + 1, 0, none⟩ : Addr).add j) = some u := by
  have h := gcells_new (w.alloc o) cs t
  rw [World.size_alloc] at h
  exact h
theorem gcells_newd (w : World) (cs : List Value) (t : Nat) : ∀ (j : Nat) (u : Value), cs[j]? = some u → (w.alloc (.cells cs.toArray t)).drew.cell? ((⟨w.heap.size, 0, none⟩ : Addr).add j) = some u := fun j u hu => gcells_new w cs t j u hu
theorem gbelow_grown {w w' : World} (h : Below w.heap.size w w') (row : Option Nat) : w.grownBy w' row := ⟨h.os, h.tape, h.output, h.size, fun i hi _ => h.block i hi⟩
theorem grd_grown {w w' : World} {A : Option Addr} {xs : List Value} {row : Option Nat} (h : Rd w A xs) (hg : w.grownBy w' row) (hne : ∀ a, A = some a → some a.block ≠ row) : Rd w' A xs := by
  rcases h with h | ⟨b, off, rfl, hlt, hc⟩
  · exact .inl h
  · exact .inr ⟨b, off, rfl, Nat.lt_of_lt_of_le hlt hg.size, fun j u hu => (World.cell?_of_block (w := w) (a := ⟨b, off + j, none⟩) (hg.block b hlt (hne _ rfl))).trans (hc j u hu)⟩
theorem below_drewN {w w' : World} (h : Below w.heap.size w w') (n : Nat) : Below w.heap.size w (w'.drewN n) := ⟨h.os, h.tape, h.output, h.size, h.block⟩
end Go.Han
