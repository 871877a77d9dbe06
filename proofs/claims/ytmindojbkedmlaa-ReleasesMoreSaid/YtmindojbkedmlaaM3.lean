/- Texts of this claim, one after the other: RangeN, Hou6, QTail, Round, Hou7, Hou8. -/
import Derived.Test.YtmindojbkedmlaaM1
import Derived.Test.YtmindojbkedmlaaM2
import Derived.StillTail
import Derived.OrdersIn
import Derived.RangeFuncCalls
/- A range over a function whose rounds do not panic: the iterator's contract, the caller's law (which tells that the loop's own blocks are not the caller's). Plain theorems about the machine's steps. -/
namespace Go.Han
open Go.RowKit
variable {P : Program}
/-- THE ITERATOR's CONTRACT, for rounds that do not panic. -/
def IterN {α : Type} (P : Program) (g : Nat) (lb : Array Value) (encs : α → Array Value) (R M : Nat → Prop) (xs : List α) (w0 : World) : Prop :=
  ∀ (l B0 : Nat) (J Jx : (Nat → Prop) → List α → World → Prop) (own₀ : Nat → Prop) (W : World),
    (∀ k, R k → k < B0 ∧ W.heap[k]? = w0.heap[k]?) → (∀ k, own₀ k → ¬ R k) → B0 ≤ W.heap.size → (∀ k, own₀ k → k < W.heap.size) →
    Stable B0 M J → Stable B0 M Jx →
    (∀ own pre x W1, J own pre W1 → pre ++ [x] <+: xs → (∀ k, own k → ¬ R k) → (∀ k, own k → k < W1.heap.size) → YieldAt Fence.wide 0 P l (encs x) W1 (RoundPost J Jx (fun _ _ => False) own (pre ++ [x]) W1)) →
    J own₀ [] W →
    Calls P g (#[.func (.yield l) #[] #[]] ++ lb) W (IterPost J Jx (fun _ _ => False) xs none)
theorem IterC.n {α : Type} {g : Nat} {lb : Array Value} {encs : α → Array Value} {R M : Nat → Prop} {xs : List α} {w0 : World} (h : IterC P g lb encs R M xs none w0) : IterN P g lb encs R M xs w0 :=
  fun l B0 J Jx own₀ W => h l B0 J Jx (fun _ _ => False) own₀ W
/-- THE CALLER's LAW, where no round panics. -/
theorem wp_rangeN {α : Type} {f : FuncId} {fn : Func} (hfn : P.funcs[f]? = some fn) {g : Operand} {ps : Array Tmp} {assign body : Code} {Q : Exit → Act → World → Prop} {a : Act} {w : World}
    {gf : Nat} {lb : Array Value} (hg : a.eval g = .func (.func gf) #[] lb) (eg : ∀ args w, (callFunc gf args).run P w = .ok (.enter gf args) w)
    {encs : α → Array Value} {R M : Nat → Prop} {xs : List α} {w0 : World} (hit : IterN P gf lb encs R M xs w0)
    (hR : ∀ k, R k → k < w.heap.size ∧ w.heap[k]? = w0.heap[k]?) (hps : ∀ x, (encs x).size = ps.size)
    (I : (Nat → Prop) → List α → World → Prop) (Ix : Code → (Nat → Prop) → List α → World → Prop)
    (hI : Stable w.heap.size M I) (hIx : ∀ c, Stable w.heap.size M (Ix c))
    (own₀ : Nat → Prop) (hown : ∀ k, own₀ k → k < w.heap.size ∧ ¬ R k) (h0 : I own₀ [] w)
    (Ia : α → Act → (Nat → Prop) → List α → World → Prop) (hIa : ∀ x a', Stable w.heap.size M (Ia x a'))
    (hassign : ∀ (l : Nat) (own : Nat → Prop) (pre : List α) (x : α) (W : World), I own pre W → w.heap.size < l → l < W.heap.size → Owned R l own W → pre ++ [x] <+: xs →
      assign.wpIn (Fence.wide.inRound l) 0 P (Exit.then (fun a' W' => ∃ own', BodyStep own own' W W' ∧ Ia x a' own' pre W') (fun _ _ _ => False))
        { tmps := (ps.zip (encs x)).foldl (fun t (p, v) => t.setIfInBounds p v) a.tmps, defers := [] } W)
    (hbody : ∀ (l : Nat) (own : Nat → Prop) (pre : List α) (x : α) (a' : Act) (W : World), Ia x a' own pre W → w.heap.size < l → l < W.heap.size → Owned R l own W → pre ++ [x] <+: xs →
      body.wpIn (Fence.wide.inRound l) 0 P (roundEnd I Ix (fun _ _ => False) own (pre ++ [x]) W) a' W)
    (hdone : ∀ (D : Nat) (own : Nat → Prop) (W : World), w.heap.size ≤ D → (∀ k, own k → ¬ R k ∧ k < W.heap.size ∧ k ≠ D) → I own xs W → W.heap[D]? = some (.deferred (some [])) → Q .normal { a with defers := { target := .collected D, args := #[] } :: a.defers } W)
    (hstop : ∀ (D : Nat) (own : Nat → Prop) (c : Code) (pre : List α) (W : World), w.heap.size ≤ D → (∀ k, own k → ¬ R k ∧ k < W.heap.size ∧ k ≠ D) → pre <+: xs → Ix c own pre W → W.heap[D]? = some (.deferred (some [])) → wpAt P f c Q { a with defers := { target := .collected D, args := #[] } :: a.defers } W) :
    wpAt P f (Code.rangeFunc g ps assign body) Q a w := by
  obtain ⟨rec, hrec⟩ : ∃ rec : LoopState → Option Code → Loop, rec = fun st pe => { state := st, pending := pe, fn := f, tmps := a.tmps, params := ps, assign, body, defers := w.heap.size } := ⟨_, rfl⟩
  obtain ⟨W1, hW1⟩ : ∃ W1, (w.alloc (.deferred (some []))).alloc (.loop (rec .ready none)) = W1 := ⟨_, rfl⟩
  have hsz : W1.heap.size = w.heap.size + 2 := by rw [← hW1]; simp
  have hL1 : W1.heap[w.heap.size + 1]? = some (.loop (rec .ready none)) := by
    rw [← hW1]; have := World.alloc_heap_new (w.alloc (.deferred (some []))) (.loop (rec .ready none)); rwa [World.size_alloc] at this
  have hK1 : W1.heap[w.heap.size]? = some (.deferred (some [])) := by
    rw [← hW1]; exact (Below.heap_alloc _ _ _ (by simp)).trans (World.alloc_heap_new w _)
  have hB1 : ∀ k, k < w.heap.size → W1.heap[k]? = w.heap[k]? := by
    intro k hk
    rw [← hW1]; exact (Below.heap_alloc _ _ _ (by simp; omega)).trans (Below.heap_alloc _ _ _ hk)
  have hI1 : I own₀ [] W1 := hI own₀ [] w W1 h0 ⟨by rw [← hW1]; rfl, by rw [← hW1]; rfl, by rw [← hW1]; rfl, by omega, fun k hk _ => hB1 k hk⟩
  -- the caller's own blocks, with the loop's two
  have both : ∀ own : Nat → Prop, (∀ k, own k → ¬ R k ∧ k ≠ w.heap.size ∧ k ≠ w.heap.size + 1) → ∀ k, (own k ∨ k = w.heap.size ∨ k = w.heap.size + 1) → ¬ R k := by
    intro own h k hk hr
    rcases hk with hk | hk | hk
    · exact (h k hk).1 hr
    · have := (hR k hr).1; omega
    · have := (hR k hr).1; omega
  refine wpAt_rangeFunc (l := w.heap.size + 1) (mark := [{ target := .collected w.heap.size, args := #[] }]) (w₁ := W1) (w₁' := W1) (w₂ := W1)
    (d := { target := .fn (.func gf) lb, args := #[.func (.yield (w.heap.size + 1)) #[] #[]] }) (gf := gf) (args := #[.func (.yield (w.heap.size + 1)) #[] #[]] ++ lb) ?_ ?_ ?_ ?_
  · rw [← hW1, hrec]; exact run_enterLoop_outer _ _ _ _ _
  · simp only [resolve, hg]; simp [go_sem]
  · simp [invoke, go_sem, eg]
  refine (hit (w.heap.size + 1) w.heap.size
    (fun own pre W => ∃ o1, (∀ k, own k ↔ (o1 k ∨ k = w.heap.size ∨ k = w.heap.size + 1)) ∧ (∀ k, o1 k → ¬ R k ∧ k < W.heap.size ∧ k ≠ w.heap.size + 1 ∧ k + 1 ≠ w.heap.size + 1) ∧ I o1 pre W ∧ W.heap[w.heap.size + 1]? = some (.loop (rec .ready none)) ∧ W.heap[w.heap.size]? = some (.deferred (some [])))
    (fun own pre W => ∃ o1, (∀ k, own k ↔ (o1 k ∨ k = w.heap.size ∨ k = w.heap.size + 1)) ∧ (∀ k, o1 k → ¬ R k ∧ k < W.heap.size ∧ k ≠ w.heap.size + 1 ∧ k + 1 ≠ w.heap.size + 1) ∧ ∃ c, Ix c o1 pre W ∧ W.heap[w.heap.size + 1]? = some (.loop (rec .done (some c))) ∧ W.heap[w.heap.size]? = some (.deferred (some [])))
    (fun k => own₀ k ∨ k = w.heap.size ∨ k = w.heap.size + 1) W1 (fun k hk => ⟨(hR k hk).1, (hB1 k (hR k hk).1).trans (hR k hk).2⟩)
    (both own₀ (fun k hk => ⟨(hown k hk).2, by have := (hown k hk).1; omega, by have := (hown k hk).1; omega⟩)) (by omega)
    (fun k hk => by rcases hk with h | h | h; have := (hown k h).1; omega; omega; omega) ?_ ?_ ?_ ⟨own₀, fun _ => Iff.rfl, fun k hk => ⟨(hown k hk).2, by have := (hown k hk).1; omega, by have := (hown k hk).1; omega, by have := (hown k hk).1; omega⟩, hI1, hL1, hK1⟩).mono ?_
  · rintro own pre A B ⟨o1, ho, hn, hi, hl, hk⟩ st
    have hlt := (Array.getElem?_eq_some_iff.1 hl).1
    have hlt' := (Array.getElem?_eq_some_iff.1 hk).1
    exact ⟨o1, ho, fun k hk' => ⟨(hn k hk').1, Nat.lt_of_lt_of_le (hn k hk').2.1 st.size, (hn k hk').2.2⟩, hI o1 pre A B hi ⟨st.os, st.tape, st.output, st.size, fun k hk' h => st.block k hk' (h.imp id (fun h => (ho k).2 (.inl h)))⟩,
      (st.block _ hlt (.inr ((ho _).2 (.inr (.inr rfl))))).trans hl, (st.block _ hlt' (.inr ((ho _).2 (.inr (.inl rfl))))).trans hk⟩
  · rintro own pre A B ⟨o1, ho, hn, c, hi, hl, hk⟩ st
    have hlt := (Array.getElem?_eq_some_iff.1 hl).1
    have hlt' := (Array.getElem?_eq_some_iff.1 hk).1
    exact ⟨o1, ho, fun k hk' => ⟨(hn k hk').1, Nat.lt_of_lt_of_le (hn k hk').2.1 st.size, (hn k hk').2.2⟩, c, hIx c o1 pre A B hi ⟨st.os, st.tape, st.output, st.size, fun k hk' h => st.block k hk' (h.imp id (fun h => (ho k).2 (.inl h)))⟩,
      (st.block _ hlt (.inr ((ho _).2 (.inr (.inr rfl))))).trans hl, (st.block _ hlt' (.inr ((ho _).2 (.inr (.inl rfl))))).trans hk⟩
  · -- ONE ROUND
    rintro own pre x W ⟨o1, ho, hn, hi, hl, hk⟩ hpre hnR hlive
    have hlt : w.heap.size + 1 < W.heap.size := (Array.getElem?_eq_some_iff.1 hl).1
    have hy := run_yield (P := P) (args := encs x) hl (by rw [hrec]; exact hps x)
    rw [hrec] at hy
    refine ⟨f, _, assign, body, hy, roundIn_of_wpInP hfn (wpIn_mono (hassign (w.heap.size + 1) o1 pre x W hi (by omega) hlt hn hpre) ?_)⟩
    rintro e a' Wa hp
    cases e with
    | normal =>
      obtain ⟨o2, hb2, hia⟩ := hp
      have hn2 : ∀ k, o2 k → ¬ R k ∧ k < Wa.heap.size ∧ k ≠ w.heap.size + 1 ∧ k + 1 ≠ w.heap.size + 1 := by
        intro k hk'
        refine ⟨?_, hb2.live k hk', ?_⟩
        · intro hr
          rcases hb2.owns k hk' with h | h
          · exact (hn k h).1 hr
          · have := (hR k hr).1; omega
        · rcases hb2.owns k hk' with h | h
          · exact (hn k h).2.2
          · omega
      have hla := hb2.same hl (fun h => (hn _ h).2.2.1 rfl)
      have hka := hb2.same hk (fun h => (hn _ h).2.2.2 rfl)
      have hlta : w.heap.size + 1 < Wa.heap.size := (Array.getElem?_eq_some_iff.1 hla).1
      refine ⟨_, run_beginRound hla (by rw [hrec]), ?_⟩
      obtain ⟨Wb, hWb⟩ : ∃ Wb, Wa.putObj (w.heap.size + 1) (.loop { rec .ready none with state := .busy }) = Wb := ⟨_, rfl⟩
      rw [hWb]
      have hszb : Wb.heap.size = Wa.heap.size := by rw [← hWb]; simp
      have hob : ∀ k, k ≠ w.heap.size + 1 → Wb.heap[k]? = Wa.heap[k]? := fun k hk' => by rw [← hWb]; exact World.putObj_heap_other hk'
      have hlb : Wb.heap[w.heap.size + 1]? = some (.loop { rec .ready none with state := .busy }) := by rw [← hWb]; exact World.putObj_heap_same hlta
      have hkb : Wb.heap[w.heap.size]? = some (.deferred (some [])) := (hob _ (by omega)).trans hka
      have hib : Ia x a' o2 pre Wb := hIa x a' o2 pre Wa Wb hia ⟨by rw [← hWb]; rfl, by rw [← hWb]; rfl, by rw [← hWb]; rfl, by omega, fun k _ h => hob k (by rintro rfl; rcases h with h | h; omega; exact (hn2 _ h).2.2.1 rfl)⟩
      refine wpIn_mono (hbody (w.heap.size + 1) o2 pre x a' Wb hib (by omega) (by omega) (fun k hk' => ⟨(hn2 k hk').1, by have := (hn2 k hk').2.1; omega, (hn2 k hk').2.2⟩) hpre) ?_
      -- what the round's end comes to
      have fin : ∀ (jump : Option Code) (o3 : Nat → Prop) (W3 : World), BodyStep o2 o3 Wb W3 →
          ∃ W4, (Instr.endRound (w.heap.size + 1) jump).run P W3 = .ok (.bool jump.isNone) W4 ∧ W4.heap.size = W3.heap.size ∧ (∀ k, k ≠ w.heap.size + 1 → W4.heap[k]? = W3.heap[k]?) ∧ W4.os = W3.os ∧ W4.tape = W3.tape ∧ W4.output = W3.output ∧
          W4.heap[w.heap.size + 1]? = some (.loop (rec (if jump.isNone then .ready else .done) jump)) ∧ W4.heap[w.heap.size]? = some (.deferred (some [])) ∧ ¬ o3 (w.heap.size + 1) ∧ ¬ o3 w.heap.size ∧
          BodyStep own (fun k => o3 k ∨ k = w.heap.size ∨ k = w.heap.size + 1) W W4 ∧ (∀ k, o3 k → ¬ R k ∧ k < W4.heap.size ∧ k ≠ w.heap.size + 1 ∧ k + 1 ≠ w.heap.size + 1) := by
        intro jump o3 W3 hb3
        have hl3 := hb3.same hlb (fun h => (hn2 _ h).2.2.1 rfl)
        have hk3 := hb3.same hkb (fun h => (hn2 _ h).2.2.2 rfl)
        have hlt3 := (Array.getElem?_eq_some_iff.1 hl3).1
        have hrun := run_endRound (P := P) jump hl3
        have no1 : ¬ o3 (w.heap.size + 1) := fun h => by
          rcases hb3.owns _ h with h | h
          · exact (hn2 _ h).2.2.1 rfl
          · omega
        have no2 : ¬ o3 w.heap.size := fun h => by
          rcases hb3.owns _ h with h | h
          · exact (hn2 _ h).2.2.2 rfl
          · omega
        have hsub : ∀ k, o3 k → o1 k ∨ W.heap.size ≤ k := by
          intro k h
          rcases hb3.owns k h with h | h
          · exact hb2.owns k h
          · exact .inr (by have := hb2.size; omega)
        refine ⟨_, hrun, by simp, fun k hk' => World.putObj_heap_other hk', rfl, rfl, rfl, ?_, (World.putObj_heap_other (by omega)).trans hk3, no1, no2, ?_, ?_⟩
        · rw [World.putObj_heap_same hlt3, hrec]
        · refine ⟨?_, ?_, ?_, ?_, ?_, ?_, ?_⟩
          · exact hb3.os.trans ((by rw [← hWb]; rfl : Wb.os = Wa.os).trans hb2.os)
          · exact hb3.tape.trans ((by rw [← hWb]; rfl : Wb.tape = Wa.tape).trans hb2.tape)
          · exact hb3.output.trans ((by rw [← hWb]; rfl : Wb.output = Wa.output).trans hb2.output)
          · have := hb2.size; have := hb3.size; simp; omega
          · intro k hk' hno
            have h1 : k ≠ w.heap.size + 1 := fun e => hno ((ho k).2 (.inr (.inr e)))
            have h2 : ¬ o1 k := fun e => hno ((ho k).2 (.inl e))
            have h3 : ¬ o2 k := fun e => by
              rcases hb2.owns k e with h | h
              · exact h2 h
              · omega
            rw [World.putObj_heap_other h1, hb3.block k (by have := hb2.size; omega) h3, hob k h1]
            exact hb2.block k hk' h2
          · intro k hk'
            rcases hk' with h | h | h
            · rcases hsub k h with h | h
              · exact .inl ((ho k).2 (.inl h))
              · exact .inr h
            · exact .inl ((ho k).2 (.inr (.inl h)))
            · exact .inl ((ho k).2 (.inr (.inr h)))
          · intro k hk'
            rw [World.putObj_size]
            rcases hk' with h | h | h
            · exact hb3.live k h
            · omega
            · omega
        · intro k h
          refine ⟨?_, by rw [World.putObj_size]; exact hb3.live k h, fun e => no1 (e ▸ h), fun e => no2 ((show k = w.heap.size by omega) ▸ h)⟩
          intro hr
          rcases hsub k h with h | h
          · exact (hn k h).1 hr
          · have := (hR k hr).1; omega
      have turn : ∀ (W3 W4 : World) (o3 : Nat → Prop), W4.heap.size = W3.heap.size → (∀ k, k ≠ w.heap.size + 1 → W4.heap[k]? = W3.heap[k]?) → W4.os = W3.os → W4.tape = W3.tape → W4.output = W3.output → ¬ o3 (w.heap.size + 1) → IterStep w.heap.size M o3 W3 W4 :=
        fun W3 W4 o3 h1 h2 h3 h4 h5 h6 => ⟨h3, h4, h5, by omega, fun k _ h => h2 k (by rintro rfl; rcases h with h | h; omega; exact h6 h)⟩
      rintro e a3 W3 hp
      cases e with
      | normal =>
        obtain ⟨o3, hb3, hi3⟩ := hp
        obtain ⟨W4, hr, h1, h2, h3, h4, h5, h6, h7, h8, h9, h10, h11⟩ := fin none o3 W3 hb3
        exact ⟨_, W4, hr, .inl ⟨_, h10, .inl ⟨rfl, o3, fun _ => Iff.rfl, h11, hI o3 _ W3 W4 hi3 (turn W3 W4 o3 h1 h2 h3 h4 h5 h8), h6, h7⟩⟩⟩
      | ret =>
        obtain ⟨o3, hb3, hi3⟩ := hp
        obtain ⟨W4, hr, h1, h2, h3, h4, h5, h6, h7, h8, h9, h10, h11⟩ := fin (some .ret) o3 W3 hb3
        exact ⟨_, W4, hr, .inl ⟨_, h10, .inr ⟨rfl, o3, fun _ => Iff.rfl, h11, _, hIx _ o3 _ W3 W4 hi3 (turn W3 W4 o3 h1 h2 h3 h4 h5 h8), h6, h7⟩⟩⟩
      | exit id =>
        obtain ⟨o3, hb3, hi3⟩ := hp
        obtain ⟨W4, hr, h1, h2, h3, h4, h5, h6, h7, h8, h9, h10, h11⟩ := fin (some (.exit id)) o3 W3 hb3
        exact ⟨_, W4, hr, .inl ⟨_, h10, .inr ⟨rfl, o3, fun _ => Iff.rfl, h11, _, hIx _ o3 _ W3 W4 hi3 (turn W3 W4 o3 h1 h2 h3 h4 h5 h8), h6, h7⟩⟩⟩
      | goto t =>
        obtain ⟨o3, hb3, hi3⟩ := hp
        obtain ⟨W4, hr, h1, h2, h3, h4, h5, h6, h7, h8, h9, h10, h11⟩ := fin (some (.goto t)) o3 W3 hb3
        exact ⟨_, W4, hr, .inl ⟨_, h10, .inr ⟨rfl, o3, fun _ => Iff.rfl, h11, _, hIx _ o3 _ W3 W4 hi3 (turn W3 W4 o3 h1 h2 h3 h4 h5 h8), h6, h7⟩⟩⟩
      | panic ch => exact hp.2.2.elim
      | outgrown => exact hp.elim
    | exit id => exact hp.elim
    | goto t => exact hp.elim
    | ret => exact hp.elim
    | panic ch => exact hp.elim
    | outgrown => exact hp.elim
  · -- BEHIND THE ITERATOR
    rintro e W2 h
    have own_put : ∀ (o1 : Nat → Prop) (X : World) (o : Obj), (∀ k, o1 k → ¬ R k ∧ k < X.heap.size ∧ k ≠ w.heap.size + 1 ∧ k + 1 ≠ w.heap.size + 1) → ∀ k, o1 k → ¬ R k ∧ k < (X.putObj (w.heap.size + 1) o).heap.size ∧ k ≠ w.heap.size :=
      fun o1 X o hn k hk => ⟨(hn k hk).1, by rw [World.putObj_size]; exact (hn k hk).2.1, by have := (hn k hk).2.2.2; omega⟩
    rcases h with ⟨hpn, ⟨v, rfl⟩, own, o1, ho, hn, hi, hl, hk⟩ | ⟨⟨v, rfl⟩, own, pre, hpre, o1, ho, hn, c, hi, hl, hk⟩ | ⟨ch, rfl, hp⟩ | ⟨ch, hpn, rfl, own, o1, ho, hn, hi, hl, hk⟩
    · have hrun := run_endLoop (P := P) hl (by rw [hrec]; simp)
      refine ⟨none, _, by rw [hrec] at hrun; exact hrun, ?_⟩
      exact hdone _ o1 _ (Nat.le_refl _) (own_put o1 _ _ hn) (hI o1 _ W2 _ hi (IterStep.of_putObj _ (by omega) (fun h => (hn _ h).2.2.1 rfl))) ((World.putObj_heap_other (by omega)).trans hk)
    · have hrun := run_endLoop (P := P) hl (by rw [hrec]; simp)
      refine ⟨some c, _, by rw [hrec] at hrun; exact hrun, ?_⟩
      exact hstop _ o1 c pre _ (Nat.le_refl _) (own_put o1 _ _ hn) hpre (hIx c o1 pre W2 _ hi (IterStep.of_putObj _ (by omega) (fun h => (hn _ h).2.2.1 rfl))) ((World.putObj_heap_other (by omega)).trans hk)
    · exact hp.elim
    · cases hpn

/-- Between two rounds of an iterator: what the caller's loop says (J), and the blocks that the iterator leans on are as they were. -/
def ItInv {α : Type} (w0 : World) (B0 : Nat) (R : Nat → Prop) (J : (Nat → Prop) → List α → World → Prop) (ys : List α) (wr : World) : Prop :=
  ∃ own, J own ys wr ∧ (∀ j, R j → wr.heap[j]? = w0.heap[j]?) ∧ (∀ j, own j → ¬ R j) ∧ (∀ j, own j → j < wr.heap.size) ∧ B0 ≤ wr.heap.size
def Alive (w0 : World) (R : Nat → Prop) : Prop := ∀ j, R j → j < w0.heap.size
theorem alive_lt {w0 W : World} {R : Nat → Prop} (ha : Alive w0 R) (h : ∀ j, R j → W.heap[j]? = w0.heap[j]?) {j : Nat} (hj : R j) : j < W.heap.size := by
  rcases Nat.lt_or_ge j W.heap.size with h1 | h1
  · exact h1
  · have h2 := h j hj
    rw [Array.getElem?_eq_none h1] at h2
    have := Array.getElem?_eq_none_iff.1 h2.symm
    have := ha j hj
    omega
theorem ItInv.ext {α : Type} {w0 : World} {B0 : Nat} {R M : Nat → Prop} {J : (Nat → Prop) → List α → World → Prop} {ys : List α} {wr W : World} (h : ItInv w0 B0 R J ys wr) (hJ : Stable B0 M J) (ha : Alive w0 R) (hb : Below wr.heap.size wr W) : ItInv w0 B0 R J ys W := by
  obtain ⟨own, hj, hR, hd, hl, hB⟩ := h
  exact ⟨own, hJ own ys wr W hj (IterStep.of_below hb), fun j hjR => (hb.block j (alive_lt ha hR hjR)).trans (hR j hjR), hd, fun j hj => Nat.lt_of_lt_of_le (hl j hj) hb.size, Nat.le_trans hB hb.size⟩
theorem ItInv.body {α : Type} {w0 : World} {B0 : Nat} {R own own' : Nat → Prop} {J : (Nat → Prop) → List α → World → Prop} {ys : List α} {W1 W3 : World} (hj : J own' ys W3) (hbs : BodyStep own own' W1 W3) (ha : Alive w0 R)
    (hR : ∀ j, R j → W1.heap[j]? = w0.heap[j]?) (hd : ∀ j, own j → ¬ R j) (hB : B0 ≤ W1.heap.size) : ItInv w0 B0 R J ys W3 := by
  refine ⟨own', hj, fun j hjR => (hbs.block j (alive_lt ha hR hjR) (fun h => hd j h hjR)).trans (hR j hjR), fun j hjo hjR => ?_, hbs.live, Nat.le_trans hB hbs.size⟩
  rcases hbs.owns j hjo with h | h
  · exact hd j h hjR
  · have := alive_lt ha hR hjR; omega
theorem only_iterN {M own : Nat → Prop} {B0 : Nat} {a b c : World} (h : Only M a b) (k : IterStep B0 (fun _ => False) own b c) (hB : a.heap.size ≤ B0) : Only M a c :=
  ⟨k.os.trans h.os, k.tape.trans h.tape, k.output.trans h.output, Nat.le_trans h.size k.size, fun i hi hn => (k.block i (Nat.lt_of_lt_of_le hi h.size) (.inl ⟨by omega, fun h => h⟩)).trans (h.block i hi hn)⟩
theorem leavesM_none {fn : Func} {tmps : Array Value} {R : Ending → World → Prop} {D : Nat} {W : World} (hdef : W.heap[D]? = some (.deferred (some []))) (hn : fn.results = #[])
    (hR : R (.returned (.tuple #[])) (W.putObj D (.deferred none))) : LeavesInM Fence.wide 0 P fn tmps R [{ target := .collected D, args := #[] }] .returning W :=
  leavesM_ret hdef (results_none hn _ _ _) hR
section
variable {f : FuncId} {Q : Exit → Act → World → Prop} {a : Act} {w : World}
theorem stepR_scope' {c : Code} {b : Frame} {k : List Item} {cs : List Frame} : step P (lone (b.atR a (.code (.scope c) :: k)) cs w) = .next (lone (b.atR a (.code c :: .inScope c :: k)) cs w) :=
  step_lone_go (by simp [stepG, stepG.exec, Frame.atR])
theorem stepR_inScope' {c : Code} {b : Frame} {k : List Item} {cs : List Frame} : step P (lone (b.atR a (.inScope c :: k)) cs w) = .next (lone (b.atR a k) cs w) :=
  step_lone_go (by simp [stepG, stepG.exec, Frame.atR])
/-- A scope through which the run goes without a goto. -/
theorem wpAt_scope {c : Code} (h : wpAt P f c (Exit.noGoto Q) a w) : wpAt P f (Code.scope c) Q a w := by
  intro b k cs hro hb
  have h0 := fenced_any P (b.atR a (.code (.scope c) :: k)) cs w
  obtain ⟨e, a₁, w₁, hq, harr⟩ := h b (.inScope c :: k) cs hro hb
  cases e with
  | normal => exact ⟨.normal, a₁, w₁, hq, .head h0 stepR_scope' (StepsIn.trans harr (.one (fenced_any _ _ _ _) stepR_inScope'))⟩
  | exit id =>
    have hx : exitTo id (.inScope c :: k) = exitTo id k := by simp [exitTo]
    exact ⟨.exit id, a₁, w₁, hq, fun k' hk => .head h0 stepR_scope' (harr.1 k' (by rw [hx]; exact hk)),
      fun hr' hk => let ⟨k₁, h1, h2⟩ := harr.2 hr' (by rw [hx]; exact hk); ⟨k₁, h1, .head h0 stepR_scope' h2⟩⟩
  | goto l => exact hq.elim
  | ret => exact ⟨_, a₁, w₁, hq, .of_steps (.one h0 stepR_scope') harr⟩
  | panic ch => exact ⟨_, a₁, w₁, hq, .of_steps (.one h0 stepR_scope') harr⟩
  | outgrown => exact ⟨_, a₁, w₁, hq, .of_steps (.one h0 stepR_scope') harr⟩
end
theorem leavesM_plain {fn : Func} {tmps : Array Value} {R : Ending → World → Prop} {W : World} {v : Value} (hres : (results fn tmps).run P W = .ok v W) (hR : R (.returned v) W) :
    LeavesInM Fence.wide 0 P fn tmps R [] .returning W := ⟨v, hres, hR⟩
end Go.Han

/- Package verdicts: binding, the decisions of a kind that bind a word, as an iterator. -/
namespace Go.Proofs.Ytmindojbkedmlaa
open Go.RowKit Go.Han
attribute [local irreducible] wpStill wpQuiet
set_option maxRecDepth 100000

def askA (a : Asked) : Array Value := #[.int .i64 a.speaker, .int .i64 a.begun, .int .i64 a.lang, .int .i64 a.at_, .int .i64 a.known]
def encH (h : House) : Array Value := #[h.val]
def BindW (A : Option Addr) (c : Nat) (l : List House) (a : Asked) (kd : Int) (w : World) : World :=
  ((w.alloc (.cells (askA a) 87)).alloc (.cells #[.slice A l.length c] 22)).alloc (.cells #[.int .i64 kd] 3)
theorem binding_any (A : Option Addr) (c : Nat) (l : List House) (a : Asked) (kd : Int) (w : World) :
    Calls Try.prog 53 #[.agg (askA a), .slice A l.length c, .int .i64 kd] w fun e w' => e = .returned (.func (.func 92) #[] #[.pointer (some ⟨w.heap.size + 1, 0, none⟩), .pointer (some ⟨w.heap.size + 2, 0, none⟩), .pointer (some ⟨w.heap.size, 0, none⟩)]) ∧ BindW A c l a kd w = w' := by
  have hmf : ∀ (fn : Fn) (first cap : Array Value) (w : World), (Instr.makeFunc fn first cap).run Try.prog w = .ok (.func fn first cap) w := fun _ _ _ _ => rfl
  unfold BindW askA
  go_enter Try.func53, Try.ntmps53
  go_wp2
  go_ret
  exact ⟨rfl, rfl⟩
structure BindAt (A : Option Addr) (c : Nat) (l : List House) (a : Asked) (kd : Int) (b1 b2 b3 : Nat) (w : World) : Prop where
  l1 : w.heap[b1]? = some (.cells #[.slice A l.length c] 22 (0, 0))
  l2 : w.heap[b2]? = some (.cells #[.int .i64 kd] 3 (0, 0))
  l3 : w.heap[b3]? = some (.cells (askA a) 87 (0, 0))
theorem bindW_at (A : Option Addr) (c : Nat) (l : List House) (a : Asked) (kd : Int) (w : World) : BindAt A c l a kd (w.heap.size + 1) (w.heap.size + 2) w.heap.size (BindW A c l a kd w) ∧ Below w.heap.size w (BindW A c l a kd w) ∧ (BindW A c l a kd w).heap.size = w.heap.size + 3 := by
  unfold BindW
  refine ⟨⟨?_, ?_, ?_⟩, ext_alloc (ext_alloc (ext_alloc (Below.refl _ _) _) _) _, by simp⟩
  · exact (Below.heap_alloc _ _ _ (by simp)).trans (galloc_at _ _ _ (by simp))
  · exact galloc_at _ _ _ (by simp)
  · exact (Below.heap_alloc _ _ _ (by simp; omega)).trans ((Below.heap_alloc _ _ _ (by simp)).trans (galloc_at _ _ _ rfl))
def BindR (A : Option Addr) (l : List House) (b1 b2 b3 : Nat) (k : Nat) : Prop := k = b1 ∨ k = b2 ∨ k = b3 ∨ (l ≠ [] ∧ ∃ a, A = some a ∧ k = a.block)
theorem filter_take_succ {α : Type} (p : α → Bool) (l : List α) (k : Nat) (hk : k < l.length) : (l.take (k + 1)).filter p = (l.take k).filter p ++ (if p l[k] then [l[k]] else []) := by
  rw [List.take_succ_eq_append_getElem hk, List.filter_append]
  cases hp : p l[k] <;> simp [hp]
theorem filter_take_pre {α : Type} (p : α → Bool) (l : List α) (k : Nat) : (l.take k).filter p <+: l.filter p := by
  conv => rhs; rw [← List.take_append_drop k l]
  rw [List.filter_append]
  exact List.prefix_append _ _
theorem bind_alive {A : Option Addr} {c : Nat} {l : List House} {a : Asked} {kd : Int} {b1 b2 b3 : Nat} {w0 : World} (h : BindAt A c l a kd b1 b2 b3 w0) (hr : Rd w0 A (hflat l)) : Alive w0 (BindR A l b1 b2 b3) := by
  rintro j (rfl | rfl | rfl | ⟨hl, a', rfl, rfl⟩)
  · exact lt_block h.l1
  · exact lt_block h.l2
  · exact lt_block h.l3
  · obtain ⟨b, off, he, hb, _⟩ := hou_elem hr (k := 0) (List.length_pos_iff.2 hl)
    cases he; exact hb
set_option maxHeartbeats 2000000 in
theorem binding1 (A : Option Addr) (c : Nat) (l : List House) (a : Asked) (kd : Int) (b1 b2 b3 : Nat) (w0 : World) (hat : BindAt A c l a kd b1 b2 b3 w0) (hr : Rd w0 A (hflat l)) (hm : l.length ≤ 1024) (hok : ∀ h ∈ l, h.Ok) (ha : AskedOk a) :
    IterN Try.prog 92 #[.pointer (some ⟨b1, 0, none⟩), .pointer (some ⟨b2, 0, none⟩), .pointer (some ⟨b3, 0, none⟩)] encH (BindR A l b1 b2 b3) (fun _ => False) (bound l kd a) w0 := by
  intro l' B0 J Jx own₀ W hR hown hB0 hlive hJ hJx hY h0
  refine (callsIn_wide (n := 0)).1 ?_
  refine callsIn_of_wp Try.func92 rfl trivial ?_
  simp only [Try.ntmps92, List.size_toArray, List.length_cons, List.length_nil, Nat.reduceAdd, Nat.reduceSub, Array.replicate_succ, Array.replicate_zero, List.push_toArray, List.append_toArray, List.nil_append, List.cons_append]
  have hal := bind_alive hat hr
  have hI0 : ItInv w0 B0 (BindR A l b1 b2 b3) J ((l.take 0).filter (bindB kd a)) W := ⟨own₀, by simpa using h0, fun j hj => (hR j hj).2, hown, hlive, hB0⟩
  have x0 := cell_one ((hR b1 (.inl rfl)).2.trans hat.l1)
  have HY := Lib.hid hY
  have HJ := Lib.hid hJ
  have Hal := Lib.hid hal
  have Hat := Lib.hid hat
  clear hR hY hJ hJx h0 hown hlive hal hat
  gi_wp2
  clear x0
  gi_loopw [11] (fun i wr => ∃ k : Nat, k ≤ l.length ∧ i = .int .i64 k ∧ ItInv w0 B0 (BindR A l b1 b2 b3) J ((l.take k).filter (bindB kd a)) wr) (fun i _ => l.length - (intOf i).toNat)
  case atStart => exact ⟨0, Nat.zero_le _, rfl, hI0⟩
  case round =>
    obtain ⟨k, hk, rfl, hI⟩ := hrel
    by_cases hlt : k < l.length
    · obtain ⟨b, off, rfl, hb, hc⟩ := hou_elem hr hlt
      have hRw : ∀ j, BindR (some ⟨b, off, none⟩) l b1 b2 b3 j → wr.heap[j]? = w0.heap[j]? := by obtain ⟨_, _, h, _⟩ := hI; exact h
      have hbw := hRw b (.inr (.inr (.inr ⟨(fun h => by rw [h] at hlt; simp at hlt), _, rfl, rfl⟩)))
      have low : ∀ j v, w0.cell? ⟨b, j, none⟩ = some v → wr.cell? ⟨b, j, none⟩ = some v := fun j v h => (World.cell?_of_block (w := w0) (a := ⟨b, j, none⟩) hbw).trans h
      obtain ⟨h0, h1, h2, h3, h4, h5, h6, h7, h8, h9⟩ := hc w0 (Below.refl _ _)
      replace h0 := low _ _ h0
      replace h1 := low _ _ h1
      replace h2 := low _ _ h2
      replace h3 := low _ _ h3
      replace h4 := low _ _ h4
      replace h5 := low _ _ h5
      replace h6 := low _ _ h6
      replace h7 := low _ _ h7
      replace h8 := low _ _ h8
      replace h9 := low _ _ h9
      have x2 := cell_one ((hRw b2 (.inr (.inl rfl))).trans Hat.out.l2)
      have y3 := (hRw b3 (.inr (.inr (.inl rfl)))).trans Hat.out.l3
      have lt2 := alive_lt Hal.out hRw (j := b2) (.inr (.inl rfl))
      have lt3 := alive_lt Hal.out hRw (j := b3) (.inr (.inr (.inl rfl)))
      have hft := filter_take_succ (bindB kd a) l k hlt
      have hpre := filter_take_pre (bindB kd a) l (k + 1)
      have hxo := hok _ (List.getElem_mem hlt)
      clear hbw low hc hRw
      generalize l[k] = x at *
      obtain ⟨W1, hW1, hB1, hx1, hz1⟩ := hou_new x wr
      have HI1 : Hid (ItInv w0 B0 (BindR (some ⟨b, off, none⟩) l b1 b2 b3) J ((l.take k).filter (bindB kd a)) W1) := hI.ext HJ.out Hal.out hB1
      have x2' := (hB1.cell (p := ⟨b2, 0, none⟩) lt2).trans x2
      have y3' := (hB1.block _ lt3).trans y3
      have z0 : W1.cell? ⟨b3, 0, none⟩ = some (.int .i64 a.speaker) := gblk y3' 0
      have z1 : W1.cell? ⟨b3, 1, none⟩ = some (.int .i64 a.begun) := gblk y3' 1
      have z2 : W1.cell? ⟨b3, 2, none⟩ = some (.int .i64 a.lang) := gblk y3' 2
      have z3 : W1.cell? ⟨b3, 3, none⟩ = some (.int .i64 a.at_) := gblk y3' 3
      have z4 : W1.cell? ⟨b3, 4, none⟩ = some (.int .i64 a.known) := gblk y3' 4
      obtain ⟨p0, p1, p2, p3, p4, p5, p6, p7, p8, p9⟩ := hou_at hx1
      have cC := Lib.hid (fun W => CoversH_any x a W hxo ha)
      have Hft := Lib.hid hft
      have Hpre := Lib.hid hpre
      clear x2 y3 y3' hft hpre hI hr hok
      have skip : bindB kd a x = false → ∀ W, Below W1.heap.size W1 W → Hid (ItInv w0 B0 (BindR (some ⟨b, off, none⟩) l b1 b2 b3) J ((l.take (k + 1)).filter (bindB kd a)) W) := fun e W hB => by
        show ItInv _ _ _ _ _ _
        rw [Hft.out, e]
        simpa using HI1.out.ext HJ.out Hal.out hB
      by_cases g1 : x.kind = kd
      · by_cases g2 : x.known ≤ a.known
        · have e1 : (x.kind != kd) = false := by simp [g1]
          have e2 : decide (a.known < x.known) = false := by simp; omega
          cases hcv : covB x a
          · have hsk := skip (by unfold bindB; rw [hcv]; simp)
            have Hcv := Lib.hid hcv
            clear skip hcv g1 g2
            gi_wp2_with fail
            refine ⟨trivial, rfl, (callsIn_wide.2 (cC.out _)).mono ?_⟩
            rintro e W2 ⟨rfl, hB2⟩
            rw [Hcv.out]
            have hs2 := hsk _ hB2
            clear hsk
            gi_wp2_with fail
            refine ⟨fun _ h => (by cases h), ?_⟩
            gi_wp2_with fail
            go_roundw
            case rel => exact ⟨k + 1, by omega, by go_num, hs2.out⟩
            case measure => simp [intOf]; omega
          · have hbd : bindB kd a x = true := by unfold bindB; rw [hcv]; simp [g1, g2]
            have Hcv := Lib.hid hcv
            rw [Hft.out, hbd, if_pos rfl] at Hpre
            have Hft2 : Hid ((l.take (k + 1)).filter (bindB kd a) = (l.take k).filter (bindB kd a) ++ [x]) := by show _ = _; rw [Hft.out, hbd, if_pos rfl]
            clear skip hcv g1 g2 hbd
            gi_wp2_with fail
            refine ⟨trivial, rfl, (callsIn_wide.2 (cC.out _)).mono ?_⟩
            rintro e W2 ⟨rfl, hB2⟩
            rw [Hcv.out]
            obtain ⟨own, hj, hkeep, hdis, hliv, hBs⟩ := HI1.out.ext HJ.out Hal.out hB2
            obtain ⟨fn, tmps, assign, body, hyy, hRd⟩ := HY.out own _ x W2 hj Hpre.out hdis hliv
            change (Instr.yield l' #[.agg #[.int .i64 x.no, .int .i64 x.kind, .int .i64 x.speaker, .int .i64 x.first, .int .i64 x.last, .int .i64 x.lang, .int .i64 x.frm, .int .i64 x.until_, .int .i64 x.known, .int .i64 x.ms]]).run _ _ = _ at hyy
            have hx2 := hou_at ((hB2.block _ (lt_block hx1)).trans hx1)
            obtain ⟨q0, q1, q2, q3, q4, q5, q6, q7, q8, q9⟩ := hx2
            have Hkeep := Lib.hid hkeep
            have Hdis := Lib.hid hdis
            clear hkeep hdis hj hx1 p0 p1 p2 p3 p4 p5 p6 p7 p8 p9 x2' z0 z1 z2 z3 z4 hB1 h0 h1 h2 h3 h4 h5 h6 h7 h8 h9 HI1
            gi_wp2_with fail
            refine ⟨rfl, hRd.mono ?_⟩
            rintro e W3 (⟨own', hbs, (⟨rfl, hj3⟩ | ⟨rfl, hjx⟩)⟩ | ⟨ch, rfl, hjp⟩)
            · have hI3 : Hid (ItInv w0 B0 (BindR (some ⟨b, off, none⟩) l b1 b2 b3) J ((l.take (k + 1)).filter (bindB kd a)) W3) := by
                show ItInv _ _ _ _ _ _
                rw [Hft2.out]
                exact ItInv.body hj3 hbs Hal.out Hkeep.out Hdis.out hBs
              clear hyy hRd hbs hj3
              gi_wp2_with fail
              go_roundw
              case rel => exact ⟨k + 1, by omega, by go_num, hI3.out⟩
              case measure => simp [intOf]; omega
            · gi_wp2_with fail
              refine bodyPost_ret (results_none rfl _ _ _) rfl ?_
              exact .inr (.inl ⟨⟨_, rfl⟩, own', _, Hpre.out, hjx⟩)
            · exact hjp.elim
        · have e1 : (x.kind != kd) = false := by simp [g1]
          have e2 : decide (a.known < x.known) = true := by simp; omega
          have hsk := skip (by unfold bindB; simp [g2]) W1 (Below.refl _ _)
          clear skip g1 g2
          gi_wp2_with fail
          go_roundw
          case rel => exact ⟨k + 1, by omega, by go_num, hsk.out⟩
          case measure => simp [intOf]; omega
      · have e1 : (x.kind != kd) = true := by simp [g1]
        have hsk := skip (by unfold bindB; simp [g1]) W1 (Below.refl _ _)
        clear skip g1
        gi_wp2_with fail
        go_roundw
        case rel => exact ⟨k + 1, by omega, by go_num, hsk.out⟩
        case measure => simp [intOf]; omega
    · obtain rfl : k = l.length := by omega
      gi_wp2
      go_end0
      obtain ⟨own, hj, _⟩ := hI
      rw [List.take_length] at hj
      exact .inl ⟨rfl, ⟨_, rfl⟩, own, hj⟩
end Go.Proofs.Ytmindojbkedmlaa

/- A region that draws its order: operations and callees that only read, or lay new blocks, and then one operation that waits for all of them. -/
namespace Go.Han
open Go.RowKit
section
variable {P : Program} {ops : Array Oper} {md : Region.Mode} {C : World → Prop}

def wpAnyLQ (P : Program) (md : Region.Mode) (ops : Array Oper) (C : World → Prop) (n : Nat) (L : Array Bool → Act → Prop) : Nat → Array Bool → Act → Prop
  | 0, listed, a => L listed a
  | f + 1, listed, a =>
    Region.ready md ops listed ≠ [] ∧ ∀ i ∈ Region.ready md ops listed, i < n ∧ qOp P ops C i (wpAnyLQ P md ops C n L f (listed.setIfInBounds i true)) a

theorem wpAny_of_headQ {n g : Nat} {L : Array Bool → Act → Prop} {Q' : Exit → Act → World → Prop} (hL : ∀ listed a w, C w → L listed a → wpAny P md ops Q' g listed a w) :
    ∀ (f : Nat) (listed : Array Bool) (a : Act) (w : World), C w → wpAnyLQ P md ops C n L f listed a → wpAny P md ops Q' (f + g) listed a w
  | 0, listed, a, w, hw, h => by rw [Nat.zero_add]; exact hL _ _ _ hw h
  | f + 1, listed, a, w, hw, h => by
    rw [show f + 1 + g = (f + g) + 1 by omega]
    exact ⟨fun h0 => absurd h0 h.1, fun i hi => wpOp_of_qOp hw (fun a' w' hw' h' => wpAny_of_headQ hL f _ a' w' hw' h') (h.2 i hi).2⟩

theorem wpAnyLQ_first {n i : Nat} {oi : Oper} {v : Value} {L : Array Bool → Act → Prop} (hi : ops[i]? = some oi) (hsel : ∀ (j : Nat) (o : Oper) cs b, ops[j]? = some o → o.op ≠ .select cs b)
    (hs : Region.sinkB md ops n = true) (hc : Region.chainB md ops n = true) (hn : n < ops.size) (hin : i < n)
    (hdone : ∀ listed a, L listed a → ∀ j ∈ Region.ready md ops listed, n ≤ j) :
    ∀ (f : Nat) (listed : Array Bool) (a : Act), HeadInv md ops n listed →
      (∀ j oj, ops[j]? = some oj → j ≠ i → listed.getD j true = false → (∀ e ∈ oj.after, Region.binds md e = true → e.on ≠ i) → oi.apart ops oj = true) →
      i ∈ Region.ready md ops listed → YieldsIn P ops C oi v a →
      wpAnyLQ P md ops C n L f (listed.setIfInBounds i true) (a.put oi.dst v) → wpAnyLQ P md ops C n L (f + 1) listed a := by
  intro f
  induction f with
  | zero =>
    intro listed a inv _ hr hy H
    have hun := (mem_ready.1 hr).1
    refine ⟨fun h => (by rw [h] at hr; cases hr), fun j hj => ?_⟩
    have hjn : j < n := by
      rcases Nat.lt_or_ge j n with h | h
      · exact h
      · exact absurd hj (tail_waits hs hc hn inv _ i rfl hin hun j h)
    refine ⟨hjn, ?_⟩
    by_cases hji : j = i
    · subst hji; exact hy.qOp hi H
    · have := hdone _ _ H j (ready_mono hj hji)
      omega
  | succ f ih =>
    intro listed a inv hfree hr hy H
    have hun := (mem_ready.1 hr).1
    refine ⟨fun h => (by rw [h] at hr; cases hr), fun j hj => ?_⟩
    have hjn : j < n := by
      rcases Nat.lt_or_ge j n with h | h
      · exact h
      · exact absurd hj (tail_waits hs hc hn inv _ i rfl hin hun j h)
    refine ⟨hjn, ?_⟩
    by_cases hji : j = i
    · subst hji; exact hy.qOp hi H
    · have h1 := (H.2 j (ready_mono hj hji)).2
      obtain ⟨hjun, oj, hoj, hall⟩ := mem_ready.1 hj
      have hnot : ∀ e ∈ oj.after, Region.binds md e = true → e.on ≠ i := fun e he hb heq => by
        have h1 := hall e he hb
        rw [heq, getD_both hun] at h1
        cases h1
      have h2 := qOp_put hoj (hfree j oj hoj hji hjun hnot) (fun cs b => hsel i oi cs b hi) (fun cs b => hsel j oj cs b hoj) hy h1
      have hfree' : ∀ k ok, ops[k]? = some ok → k ≠ i → (listed.setIfInBounds j true).getD k true = false →
          (∀ e ∈ ok.after, Region.binds md e = true → e.on ≠ i) → oi.apart ops ok = true := fun k ok hk hki hun hno => by
        refine hfree k ok hk hki ?_ hno
        by_cases hjk : j = k
        · subst hjk; exact hjun
        · rw [getD_set_ne true hjk] at hun; exact hun
      refine qOp_mono (fun a' h3 => ih (listed.setIfInBounds j true) a' (inv.set hj hjn) hfree' (ready_mono hr (Ne.symm hji)) h3.1 ?_) h2
      rw [Array.setIfInBounds_comm _ _ hji]
      exact h3.2

theorem wpAnyLQ_lex {n g : Nat} {Lq : Act → Prop} (hsel : Region.noSelect ops = true) (hs : Region.sinkB md ops n = true) (hc : Region.chainB md ops n = true) (hn : n < ops.size) :
    ∀ (l : List Oper) (k : Nat) (listed : Array Bool) (a : Act), (∀ j, j < l.length → l[j]? = ops[k + j]?) → k + l.length = n → HeadInv md ops n listed →
    Region.lexHead md ops g l.length k listed = true → wpQuiet P ops C Lq l a →
    wpAnyLQ P md ops C n (fun listed' a' => Region.seqB md ops g n listed' = true ∧ Lq a') l.length listed a
  | [], k, listed, a, _, hk, _, hB, h => by
    have : k = n := by simpa using hk
    subst this
    exact ⟨by simpa [Region.lexHead] using hB, h⟩
  | o :: l, k, listed, a, hl, hk, inv, hB, h => by
    have h0 : ops[k]? = some o := by simpa using (hl 0 (by simp)).symm
    simp only [List.length_cons, Region.lexHead, Bool.and_eq_true] at hB
    obtain ⟨⟨hr, hf⟩, hB'⟩ := hB
    have hkn : k < n := by simp only [List.length_cons] at hk; omega
    have hr' : k ∈ Region.ready md ops listed := by simpa using hr
    have hst : qOp P ops C k (wpQuiet P ops C Lq l) a := by unfold qOp; simp only [h0]; exact h
    obtain ⟨v, hy, hK⟩ := yieldsIn_of_qOp h0 hst
    exact wpAnyLQ_first h0 (Region.noSelect_spec hsel) hs hc hn hkn (fun listed' a' hL => seqB_ready hL.1) l.length listed a inv (Region.free_spec h0 hf) hr' hy
      (wpAnyLQ_lex hsel hs hc hn l (k + 1) _ _ (fun j hj => by have := hl (j + 1) (by simp; omega); simpa [Nat.add_assoc, Nat.add_comm 1 j] using this) (by simp only [List.length_cons] at hk; omega) (inv.set hr' hkn) hB' hK)

theorem wpAny_quiet_tail {Q : Exit → Act → World → Prop} {a : Act} {w : World} {l : List Oper} (n : Nat) (hB : Region.lexTailB .any l.toArray n = true) (hC : C w)
    (h : wpQuiet P l.toArray C (fun a' => ∀ w', C w' → wpList P l.toArray Q (l.drop n) a' w') (l.take n) a) : wpAny P .any l.toArray Q l.toArray.size (Array.replicate l.toArray.size false) a w := by
  simp only [Region.lexTailB, Bool.and_eq_true, decide_eq_true_eq] at hB
  obtain ⟨⟨⟨⟨hsel, hn⟩, hs⟩, hc⟩, hlex⟩ := hB
  have hn' : n < l.length := by simpa using hn
  have htl : (l.take n).length = n := by simp; omega
  have hdl : (l.drop n).length = l.toArray.size - n := by simp
  have inv0 : HeadInv .any l.toArray n (Array.replicate l.toArray.size false) :=
    ⟨by simp, fun j oj _ hl => (by rw [getD_replicate_false] at hl; cases hl), fun t _ ht => getD_in (by simpa using ht) (getD_replicate_false _ _)⟩
  have H := wpAnyLQ_lex (md := .any) (g := l.toArray.size - n) hsel hs hc hn (l.take n) 0 _ a (fun j hj => by
    have hj' : j < n := by rw [htl] at hj; exact hj
    simp [hj']) (by simpa using htl) inv0 (by rw [htl]; exact hlex) h
  have := wpAny_of_headQ (Q' := Q) (g := l.toArray.size - n) (fun listed a' w' hw' hL => by
    have := wpAny_of_seq (md := .any) (Q' := Q) (l.drop n) n listed a' w' (fun j => by simp [List.getElem?_drop]) (by rw [hdl]; exact hL.1) (hL.2 w' hw')
    rwa [hdl] at this) _ _ _ _ hC H
  rw [htl, show n + (l.toArray.size - n) = l.toArray.size by omega] at this
  exact this
theorem wpAny_ext_tail {Q : Exit → Act → World → Prop} {a : Act} {w : World} {l : List Oper} (n : Nat) (hB : Region.lexTailB .any l.toArray n = true)
    (h : wpQuiet P l.toArray (fun w' => ∃ p : ExtBy w, w' = p.to) (fun a' => ∀ w', (∃ p : ExtBy w, w' = p.to) → wpList P l.toArray Q (l.drop n) a' w') (l.take n) a) : wpAny P .any l.toArray Q l.toArray.size (Array.replicate l.toArray.size false) a { w with drawn := w.drawn + 1 } :=
  wpAny_quiet_tail (C := fun w' => ∃ p : ExtBy w, w' = p.to) n hB ⟨⟨_, (Below.refl _ w).drew⟩, rfl⟩ h
/-- At the class of worlds that have come out of w by draws and new blocks. -/
theorem wp_region_ext_tail {id : Nat} {Q : Exit → Act → World → Prop} {a : Act} {w : World} {l : List Oper} (n : Nat) (hm : P.follows .mixedOrders = true) (hB : Region.lexTailB .any l.toArray n = true)
    (h : wpQuiet P l.toArray (fun w' => ∃ p : ExtBy w, w' = p.to) (fun a' => ∀ w', (∃ p : ExtBy w, w' = p.to) → wpList P l.toArray Q (l.drop n) a' w') (l.take n) a) : (Code.region id l.toArray true).wp P Q a w :=
  wp_region_any hm (wpAny_ext_tail n hB h)
end
end Go.Han

/- A region that draws its order, in a round of a range over a function: the laws outside serve there. -/
namespace Go.Han
open Go.RowKit
section
variable {P : Program} {ops : Array Oper} {md : Region.Mode} {n l : Nat}

theorem Oper.wpIn_of_wp {o : Oper} {a : Act} {w : World} {K : Act → World → Prop} {Q : Exit → Act → World → Prop} (hd : ∀ c, o.op ≠ .defer c) (h : o.wp P a w K Q) : o.wpIn (Fence.wide.inRound l) n P a w K Q := by
  unfold Oper.wp at h
  refine ⟨fun _ _ => trivial, ?_⟩
  rw [show (Fence.wide.inRound l).round = some l from rfl, Oper.semAt_some l a.eval o hd]
  generalize (execOp a.eval o).run P w = r at *
  cases r with
  | ok x w' =>
    cases x with
    | value v => exact h
    | skip => exact h
    | defer d => exact h
    | enter f args => exact ⟨fun hh => (by cases hh), CallsIn.inRound l (callsIn_wide.2 h)⟩
    | row r args => exact ⟨fun hh => (by cases hh), fun c cs _ => let ⟨v, w', r, s⟩ := h c cs; ⟨v, w', r, stepsIn_wide.2 s⟩⟩
    | round => exact h.elim
    | _ => exact h.elim
  | halt x w' =>
    cases x <;> exact h
theorem wpAnyIn_of_wpAny {Q : Exit → Act → World → Prop} (hd : ∀ (i : Nat) (o : Oper) c, ops[i]? = some o → o.op ≠ .defer c) (hQ : ∀ a w, ¬ Q .outgrown a w) :
    ∀ (f : Nat) (m : Array Bool) (a : Act) (w : World), wpAny P md ops Q f m a w → wpAnyIn (Fence.wide.inRound l) n P md ops Q f m a w
  | 0, _, _, _, h => h
  | f + 1, m, a, w, h => by
    refine ⟨h.1, fun i hi => ?_⟩
    have h1 := h.2 i hi
    unfold wpOp at h1
    unfold wpOpIn
    cases ho : ops[i]? with
    | none => simp only [ho] at h1 ⊢; exact wpAnyIn_of_wpAny hd hQ f _ a w h1
    | some o =>
      simp only [ho] at h1 ⊢
      split
      · rename_i hw
        simp only [hw, if_true] at h1
        rcases h1 with h1 | ⟨_, a', w', h1⟩
        · exact Oper.wpIn_mono (fun a' w' h' => wpAnyIn_of_wpAny hd hQ f _ a' w' h') (Oper.wpIn_of_wp (fun c => hd i o c ho) h1)
        · exact absurd h1 (hQ _ _)
      · rename_i hw
        simp only [hw] at h1
        exact ⟨fun _ _ => trivial, wpAnyIn_of_wpAny hd hQ f _ _ w h1⟩
def noDefer (ops : Array Oper) : Bool := ops.all fun o => match o.op with | .defer _ => false | _ => true
theorem noDefer_spec (h : noDefer ops = true) : ∀ (i : Nat) (o : Oper) c, ops[i]? = some o → o.op ≠ .defer c := by
  intro i o c ho e
  obtain ⟨hi, rfl⟩ := Array.getElem?_eq_some_iff.1 ho
  have := (Array.all_eq_true.1 h) i hi
  rw [e] at this
  cases this
theorem wpInR_region_ext {id : Nat} {Q : Exit → Act → World → Prop} {a : Act} {w : World} {ls : List Oper} (hm : P.follows .mixedOrders = true) (hB : (Region.lexB .any ls.toArray && noDefer ls.toArray) = true) (hQ : ∀ a w, ¬ Q .outgrown a w)
    (h : wpQuiet P ls.toArray (fun w' => ∃ p : ExtBy w, w' = p.to) (fun a' => ∀ w', (∃ p : ExtBy w, w' = p.to) → Q .normal a' w') ls a) : (Code.region id ls.toArray true).wpIn (Fence.wide.inRound l) n P Q a w := by
  simp only [Bool.and_eq_true] at hB
  obtain ⟨hB, hd⟩ := hB
  refine wpIn_region_any hm (wpAnyIn_of_wpAny (noDefer_spec hd) hQ _ _ _ _ ?_)
  simp only [Region.lexB, Bool.and_eq_true] at hB
  refine wpAny_of_quiet (C := fun w' => ∃ p : ExtBy w, w' = p.to) (Q := fun a' => ∀ w', (∃ p : ExtBy w, w' = p.to) → Q .normal a' w') (fun _ w' hw' h => h w' hw') _ _ _ _ ⟨⟨_, (Below.refl _ w).drew⟩, rfl⟩ ?_
  have := wpAnyQ_lex (C := fun w' => ∃ p : ExtBy w, w' = p.to) (md := .any) hB.1 ls 0 (Array.replicate ls.toArray.size false) a (by simp) (by simpa using hB.2) h
  simpa using this
theorem wpInR_region_ext_tail {id : Nat} {Q : Exit → Act → World → Prop} {a : Act} {w : World} {ls : List Oper} (k : Nat) (hm : P.follows .mixedOrders = true) (hB : (Region.lexTailB .any ls.toArray k && noDefer ls.toArray) = true) (hQ : ∀ a w, ¬ Q .outgrown a w)
    (h : wpQuiet P ls.toArray (fun w' => ∃ p : ExtBy w, w' = p.to) (fun a' => ∀ w', (∃ p : ExtBy w, w' = p.to) → wpList P ls.toArray Q (ls.drop k) a' w') (ls.take k) a) : (Code.region id ls.toArray true).wpIn (Fence.wide.inRound l) n P Q a w := by
  simp only [Bool.and_eq_true] at hB
  obtain ⟨hB, hd⟩ := hB
  exact wpIn_region_any hm (wpAnyIn_of_wpAny (noDefer_spec hd) hQ _ _ _ _ (wpAny_ext_tail k hB h))
end
end Go.Han

/- Package verdicts: extreme. -/
namespace Go.Proofs.Ytmindojbkedmlaa
open Go.RowKit Go.Han
attribute [local irreducible] wpStill wpQuiet
attribute [local go_sem] Oper.semAt_some
set_option maxRecDepth 100000

def cmpI (a b : Int) : Int := if a < b then -1 else if b < a then 1 else 0
theorem isNaN_any (a : Int) (w : World) : Calls Try.prog 97 #[.int .i64 a] w fun e w' => e = .returned (.bool false) ∧ w = w' := by
  have h1 : (a != a) = false := by simp
  go_enter Try.func97, Try.ntmps97
  go_wp2
  go_ret
  exact ⟨rfl, rfl⟩
theorem cmpI_any (a b : Int) (w : World) : Calls Try.prog 66 #[.int .i64 a, .int .i64 b] w fun e w' => e = .returned (.int .i64 (cmpI a b)) ∧ w = w' := by
  unfold cmpI
  go_enter Try.func66, Try.ntmps66
  go_wp2_with (go_at_call 97; refine (isNaN_any _ _).mono ?_; rintro e w' ⟨rfl, rfl⟩)
  all_goals
    go_ret
    refine ⟨?_, rfl⟩
    rfl
theorem noOf_any (h : House) (w : World) : Calls Try.prog 56 #[.agg #[.int .i64 h.no, .int .i64 h.kind, .int .i64 h.speaker, .int .i64 h.first, .int .i64 h.last, .int .i64 h.lang, .int .i64 h.frm, .int .i64 h.until_, .int .i64 h.known, .int .i64 h.ms]] w fun e w' => e = .returned (.int .i64 h.no) ∧ Below w.heap.size w w' := by
  obtain ⟨W, hW, hB, hb, _⟩ := hou_new h w
  obtain ⟨c0, c1, c2, c3, c4, c5, c6, c7, c8, c9⟩ := hou_at hb
  go_enter Try.func56, Try.ntmps56
  go_wp2
  go_ret
  exact ⟨rfl, hB⟩
def extS (o : Int) (s : Bool × Int) (h : House) : Bool × Int := if (!s.1 || cmpI h.no s.2 == o) = true then (true, h.no) else s
def extN (o n : Int) (xs : List House) : Int := (xs.foldl (extS o) (false, n)).2
def ExtInv (W4 : World) (b7 b9 : Nat) (o n : Int) (own : Nat → Prop) (pre : List House) (W : World) : Prop :=
  (∀ k, own k ↔ (k = b7 ∨ k = b9)) ∧ Only (fun k => k = b7 ∨ k = b9) W4 W ∧ W.heap[b7]? = some (.cells #[.int .i64 (pre.foldl (extS o) (false, n)).2] 3 (0, 0)) ∧ W.heap[b9]? = some (.cells #[.bool (pre.foldl (extS o) (false, n)).1] 4 (0, 0))
theorem ext_stable (W4 : World) (b7 b9 : Nat) (o n : Int) (B0 : Nat) (hB : W4.heap.size ≤ B0) : Stable B0 (fun _ => False) (ExtInv W4 b7 b9 o n) := by
  rintro own pre W W' ⟨ho, hon, h7, h9⟩ st
  exact ⟨ho, only_iterN hon st hB, (st.block _ (lt_block h7) (.inr ((ho _).2 (.inl rfl)))).trans h7, (st.block _ (lt_block h9) (.inr ((ho _).2 (.inr rfl)))).trans h9⟩
def ExtAsg (W4 : World) (b7 b9 : Nat) (o n : Int) (F : Value → Value → Array Value) (x : House) (a' : Act) (own : Nat → Prop) (pre : List House) (W : World) : Prop :=
  ∃ bx own1, a' = { tmps := F (.pointer (some ⟨bx, 0, none⟩)) (.agg #[.int .i64 x.no, .int .i64 x.kind, .int .i64 x.speaker, .int .i64 x.first, .int .i64 x.last, .int .i64 x.lang, .int .i64 x.frm, .int .i64 x.until_, .int .i64 x.known, .int .i64 x.ms]), defers := [] } ∧ (∀ k, own k ↔ (own1 k ∨ k = bx)) ∧ W.heap[bx]? = some (.cells #[.int .i64 x.no, .int .i64 x.kind, .int .i64 x.speaker, .int .i64 x.first, .int .i64 x.last, .int .i64 x.lang, .int .i64 x.frm, .int .i64 x.until_, .int .i64 x.known, .int .i64 x.ms] 52 (0, 0)) ∧ W4.heap.size ≤ bx ∧ ExtInv W4 b7 b9 o n own1 pre W
theorem exa_stable (W4 : World) (b7 b9 : Nat) (o n : Int) (F : Value → Value → Array Value) (x : House) (a' : Act) (B0 : Nat) (hB : W4.heap.size ≤ B0) : Stable B0 (fun _ => False) (ExtAsg W4 b7 b9 o n F x a') := by
  rintro own pre W W' ⟨bx, own1, ha, ho, hx, hbx, hI⟩ st
  refine ⟨bx, own1, ha, ho, (st.block _ (lt_block hx) (.inr ((ho _).2 (.inr rfl)))).trans hx, hbx, ext_stable W4 b7 b9 o n B0 hB own1 pre W W' hI ⟨st.os, st.tape, st.output, st.size, fun k hk h => st.block k hk (h.imp id fun h => (ho k).2 (.inl h))⟩⟩
theorem ex_next {W4 W W' : World} {b7 b9 : Nat} {o n : Int} {own own1 : Nat → Prop} {pre : List House} {x : House} (ho1 : ∀ k, own1 k ↔ (k = b7 ∨ k = b9)) (hon : Only (fun k => k = b7 ∨ k = b9) W4 W)
    (hlv : ∀ k, own k → k < W.heap.size) (hsub : ∀ k, own1 k → own k) (hO : Only (fun k => k = b7 ∨ k = b9) W W')
    (h7 : W'.heap[b7]? = some (.cells #[.int .i64 (extS o (pre.foldl (extS o) (false, n)) x).2] 3 (0, 0))) (h9 : W'.heap[b9]? = some (.cells #[.bool (extS o (pre.foldl (extS o) (false, n)) x).1] 4 (0, 0))) :
    ∃ own', BodyStep own own' W W' ∧ ExtInv W4 b7 b9 o n own' (pre ++ [x]) W' := by
  refine ⟨own1, ⟨hO.os, hO.tape, hO.output, hO.size, fun k hk hn => hO.block k hk (fun h => hn (hsub k ((ho1 k).2 h))), fun k hk => .inl (hsub k hk), fun k hk => Nat.lt_of_lt_of_le (hlv k (hsub k hk)) hO.size⟩, ho1, hon.trans hO, ?_, ?_⟩
  · rw [List.foldl_append]; exact h7
  · rw [List.foldl_append]; exact h9
set_option maxHeartbeats 2000000 in
theorem extreme_any (gf : Nat) (lb : Array Value) (R : Nat → Prop) (xs : List House) (w0 : World) (hit : IterN Try.prog gf lb encH R (fun _ => False) xs w0) (eg : ∀ args w, (callFunc gf args).run Try.prog w = .ok (.enter gf args) w)
    (o n : Int) (w : World) (hR : ∀ k, R k → k < w.heap.size ∧ w.heap[k]? = w0.heap[k]?) :
    Calls Try.prog 55 #[.func (.func gf) #[] lb, .func (.func 56) #[] #[], .int .i64 o, .int .i64 n] w fun e w' => e = .returned (.int .i64 (extN o n xs)) ∧ Below w.heap.size w w' := by
  obtain ⟨W4, hW4⟩ : ∃ W, (((w.alloc (.cells #[.func (.func 56) #[] #[]] 98)).alloc (.cells #[.int .i64 o] 3)).alloc (.cells #[.int .i64 n] 3)).alloc (.cells #[.bool false] 4) = W := ⟨_, rfl⟩
  have hB4 : Below w.heap.size w W4 := by rw [← hW4]; exact ext_alloc (ext_alloc (ext_alloc (ext_alloc (Below.refl _ _) _) _) _) _
  have hz4 : W4.heap.size = w.heap.size + 4 := by rw [← hW4]; simp
  have k5 : W4.heap[w.heap.size]? = some (.cells #[.func (.func 56) #[] #[]] 98 (0, 0)) := by
    subst hW4; exact (Below.heap_alloc _ _ _ (by simp <;> omega)).trans ((Below.heap_alloc _ _ _ (by simp <;> omega)).trans ((Below.heap_alloc _ _ _ (by simp)).trans (galloc_at _ _ _ rfl)))
  have k6 : W4.heap[w.heap.size + 1]? = some (.cells #[.int .i64 o] 3 (0, 0)) := by
    subst hW4; exact (Below.heap_alloc _ _ _ (by simp <;> omega)).trans ((Below.heap_alloc _ _ _ (by simp)).trans (galloc_at _ _ _ (by simp)))
  have k7 : W4.heap[w.heap.size + 1 + 1]? = some (.cells #[.int .i64 n] 3 (0, 0)) := by
    subst hW4; exact (Below.heap_alloc _ _ _ (by simp)).trans (galloc_at _ _ _ (by simp))
  have k9 : W4.heap[w.heap.size + 1 + 1 + 1]? = some (.cells #[.bool false] 4 (0, 0)) := by
    subst hW4; exact galloc_at _ _ _ (by simp)
  have HW4 := Lib.hid hW4
  have K5 := Lib.hid k5
  have K6 := Lib.hid k6
  have K7 := Lib.hid k7
  have K9 := Lib.hid k9
  have Hz4 := Lib.hid hz4
  clear hW4 k5 k6 k7 k9 hz4
  refine calls_of_wpAt Try.func55 rfl ?_
  simp only [Try.ntmps55, List.size_toArray, List.length_cons, List.length_nil, Nat.reduceAdd, Nat.reduceSub, Array.replicate_succ, Array.replicate_zero, List.push_toArray, List.append_toArray, List.nil_append, List.cons_append]
  refine wpAt_seq_wp fun K1 hK1 => ?_
  go_wp2_with fail
  refine wpAt_seq_wp fun K2 hK2 => ?_
  go_wp2_with fail
  rw [HW4.out]
  clear HW4
  refine wpAt_seq ?_
  refine wpAt_seq_wp fun K3 hK3 => ?_
  go_wp2_with fail
  refine wpAt_block ?_
  have k5 := K5.out
  have k6 := K6.out
  have k7 := K7.out
  have k9 := K9.out
  have hz4 := Hz4.out
  clear K5 K6 K7 K9 Hz4
  refine wp_rangeN (xs := xs) (R := R) (M := fun _ => False) (w0 := w0) Try.func55 (by rfl) eg hit
    (fun k hk => ⟨by have := (hR k hk).1; omega, (hB4.block k (hR k hk).1).trans (hR k hk).2⟩) (fun _ => rfl)
    (ExtInv W4 (w.heap.size + 1 + 1) (w.heap.size + 1 + 1 + 1) o n) (fun _ _ _ _ => False) (ext_stable _ _ _ _ _ _ (Nat.le_refl _)) (fun c _ _ _ _ h _ => h) (fun k => k = w.heap.size + 1 + 1 ∨ k = w.heap.size + 1 + 1 + 1) ?_ ?_
    (ExtAsg W4 (w.heap.size + 1 + 1) (w.heap.size + 1 + 1 + 1) o n (fun px vx => #[.func (.func gf) #[] lb, .func (.func 56) #[] #[], .int .i64 o, .int .i64 n, undef, .pointer (some ⟨w.heap.size, 0, none⟩), .pointer (some ⟨w.heap.size + 1, 0, none⟩), .pointer (some ⟨w.heap.size + 1 + 1, 0, none⟩), .int .i64 0, .pointer (some ⟨w.heap.size + 1 + 1 + 1, 0, none⟩), px, undef, .func (.func gf) #[] lb, vx, undef, undef, undef, undef, undef, undef, undef, undef, undef, undef, undef, undef, undef, undef])) (fun x a' => exa_stable _ _ _ _ _ _ _ _ _ (Nat.le_refl _)) ?_ ?_ ?_ ?_
  · rintro k (rfl | rfl)
    · exact ⟨by omega, fun h => by have := (hR _ h).1; omega⟩
    · exact ⟨by omega, fun h => by have := (hR _ h).1; omega⟩
  · exact ⟨fun _ => Iff.rfl, Only.refl _ _, k7, k9⟩
  · rintro l1 own pre x W hI hl1 hl2 ho hpre
    refine wpIn_mono (Q := Exit.then (fun a' W' => ∃ own', BodyStep own own' W W' ∧ ExtAsg W4 (w.heap.size + 1 + 1) (w.heap.size + 1 + 1 + 1) o n (fun px vx => #[.func (.func gf) #[] lb, .func (.func 56) #[] #[], .int .i64 o, .int .i64 n, undef, .pointer (some ⟨w.heap.size, 0, none⟩), .pointer (some ⟨w.heap.size + 1, 0, none⟩), .pointer (some ⟨w.heap.size + 1 + 1, 0, none⟩), .int .i64 0, .pointer (some ⟨w.heap.size + 1 + 1 + 1, 0, none⟩), px, undef, .func (.func gf) #[] lb, vx, undef, undef, undef, undef, undef, undef, undef, undef, undef, undef, undef, undef, undef, undef]) x a' own' pre W') (fun _ _ _ => False)) ?_ (fun e a w h => h)
    have hlv : ∀ k, own k → k < W.heap.size := fun k hk => (ho k hk).2.1
    have hsz := hI.2.1.size
    unfold encH House.val
    gi_wp2
    refine ⟨fun k => own k ∨ k = W.heap.size, BodyStep.turn ((BodyStep.refl hlv).alloc _) ?_ ?_, W.heap.size, own, rfl, fun k => Iff.rfl, World.alloc_heap_new _ _, by omega, ?_⟩
    · rintro k (h | h)
      · exact .inl h
      · exact .inr (by omega)
    · rintro k (h | h)
      · have := hlv k h; simp; omega
      · simp; omega
    · exact ext_stable _ _ _ _ _ W4.heap.size (Nat.le_refl _) own pre W _ hI ((IterStep.refl _ _ _ _).alloc _)
  · rintro l1 own pre x a' W ⟨bx, own1, rfl, hoi, hbx, hB', ho1, hon, h7, h9⟩ hl1 hl2 ho hpre
    have hlv : ∀ k, own k → k < W.heap.size := fun k hk => (ho k hk).2.1
    have hsub : ∀ k, own1 k → own k := fun k hk => (hoi k).2 (.inl hk)
    have h5W := (hon.block w.heap.size (by omega) (fun h => by omega)).trans k5
    have h6W := (hon.block (w.heap.size + 1) (by omega) (fun h => by omega)).trans k6
    have c5 := cell_one h5W
    obtain ⟨p0, p1, p2, p3, p4, p5, p6, p7, p8, p9⟩ := hou_at hbx
    have eN := enters_of Try.func56 (by kernel_rfl) rfl
    have cN := Lib.hid (noOf_any x W)
    have HX : ∀ W', Only (fun k => k = w.heap.size + 1 + 1 ∨ k = w.heap.size + 1 + 1 + 1) W W' → _ → _ → _ := fun W' => ex_next ho1 hon hlv hsub (x := x) (o := o) (n := n) (pre := pre) (W' := W')
    have HX' := Lib.hid HX
    clear HX
    have H7 := Lib.hid h7
    have H9 := Lib.hid h9
    have H6 := Lib.hid h6W
    clear h7 h9 h5W h6W
    gi_wp2_with fail
    refine ⟨trivial, rfl, (callsIn_wide.2 cN.out).mono ?_⟩
    rintro e V ⟨rfl, hb1⟩
    have h7V := (hb1.block _ (lt_block H7.out)).trans H7.out
    have h9V := (hb1.block _ (lt_block H9.out)).trans H9.out
    have h6V := (hb1.block _ (lt_block H6.out)).trans H6.out
    have hOV : Only (fun k => k = w.heap.size + 1 + 1 ∨ k = w.heap.size + 1 + 1 + 1) W V := Only.of_below hb1
    clear c5 p0 p1 p2 p3 p4 p5 p6 p7 p8 p9 eN cN H7 H9 H6 hb1 hbx k5 k6 k7 k9
    have cC := fun W => cmpI_any x.no (pre.foldl (extS o) (false, n)).2 W
    have q6 := fun p => cell_ext (w := V) (a := ⟨w.heap.size + 1, 0, none⟩) (lt_block h6V) (cell_one h6V) p
    have q7 := fun p => cell_ext (w := V) (a := ⟨w.heap.size + 1 + 1, 0, none⟩) (lt_block h7V) (cell_one h7V) p
    have q9 := fun p => cell_ext (w := V) (a := ⟨w.heap.size + 1 + 1 + 1, 0, none⟩) (lt_block h9V) (cell_one h9V) p
    clear h6V
    obtain ⟨s, hs⟩ : ∃ s, pre.foldl (extS o) (false, n) = s := ⟨_, rfl⟩
    rw [hs] at HX' q7 q9 h7V h9V cC
    clear hs
    obtain ⟨f, v⟩ := s
    simp only at HX' q7 q9 h7V h9V cC
    -- what is stored, if something is
    have yes : extS o (f, v) x = (true, x.no) → ∀ U, Below V.heap.size V U → ∃ own', BodyStep own own' W ((U.setCell ⟨w.heap.size + 1 + 1, 0, none⟩ (.int .i64 x.no)).setCell ⟨w.heap.size + 1 + 1 + 1, 0, none⟩ (.bool true)) ∧ ExtInv W4 (w.heap.size + 1 + 1) (w.heap.size + 1 + 1 + 1) o n own' (pre ++ [x]) ((U.setCell ⟨w.heap.size + 1 + 1, 0, none⟩ (.int .i64 x.no)).setCell ⟨w.heap.size + 1 + 1 + 1, 0, none⟩ (.bool true)) := fun he U hU => by
      refine HX'.out _ (((hOV.ext hU).setCell (p := ⟨w.heap.size + 1 + 1, 0, none⟩) (.inl (.inl rfl)) _).setCell (p := ⟨w.heap.size + 1 + 1 + 1, 0, none⟩) (.inl (.inr rfl)) _) ?_ ?_
      · rw [he]
        exact (Below.heap_setCell _ _ _ _ (by simp)).trans (set_one ((hU.block _ (lt_block h7V)).trans h7V) _)
      · rw [he]
        exact set_one ((Below.heap_setCell _ _ _ _ (by simp)).trans ((hU.block _ (lt_block h9V)).trans h9V)) _
    have no : extS o (f, v) x = (f, v) → ∀ U, Below V.heap.size V U → ∃ own', BodyStep own own' W U ∧ ExtInv W4 (w.heap.size + 1 + 1) (w.heap.size + 1 + 1 + 1) o n own' (pre ++ [x]) U := fun he U hU => by
      refine HX'.out _ (hOV.ext hU) ?_ ?_
      · rw [he]; exact (hU.block _ (lt_block h7V)).trans h7V
      · rw [he]; exact (hU.block _ (lt_block h9V)).trans h9V
    have fz7 : ∀ U, Below V.heap.size V U → U.cell? ⟨w.heap.size + 1 + 1, 0, none⟩ = some (.int .i64 v) ∧ U.frozen? ⟨w.heap.size + 1 + 1, 0, none⟩ = false ∧ U.cell? ⟨w.heap.size + 1 + 1 + 1, 0, none⟩ = some (.bool f) ∧ U.frozen? ⟨w.heap.size + 1 + 1 + 1, 0, none⟩ = false := fun U hU => by
      have h1 := (hU.block _ (lt_block h7V)).trans h7V
      have h2 := (hU.block _ (lt_block h9V)).trans h9V
      exact ⟨cell_one h1, frozen_one h1 0, cell_one h2, frozen_one h2 0⟩
    have Yes := Lib.hid yes
    have No := Lib.hid no
    have Fz := Lib.hid fz7
    have CC := Lib.hid cC
    clear yes no fz7 cC h7V h9V HX'
    cases f
    · gi_wp2_with fail
      refine wpInR_region_ext (by kernel_rfl) (by kernel_rfl) (fun _ _ h => h) ?_
      repeat (go_big_quiet_step (fail))
      refine wpQuiet_nil ?_
      intro _ hw'
      obtain ⟨p, rfl⟩ := hw'
      have hU := p.ext
      generalize p.to = U at *
      obtain ⟨u1, u2, u3, u4⟩ := Fz.out U hU
      have hfin := Lib.hid (Yes.out (by simp [extS]) U hU)
      clear Yes No Fz q6 q7 q9
      gi_wp2_with fail
      exact hfin.out
    · cases hc : cmpI x.no v == o
      · have Hc := Lib.hid hc
        have HN := Lib.hid (No.out (by unfold extS; rw [if_neg (by simp [hc])]))
        clear Yes No Fz
        gi_wp2_with fail
        refine wpInR_region_ext (by kernel_rfl) (by kernel_rfl) (fun _ _ h => h) ?_
        repeat (go_big_quiet_step ((go_at_call 66; exact Calls.ext_same (CC.out _))))
        refine wpQuiet_nil ?_
        intro _ hw'
        obtain ⟨p, rfl⟩ := hw'
        have hU := p.ext
        generalize p.to = U at *
        have hfin := Lib.hid (HN.out U hU)
        clear HN q6 q7 q9
        gi_wp2_with fail
        exact hfin.out
      · have Hc := Lib.hid hc
        have HY := Lib.hid (Yes.out (by unfold extS; rw [if_pos (by simp [hc])]))
        clear Yes No
        gi_wp2_with fail
        refine wpInR_region_ext (by kernel_rfl) (by kernel_rfl) (fun _ _ h => h) ?_
        repeat (go_big_quiet_step ((go_at_call 66; exact Calls.ext_same (CC.out _))))
        refine wpQuiet_nil ?_
        intro _ hw'
        obtain ⟨p, rfl⟩ := hw'
        have hU := p.ext
        generalize p.to = U at *
        obtain ⟨u1, u2, u3, u4⟩ := Fz.out U hU
        have hfin := Lib.hid (HY.out U hU)
        clear HY Fz q6 q7 q9
        gi_wp2_with fail
        exact hfin.out
  · rintro D own W hD hoD ⟨ho, hon, h7, h9⟩ hdef
    have c7 := cell_one h7
    refine wpAt_wp ?_
    go_wp2_with fail
    refine leavesM_ret (W := W) (v := .int .i64 (extN o n xs)) hdef ?_ ⟨rfl, ?_⟩
    · simp [results, Try.results55, go_sem, extN]
    · have hb : Below w.heap.size w W := ⟨hon.os.trans hB4.os, hon.tape.trans hB4.tape, hon.output.trans hB4.output, Nat.le_trans hB4.size hon.size, fun k hk => (hon.block k (by omega) (by omega)).trans (hB4.block k hk)⟩
      exact hb.trans (putObj_below _ _ (by omega))
  · rintro D own c pre W _ _ _ h
    exact h.elim
end Go.Proofs.Ytmindojbkedmlaa

/- Package verdicts: kept, an iterator over an iterator. -/
namespace Go.Proofs.Ytmindojbkedmlaa
open Go.RowKit Go.Han
attribute [local irreducible] wpStill wpQuiet
attribute [local go_sem] Oper.semAt_some
set_option maxRecDepth 100000

theorem kept_any (gf : Nat) (lb : Array Value) (kf : Nat) (kb : Array Value) (w : World) : Calls Try.prog 52 #[.func (.func gf) #[] lb, .func (.func kf) #[] kb] w fun e w' =>
    e = .returned (.func (.func 91) #[] #[.pointer (some ⟨w.heap.size, 0, none⟩), .pointer (some ⟨w.heap.size + 1, 0, none⟩)]) ∧ (w.alloc (.cells #[.func (.func gf) #[] lb] 94)).alloc (.cells #[.func (.func kf) #[] kb] 53) = w' := by
  have hmf : ∀ (fn : Fn) (first cap : Array Value) (w : World), (Instr.makeFunc fn first cap).run Try.prog w = .ok (.func fn first cap) w := fun _ _ _ _ => rfl
  go_enter Try.func52, Try.ntmps52
  go_wp2
  go_ret
  exact ⟨rfl, rfl⟩
def KeptR (bi bo : Nat) (Ri Ro : Nat → Prop) (k : Nat) : Prop := k = bi ∨ k = bo ∨ Ri k ∨ Ro k
/-- Between two rounds of the inner loop. -/
def KInv (w0 : World) (B0 by_ l' : Nat) (R : Nat → Prop) (q : House → Bool) (J : (Nat → Prop) → List House → World → Prop) (own : Nat → Prop) (pre : List House) (W : World) : Prop :=
  J own (pre.filter q) W ∧ (∀ j, R j → W.heap[j]? = w0.heap[j]?) ∧ (∀ j, own j → ¬ R j) ∧ (∀ j, own j → j < W.heap.size) ∧ B0 ≤ W.heap.size ∧ W.heap[by_]? = some (.cells #[.func (.yield l') #[] #[]] 53 (0, 0)) ∧ ¬ own by_
theorem iter_up {B0 B1 : Nat} {M own : Nat → Prop} {A B : World} (h : IterStep B1 (fun _ => False) own A B) (hB : B0 ≤ B1) : IterStep B0 M own A B :=
  ⟨h.os, h.tape, h.output, h.size, fun k hk ho => h.block k hk (ho.imp (fun ⟨a, _⟩ => ⟨by omega, fun h => h⟩) id)⟩
theorem kinv_stable {w0 : World} {B0 B1 by_ l' : Nat} {R M : Nat → Prop} {q : House → Bool} {J : (Nat → Prop) → List House → World → Prop} (hJ : Stable B0 M J) (hB : B0 ≤ B1) (hR : ∀ j, R j → j < B0) (hby : by_ < B1) (ha : Alive w0 R) : Stable B1 (fun _ => False) (KInv w0 B0 by_ l' R q J) := by
  rintro own pre W W' ⟨hj, hr, hd, hl, hb, hy, hn⟩ st
  exact ⟨hJ own _ W W' hj (iter_up st hB), fun j hjR => (st.block j (alive_lt ha hr hjR) (.inl ⟨by have := hR j hjR; omega, fun h => h⟩)).trans (hr j hjR), hd, fun j hj => Nat.lt_of_lt_of_le (hl j hj) st.size, Nat.le_trans hb st.size, (st.block _ (lt_block hy) (.inl ⟨hby, fun h => h⟩)).trans hy, hn⟩
def KAsg (w0 : World) (B0 B1 by_ l' : Nat) (R : Nat → Prop) (q : House → Bool) (J : (Nat → Prop) → List House → World → Prop) (F : Value → Value → Array Value) (x : House) (a' : Act) (own : Nat → Prop) (pre : List House) (W : World) : Prop :=
  ∃ bx own1, a' = { tmps := F (.pointer (some ⟨bx, 0, none⟩)) (.agg #[.int .i64 x.no, .int .i64 x.kind, .int .i64 x.speaker, .int .i64 x.first, .int .i64 x.last, .int .i64 x.lang, .int .i64 x.frm, .int .i64 x.until_, .int .i64 x.known, .int .i64 x.ms]), defers := [] } ∧ (∀ k, own k ↔ (own1 k ∨ k = bx)) ∧ W.heap[bx]? = some (.cells #[.int .i64 x.no, .int .i64 x.kind, .int .i64 x.speaker, .int .i64 x.first, .int .i64 x.last, .int .i64 x.lang, .int .i64 x.frm, .int .i64 x.until_, .int .i64 x.known, .int .i64 x.ms] 52 (0, 0)) ∧ B1 ≤ bx ∧ KInv w0 B0 by_ l' R q J own1 pre W
theorem kasg_stable {w0 : World} {B0 B1 by_ l' : Nat} {R M : Nat → Prop} {q : House → Bool} {J : (Nat → Prop) → List House → World → Prop} (F : Value → Value → Array Value) (x : House) (a' : Act) (hJ : Stable B0 M J) (hB : B0 ≤ B1) (hR : ∀ j, R j → j < B0) (hby : by_ < B1) (ha : Alive w0 R) : Stable B1 (fun _ => False) (KAsg w0 B0 B1 by_ l' R q J F x a') := by
  rintro own pre W W' ⟨bx, own1, ha', ho, hx, hbx, hI⟩ st
  exact ⟨bx, own1, ha', ho, (st.block _ (lt_block hx) (.inr ((ho _).2 (.inr rfl)))).trans hx, hbx, kinv_stable hJ hB hR hby ha own1 pre W W' hI ⟨st.os, st.tape, st.output, st.size, fun k hk h => st.block k hk (h.imp id fun h => (ho k).2 (.inl h))⟩⟩
theorem filter_pre {α : Type} {q : α → Bool} {pre xs : List α} {x : α} (h : pre ++ [x] <+: xs) (hq : q x = true) : pre.filter q ++ [x] <+: xs.filter q := by
  obtain ⟨t, rfl⟩ := h
  rw [List.filter_append, List.filter_append, List.filter_cons_of_pos hq]
  exact ⟨t.filter q, by simp⟩
theorem filter_snoc {α : Type} (q : α → Bool) (pre : List α) (x : α) : (pre ++ [x]).filter q = pre.filter q ++ (if q x then [x] else []) := by
  rw [List.filter_append]
  cases hq : q x <;> simp [hq]
set_option maxHeartbeats 2000000 in
theorem kept1 (bi bo gf : Nat) (lb : Array Value) (kf : Nat) (kb : Array Value) (q : House → Bool) (Ri Ro : Nat → Prop) (xs : List House) (w0 : World)
    (h1 : w0.heap[bi]? = some (.cells #[.func (.func gf) #[] lb] 94 (0, 0))) (h2 : w0.heap[bo]? = some (.cells #[.func (.func kf) #[] kb] 53 (0, 0)))
    (eg : ∀ args w, (callFunc gf args).run Try.prog w = .ok (.enter gf args) w) (ek : ∀ args w, (callFunc kf args).run Try.prog w = .ok (.enter kf args) w)
    (hit : IterN Try.prog gf lb encH Ri (fun _ => False) xs w0) (hRi : Alive w0 Ri) (hRo : Alive w0 Ro)
    (hok : ∀ h ∈ xs, ∀ W, (∀ j, Ro j → W.heap[j]? = w0.heap[j]?) → Calls Try.prog kf (#[.agg #[.int .i64 h.no, .int .i64 h.kind, .int .i64 h.speaker, .int .i64 h.first, .int .i64 h.last, .int .i64 h.lang, .int .i64 h.frm, .int .i64 h.until_, .int .i64 h.known, .int .i64 h.ms]] ++ kb) W fun e w' => e = .returned (.bool (q h)) ∧ Below W.heap.size W w') :
    IterN Try.prog 91 #[.pointer (some ⟨bi, 0, none⟩), .pointer (some ⟨bo, 0, none⟩)] encH (KeptR bi bo Ri Ro) (fun _ => False) (xs.filter q) w0 := by
  intro l' B0 J Jx own₀ W hR hown hB0 hlive hJ hJx hY h0
  have hal : Alive w0 (KeptR bi bo Ri Ro) := by
    rintro j (rfl | rfl | h | h)
    · exact lt_block h1
    · exact lt_block h2
    · exact hRi _ h
    · exact hRo _ h
  obtain ⟨W1, hW1⟩ : ∃ W1, W.alloc (.cells #[.func (.yield l') #[] #[]] 53) = W1 := ⟨_, rfl⟩
  have hB1 : Below W.heap.size W W1 := by subst hW1; exact ext_alloc (Below.refl _ _) _
  have hz1 : W1.heap.size = W.heap.size + 1 := by subst hW1; simp
  have hy1 : W1.heap[W.heap.size]? = some (.cells #[.func (.yield l') #[] #[]] 53 (0, 0)) := by subst hW1; exact World.alloc_heap_new _ _
  have hRW : ∀ k, KeptR bi bo Ri Ro k → W1.heap[k]? = w0.heap[k]? := fun k hk => (hB1.block k (by have := (hR k hk).1; omega)).trans (hR k hk).2
  have c1 := cell_one ((hRW bi (.inl rfl)).trans h1)
  have hI0 : KInv w0 B0 W.heap.size l' (KeptR bi bo Ri Ro) q J own₀ [] W1 :=
    ⟨hJ own₀ _ W W1 h0 (IterStep.of_below hB1), hRW, hown, fun j hj => by have := hlive j hj; omega, by omega, hy1, fun h => by have := hlive _ h; omega⟩
  have HW1 := Lib.hid hW1
  have HY := Lib.hid hY
  have HR0 : Hid (∀ j, KeptR bi bo Ri Ro j → j < B0) := fun j hj => (hR j hj).1
  have Hok := Lib.hid hok
  have Hz1 := Lib.hid hz1
  clear hW1 hY hok hz1 hR
  refine calls_of_wpAt Try.func91 rfl ?_
  simp only [Try.ntmps91, List.size_toArray, List.length_cons, List.length_nil, Nat.reduceAdd, Nat.reduceSub, Array.replicate_succ, Array.replicate_zero, List.push_toArray, List.append_toArray, List.nil_append, List.cons_append]
  refine wpAt_seq_wp fun K1 hK1 => ?_
  go_wp2_with fail
  rw [HW1.out]
  clear HW1
  refine wpAt_seq_wp fun K2 hK2 => ?_
  go_wp2_with fail
  refine wpAt_block ?_
  clear c1
  have hz1 := Hz1.out
  have hR0 := HR0.out
  refine wp_rangeN (xs := xs) (R := Ri) (M := fun _ => False) (w0 := w0) Try.func91 (by rfl) eg hit
    (fun k hk => ⟨by have := hR0 k (.inr (.inr (.inl hk))); omega, hRW k (.inr (.inr (.inl hk)))⟩) (fun _ => rfl)
    (KInv w0 B0 W.heap.size l' (KeptR bi bo Ri Ro) q J) (fun c own pre W => c = .ret ∧ ∃ p, p <+: xs.filter q ∧ Jx own p W)
    (kinv_stable hJ (by omega) hR0 (by omega) hal) (fun c own pre X Y ⟨h1, p, h2, h3⟩ st => ⟨h1, p, h2, hJx own p X Y h3 (iter_up st (by omega))⟩) own₀ ?_ hI0
    (KAsg w0 B0 W1.heap.size W.heap.size l' (KeptR bi bo Ri Ro) q J (fun px vx => #[.func (.yield l') #[] #[], .pointer (some ⟨bi, 0, none⟩), .pointer (some ⟨bo, 0, none⟩), .pointer (some ⟨W.heap.size, 0, none⟩), px, .func (.func gf) #[] lb, vx, undef, undef, undef, undef, undef, undef, undef, undef, undef])) (fun x a' => kasg_stable _ x a' hJ (by omega) hR0 (by omega) hal) ?_ ?_ ?_ ?_
  · exact fun k hk => ⟨by have := hlive k hk; omega, fun h => hown k hk (.inr (.inr (.inl h)))⟩
  · rintro l1 own pre x X hI hl1 hl2 ho hpre
    refine wpIn_mono (Q := Exit.then (fun a' W' => ∃ own', BodyStep own own' X W' ∧ KAsg w0 B0 W1.heap.size W.heap.size l' (KeptR bi bo Ri Ro) q J (fun px vx => #[.func (.yield l') #[] #[], .pointer (some ⟨bi, 0, none⟩), .pointer (some ⟨bo, 0, none⟩), .pointer (some ⟨W.heap.size, 0, none⟩), px, .func (.func gf) #[] lb, vx, undef, undef, undef, undef, undef, undef, undef, undef, undef]) x a' own' pre W') (fun _ _ _ => False)) ?_ (fun e a w h => h)
    have hlv : ∀ k, own k → k < X.heap.size := fun k hk => (ho k hk).2.1
    unfold encH House.val
    gi_wp2
    refine ⟨fun k => own k ∨ k = X.heap.size, BodyStep.turn ((BodyStep.refl hlv).alloc _) ?_ ?_, X.heap.size, own, rfl, fun k => Iff.rfl, World.alloc_heap_new _ _, by omega, ?_⟩
    · rintro k (h | h)
      · exact .inl h
      · exact .inr (by omega)
    · rintro k (h | h)
      · have := hlv k h; simp; omega
      · simp; omega
    · exact kinv_stable hJ (by omega) hR0 (by omega) hal own pre X _ hI ((IterStep.refl W1.heap.size _ _ _).alloc _)
  · rintro l1 own pre x a' X ⟨bx, own1, rfl, hoi, hbx, hB', hI⟩ hl1 hl2 ho hpre
    have hlv : ∀ k, own k → k < X.heap.size := fun k hk => (ho k hk).2.1
    have hsub : ∀ k, own1 k → own k := fun k hk => (hoi k).2 (.inl hk)
    have c2 := cell_one ((hI.2.1 bo (.inr (.inl rfl))).trans h2)
    have hxm : x ∈ xs := by obtain ⟨t, rfl⟩ := hpre; simp
    have cK := Lib.hid (Hok.out x hxm X (fun j hj => hI.2.1 j (.inr (.inr (.inr hj)))))
    have back : ∀ V, Below X.heap.size X V → BodyStep own own1 X V := fun V hV => (BodyStep.turn (BodyStep.refl hlv) (fun k hk => .inl (hsub k hk)) (fun k hk => hlv k (hsub k hk))).trans ((BodyStep.refl (fun k hk => hlv k (hsub k hk))).below hV)
    have hx := hbx
    obtain ⟨p0, p1, p2, p3, p4, p5, p6, p7, p8, p9⟩ := hou_at hx
    have hfs := filter_snoc q pre x
    cases hqx : q x
    · have Hq := Lib.hid hqx
      have hfin : ∀ V, Below X.heap.size X V → ∃ own', BodyStep own own' X V ∧ KInv w0 B0 W.heap.size l' (KeptR bi bo Ri Ro) q J own' (pre ++ [x]) V := fun V hV => by
        refine ⟨own1, back V hV, ?_⟩
        have h := kinv_stable hJ (B1 := W1.heap.size) (by omega) hR0 (by omega) hal own1 pre X V hI (IterStep.of_below hV)
        obtain ⟨a1, a2⟩ := h
        refine ⟨?_, a2⟩
        rw [hfs, hqx]
        simpa using a1
      have Hfin := Lib.hid hfin
      clear hfin hqx hfs hI hoi ho hlv hsub back hit hbx hx
      gi_wp2_with fail
      refine ⟨trivial, rfl, (callsIn_wide.2 cK.out).mono ?_⟩
      rintro e V ⟨rfl, hV⟩
      rw [Hq.out]
      have hfin := Lib.hid (Hfin.out V hV)
      clear Hfin hV
      gi_wp2_with fail
      refine ⟨fun _ h => (by cases h), ?_⟩
      gi_wp2_with fail
      exact hfin.out
    · have Hq := Lib.hid hqx
      have hpp := filter_pre hpre hqx
      have Hpp := Lib.hid hpp
      have hI2 : ∀ V, Below X.heap.size X V → KInv w0 B0 W.heap.size l' (KeptR bi bo Ri Ro) q J own1 pre V := fun V hV =>
        kinv_stable hJ (B1 := W1.heap.size) (by omega) hR0 (by omega) hal own1 pre X V hI (IterStep.of_below hV)
      have HI2 := Lib.hid hI2
      have Hfs := Lib.hid hfs
      have Hback := Lib.hid back
      clear hI2 hqx hfs hI hoi ho hlv hsub back hit hbx hpp
      gi_wp2_with fail
      refine ⟨trivial, rfl, (callsIn_wide.2 cK.out).mono ?_⟩
      rintro e V ⟨rfl, hV⟩
      rw [Hq.out]
      have hIV := HI2.out V hV
      obtain ⟨hj, hr, hd, hl, hb, hy, hn⟩ := hIV
      obtain ⟨fn, tmps, assign, body, hyy, hRd⟩ := HY.out own1 _ x V hj Hpp.out hd hl
      change (Instr.yield l' #[.agg #[.int .i64 x.no, .int .i64 x.kind, .int .i64 x.speaker, .int .i64 x.first, .int .i64 x.last, .int .i64 x.lang, .int .i64 x.frm, .int .i64 x.until_, .int .i64 x.known, .int .i64 x.ms]]).run _ _ = _ at hyy
      have cy := cell_one hy
      obtain ⟨q0, q1, q2, q3, q4, q5, q6, q7, q8, q9⟩ := hou_at ((hV.block _ (lt_block hx)).trans hx)
      have hback2 := Lib.hid (Hback.out V hV)
      have Hr := Lib.hid hr
      have Hd := Lib.hid hd
      have Hl := Lib.hid hl
      have Hy := Lib.hid hy
      have Hn := Lib.hid hn
      clear hj hr hd hl hy hn p0 p1 p2 p3 p4 p5 p6 p7 p8 p9 hx hV c2 cK HI2 Hback
      gi_wp2_with fail
      refine ⟨rfl, hRd.mono ?_⟩
      rintro e W3 (⟨own', hbs, (⟨rfl, hj3⟩ | ⟨rfl, hjx⟩)⟩ | ⟨ch, rfl, hjp⟩)
      · have hfin : Hid (∃ own', BodyStep own own' X W3 ∧ KInv w0 B0 W.heap.size l' (KeptR bi bo Ri Ro) q J own' (pre ++ [x]) W3) := by
          refine ⟨own', hback2.out.trans hbs, ?_, fun j hjR => (hbs.block j (alive_lt hal Hr.out hjR) (fun h => Hd.out j h hjR)).trans (Hr.out j hjR), fun j hjo hjR => ?_, hbs.live, Nat.le_trans hb hbs.size, (hbs.block _ (lt_block Hy.out) Hn.out).trans Hy.out, fun h => ?_⟩
          · rw [Hfs.out, if_pos Hq.out]; exact hj3
          · rcases hbs.owns j hjo with h | h
            · exact Hd.out j h hjR
            · have := alive_lt hal Hr.out hjR; omega
          · rcases hbs.owns _ h with h | h
            · exact Hn.out h
            · have := lt_block Hy.out; omega
        clear hyy hRd hbs hj3
        gi_wp2_with fail
        exact hfin.out
      · have hb3 := Lib.hid (hback2.out.trans hbs)
        have Hjx := Lib.hid hjx
        clear hyy hRd hbs hjx
        gi_wp2_with fail
        exact ⟨own', hb3.out, rfl, _, Hpp.out, Hjx.out⟩
      · exact hjp.elim
  · rintro D own X hD hoD ⟨hj, hr, hd, hl, hb, hy, hn⟩ hdef
    refine leavesM_none hdef rfl (.inl ⟨rfl, ⟨_, rfl⟩, own, hJ own _ X _ hj (IterStep.of_putObj _ (by omega) (fun h => (hoD D h).2.2 rfl))⟩)
  · rintro D own c pre X hD hoD hpre ⟨rfl, p, hp, hj⟩ hdef
    refine wpAt_wp ?_
    go_wp2_with fail
    refine leavesM_none hdef rfl (.inr (.inl ⟨⟨_, rfl⟩, own, p, hp, hJx own _ X _ hj (IterStep.of_putObj _ (by omega) (fun h => (hoD D h).2.2 rfl))⟩))
end Go.Proofs.Ytmindojbkedmlaa
