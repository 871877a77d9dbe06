/- Slices of the call's own, elements of any number of cells. No program in sight. -/
import Derived.Test.YtneanannicacnaaDoorBase
namespace Go.Han
open Go.RowKit
section
variable {α : Type} {f : α → List Value} {E sz : Nat} {w w' : World} {base : Nat} {v : Value} {l : List α}

/-- v owns the elements l. -/
def OwnL (f : α → List Value) (E sz : Nat) (w : World) (base : Nat) (v : Value) (l : List α) : Prop := w.ownsRow base E sz v l.length (l.flatMap f)
theorem OwnL.nil (f : α → List Value) (E sz : Nat) (w : World) (base : Nat) : OwnL f E sz w base (.slice none 0 0) [] := ⟨by simp, .inl ⟨rfl, rfl⟩⟩
theorem OwnL.form (h0 : 0 < sz) (h : OwnL f E sz w base v l) : ∃ A c, v = .slice A l.length c ∧ Rd w A (l.flatMap f) ∧ (A = none → l = []) := by
  obtain ⟨A, c, rfl, _, _, hl, hr⟩ := SlOf.of_own h
  refine ⟨A, c, rfl, hr, ?_⟩
  rintro rfl
  rcases hr with h | ⟨b, off, h, _⟩
  · rw [h] at hl
    refine List.eq_nil_of_length_eq_zero ?_
    rcases Nat.eq_zero_or_pos l.length with h | h
    · exact h
    · have := Nat.mul_pos h h0
      simp at hl
      omega
  · cases h
theorem OwnL.mono {b' : Nat} (h : OwnL f E sz w base v l) (hb : b' ≤ base) : OwnL f E sz w b' v l := by
  refine ⟨h.1, ?_⟩
  rcases h.2 with h | ⟨g, c, cur, h1, h2, h3⟩
  · exact .inl h
  · exact .inr ⟨g, c, cur, h1, Nat.le_trans hb h2, h3⟩
theorem OwnL.snoc (x : α) (h : w.ownsRow base E sz v (l.length + 1) (l.flatMap f ++ f x)) : OwnL f E sz w base v (l ++ [x]) := by
  unfold OwnL
  simpa using h
theorem OwnL.lt (h : OwnL f E sz w base v l) : ∀ g, v.ownBlock = some g → base ≤ g ∧ g < w.heap.size := fun g hg => World.ownsRow.lt h g hg
theorem OwnL.block (h : OwnL f E sz w base v l) (hb : ∀ g, v.ownBlock = some g → w'.heap[g]? = w.heap[g]?) : OwnL f E sz w' base v l := ownsRow_of_block h hb
theorem OwnL.ext (h : OwnL f E sz w base v l) (hb : Below w.heap.size w w') : OwnL f E sz w' base v l := h.block fun g hg => hb.block g (h.lt g hg).2
theorem OwnL.far {row : Option Nat} (h : OwnL f E sz w base v l) (hg : w.grownBy w' row) (hne : ∀ g, v.ownBlock = some g → some g ≠ row) : OwnL f E sz w' base v l := h.block fun g hgv => hg.block g (h.lt g hgv).2 (hne g hgv)
/-- A step that grows one's own row keeps what was there before. -/
theorem below_own {w0 : World} (h : Below w0.heap.size w0 w) (ho : OwnL f E sz w base v l) (hbase : w0.heap.size ≤ base) (hg : w.grownBy w' v.ownBlock) : Below w0.heap.size w0 w' :=
  ⟨hg.os.trans h.os, hg.tape.trans h.tape, hg.output.trans h.output, Nat.le_trans h.size hg.size, fun i hi => (hg.block i (Nat.lt_of_lt_of_le hi h.size) (fun e => by have := (ho.lt i e.symm).1; omega)).trans (h.block i hi)⟩
end
end Go.Han
