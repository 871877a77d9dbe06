/- Package display: clone, delete, the kinds. -/
import Derived.Test.YtneanannicacnaaDoorDisp3
import Derived.Test.YtneanannicacnaaDoorDelSpot
import Derived.Laws.CopyOwn
import Derived.Lib.SliceRun
namespace Go.Proofs.YtneanannicacnaaDoor
open Go.RowKit Go.Han
attribute [local irreducible] wpStill wpQuiet

def flat (l : List Spot) : List Value := l.flatMap Spot.cells
theorem flat_length (l : List Spot) : (flat l).length = l.length * 3 := flat_len Spot.cells 3 Spot.size_cells l
theorem flat_one (l : List Spot) : ∀ u ∈ flat l, u.oneCell' = true := by
  intro u hu
  unfold flat at hu
  obtain ⟨x, _, hx⟩ := List.mem_flatMap.1 hu
  simp [Spot.cells] at hx
  rcases hx with rfl | rfl | rfl <;> rfl

/-- A slice of spots of one's own. -/
def Own (w : World) (base : Nat) (v : Value) (l : List Spot) : Prop := w.ownsRow base 24 3 v l.length (flat l)
def ClonePost (l : List Spot) (w : World) (e : Ending) (w' : World) : Prop :=
  ∃ v', e = .returned v' ∧ Own w' w.heap.size v' l ∧ Below w.heap.size w w'

set_option maxRecDepth 100000 in
set_option maxHeartbeats 1000000 in
theorem clone_any (A : Option Addr) (c : Nat) (l : List Spot) (w : World) (hr : Rd w A (flat l)) (hA : A = none → l = []) (hm : l.length ≤ 1000000) :
    Calls Tryd.prog 52 #[.slice A l.length c] w (ClonePost l w) := by
  obtain ⟨i0, z, hi0, hz0, hs0, hb0, hzs⟩ := parts_spot
  have q22 : ∀ (w : World) (a : Option Addr) (n c n' c' : Nat), (binOp .eql 22 (.slice a n c) (.slice none n' c')).run Tryd.prog w = .ok (.bool a.isNone) w := fun w a n c n' c' => Lib.run_eql_slice_nil w _ _ a n c n' c' Tryd.underlying22
  cases A with
  | none =>
    have hl := hA rfl
    subst hl
    go_enter Tryd.func52, Tryd.ntmps52
    go_wp2
    go_ret
    exact ⟨_, rfl, ⟨by simp [flat], .inl ⟨rfl, rfl⟩⟩, Below.refl _ _⟩
  | some a =>
    have hcs : ∀ (j : Nat) (u : Value), (flat l)[j]? = some u → w.cell? (a.add j) = some u := by
      intro j u hu
      rcases hr with h | ⟨b, off, he, _, hc⟩
      · rw [h] at hu; cases hu
      · cases he
        rw [add_none]; exact hc j u hu
    have Hcs := Lib.hid hcs
    clear hcs hr hA
    go_enter Tryd.func52, Tryd.ntmps52
    go_wp2_with (at_builtin; refine wpList_append_own _ rfl _ _ 22 rfl w.heap.size 24 i0 z 3 32 Tryd.underlying22 hi0 hz0 hs0 hb0 hzs (by decide) _ _ _ rfl (World.ownsRow_made w #[] 0 (Nat.le_refl _) (Nat.zero_le _) rfl) a l.length c (flat l) rfl (flat_length l) (fun j u hu => Lib.cell?_alloc_some _ (Hcs.out j u hu)) (flat_one l) (by unfold maxLen; omega) (by omega) (by simp) ?_)
    intro v' w1 hown hgrow hnil
    go_wp2
    go_ret
    refine ⟨v', rfl, by simpa [Own] using hown, ?_⟩
    exact ((Below.refl _ w).alloc (Nat.le_refl _) _).grown hgrow (by simp) (by intro k hk; simp [Value.ownBlock] at hk; omega)
end Go.Proofs.YtneanannicacnaaDoor
