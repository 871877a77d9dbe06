/- Package display: Play. -/
import Derived.Test.YtneanannicacnaaDoorDisp10
namespace Go.Proofs.YtneanannicacnaaDoor
open Go.RowKit Go.Han
attribute [local irreducible] wpStill wpQuiet
set_option maxRecDepth 100000

def PlayTop (l : List Change) (t : Int) (w : World) (e : Ending) (w' : World) : Prop :=
  Below w.heap.size w w' ∧ ((playE l t ≠ 0 ∧ e = .returned (.tuple #[.slice none 0 0, .int .i64 (playE l t)])) ∨ (playE l t = 0 ∧ ∃ v, e = .returned (.tuple #[v, .int .i64 0]) ∧ Own w' w.heap.size v (playL l t)))

theorem told_none : Told Tryd.prog 57 #[] (fun _ => False) (fun _ _ => True) := by
  refine ⟨enters_of Tryd.func57 (by kernel_rfl) rfl, fun _ _ _ _ _ => trivial, fun pre c W _ _ => ?_⟩
  obtain ⟨xt, xk, ⟨xi, xv, xs⟩⟩ := c
  simp only [Change.val, Array.append_empty]
  go_enter Tryd.func57, Tryd.ntmps57
  go_wp2
  go_end0
  exact ⟨rfl, (Only.refl _ _).alloc _, trivial⟩

theorem Play_any (A : Option Addr) (cp : Nat) (l : List Change) (t : Int) (w : World) (hU : Tabs w) (hr : Rd w A (cflat l)) (hm : l.length ≤ 9223372036854775807) :
    Calls Tryd.prog 23 #[.slice A l.length cp, .int .i64 t] w (PlayTop l t w) := by
  obtain ⟨W1, hW1⟩ : ∃ W1, w.alloc (.cells #[.int .i64 0] 29) = W1 := ⟨_, rfl⟩
  have hb0 : W1.heap[w.heap.size]? = some (.cells #[.int .i64 0] 29 (0, 0)) := by rw [← hW1]; exact World.alloc_heap_new _ _
  have hB1 : Below w.heap.size w W1 := by rw [← hW1]; exact (Below.refl _ _).alloc (Nat.le_refl _) _
  have hz1 : W1.heap.size = w.heap.size + 1 := by rw [← hW1]; simp
  go_enter_defers Tryd.func23, Tryd.ntmps23
  go_wp2_with fail
  refine (play_any 57 #[] (fun _ => False) (fun _ _ => True) told_none A cp l t W1 (utf_ext hU hB1) (hr.ext hB1) hm (fun k hk => hk.elim) trivial).mono ?_
  rintro e w2 ⟨ho, h⟩
  have hB12 : Below W1.heap.size W1 w2 := ho.below (fun k hk => hk.elim)
  have hB2 := ext_trans hB1 hB12
  have hb02 : w2.heap[w.heap.size]? = _ := (hB12.block _ (by omega)).trans hb0
  rcases h with ⟨hn, rfl, _⟩ | ⟨hn, ⟨v, rfl, hown⟩, _⟩
  · refine leaves_cons (f := 47) (args := #[.pointer (some ⟨w.heap.size, 0, none⟩)]) (by simp) (by simp [go_sem]) ?_
    refine (caught_pan _ _ _ _ hb02).mono ?_
    rintro e u' w'' ⟨rfl, rfl, rfl⟩
    simp [Leaves, settle, results, Tryd.results23, go_sem, cell_one hb02]
    exact ⟨hB2.setCell (p := ⟨w.heap.size, 0, none⟩) (Nat.le_refl _) _, .inl ⟨hn, rfl⟩⟩
  · have c0 := cell_one hb02
    have f0 := frozen_one hb02 0
    obtain ⟨A', cp', rfl, _, _⟩ := own_form hown
    have hfin : Hid (PlayTop l t w (.returned (.tuple #[.slice A' (playL l t).length cp', .int .i64 0])) (w2.setCell ⟨w.heap.size, 0, none⟩ (.int .i64 0))) := by
      refine ⟨hB2.setCell (p := ⟨w.heap.size, 0, none⟩) (Nat.le_refl _) _, .inr ⟨hn, _, rfl, ?_⟩⟩
      refine own_base (b := W1.heap.size) (ownsRow_of_block hown fun i hi => Below.heap_setCell _ _ _ _ (by have := (hown.lt i hi).1; show i ≠ w.heap.size; omega)) (by omega)
    clear hn hown hb0 hW1 ho
    go_wp2
    refine leaves_cons (f := 47) (args := #[.pointer (some ⟨w.heap.size, 0, none⟩)]) (by simp) (by simp [go_sem]) ?_
    refine (caught_ret _ _).mono ?_
    rintro e u' w'' ⟨rfl, rfl, rfl⟩
    simp [Leaves, settle, results, Tryd.results23, go_sem, c0]
    exact hfin.out
end Go.Proofs.YtneanannicacnaaDoor
