/- Contracts at errors, and the memory of the examples. -/
import Derived.Test.YtneanannicacnaaDoorLaw49s
namespace Go.Proofs.YtneanannicacnaaDoor
open Go.RowKit Go.Han

def ErrPost (E : Int) (w : World) (e : Ending) (w' : World) : Prop := e = .returned (.tuple #[.slice none 0 0, .int .i64 E]) ∧ Below w.heap.size w w'
theorem Do_err (A : Option Addr) (n cp : Nat) (l : List Spot) (c : Change) (E : Int) (w : World) (hT : Tabs w) (hr : Rd w A (flat l)) (hA : A = none → l = []) (hn : l.length = n) (hm : n ≤ 9223372036854775807) (hE : doE l c = E) (h0 : E ≠ 0) :
    Calls Tryd.prog 17 #[.slice A n cp, .agg #[.int .i64 c.at_, .int .i64 c.kind, .int .i64 c.spot.id, .int .i64 c.spot.ver, .string c.spot.text]] w (ErrPost E w) := by
  subst hn
  refine (Do_any A cp l c w hT hr hA hm).mono ?_
  rintro e w' ⟨hb, ⟨_, rfl⟩ | ⟨h, _⟩⟩
  · exact ⟨by rw [hE], hb⟩
  · exact absurd (hE.symm.trans h) h0
theorem Play_err (l : List Change) (t E : Int) (w : World) (hT : Tabs w) (hl : l = []) (hE : playE l t = E) (h0 : E ≠ 0) :
    Calls Tryd.prog 23 #[.slice none 0 0, .int .i64 t] w (ErrPost E w) := by
  subst hl
  refine (Play_any none 0 [] t w hT (Rd.nil _ _) (by simp)).mono ?_
  rintro e w' ⟨hb, ⟨_, rfl⟩ | ⟨h, _⟩⟩
  · exact ⟨by rw [hE], hb⟩
  · exact absurd (hE.symm.trans h) h0
theorem Check_is (A : Option Addr) (n cp : Nat) (l : List Spot) (E : Int) (w : World) (hT : Tabs w) (hr : Rd w A (flat l)) (hn : l.length = n) (hm : n ≤ 9223372036854775807) (hE : checkE l = E) :
    Calls Tryd.prog 19 #[.slice A n cp] w fun e w' => e = .returned (.int .i64 E) ∧ Below w.heap.size w w' := by
  subst hn hE
  exact Check_any A cp l w hT hr hm
theorem rd_new {w : World} {cs : Array Value} {t : Nat} {xs : List Value} (hx : cs.toList = xs) : Rd (w.alloc (.cells cs t)) (some ⟨w.heap.size, 0, none⟩) xs := by
  refine .inr ⟨w.heap.size, 0, rfl, by simp, fun j u hu => ?_⟩
  rw [Nat.zero_add, cell_alloc_any]
  rw [← hx] at hu
  simpa using hu
theorem tabs_new {w : World} (hT : Tabs w) (o : Obj) : Tabs (w.alloc o) := utf_ext hT ((Below.refl _ _).alloc (Nat.le_refl _) _)
theorem made_flat (n : Nat) : (madeCells #[Value.int .i64 0, Value.int .i64 0, Value.string ⟨#[]⟩] (n * 3)).toList = flat (List.replicate n ⟨0, 0, ⟨#[]⟩⟩) := by
  apply List.ext_getElem?
  intro j
  by_cases hj : j < n * 3
  · have h1 : j / 3 < n := by omega
    have hlt : j / 3 < (List.replicate n (⟨0, 0, ⟨#[]⟩⟩ : Spot)).length := by simpa using h1
    have h2 := flat_get Spot.cells 3 Spot.size_cells (List.replicate n (⟨0, 0, ⟨#[]⟩⟩ : Spot)) (j / 3) (j % 3) hlt (by omega)
    rw [show j / 3 * 3 + j % 3 = j by omega] at h2
    unfold flat
    rw [h2, List.getElem_replicate]
    unfold madeCells
    simp only [Array.toList_map, Array.toList_range, List.getElem?_map, List.getElem?_range hj, Option.map_some]
    rcases (show j % 3 = 0 ∨ j % 3 = 1 ∨ j % 3 = 2 by omega) with h | h | h
    all_goals simp [h, Spot.cells]
  · rw [List.getElem?_eq_none (by simp [size_madeCells]; omega), List.getElem?_eq_none (by rw [flat_length, List.length_replicate]; omega)]
theorem many_cells : (madeCells #[Value.int .i64 0, Value.int .i64 0, Value.string ⟨#[]⟩] 3075).toList = flat (List.replicate 1025 ⟨0, 0, ⟨#[]⟩⟩) := made_flat 1025
theorem make_many : ∃ Z : Array Value, Z.toList = flat (List.replicate 1025 ⟨0, 0, ⟨#[]⟩⟩) ∧ ∀ w : World, (Instr.makeSlice 22 (.int .i64 1025) (.int .i64 1025)).run Tryd.prog w = .ok (.slice (some ⟨w.heap.size, 0, none⟩) 1025 1025) (w.alloc (.cells Z 24)) := by
  refine ⟨_, many_cells, fun w => ?_⟩
  have hz : (Tryd.prog.info? 24).map (fun i => (i.zero, i.size, i.bytes)) = some (some (.agg #[.int .i64 0, .int .i64 0, .string ⟨#[]⟩]), 3, 32) := by kernel_rfl
  obtain ⟨i, hi, h1, h2, h3⟩ := info_parts hz
  have := run_make (P := Tryd.prog) w 22 24 i _ Tryd.underlying22 hi h1 .i64 .i64 1025 1025 (by omega) (by omega) (by rw [h3]; omega) (by omega)
  rw [h2] at this
  exact this
theorem Do_many (W7 : World) (Z : Array Value) (hZ : Z.toList = flat (List.replicate 1025 ⟨0, 0, ⟨#[]⟩⟩)) (c : Change) (hT : Tabs W7) (W : World) (hb : Below W7.heap.size W7 W) (hc : W.heap[W7.heap.size]? = some (.cells Z 24 (0, 0))) :
    Calls Tryd.prog 17 #[.slice (some ⟨W7.heap.size, 0, none⟩) 1025 1025, .agg #[.int .i64 c.at_, .int .i64 c.kind, .int .i64 c.spot.id, .int .i64 c.spot.ver, .string c.spot.text]] W fun e w' => e = .returned (.tuple #[.slice none 0 0, .int .i64 2]) ∧ Below W7.heap.size W7 w' := by
  have hr : Rd W (some ⟨W7.heap.size, 0, none⟩) (flat (List.replicate 1025 ⟨0, 0, ⟨#[]⟩⟩)) := by
    refine .inr ⟨W7.heap.size, 0, rfl, lt_block hc, fun j u hu => ?_⟩
    rw [Nat.zero_add, cell_blk hc]
    rw [← hZ] at hu
    simpa using hu
  exact (Do_err _ 1025 1025 _ c 2 W (utf_ext hT hb) hr (fun h => by cases h) (List.length_replicate ..) (by omega) (ex_many _ c (List.length_replicate ..)) (by decide)).mono fun e w' h => ⟨h.1, ext_trans hb h.2⟩
end Go.Proofs.YtneanannicacnaaDoor
