/- package text: whether a text is a word. -/
import Derived.Test.YtneanannicacnaaDoorText
import Derived.Test.YtneanannicacnaaDoorRunes
namespace Go.Proofs.YtneanannicacnaaDoor
open Go.RowKit Go.Han

theorem among_any (A : Option Addr) (n c : Nat) (w : World) : Calls Tryd.prog 138 #[.slice A n c] w fun e w' =>
    (∃ lb, e = .returned (.func (.func 149) #[] lb)) ∧ Below w.heap.size w w' := by
  have hmf : ∀ (fn : Fn) (first cap : Array Value) (w : World), (Instr.makeFunc fn first cap).run Tryd.prog w = .ok (.func fn first cap) w := fun _ _ _ _ => rfl
  go_enter Tryd.func138, Tryd.ntmps138
  go_wp2
  go_ret
  exact ⟨⟨_, rfl⟩, (Below.refl _ _).alloc (Nat.le_refl _) _⟩

def ClassesPost (w : World) (e : Ending) (w' : World) : Prop :=
  Below w.heap.size w w' ∧ ∃ b, e = .returned (.slice (some ⟨b, 0, none⟩) 4 4) ∧ w'.cell? ⟨b, 1, none⟩ = some (.func (.func 137) #[] #[])
set_option maxRecDepth 100000 in
set_option maxHeartbeats 400000 in
theorem classes_any (w : World) : Calls Tryd.prog 123 #[] w (ClassesPost w) := by
  go_enter Tryd.func123, Tryd.ntmps123
  go_wp2_with fail
  refine (among_any _ _ _ _).mono ?_
  rintro e w1 ⟨⟨lb1, rfl⟩, hb1⟩
  have hz1 := hb1.size
  simp at hz1
  go_wp2_with fail
  refine (among_any _ _ _ _).mono ?_
  rintro e w2 ⟨⟨lb2, rfl⟩, hb2⟩
  go_wp2_with fail
  refine (among_any _ _ _ _).mono ?_
  rintro e w3 ⟨⟨lb3, rfl⟩, hb3⟩
  go_wp2
  go_ret
  refine ⟨?_, _, rfl, ?_⟩
  · repeat (first | exact Below.refl _ _ | refine ext_alloc ?_ _ | (refine ext_trans ?_ (by assumption)))
  · simp [go_sem]

/-- Whether a text is a word. -/
def wordB (s : ByteArray) : Bool := decide (s.size ≤ 64) && decide (0 < s.size) && (runes s.data.toList).2 && !(runes s.data.toList).1.any fun r => spaceB (r : Int)

theorem space_pred (w : World) : PredInt 137 #[] spaceB w :=
  ⟨enters_of Tryd.func137 (by kernel_rfl) rfl, fun x W _ => classes1_any x W⟩

set_option maxRecDepth 100000 in
set_option maxHeartbeats 400000 in
theorem word_any (s : ByteArray) (w : World) (hT : Tabs w) : Calls Tryd.prog 106 #[.string s] w fun e w' => e = .returned (.bool (wordB s)) ∧ Below w.heap.size w w' := by
  go_enter Tryd.func106, Tryd.ntmps106
  go_wp2_with fail
  refine (runes_any s w hT).mono ?_
  rintro e w1 ⟨hb1, h⟩
  rcases h with ⟨hs, he⟩ | ⟨hs, hok, he⟩ | ⟨hs, hok, A, c, he, hrd⟩
  · subst he
    have H : Hid (wordB s = false) := by unfold wordB; rw [show decide (s.size ≤ 64) = false by simp; omega]; rfl
    clear hs
    go_wp2
    go_ret
    exact ⟨by rw [H.out]; rfl, hb1⟩
  · subst he
    have H : Hid (wordB s = false) := by unfold wordB; rw [hok]; simp [Hid]
    clear hs hok
    go_wp2
    go_ret
    exact ⟨by rw [H.out]; rfl, hb1⟩
  · subst he
    by_cases h0 : 0 < s.size
    · by_cases h64 : s.size ≤ 64
      · have H : Hid (wordB s = !(runes s.data.toList).1.any fun r => spaceB (r : Int)) := by unfold wordB; simp [h0, h64, hok, Hid]
        have g1 : (0 : Int) < s.size := by omega
        have g2 : (s.size : Int) ≤ 64 := by omega
        have hlen : (runes s.data.toList).1.length ≤ 64 := by have := runes_length s.data.toList; have := Lib.size_eq s; omega
        clear hok h0 h64 hs
        go_wp2_with fail
        refine (classes_any _).mono ?_
        rintro e w2 ⟨hb2, b, rfl, hcell⟩
        go_wp2_with fail
        have hrd2 : Rd w2 A (((runes s.data.toList).1.map fun r : Nat => (r : Int)).map (.int .i64)) := by
          rw [List.map_map]; exact hrd.ext hb2
        have cf := containsFunc_int 137 #[] spaceB A c ((runes s.data.toList).1.map fun r : Nat => (r : Int)) w2 (space_pred w2) hrd2 (by rw [List.length_map]; omega)
        rw [List.length_map, List.any_map] at cf
        refine cf.mono ?_
        rintro e w3 ⟨rfl, hb3⟩
        clear hrd hrd2 cf hcell
        go_wp2
        go_ret
        exact ⟨by rw [H.out]; rfl, ext_trans (ext_trans hb1 hb2) hb3⟩
      · have H : Hid (wordB s = false) := by unfold wordB; rw [show decide (s.size ≤ 64) = false by simpa using h64]; rfl
        have g1 : (0 : Int) < s.size := by omega
        have g2 : ¬ (s.size : Int) ≤ 64 := by omega
        clear hok h0 h64 hs
        go_wp2
        go_ret
        exact ⟨by rw [H.out]; rfl, hb1⟩
    · have H : Hid (wordB s = false) := by unfold wordB; rw [show decide (0 < s.size) = false by simpa using h0]; simp [Hid]
      have g1 : ¬ (0 : Int) < s.size := by omega
      clear hok h0 hs
      go_wp2
      go_ret
      exact ⟨by rw [H.out]; rfl, hb1⟩
end Go.Proofs.YtneanannicacnaaDoor
