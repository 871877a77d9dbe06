/- Contracts of package text: whether a text is a word. -/
import Derived.Test.YtneanannicacnaaDoorPoints
import Derived.Test.YtneanannicacnaaDoorCollect
namespace Go.Proofs.YtneanannicacnaaDoor
open Go.RowKit Go.Han

/-- A function value that tests an int, and turns nothing that was there. -/
def PredInt (g : Nat) (lb : Array Value) (p : Int → Bool) (w : World) : Prop :=
  (∀ args w, (callFunc g args).run Tryd.prog w = .ok (.enter g args) w) ∧ ∀ (x : Int) (W : World), Below w.heap.size w W → Calls Tryd.prog g (#[.int .i64 x] ++ lb) W fun e w' => e = .returned (.bool (p x)) ∧ Below W.heap.size W w'

def IdxPost (p : Int → Bool) (l : List Int) (w : World) (e : Ending) (w' : World) : Prop :=
  Below w.heap.size w w' ∧ ∃ i : Int, e = .returned (.int .i64 i) ∧ (0 ≤ i ↔ l.any p = true)

set_option maxHeartbeats 400000 in
theorem indexFunc_int (g : Nat) (lb : Array Value) (p : Int → Bool) (A : Option Addr) (c : Nat) (l : List Int) (w : World) (hp : PredInt g lb p w) (hr : Rd w A (l.map (.int .i64))) (hl : l.length ≤ 9223372036854775807) :
    Calls Tryd.prog 136 #[.slice A l.length c, .func (.func g) #[] lb] w (IdxPost p l w) := by
  go_enter Tryd.func136, Tryd.ntmps136
  go_wp2
  go_loopw [5, 8] (fun _ i wr => ∃ k : Nat, k ≤ l.length ∧ i = .int .i64 k ∧ Below w.heap.size w wr ∧ Hid (∀ x ∈ l.take k, p x = false)) (fun _ i _ => l.length - (intOf i).toNat)
  case atStart => exact ⟨0, Nat.zero_le _, rfl, Below.refl _ _, by simp [Hid]⟩
  case round =>
    obtain ⟨k, hk, rfl, hB, HR⟩ := hrel
    have hz := hB.size
    by_cases hlt : k < l.length
    · obtain ⟨b, off, rfl, hb, hc⟩ := hr.at_ (k := k) (by simpa using hlt)
      have hck : wr.cell? ⟨b, off + k, none⟩ = some (.int .i64 l[k]) := (hB.cell (p := ⟨b, off + k, none⟩) hb).trans (hc k _ (by simp [hlt]))
      clear hc hr
      have Hp := Lib.hid (hp.2 l[k] wr hB)
      have eg := hp.1
      go_wp2_with fail
      refine Hp.out.mono ?_
      rintro e w1 ⟨rfl, hb1⟩
      have hB1 : Below w.heap.size w w1 := hB.trans (hb1.mono hz)
      generalize hpb : p l[k] = pb
      have Hpb := Lib.hid hpb
      clear hpb Hp hck
      cases pb
      · go_wp2
        go_roundw
        case rel =>
          refine ⟨k + 1, by omega, by go_num, hB1, ?_⟩
          intro x hx
          rw [List.take_succ_eq_append_getElem hlt, List.mem_append] at hx
          rcases hx with hx | hx
          · exact HR.out x hx
          · simp at hx; rw [hx]; exact Hpb.out
        case measure => simp [intOf]; omega
      · go_wp2
        go_ret
        exact ⟨hB1, k, rfl, by simp; exact ⟨l[k], List.getElem_mem _, Hpb.out⟩⟩
    · go_wp2
      go_ret
      have : k = l.length := by omega
      subst this
      refine ⟨hB, -1, rfl, by simp; intro x hx; exact HR.out x (by simpa using hx)⟩
theorem containsFunc_int (g : Nat) (lb : Array Value) (p : Int → Bool) (A : Option Addr) (c : Nat) (l : List Int) (w : World) (hp : PredInt g lb p w) (hr : Rd w A (l.map (.int .i64))) (hl : l.length ≤ 9223372036854775807) :
    Calls Tryd.prog 122 #[.slice A l.length c, .func (.func g) #[] lb] w fun e w' => e = .returned (.bool (l.any p)) ∧ Below w.heap.size w w' := by
  go_enter Tryd.func122, Tryd.ntmps122
  go_wp2_with fail
  refine (indexFunc_int g lb p A c l w hp hr hl).mono ?_
  rintro e w1 ⟨hb1, i, rfl, hi⟩
  by_cases h : 0 ≤ i
  · have h2 := Lib.hid (hi.1 h)
    clear hi
    go_wp2
    go_ret
    rw [h2.out]
    exact ⟨rfl, hb1⟩
  · have h2 : Hid (l.any p = false) := by
      have : ¬ l.any p = true := fun e => h (hi.2 e)
      simpa [Hid] using this
    have h3 : decide (0 ≤ i) = false := by simpa using h
    clear hi h
    go_wp2
    go_ret
    rw [h2.out]
    exact ⟨rfl, hb1⟩
/-- A space, as package text has it. -/
def spaceB (r : Int) : Bool := r == 32 || r == 9 || r == 10 || r == 13
theorem classes1_any (r : Int) (w : World) : Calls Tryd.prog 137 #[.int .i64 r] w fun e w' => e = .returned (.bool (spaceB r)) ∧ Below w.heap.size w w' := by
  go_enter Tryd.func137, Tryd.ntmps137
  go_wp2
  all_goals go_ret
  all_goals (refine ⟨?_, Below.refl _ _⟩; simp [spaceB, *])


end Go.Proofs.YtneanannicacnaaDoor
