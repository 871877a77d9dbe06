/- ChangesThere: plain facts; begins. -/
import Derived.Test.YtmindojbkedmlaaDoorM7
namespace Go.Proofs.YtmindojbkedmlaaDoor
open Go.RowKit Go.Han
attribute [local irreducible] wpStill wpQuiet
set_option maxRecDepth 100000

/-- Of a sentence of the list, whether it is the next of those that are touched. -/
theorem idx_next {S : List StrS} {P : StrS → Bool} {i : Nat} (h : i < S.length) (k : Nat) (hk : k = (idxT S P i).length) :
    (P S[i] = true → ∃ hl : k < (idxT S P S.length).length, (idxT S P S.length)[k] = i) ∧ (P S[i] = false → ∀ hl : k < (idxT S P S.length).length, (idxT S P S.length)[k] ≠ i) := by
  subst hk
  have hs := idxT_succ (P := P) h
  constructor
  · intro hp
    rw [if_pos hp] at hs
    obtain ⟨t, ht⟩ := idxT_prefix S P (show i + 1 ≤ S.length from h)
    rw [hs] at ht
    refine ⟨by rw [← ht]; simp, ?_⟩
    simp only [← ht]
    simp
  · intro hp hl
    rw [if_neg (by rw [hp]; decide), List.append_nil] at hs
    have e : List.range S.length = List.range (i + 1) ++ (List.range S.length).drop (i + 1) := by
      conv => lhs; rw [← List.take_append_drop (i + 1) (List.range S.length)]
      rw [List.take_range, Nat.min_eq_left h]
    have e2 : idxT S P S.length = idxT S P (i + 1) ++ ((List.range S.length).drop (i + 1)).filter (idxB S P) := by unfold idxT; rw [← List.filter_append, ← e]
    rw [hs] at e2
    have hmem : (idxT S P S.length)[(idxT S P i).length] ∈ ((List.range S.length).drop (i + 1)).filter (idxB S P) := by
      simp only [e2]
      rw [List.getElem_append_right (Nat.le_refl _)]
      exact List.getElem_mem _
    intro hh
    rw [hh] at hmem
    have := (List.mem_filter.1 hmem).1
    obtain ⟨j, hj, hji⟩ := List.mem_iff_getElem.1 this
    simp at hji
    omega
theorem idx_len_le (S : List StrS) (P : StrS → Bool) (i : Nat) : (idxT S P i).length ≤ i := by
  unfold idxT
  refine Nat.le_trans (List.length_filter_le _ _) ?_
  simp
theorem touchB_cons {x : Term} {b : ByteArray} {ws : List ByteArray} (h : touchB x ws = true) : touchB x (b :: ws) = true := by
  unfold touchB at h ⊢
  obtain ⟨i, hi, hs⟩ := List.any_eq_true.1 h
  have hi := List.mem_range.1 hi
  exact List.any_eq_true.2 ⟨i + 1, List.mem_range.2 (by simp; omega), hs⟩
/-- What is asked of the sentences that are made longer. -/
def moreOk (x : Term) (M : List StrS) : Prop := ∀ s ∈ M, touchB x s.xs = true
theorem moreOk_len {x : Term} {M : List StrS} (h : moreOk x M) : (touchL x M).length = M.length := by
  unfold touchL idxT
  rw [List.filter_eq_self.2, List.length_range]
  intro i hi
  have hi := List.mem_range.1 hi
  unfold idxB
  rw [List.getElem?_eq_getElem hi]
  exact h _ (List.getElem_mem hi)
theorem there_more {l : List Term} {x : Term} {M : List StrS} (h0 : addE l x = 0) (hl : M.length ≤ 4096) (hs : ∀ s ∈ M, s.xs.length ≤ 16) (hm : moreOk x M) :
    (touchE l x M = 280) ∨ (touchE l x M = 0 ∧ (touchO l x M).length = M.length) := by
  have h2 : longS M = false := by
    unfold longS
    rw [List.any_eq_false]
    intro s h
    have := hs s h
    simp; omega
  cases h3 : wrongS M
  · have h4 := touE0 h0 (by omega) h2 h3
    refine .inr ⟨h4, ?_⟩
    unfold touchO
    rw [if_pos h4]
    exact moreOk_len hm
  · exact .inl (touE4 h0 (by omega) h2 h3)
theorem there_zero {l : List Term} {x : Term} {S : List StrS} (h : touchE l x S = 0) : addE l x = 0 ∧ touchE [] x S = 0 ∧ touchO l x S = touchL x S ∧ touchO [] x S = touchL x S := by
  have h' := h
  unfold touchE at h
  split at h
  · rename_i h1; exact absurd h h1
  · rename_i h1
    have h0 : addE l x = 0 := by simpa using h1
    have hx := add_ok h0
    have h00 : addE [] x = 0 := by
      unfold addE
      rw [if_neg (by intro h; exact h (by kernel_rfl)), if_neg (by rw [hx]; decide), if_neg (by intro h; cases h), if_neg (by intro h; cases h)]
    have hz : touchE [] x S = 0 := by
      unfold touchE
      rw [if_neg (by intro h; exact h h00)]
      exact h
    exact ⟨h0, hz, by unfold touchO; rw [if_pos h'], by unfold touchO; rw [if_pos hz]⟩
def begB (ws src : Ws) : Bool := decide (ws.take src.length = src)
theorem beg_long {ws src : Ws} (h : ws.length < src.length) : begB ws src = false := by
  unfold begB
  refine decide_eq_false fun e => ?_
  have := congrArg List.length e
  simp at this; omega
set_option maxHeartbeats 1000000 in
theorem begins_any (s x : StrS) (w : World) (hs : s.lies w) (hx : x.lies w) : Calls Tryd.prog 15 #[.slice s.addr s.xs.length s.cap, .slice x.addr x.xs.length x.cap] w fun e w' => e = .returned (.bool (begB s.xs x.xs)) ∧ Below w.heap.size w w' := by
  have hmx := hx.max
  have hcx := hx.cap
  by_cases hl : s.xs.length < x.xs.length
  · rw [beg_long hl]
    have g1 : (s.xs.length : Int) < x.xs.length := by omega
    go_enter Tryd.func15, Tryd.ntmps15
    go_wp2_with fail
    go_ret
    exact ⟨rfl, Below.refl _ _⟩
  · have g1 : ¬ (s.xs.length : Int) < x.xs.length := by omega
    have HS := Lib.hid hs
    have HX := Lib.hid hx
    clear hs hx
    go_enter Tryd.func15, Tryd.ntmps15
    go_wp2_with fail
    go_loopw [14] (fun i wr => ∃ k : Nat, k ≤ x.xs.length ∧ i = .int .i64 k ∧ Below w.heap.size w wr ∧ Hid (s.xs.take k = x.xs.take k)) (fun i _ => x.xs.length - (intOf i).toNat)
    case atStart => exact ⟨0, Nat.zero_le _, rfl, Below.refl _ _, rfl⟩
    case round =>
      obtain ⟨k, hk, rfl, hB, HR⟩ := hrel
      by_cases hlt : k < x.xs.length
      · have hlt' : k < s.xs.length := by omega
        obtain ⟨b1, o1, e1, hb1, hc1⟩ := HS.out.rd.at_ (k := k) (by unfold strs; simpa using hlt')
        obtain ⟨b2, o2, e2, hb2, hc2⟩ := HX.out.rd.at_ (k := k) (by unfold strs; simpa using hlt)
        have d1 := (hB.cell (p := ⟨b1, o1 + k, none⟩) hb1).trans (hc1 k (.string s.xs[k]) (by unfold strs; simp [hlt']))
        have d2 := (hB.cell (p := ⟨b2, o2 + k, none⟩) hb2).trans (hc2 k (.string x.xs[k]) (by unfold strs; simp [hlt]))
        rw [e1, e2]
        have Hs1 := Lib.hid (List.take_succ_eq_append_getElem hlt')
        have Hs2 := Lib.hid (List.take_succ_eq_append_getElem hlt)
        have Hne : Hid (s.xs[k] ≠ x.xs[k] → begB s.xs x.xs = false) := by
          intro hne
          refine decide_eq_false fun e => hne ?_
          have : (s.xs.take x.xs.length)[k]'(by simp; omega) = x.xs[k] := by simp only [e]
          simpa using this
        have z1 : (k : Int) < x.xs.length := by omega
        have z2 : (k : Int) < s.xs.length := by omega
        clear hc1 hc2
        generalize s.xs[k] = y at *
        generalize x.xs[k] = z at *
        by_cases hyz : y = z
        · subst hyz
          have q1 : (y.toList != y.toList) = false := by simp
          have q2 : (y.toList == y.toList) = true := by simp
          have HN : Hid (s.xs.take (k + 1) = x.xs.take (k + 1)) := by show _ = _; rw [Hs1.out, Hs2.out, HR.out]
          clear e1 e2
          go_wp2_with fail
          go_roundw
          case rel => exact ⟨k + 1, by omega, by go_num, hB, HN⟩
          case measure => simp [intOf]; omega
        · have q1 : (y.toList != z.toList) = true := by rw [bne, text_beq, decide_eq_false hyz]; rfl
          have q2 : (y.toList == z.toList) = false := by rw [text_beq, decide_eq_false hyz]
          have q3 : decide (y = z) = false := decide_eq_false hyz
          have HBF := Lib.hid (Hne.out hyz)
          clear e1 e2 hyz
          go_wp2_with fail
          go_ret
          exact ⟨by rw [HBF.out]; rfl, hB⟩
      · have HN : Hid (begB s.xs x.xs = true) := by
          obtain rfl : k = x.xs.length := by omega
          have h := HR.out
          rw [List.take_length] at h
          exact decide_eq_true h
        go_wp2_with fail
        go_ret
        exact ⟨by rw [HN.out]; rfl, hB⟩
end Go.Proofs.YtmindojbkedmlaaDoor
