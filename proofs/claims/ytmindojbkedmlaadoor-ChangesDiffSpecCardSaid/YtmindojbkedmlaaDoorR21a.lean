/- Reference 21: Step; Error of right lists. -/
import Derived.Test.YtmindojbkedmlaaDoorM3
import Derived.Test.YtmindojbkedmlaaDoorM4
import Derived.Test.YtmindojbkedmlaaDoorM2
import Derived.BigQuiet
import Derived.OwnWalk
namespace Go.Proofs.YtmindojbkedmlaaDoor
open Go.RowKit Go.Han
attribute [local irreducible] wpStill wpQuiet
set_option maxRecDepth 100000

theorem results_tmp4 {fn : Func} {t u v x : Tmp} (h : fn.results = #[.tmp t, .tmp u, .tmp v, .tmp x]) (tmps : Array Value) (P : Program) (w : World) :
    (results fn tmps).run P w = .ok (.tuple #[tmps.getD t undef, tmps.getD u undef, tmps.getD v undef, tmps.getD x undef]) w := by
  simp [results, h]
def StepR (a b : StrS) (j i k : Nat) (w : World) (e : Ending) (w' : World) : Prop :=
  e = .returned (.tuple #[.int .i64 (stI j i : Nat), .int .i64 (stK j k : Nat), .int .i64 (stC j : Nat), .bool (stOk a.xs b.xs j i k)]) ∧ Below w.heap.size w w'
theorem cast_succ' (i : Nat) : ((i + 1 : Nat) : Int) = (i : Int) + 1 := by omega
set_option maxHeartbeats 1000000 in
theorem step21r_0 (a b : StrS) (i k : Nat) (w : World) (hi : i ≤ 64) (hk : k ≤ 64) (ha : a.lies w) (hb : b.lies w) :
    Calls Tryd.prog 60 #[.slice a.addr a.xs.length a.cap, .slice b.addr b.xs.length b.cap, .int .i64 (i : Int), .int .i64 (k : Int), .int .i64 1] w (StepR a b 0 i k w) := by
  have hw1 : IntKind.i64.wrap ((i : Int) + 1) = (i : Int) + 1 := by rw [IntKind.wrap_i64]; omega
  have hw2 : IntKind.i64.wrap ((k : Int) + 1) = (k : Int) + 1 := by rw [IntKind.wrap_i64]; omega
  unfold StepR
  rw [show stI 0 i = i + 1 from rfl, show stK 0 k = k + 1 from rfl, show stC 0 = 0 from rfl, show stOk a.xs b.xs 0 i k = eqAt a.xs b.xs i k from rfl, cast_succ', cast_succ']
  by_cases h1 : i < a.xs.length
  · by_cases h2 : k < b.xs.length
    · rw [eqAt_in h1 h2]
      obtain ⟨ba, oa, hae, hab, hac⟩ := ha.str i h1
      obtain ⟨bb, ob, hbe, hbb, hbc⟩ := hb.str k h2
      have i2 : (i : Int) < a.xs.length := by omega
      have k2 : (k : Int) < b.xs.length := by omega
      have c1 := fun p => cell_ext (w := w) (a := ⟨ba, oa + i, none⟩) hab hac p
      have c2 := fun p => cell_ext (w := w) (a := ⟨bb, ob + k, none⟩) hbb hbc p
      rw [hae, hbe]
      clear ha hb hae hbe hac hbc
      generalize a.xs[i] = x at *
      generalize b.xs[k] = y at *
      by_cases hxy : x = y
      · have q1 : (x.toList == y.toList) = true := by rw [text_beq]; exact decide_eq_true hxy
        have q2 : (x.toList != y.toList) = false := by rw [bne, q1]; rfl
        rw [decide_eq_true hxy]
        clear hxy
        go_enter Tryd.func60, Tryd.ntmps60
        go_wp2_with fail
        refine wp_region_ext (by kernel_rfl) (by kernel_rfl) ?_
        repeat (go_big_quiet_step (fail))
        refine wpQuiet_nil ?_
        intro _ hw'
        obtain ⟨p, rfl⟩ := hw'
        have he := p.ext
        generalize p.to = V at *
        go_wp2_with fail
        (try simp only [Exit.inBlock, Exit.then])
        exact bodyPost_ret (results_tmp4 rfl _ _ _) rfl ⟨by first | rfl | (simp; done), he⟩
      · have q1 : (x.toList == y.toList) = false := by rw [text_beq]; exact decide_eq_false hxy
        have q2 : (x.toList != y.toList) = true := by rw [bne, q1]; rfl
        rw [decide_eq_false hxy]
        clear hxy
        go_enter Tryd.func60, Tryd.ntmps60
        go_wp2_with fail
        refine wp_region_ext (by kernel_rfl) (by kernel_rfl) ?_
        repeat (go_big_quiet_step (fail))
        refine wpQuiet_nil ?_
        intro _ hw'
        obtain ⟨p, rfl⟩ := hw'
        have he := p.ext
        generalize p.to = V at *
        go_wp2_with fail
        (try simp only [Exit.inBlock, Exit.then])
        exact bodyPost_ret (results_tmp4 rfl _ _ _) rfl ⟨by first | rfl | (simp; done), he⟩
    · rw [eqAt_ne (fun h => h2 h.2)]
      have e1 : decide (i < a.xs.length) = true := decide_eq_true h1
      have e2 : decide (k < b.xs.length) = false := decide_eq_false h2
      clear h1 h2 ha hb
      go_enter Tryd.func60, Tryd.ntmps60
      go_wp2_with fail
      refine wp_region_ext (by kernel_rfl) (by kernel_rfl) ?_
      repeat (go_big_quiet_step (fail))
      refine wpQuiet_nil ?_
      intro _ hw'
      obtain ⟨p, rfl⟩ := hw'
      have he := p.ext
      generalize p.to = V at *
      go_wp2_with fail
      (try simp only [Exit.inBlock, Exit.then])
      exact bodyPost_ret (results_tmp4 rfl _ _ _) rfl ⟨by first | rfl | (simp; done), he⟩
  · rw [eqAt_ne (fun h => h1 h.1)]
    have e1 : decide (i < a.xs.length) = false := decide_eq_false h1
    clear h1 ha hb
    go_enter Tryd.func60, Tryd.ntmps60
    go_wp2_with fail
    refine wp_region_ext (by kernel_rfl) (by kernel_rfl) ?_
    repeat (go_big_quiet_step (fail))
    refine wpQuiet_nil ?_
    intro _ hw'
    obtain ⟨p, rfl⟩ := hw'
    have he := p.ext
    generalize p.to = V at *
    go_wp2_with fail
    (try simp only [Exit.inBlock, Exit.then])
    exact bodyPost_ret (results_tmp4 rfl _ _ _) rfl ⟨by first | rfl | (simp; done), he⟩
set_option maxHeartbeats 1000000 in
theorem step21r_1 (a b : StrS) (i k : Nat) (w : World) (hi : i ≤ 64) (hk : k ≤ 64) (ha : a.lies w) (hb : b.lies w) :
    Calls Tryd.prog 60 #[.slice a.addr a.xs.length a.cap, .slice b.addr b.xs.length b.cap, .int .i64 (i : Int), .int .i64 (k : Int), .int .i64 2] w (StepR a b 1 i k w) := by
  have hw1 : IntKind.i64.wrap ((i : Int) + 1) = (i : Int) + 1 := by rw [IntKind.wrap_i64]; omega
  have hw2 : IntKind.i64.wrap ((k : Int) + 1) = (k : Int) + 1 := by rw [IntKind.wrap_i64]; omega
  unfold StepR
  rw [show stI 1 i = i + 1 from rfl, show stK 1 k = k + 1 from rfl, show stC 1 = 1 from rfl, show stOk a.xs b.xs 1 i k = neAt a.xs b.xs i k from rfl, cast_succ', cast_succ']
  by_cases h1 : i < a.xs.length
  · by_cases h2 : k < b.xs.length
    · rw [neAt_in h1 h2]
      obtain ⟨ba, oa, hae, hab, hac⟩ := ha.str i h1
      obtain ⟨bb, ob, hbe, hbb, hbc⟩ := hb.str k h2
      have i2 : (i : Int) < a.xs.length := by omega
      have k2 : (k : Int) < b.xs.length := by omega
      have c1 := fun p => cell_ext (w := w) (a := ⟨ba, oa + i, none⟩) hab hac p
      have c2 := fun p => cell_ext (w := w) (a := ⟨bb, ob + k, none⟩) hbb hbc p
      rw [hae, hbe]
      clear ha hb hae hbe hac hbc
      generalize a.xs[i] = x at *
      generalize b.xs[k] = y at *
      by_cases hxy : x = y
      · have q1 : (x.toList == y.toList) = true := by rw [text_beq]; exact decide_eq_true hxy
        have q2 : (x.toList != y.toList) = false := by rw [bne, q1]; rfl
        rw [decide_eq_true hxy]
        clear hxy
        go_enter Tryd.func60, Tryd.ntmps60
        go_wp2_with fail
        refine wp_region_ext (by kernel_rfl) (by kernel_rfl) ?_
        repeat (go_big_quiet_step (fail))
        refine wpQuiet_nil ?_
        intro _ hw'
        obtain ⟨p, rfl⟩ := hw'
        have he := p.ext
        generalize p.to = V at *
        go_wp2_with fail
        (try simp only [Exit.inBlock, Exit.then])
        exact bodyPost_ret (results_tmp4 rfl _ _ _) rfl ⟨by first | rfl | (simp; done), he⟩
      · have q1 : (x.toList == y.toList) = false := by rw [text_beq]; exact decide_eq_false hxy
        have q2 : (x.toList != y.toList) = true := by rw [bne, q1]; rfl
        rw [decide_eq_false hxy]
        clear hxy
        go_enter Tryd.func60, Tryd.ntmps60
        go_wp2_with fail
        refine wp_region_ext (by kernel_rfl) (by kernel_rfl) ?_
        repeat (go_big_quiet_step (fail))
        refine wpQuiet_nil ?_
        intro _ hw'
        obtain ⟨p, rfl⟩ := hw'
        have he := p.ext
        generalize p.to = V at *
        go_wp2_with fail
        (try simp only [Exit.inBlock, Exit.then])
        exact bodyPost_ret (results_tmp4 rfl _ _ _) rfl ⟨by first | rfl | (simp; done), he⟩
    · rw [neAt_ne (fun h => h2 h.2)]
      have e1 : decide (i < a.xs.length) = true := decide_eq_true h1
      have e2 : decide (k < b.xs.length) = false := decide_eq_false h2
      clear h1 h2 ha hb
      go_enter Tryd.func60, Tryd.ntmps60
      go_wp2_with fail
      refine wp_region_ext (by kernel_rfl) (by kernel_rfl) ?_
      repeat (go_big_quiet_step (fail))
      refine wpQuiet_nil ?_
      intro _ hw'
      obtain ⟨p, rfl⟩ := hw'
      have he := p.ext
      generalize p.to = V at *
      go_wp2_with fail
      (try simp only [Exit.inBlock, Exit.then])
      exact bodyPost_ret (results_tmp4 rfl _ _ _) rfl ⟨by first | rfl | (simp; done), he⟩
  · rw [neAt_ne (fun h => h1 h.1)]
    have e1 : decide (i < a.xs.length) = false := decide_eq_false h1
    clear h1 ha hb
    go_enter Tryd.func60, Tryd.ntmps60
    go_wp2_with fail
    refine wp_region_ext (by kernel_rfl) (by kernel_rfl) ?_
    repeat (go_big_quiet_step (fail))
    refine wpQuiet_nil ?_
    intro _ hw'
    obtain ⟨p, rfl⟩ := hw'
    have he := p.ext
    generalize p.to = V at *
    go_wp2_with fail
    (try simp only [Exit.inBlock, Exit.then])
    exact bodyPost_ret (results_tmp4 rfl _ _ _) rfl ⟨by first | rfl | (simp; done), he⟩
set_option maxHeartbeats 1000000 in
theorem step21r_2 (a b : StrS) (i k : Nat) (w : World) (hi : i ≤ 64) (hk : k ≤ 64) :
    Calls Tryd.prog 60 #[.slice a.addr a.xs.length a.cap, .slice b.addr b.xs.length b.cap, .int .i64 (i : Int), .int .i64 (k : Int), .int .i64 3] w (StepR a b 2 i k w) := by
  have hw1 : IntKind.i64.wrap ((i : Int) + 1) = (i : Int) + 1 := by rw [IntKind.wrap_i64]; omega
  have hw2 : IntKind.i64.wrap ((k : Int) + 1) = (k : Int) + 1 := by rw [IntKind.wrap_i64]; omega
  unfold StepR
  rw [show stI 2 i = i + 1 from rfl, show stK 2 k = k from rfl, show stC 2 = 1 from rfl, show stOk a.xs b.xs 2 i k = decide (i < a.xs.length) from rfl, cast_succ']
  by_cases h1 : i < a.xs.length <;> by_cases h2 : k < b.xs.length
  all_goals
    (first | rw [decide_eq_true (show i < a.xs.length from by assumption)] | rw [decide_eq_false (show ¬ i < a.xs.length from by assumption)])
    go_enter Tryd.func60, Tryd.ntmps60
    go_wp2_with fail
    (try simp only [Exit.inBlock, Exit.then])
    exact bodyPost_ret (results_tmp4 rfl _ _ _) rfl ⟨by first | rfl | (simp; done) | (simp; omega), Below.refl _ _⟩
set_option maxHeartbeats 1000000 in
theorem step21r_3 (a b : StrS) (i k : Nat) (w : World) (hi : i ≤ 64) (hk : k ≤ 64) :
    Calls Tryd.prog 60 #[.slice a.addr a.xs.length a.cap, .slice b.addr b.xs.length b.cap, .int .i64 (i : Int), .int .i64 (k : Int), .int .i64 4] w (StepR a b 3 i k w) := by
  have hw1 : IntKind.i64.wrap ((i : Int) + 1) = (i : Int) + 1 := by rw [IntKind.wrap_i64]; omega
  have hw2 : IntKind.i64.wrap ((k : Int) + 1) = (k : Int) + 1 := by rw [IntKind.wrap_i64]; omega
  unfold StepR
  rw [show stI 3 i = i from rfl, show stK 3 k = k + 1 from rfl, show stC 3 = 1 from rfl, show stOk a.xs b.xs 3 i k = decide (k < b.xs.length) from rfl, cast_succ']
  by_cases h1 : i < a.xs.length <;> by_cases h2 : k < b.xs.length
  all_goals
    (first | rw [decide_eq_true (show k < b.xs.length from by assumption)] | rw [decide_eq_false (show ¬ k < b.xs.length from by assumption)])
    go_enter Tryd.func60, Tryd.ntmps60
    go_wp2_with fail
    (try simp only [Exit.inBlock, Exit.then])
    exact bodyPost_ret (results_tmp4 rfl _ _ _) rfl ⟨by first | rfl | (simp; done) | (simp; omega), Below.refl _ _⟩
theorem step21r (a b : StrS) (j i k : Nat) (w : World) (hj : j < 4) (hi : i ≤ 64) (hk : k ≤ 64) (ha : a.lies w) (hb : b.lies w) :
    Calls Tryd.prog 60 #[.slice a.addr a.xs.length a.cap, .slice b.addr b.xs.length b.cap, .int .i64 (i : Int), .int .i64 (k : Int), .int .i64 ((j : Int) + 1)] w (StepR a b j i k w) := by
  rcases (show j = 0 ∨ j = 1 ∨ j = 2 ∨ j = 3 by omega) with rfl | rfl | rfl | rfl
  · exact step21r_0 a b i k w hi hk ha hb
  · exact step21r_1 a b i k w hi hk ha hb
  · exact step21r_2 a b i k w hi hk
  · exact step21r_3 a b i k w hi hk
end Go.Proofs.YtmindojbkedmlaaDoor
