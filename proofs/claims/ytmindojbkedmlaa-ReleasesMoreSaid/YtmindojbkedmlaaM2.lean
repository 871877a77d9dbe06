/- Texts of this claim, one after the other: Rel1, Quiet, Hou1, Hou2, Hou3, Hou4, Hou5, Aud1, HouB. -/
import Derived.Test.YtmindojbkedmlaaM1
import Derived.Deep.QuietTactic
import Derived.Laws.EntriesVeiled
import Derived.IntWalk
/- Releases: comparing steps and spans. -/
namespace Go.Proofs.Ytmindojbkedmlaa
open Go.RowKit Go.Han
attribute [local irreducible] wpStill wpQuiet
set_option maxRecDepth 100000

theorem run_equalIn_stp (a b a' b' : Int) (w : World) : (Op.equalIn 10000 47 (.agg #[.int .i64 a, .int .i64 b, .bool true]) (.agg #[.int .i64 a', .int .i64 b', .bool true])).run Try.prog w = .ok (decide (a = a' ∧ b = b')) w := by
  by_cases e1 : a = a'
  · by_cases e2 : b = b'
    · simp [go_sem, e1, e2]
    · simp [go_sem, e1, e2]
  · simp [go_sem, e1]
set_option maxHeartbeats 1000000 in
theorem sameSteps_any (A B : Option Addr) (c d : Nat) (l l' : List Stp) (w : World) (hr : Rd w A (pflat l)) (hr' : Rd w B (pflat l')) (hm : l.length ≤ 9223372036854775807) :
    Calls Try.prog 19 #[.slice A l.length c, .slice B l'.length d] w fun e w' => e = .returned (.bool (decide (l = l'))) ∧ Below w.heap.size w w' := by
  by_cases hl : l.length = l'.length
  · have hne : ((l.length : Int) != (l'.length : Int)) = false := by simp [hl]
    have Hl := Lib.hid hl
    clear hl
    go_enter Try.func19, Try.ntmps19
    go_wp2_with fail
    go_loopw [5] (fun i wr => ∃ k : Nat, k ≤ l.length ∧ i = .int .i64 k ∧ Below w.heap.size w wr ∧ Hid (l.take k = l'.take k)) (fun i _ => l.length - (intOf i).toNat)
    case atStart => exact ⟨0, Nat.zero_le _, rfl, Below.refl _ _, rfl⟩
    case round =>
      obtain ⟨k, hk, rfl, hB, HR⟩ := hrel
      by_cases hlt : k < l.length
      · have hlt' : k < l'.length := by have := Hl.out; omega
        obtain ⟨b, off, rfl, hb, hc⟩ := hr.elem Stp.size_cells (by omega) hlt
        obtain ⟨b', off', rfl, hb', hc'⟩ := hr'.elem Stp.size_cells (by omega) hlt'
        have h0 := (hB.cell (p := ⟨b, off + k * 3 + 0, none⟩) hb).trans (hc 0 _ rfl)
        have h1 := (hB.cell (p := ⟨b, off + k * 3 + 1, none⟩) hb).trans (hc 1 _ rfl)
        have h2 := (hB.cell (p := ⟨b, off + k * 3 + 2, none⟩) hb).trans (hc 2 _ rfl)
        have h0' := (hB.cell (p := ⟨b', off' + k * 3 + 0, none⟩) hb').trans (hc' 0 _ rfl)
        have h1' := (hB.cell (p := ⟨b', off' + k * 3 + 1, none⟩) hb').trans (hc' 1 _ rfl)
        have h2' := (hB.cell (p := ⟨b', off' + k * 3 + 2, none⟩) hb').trans (hc' 2 _ rfl)
        simp only [Nat.add_zero] at h0 h0'
        have hq := fun (w : World) => run_equalIn_stp l[k].at_ l[k].state l'[k].at_ l'[k].state w
        have htk : l.take (k + 1) = l.take k ++ [l[k]] := List.take_succ_eq_append_getElem hlt
        have htk' : l'.take (k + 1) = l'.take k ++ [l'[k]] := List.take_succ_eq_append_getElem hlt'
        have Htk := Lib.hid htk
        have Htk' := Lib.hid htk'
        have hf : Hid (l = l' → l[k] = l'[k]) := by rintro rfl; rfl
        clear hc hr hc' hr' htk htk'
        generalize l[k] = x at *
        generalize l'[k] = y at *
        obtain ⟨t, v⟩ := x
        obtain ⟨t', v'⟩ := y
        simp only at hq h0 h1 h2 h0' h1' h2'
        by_cases hxy : t = t' ∧ v = v'
        · rw [decide_eq_true hxy] at hq
          have HE := Lib.hid hxy
          clear hxy hf
          go_wp2_with fail
          go_still (by kernel_rfl)
          go_wp2
          go_roundw
          case rel => exact ⟨k + 1, by omega, by go_num, hB.drew, by show _ = _; rw [Htk.out, Htk'.out, HR.out, HE.out.1, HE.out.2]⟩
          case measure => simp [intOf]; omega
        · rw [decide_eq_false hxy] at hq
          have HF : Hid (decide (l = l') = false) := decide_eq_false (fun h => hxy (by have h1 := hf.out h; injection h1 with h2 h3; exact ⟨h2, h3⟩))
          clear hxy hf
          go_wp2_with fail
          go_still (by kernel_rfl)
          go_wp2
          go_ret
          exact ⟨by rw [HF.out]; rfl, hB.drew⟩
      · have HF : Hid (decide (l = l') = true) := by
          refine decide_eq_true ?_
          obtain rfl : k = l.length := by omega
          have h := HR.out
          rw [List.take_length, List.take_of_length_le (by have := Hl.out; omega)] at h
          exact h
        clear HR
        go_wp2_with fail
        go_ret
        exact ⟨by rw [HF.out]; rfl, hB⟩
  · have hne : ((l.length : Int) != (l'.length : Int)) = true := by simp; omega
    have HF : Hid (decide (l = l') = false) := decide_eq_false (fun h => hl (by rw [h]))
    clear hl
    go_enter Try.func19, Try.ntmps19
    go_wp2_with fail
    go_ret
    exact ⟨by rw [HF.out]; rfl, Below.refl _ _⟩

theorem run_equalIn_spn (a b a' b' : Int) (w : World) : (Op.equalIn 10000 76 (.agg #[.int .i64 a, .int .i64 b]) (.agg #[.int .i64 a', .int .i64 b'])).run Try.prog w = .ok (decide (a = a' ∧ b = b')) w := by
  by_cases e1 : a = a'
  · by_cases e2 : b = b'
    · simp [go_sem, e1, e2]
    · simp [go_sem, e1, e2]
  · simp [go_sem, e1]
set_option maxHeartbeats 1000000 in
theorem sameSpans_any (A B : Option Addr) (c d : Nat) (l l' : List Spn) (w : World) (hr : Rd w A (nflat l)) (hr' : Rd w B (nflat l')) (hm : l.length ≤ 9223372036854775807) :
    Calls Try.prog 20 #[.slice A l.length c, .slice B l'.length d] w fun e w' => e = .returned (.bool (decide (l = l'))) ∧ Below w.heap.size w w' := by
  by_cases hl : l.length = l'.length
  · have hne : ((l.length : Int) != (l'.length : Int)) = false := by simp [hl]
    have Hl := Lib.hid hl
    clear hl
    go_enter Try.func20, Try.ntmps20
    go_wp2_with fail
    go_loopw [5] (fun i wr => ∃ k : Nat, k ≤ l.length ∧ i = .int .i64 k ∧ Below w.heap.size w wr ∧ Hid (l.take k = l'.take k)) (fun i _ => l.length - (intOf i).toNat)
    case atStart => exact ⟨0, Nat.zero_le _, rfl, Below.refl _ _, rfl⟩
    case round =>
      obtain ⟨k, hk, rfl, hB, HR⟩ := hrel
      by_cases hlt : k < l.length
      · have hlt' : k < l'.length := by have := Hl.out; omega
        obtain ⟨b, off, rfl, hb, hc⟩ := hr.elem Spn.size_cells (by omega) hlt
        obtain ⟨b', off', rfl, hb', hc'⟩ := hr'.elem Spn.size_cells (by omega) hlt'
        have h0 := (hB.cell (p := ⟨b, off + k * 2 + 0, none⟩) hb).trans (hc 0 _ rfl)
        have h1 := (hB.cell (p := ⟨b, off + k * 2 + 1, none⟩) hb).trans (hc 1 _ rfl)
        have h0' := (hB.cell (p := ⟨b', off' + k * 2 + 0, none⟩) hb').trans (hc' 0 _ rfl)
        have h1' := (hB.cell (p := ⟨b', off' + k * 2 + 1, none⟩) hb').trans (hc' 1 _ rfl)
        simp only [Nat.add_zero] at h0 h0'
        have hq := fun (w : World) => run_equalIn_spn l[k].frm l[k].until_ l'[k].frm l'[k].until_ w
        have htk : l.take (k + 1) = l.take k ++ [l[k]] := List.take_succ_eq_append_getElem hlt
        have htk' : l'.take (k + 1) = l'.take k ++ [l'[k]] := List.take_succ_eq_append_getElem hlt'
        have Htk := Lib.hid htk
        have Htk' := Lib.hid htk'
        have hf : Hid (l = l' → l[k] = l'[k]) := by rintro rfl; rfl
        clear hc hr hc' hr' htk htk'
        generalize l[k] = x at *
        generalize l'[k] = y at *
        obtain ⟨t, v⟩ := x
        obtain ⟨t', v'⟩ := y
        simp only at hq h0 h1 h0' h1'
        by_cases hxy : t = t' ∧ v = v'
        · rw [decide_eq_true hxy] at hq
          have HE := Lib.hid hxy
          clear hxy hf
          go_wp2_with fail
          go_still (by kernel_rfl)
          go_wp2
          go_roundw
          case rel => exact ⟨k + 1, by omega, by go_num, hB.drew, by show _ = _; rw [Htk.out, Htk'.out, HR.out, HE.out.1, HE.out.2]⟩
          case measure => simp [intOf]; omega
        · rw [decide_eq_false hxy] at hq
          have HF : Hid (decide (l = l') = false) := decide_eq_false (fun h => hxy (by have h1 := hf.out h; injection h1 with h2 h3; exact ⟨h2, h3⟩))
          clear hxy hf
          go_wp2_with fail
          go_still (by kernel_rfl)
          go_wp2
          go_ret
          exact ⟨by rw [HF.out]; rfl, hB.drew⟩
      · have HF : Hid (decide (l = l') = true) := by
          refine decide_eq_true ?_
          obtain rfl : k = l.length := by omega
          have h := HR.out
          rw [List.take_length, List.take_of_length_le (by have := Hl.out; omega)] at h
          exact h
        clear HR
        go_wp2_with fail
        go_ret
        exact ⟨by rw [HF.out]; rfl, hB⟩
  · have hne : ((l.length : Int) != (l'.length : Int)) = true := by simp; omega
    have HF : Hid (decide (l = l') = false) := decide_eq_false (fun h => hl (by rw [h]))
    clear hl
    go_enter Try.func20, Try.ntmps20
    go_wp2_with fail
    go_ret
    exact ⟨by rw [HF.out]; rfl, Below.refl _ _⟩
end Go.Proofs.Ytmindojbkedmlaa

/- A region that draws its order, whose operations only read and whose callees may also lay blocks of their own: one walk in the order of the text. -/
namespace Go.Han
open Go.RowKit

/-- A world that has come out of w by draws and new blocks. -/
structure ExtBy (w : World) where
  to : World
  ext : Below w.heap.size w to

instance (w : World) : Nonempty (ExtBy w) := ⟨⟨w, Below.refl _ _⟩⟩

theorem wp_region_ext {P : Program} {id : Nat} {Q : Exit → Act → World → Prop} {a : Act} {w : World} {l : List Oper} (hm : P.follows .mixedOrders = true) (hB : Region.lexB .any l.toArray = true)
    (h : wpQuiet P l.toArray (fun w' => ∃ p : ExtBy w, w' = p.to) (fun a' => ∀ w', (∃ p : ExtBy w, w' = p.to) → Q .normal a' w') l a) : (Code.region id l.toArray true).wp P Q a w :=
  wp_region_quiet (C := fun w' => ∃ p : ExtBy w, w' = p.to) hm hB ⟨⟨_, (Below.refl _ w).drew⟩, rfl⟩ (by simpa using h)
theorem cell_ext {w : World} {a : Addr} {v : Value} (hb : a.block < w.heap.size) (h : w.cell? a = some v) (p : ExtBy w) : p.to.cell? a = some v := (p.ext.cell (p := a) hb).trans h
theorem Calls.ext_of {P : Program} {f : FuncId} {args : Array Value} {w : World} {p : ExtBy w} {v : Value}
    (h : Calls P f args p.to fun e w' => e = .returned v ∧ Below p.to.heap.size p.to w') : Calls P f args p.to fun e w'' => e = .returned v ∧ ∃ q : ExtBy w, w'' = q.to :=
  h.mono fun _ _ ⟨he, hb⟩ => ⟨he, ⟨_, ext_trans p.ext hb⟩, rfl⟩
theorem Calls.ext_same {P : Program} {f : FuncId} {args : Array Value} {w : World} {p : ExtBy w} {v : Value}
    (h : Calls P f args p.to fun e w' => e = .returned v ∧ p.to = w') : Calls P f args p.to fun e w'' => e = .returned v ∧ ∃ q : ExtBy w, w'' = q.to :=
  h.mono fun _ _ ⟨he, hb⟩ => ⟨he, p, hb.symm⟩
end Go.Han

/- Package house: within, span, the conditions, right. -/
namespace Go.Proofs.Ytmindojbkedmlaa
open Go.RowKit Go.Han
attribute [local irreducible] wpStill wpQuiet
set_option maxRecDepth 100000

theorem withinH_any (n lo hi : Int) (w : World) : Calls Try.prog 105 #[.int .i64 n, .int .i64 lo, .int .i64 hi] w fun e w' => e = .returned (.bool (rngB n lo hi)) ∧ w = w' := by
  go_enter Try.func105, Try.ntmps105
  go_wp2
  all_goals go_ret
  · simp [rngB, *]
  · have : ¬ lo ≤ n := by omega
    simp [rngB, *]
theorem spanH_any (a b : Int) (w : World) : Calls Try.prog 110 #[.int .i64 a, .int .i64 b] w fun e w' => e = .returned (.bool (spanB a b)) ∧ w = w' := by
  unfold spanB
  by_cases h1 : 0 ≤ a
  · by_cases h2 : a < b
    · by_cases h3 : b ≤ 1099511627776
      · go_enter Try.func110, Try.ntmps110
        go_wp2
        go_ret
        simp [*]
      · have h3' : decide (b ≤ 1099511627776) = false := decide_eq_false h3
        go_enter Try.func110, Try.ntmps110
        go_wp2
        go_ret
        simp [*]
    · have h2' : decide (a < b) = false := decide_eq_false h2
      go_enter Try.func110, Try.ntmps110
      go_wp2
      go_ret
      simp [*]
  · have h1' : decide (0 ≤ a) = false := decide_eq_false h1
    go_enter Try.func110, Try.ntmps110
    go_wp2
    go_ret
    simp [*]

/-- A decision laid in a block of its own. -/
theorem hou_new (h : House) (w : World) : ∃ W, w.alloc (.cells #[.int .i64 h.no, .int .i64 h.kind, .int .i64 h.speaker, .int .i64 h.first, .int .i64 h.last, .int .i64 h.lang, .int .i64 h.frm, .int .i64 h.until_, .int .i64 h.known, .int .i64 h.ms] 52) = W ∧ Below w.heap.size w W ∧ W.heap[w.heap.size]? = some (.cells #[.int .i64 h.no, .int .i64 h.kind, .int .i64 h.speaker, .int .i64 h.first, .int .i64 h.last, .int .i64 h.lang, .int .i64 h.frm, .int .i64 h.until_, .int .i64 h.known, .int .i64 h.ms] 52 (0, 0)) ∧ W.heap.size = w.heap.size + 1 :=
  ⟨_, rfl, ext_alloc (Below.refl _ _) _, World.alloc_heap_new _ _, by simp⟩
structure HouAt (h : House) (b : Nat) (W : World) : Prop where
  c0 : W.cell? ⟨b, 0, none⟩ = some (.int .i64 h.no)
  c1 : W.cell? ⟨b, 1, none⟩ = some (.int .i64 h.kind)
  c2 : W.cell? ⟨b, 2, none⟩ = some (.int .i64 h.speaker)
  c3 : W.cell? ⟨b, 3, none⟩ = some (.int .i64 h.first)
  c4 : W.cell? ⟨b, 4, none⟩ = some (.int .i64 h.last)
  c5 : W.cell? ⟨b, 5, none⟩ = some (.int .i64 h.lang)
  c6 : W.cell? ⟨b, 6, none⟩ = some (.int .i64 h.frm)
  c7 : W.cell? ⟨b, 7, none⟩ = some (.int .i64 h.until_)
  c8 : W.cell? ⟨b, 8, none⟩ = some (.int .i64 h.known)
  c9 : W.cell? ⟨b, 9, none⟩ = some (.int .i64 h.ms)
theorem hou_at {h : House} {b t : Nat} {W : World} (hb : W.heap[b]? = some (.cells #[.int .i64 h.no, .int .i64 h.kind, .int .i64 h.speaker, .int .i64 h.first, .int .i64 h.last, .int .i64 h.lang, .int .i64 h.frm, .int .i64 h.until_, .int .i64 h.known, .int .i64 h.ms] t (0, 0))) : HouAt h b W :=
  ⟨gblk hb 0, gblk hb 1, gblk hb 2, gblk hb 3, gblk hb 4, gblk hb 5, gblk hb 6, gblk hb 7, gblk hb 8, gblk hb 9⟩

theorem cond1_any (h : House) (w : World) : Calls Try.prog 106 #[.agg #[.int .i64 h.no, .int .i64 h.kind, .int .i64 h.speaker, .int .i64 h.first, .int .i64 h.last, .int .i64 h.lang, .int .i64 h.frm, .int .i64 h.until_, .int .i64 h.known, .int .i64 h.ms]] w fun e w' => e = .returned (.bool (c1B h)) ∧ Below w.heap.size w w' := by
  obtain ⟨W, hW, hB, hb, _⟩ := hou_new h w
  obtain ⟨c0, c1, c2, c3, c4, c5, c6, c7, c8, c9⟩ := hou_at hb
  unfold c1B
  clear c2 c3 c4 c5 c6 c7 c8 c9
  cases e1 : rngB h.no 0 1048576
  all_goals
    have H1 := Lib.hid e1
    clear e1
    go_enter Try.func106, Try.ntmps106
    go_wp2_with fail
    refine (withinH_any _ _ _ _).mono ?_
    rintro e w' ⟨rfl, rfl⟩
    rw [H1.out]
  · go_wp2
    go_ret
    exact ⟨rfl, hB⟩
  · go_wp2_with fail
    refine (withinH_any _ _ _ _).mono ?_
    rintro e w' ⟨rfl, rfl⟩
    go_wp2
    go_ret
    exact ⟨rfl, hB⟩
theorem cond2_any (h : House) (w : World) : Calls Try.prog 107 #[.agg #[.int .i64 h.no, .int .i64 h.kind, .int .i64 h.speaker, .int .i64 h.first, .int .i64 h.last, .int .i64 h.lang, .int .i64 h.frm, .int .i64 h.until_, .int .i64 h.known, .int .i64 h.ms]] w fun e w' => e = .returned (.bool (c2B h)) ∧ Below w.heap.size w w' := by
  obtain ⟨W, hW, hB, hb, _⟩ := hou_new h w
  obtain ⟨c0, c1, c2, c3, c4, c5, c6, c7, c8, c9⟩ := hou_at hb
  unfold c2B
  clear c0 c1 c3 c4 c5 c6 c7 c8 c9
  go_enter Try.func107, Try.ntmps107
  go_wp2_with fail
  refine (withinH_any _ _ _ _).mono ?_
  rintro e w' ⟨rfl, rfl⟩
  go_wp2
  go_ret
  exact ⟨rfl, hB⟩
theorem cond3_any (h : House) (w : World) : Calls Try.prog 108 #[.agg #[.int .i64 h.no, .int .i64 h.kind, .int .i64 h.speaker, .int .i64 h.first, .int .i64 h.last, .int .i64 h.lang, .int .i64 h.frm, .int .i64 h.until_, .int .i64 h.known, .int .i64 h.ms]] w fun e w' => e = .returned (.bool (c3B h)) ∧ Below w.heap.size w w' := by
  obtain ⟨W, hW, hB, hb, _⟩ := hou_new h w
  obtain ⟨c0, c1, c2, c3, c4, c5, c6, c7, c8, c9⟩ := hou_at hb
  unfold c3B
  clear c0 c1 c3 c4 c2 c6 c7 c8 c9
  go_enter Try.func108, Try.ntmps108
  go_wp2_with fail
  refine (withinH_any _ _ _ _).mono ?_
  rintro e w' ⟨rfl, rfl⟩
  go_wp2
  go_ret
  exact ⟨rfl, hB⟩
theorem cond4_any (h : House) (w : World) : Calls Try.prog 109 #[.agg #[.int .i64 h.no, .int .i64 h.kind, .int .i64 h.speaker, .int .i64 h.first, .int .i64 h.last, .int .i64 h.lang, .int .i64 h.frm, .int .i64 h.until_, .int .i64 h.known, .int .i64 h.ms]] w fun e w' => e = .returned (.bool (c4B h)) ∧ Below w.heap.size w w' := by
  obtain ⟨W, hW, hB, hb, _⟩ := hou_new h w
  obtain ⟨c0, c1, c2, c3, c4, c5, c6, c7, c8, c9⟩ := hou_at hb
  unfold c4B
  clear c0 c1 c2 c5 c9
  cases e1 : spanB h.first h.last
  · have H1 := Lib.hid e1
    clear e1
    go_enter Try.func109, Try.ntmps109
    go_wp2_with fail
    refine (spanH_any _ _ _).mono ?_
    rintro e w' ⟨rfl, rfl⟩
    rw [H1.out]
    go_wp2
    go_ret
    exact ⟨rfl, hB⟩
  · have H1 := Lib.hid e1
    clear e1
    cases e2 : spanB h.frm h.until_
    all_goals
      have H2 := Lib.hid e2
      clear e2
      go_enter Try.func109, Try.ntmps109
      go_wp2_with fail
      refine (spanH_any _ _ _).mono ?_
      rintro e w' ⟨rfl, rfl⟩
      rw [H1.out]
      go_wp2_with fail
      refine (spanH_any _ _ _).mono ?_
      rintro e w' ⟨rfl, rfl⟩
      rw [H2.out]
    · go_wp2
      go_ret
      exact ⟨rfl, hB⟩
    · go_wp2_with fail
      refine (withinH_any _ _ _ _).mono ?_
      rintro e w' ⟨rfl, rfl⟩
      go_wp2
      go_ret
      exact ⟨rfl, hB⟩
theorem cond5_any (h : House) (w : World) : Calls Try.prog 111 #[.agg #[.int .i64 h.no, .int .i64 h.kind, .int .i64 h.speaker, .int .i64 h.first, .int .i64 h.last, .int .i64 h.lang, .int .i64 h.frm, .int .i64 h.until_, .int .i64 h.known, .int .i64 h.ms]] w fun e w' => e = .returned (.bool (c5B h)) ∧ Below w.heap.size w w' := by
  obtain ⟨W, hW, hB, hb, _⟩ := hou_new h w
  obtain ⟨c0, c1, c2, c3, c4, c5, c6, c7, c8, c9⟩ := hou_at hb
  clear c0 c2 c3 c4 c5 c6 c7 c8
  by_cases hk : h.kind = 3
  · have h1 : (h.kind != 3) = false := by simp [hk]
    have hf : Hid (c5B h = rngB h.ms 1 1073741824) := by show _ = _; unfold c5B; rw [if_pos hk]
    clear hk
    rw [hf.out]
    go_enter Try.func111, Try.ntmps111
    go_wp2_with fail
    refine (withinH_any _ _ _ _).mono ?_
    rintro e w' ⟨rfl, rfl⟩
    go_wp2
    go_ret
    exact ⟨rfl, hB⟩
  · have h1 : (h.kind != 3) = true := by simp [hk]
    have hf : Hid (c5B h = (h.ms == 0)) := by show _ = _; unfold c5B; rw [if_neg hk]; rfl
    clear hk
    rw [hf.out]
    go_enter Try.func111, Try.ntmps111
    go_wp2_with fail
    go_ret
    exact ⟨rfl, hB⟩
def condF (n : Nat) : Nat := if n = 0 then 106 else if n = 1 then 107 else if n = 2 then 108 else if n = 3 then 109 else 111
def condB (n : Nat) (h : House) : Bool := if n = 0 then c1B h else if n = 1 then c2B h else if n = 2 then c3B h else if n = 3 then c4B h else c5B h
def condV (n : Nat) : Value := .agg #[.func (Fn.func (condF n)) #[] #[]]
def condArr : Value := .agg #[.func (Fn.func 106) #[] #[], .func (Fn.func 107) #[] #[], .func (Fn.func 108) #[] #[], .func (Fn.func 109) #[] #[], .func (Fn.func 111) #[] #[]]
theorem cond_any (n : Nat) (hn : n < 5) (h : House) (w : World) : Calls Try.prog (condF n) #[.agg #[.int .i64 h.no, .int .i64 h.kind, .int .i64 h.speaker, .int .i64 h.first, .int .i64 h.last, .int .i64 h.lang, .int .i64 h.frm, .int .i64 h.until_, .int .i64 h.known, .int .i64 h.ms]] w fun e w' => e = .returned (.bool (condB n h)) ∧ Below w.heap.size w w' := by
  rcases (show n = 0 ∨ n = 1 ∨ n = 2 ∨ n = 3 ∨ n = 4 by omega) with rfl | rfl | rfl | rfl | rfl
  · exact cond1_any h w
  · exact cond2_any h w
  · exact cond3_any h w
  · exact cond4_any h w
  · exact cond5_any h w
theorem condF_enter {n : Nat} (hn : n < 5) : ∀ args w, (callFunc (condF n) args).run Try.prog w = .ok (.enter (condF n) args) w := by
  rcases (show n = 0 ∨ n = 1 ∨ n = 2 ∨ n = 3 ∨ n = 4 by omega) with rfl | rfl | rfl | rfl | rfl
  · exact enters_of Try.func106 (by kernel_rfl) rfl
  · exact enters_of Try.func107 (by kernel_rfl) rfl
  · exact enters_of Try.func108 (by kernel_rfl) rfl
  · exact enters_of Try.func109 (by kernel_rfl) rfl
  · exact enters_of Try.func111 (by kernel_rfl) rfl
theorem cond_index {n : Nat} (hn : n < 5) (w : World) : (Instr.index 131 condArr (.int .i64 (n : Int))).run Try.prog w = .ok (.agg #[.func (Fn.func (condF n)) #[] #[]]) w := by
  rcases (show n = 0 ∨ n = 1 ∨ n = 2 ∨ n = 3 ∨ n = 4 by omega) with rfl | rfl | rfl | rfl | rfl <;> kernel_rfl
theorem conds_any (w : World) : Calls Try.prog 96 #[] w fun e w' => e = .returned condArr ∧ Below w.heap.size w w' := by
  unfold condArr
  go_enter Try.func96, Try.ntmps96
  go_wp2_with fail
  exact bodyPost_ret (v := condArr) (by simp [condArr, results, Try.results96, go_sem]) rfl ⟨rfl, ext_alloc (Below.refl _ _) _⟩
theorem okH_upto (h : House) : h.ok = (List.range 5).all (fun n => condB n h) := by
  simp [House.ok, condB, List.range, List.range.loop, Bool.and_assoc]
theorem okH_no {h : House} {n : Nat} (hn : n < 5) (e : condB n h = false) : h.ok = false := by
  rw [okH_upto, List.all_eq_false]
  exact ⟨n, List.mem_range.2 hn, by rw [e]; decide⟩
theorem okH_yes {h : House} (e : ∀ m, m < 5 → condB m h = true) : h.ok = true := by
  rw [okH_upto, List.all_eq_true]
  exact fun n hn => e n (List.mem_range.1 hn)
set_option maxHeartbeats 1000000 in
theorem rightH_any (h : House) (w : World) : Calls Try.prog 63 #[.agg #[.int .i64 h.no, .int .i64 h.kind, .int .i64 h.speaker, .int .i64 h.first, .int .i64 h.last, .int .i64 h.lang, .int .i64 h.frm, .int .i64 h.until_, .int .i64 h.known, .int .i64 h.ms]] w fun e w' => e = .returned (.bool h.ok) ∧ Below w.heap.size w w' := by
  obtain ⟨W, hW, hB, hb, _⟩ := hou_new h w
  go_enter Try.func63, Try.ntmps63
  go_wp2_with fail
  clear hW
  refine (conds_any W).mono ?_
  rintro e W1 ⟨rfl, hB1⟩
  have hb1 := (hB1.block _ (lt_block hb)).trans hb
  have hB01 := ext_trans hB hB1
  clear hb hB hB1
  generalize hca : condArr = ca
  go_wp2_with fail
  go_loopw [6] (fun i wr => ∃ n : Nat, n ≤ 5 ∧ i = .int .i64 n ∧ Below w.heap.size w wr ∧ wr.heap[w.heap.size]? = some (.cells #[.int .i64 h.no, .int .i64 h.kind, .int .i64 h.speaker, .int .i64 h.first, .int .i64 h.last, .int .i64 h.lang, .int .i64 h.frm, .int .i64 h.until_, .int .i64 h.known, .int .i64 h.ms] 52 (0, 0)) ∧ Hid (∀ m, m < n → condB m h = true)) (fun i _ => 5 - (intOf i).toNat)
  case atStart => exact ⟨0, by omega, rfl, hB01, hb1, fun m hm => absurd hm (by omega)⟩
  case round =>
    obtain ⟨n, hn, rfl, hBr, hbr, HP⟩ := hrel
    obtain ⟨c0, c1, c2, c3, c4, c5, c6, c7, c8, c9⟩ := hou_at hbr
    by_cases hlt : n < 5
    · have hlt2 : (n : Int) < 5 := by omega
      have hix := cond_index hlt
      rw [hca] at hix
      have eS := condF_enter hlt
      have hlt3 := lt_block hbr
      have Hhb := Lib.hid hbr
      have HB := Lib.hid hBr
      clear hbr hBr
      go_wp2_with fail
      refine (cond_any n hlt h _).mono ?_
      rintro e w1 ⟨rfl, hb1⟩
      have hB1 := ext_trans HB.out (ext_trans (ext_alloc (Below.refl _ _) _) hb1)
      have hh1 := (hb1.block _ (by simp; omega)).trans ((Below.heap_alloc _ _ _ (by omega)).trans Hhb.out)
      clear hb1 c0 c1 c2 c3 c4 c5 c6 c7 c8 c9 hix eS
      cases hcb : condB n h
      · have HN := Lib.hid (okH_no hlt hcb)
        clear hcb
        go_wp2_with fail
        go_ret
        exact ⟨by rw [HN.out]; rfl, hB1⟩
      · have HN : Hid (∀ m, m < n + 1 → condB m h = true) := fun m hm => by
          rcases Nat.lt_or_ge m n with h1 | h1
          · exact HP.out m h1
          · obtain rfl : m = n := by omega
            exact hcb
        clear hcb
        go_wp2_with fail
        go_roundw
        case rel => exact ⟨n + 1, by omega, by go_num, hB1, hh1, HN⟩
        case measure => simp [intOf]; omega
    · obtain rfl : n = 5 := by omega
      go_wp2_with fail
      go_ret
      exact ⟨by rw [okH_yes HP.out]; rfl, hBr⟩
end Go.Proofs.Ytmindojbkedmlaa

/- Package house: Check, Covers (of what is right). Reference 35: Speaker, Time, Language, span, Right, Check, About, Covers. -/
namespace Go.Proofs.Ytmindojbkedmlaa
open Go.RowKit Go.Han
attribute [local irreducible] wpStill wpQuiet
set_option maxRecDepth 100000

theorem hasc_drop (l : List House) (k : Nat) (hk : k < l.length) (p : Int) : hasc p (l.drop k) = (l[k].ok && (decide (p < l[k].no) && hasc l[k].no (l.drop (k + 1)))) := by
  rw [List.drop_eq_getElem_cons hk, hasc]
theorem hou_elem {w : World} {A : Option Addr} {l : List House} (h : Rd w A (hflat l)) {k : Nat} (hk : k < l.length) :
    ∃ b off, A = some ⟨b, off, none⟩ ∧ b < w.heap.size ∧ ∀ wr, Below w.heap.size w wr →
      (wr.cell? ⟨b, off + k * 10, none⟩ = some (.int .i64 l[k].no)) ∧ (wr.cell? ⟨b, off + k * 10 + 1, none⟩ = some (.int .i64 l[k].kind)) ∧ (wr.cell? ⟨b, off + k * 10 + 2, none⟩ = some (.int .i64 l[k].speaker)) ∧
      (wr.cell? ⟨b, off + k * 10 + 3, none⟩ = some (.int .i64 l[k].first)) ∧ (wr.cell? ⟨b, off + k * 10 + 4, none⟩ = some (.int .i64 l[k].last)) ∧ (wr.cell? ⟨b, off + k * 10 + 5, none⟩ = some (.int .i64 l[k].lang)) ∧
      (wr.cell? ⟨b, off + k * 10 + 6, none⟩ = some (.int .i64 l[k].frm)) ∧ (wr.cell? ⟨b, off + k * 10 + 7, none⟩ = some (.int .i64 l[k].until_)) ∧ (wr.cell? ⟨b, off + k * 10 + 8, none⟩ = some (.int .i64 l[k].known)) ∧ (wr.cell? ⟨b, off + k * 10 + 9, none⟩ = some (.int .i64 l[k].ms)) := by
  obtain ⟨b, off, hA, hb, hc⟩ := h.elem House.size_cells (by omega) hk
  refine ⟨b, off, hA, hb, fun wr hB => ?_⟩
  have hcc : ∀ (j : Nat) (u : Value), l[k].cells[j]? = some u → wr.cell? ⟨b, off + k * 10 + j, none⟩ = some u := fun j u hu => (hB.cell (p := ⟨b, off + k * 10 + j, none⟩) hb).trans (hc j u hu)
  exact ⟨hcc 0 _ rfl, hcc 1 _ rfl, hcc 2 _ rfl, hcc 3 _ rfl, hcc 4 _ rfl, hcc 5 _ rfl, hcc 6 _ rfl, hcc 7 _ rfl, hcc 8 _ rfl, hcc 9 _ rfl⟩

set_option maxHeartbeats 1000000 in
theorem CheckH_any (A : Option Addr) (c : Nat) (l : List House) (w : World) (hr : Rd w A (hflat l)) (hm : l.length ≤ 9223372036854775807) :
    Calls Try.prog 49 #[.slice A l.length c] w fun e w' => e = .returned (.int .i64 (hchk l)) ∧ Below w.heap.size w w' := by
  by_cases hl : l.length ≤ 1024
  · have h1 : ¬ (1024 : Int) < l.length := by omega
    go_enter Try.func49, Try.ntmps49
    go_wp2_with fail
    go_loopw [3, 11] (fun t i wr => ∃ (k : Nat) (last : Int), k ≤ l.length ∧ i = .int .i64 k ∧ t = .int .i64 last ∧ Below w.heap.size w wr ∧ Hid (hasc (-1) l = hasc last (l.drop k))) (fun _ i _ => l.length - (intOf i).toNat)
    case atStart => exact ⟨0, _, Nat.zero_le _, rfl, rfl, Below.refl _ _, rfl⟩
    case round =>
      obtain ⟨k, last, hk, rfl, rfl, hB, HR⟩ := hrel
      by_cases hlt : k < l.length
      · obtain ⟨b, off, rfl, hb, hc⟩ := hou_elem hr hlt
        obtain ⟨d0, d1, d2, d3, d4, d5, d6, d7, d8, d9⟩ := hc wr hB
        have Hd := Lib.hid (hasc_drop l k hlt last)
        have hfin : ∀ b : Bool, b = (l[k].ok && decide (last < l[k].no)) → hchk l = if b then (if hasc l[k].no (l.drop (k + 1)) then 0 else 350) else 350 := by
          rintro b rfl
          unfold hchk
          rw [if_neg (by omega), HR.out, Hd.out]
          cases l[k].ok <;> simp
          by_cases h : last < l[k].no <;> simp [h]
        have Hfin := Lib.hid hfin
        clear hc hfin
        generalize l[k] = x at *
        have hBx : Below wr.heap.size wr (wr.alloc (.cells #[.int .i64 x.no, .int .i64 x.kind, .int .i64 x.speaker, .int .i64 x.first, .int .i64 x.last, .int .i64 x.lang, .int .i64 x.frm, .int .i64 x.until_, .int .i64 x.known, .int .i64 x.ms] 52)) := ext_alloc (Below.refl _ _) _
        have n0 := World.alloc_heap_new wr (.cells #[.int .i64 x.no, .int .i64 x.kind, .int .i64 x.speaker, .int .i64 x.first, .int .i64 x.last, .int .i64 x.lang, .int .i64 x.frm, .int .i64 x.until_, .int .i64 x.known, .int .i64 x.ms] 52)
        have cr := Lib.hid (fun W => rightH_any x W)
        obtain ⟨ok, hok⟩ : ∃ ok, x.ok = ok := ⟨_, rfl⟩
        rw [hok] at Hd Hfin cr
        have Hok := Lib.hid hok
        clear hok
        go_wp2_with fail
        refine (cr.out _).mono ?_
        rintro e w2 ⟨rfl, hb2⟩
        have hB2 := ext_trans hB (ext_trans hBx hb2)
        have n2 := (hb2.block wr.heap.size (by simp)).trans n0
        have e0 := gblk n2 0
        clear n0 n2 d0 d1 d2 d3 d4 d5 d6 d7 d8 d9 cr hBx
        cases ok
        · have HF := Lib.hid (Hfin.out false rfl)
          clear Hfin Hd HR
          go_wp2_with fail
          go_ret
          exact ⟨by rw [HF.out]; rfl, hB2⟩
        · by_cases hla : last < x.no
          · have HF : Hid (hasc (-1) l = hasc x.no (l.drop (k + 1))) := by show _ = _; rw [HR.out, Hd.out, decide_eq_true hla]; rfl
            clear Hfin Hd HR
            go_wp2_with fail
            go_roundw
            case rel => exact ⟨k + 1, x.no, by omega, by go_num, rfl, hB2, HF⟩
            case measure => simp [intOf]; omega
          · have HF := Lib.hid (Hfin.out false (by rw [decide_eq_false hla]; rfl))
            clear Hfin Hd HR
            go_wp2_with fail
            go_ret
            exact ⟨by rw [HF.out]; rfl, hB2⟩
      · have h5 : Hid (hchk l = 0) := by
          show _ = _
          unfold hchk
          rw [if_neg (by omega), HR.out, show k = l.length by omega, List.drop_length]; rfl
        clear HR
        go_wp2_with fail
        go_ret
        exact ⟨by rw [h5.out]; rfl, hB⟩
  · have h5 : Hid (hchk l = 2) := by show _ = _; unfold hchk; rw [if_pos (by omega)]
    have h1 : (1024 : Int) < l.length := by omega
    go_enter Try.func49, Try.ntmps49
    go_wp2_with fail
    go_ret
    exact ⟨by rw [h5.out]; rfl, Below.refl _ _⟩

theorem spk35_any (n : Int) (w : World) : Calls Try.prog 60 #[.int .i64 n] w fun e w' => e = .returned (.bool (spkB n)) ∧ w = w' := by
  go_enter Try.func60, Try.ntmps60
  go_wp2
  all_goals go_ret
  · simp [spkB, *]
  · have : ¬ 0 ≤ n := by omega
    simp [spkB, *]
theorem time35_any (n : Int) (w : World) : Calls Try.prog 48 #[.int .i64 n] w fun e w' => e = .returned (.bool (timeB n)) ∧ w = w' := by
  go_enter Try.func48, Try.ntmps48
  go_wp2
  all_goals go_ret
  · simp [timeB, *]
  · have : ¬ 0 ≤ n := by omega
    simp [timeB, *]
theorem lng35_any (n : Int) (w : World) : Calls Try.prog 61 #[.int .i64 n] w fun e w' => e = .returned (.bool (lngB n)) ∧ w = w' := by
  go_enter Try.func61, Try.ntmps61
  go_wp2
  all_goals go_ret
  · simp [lngB, *]
  · have : ¬ 0 ≤ n := by omega
    simp [lngB, *]
theorem span35_any (a b : Int) (w : World) : Calls Try.prog 62 #[.int .i64 a, .int .i64 b] w fun e w' => e = .returned (.bool (spanB a b)) ∧ w = w' := by
  unfold spanB
  by_cases h1 : 0 ≤ a
  · by_cases h2 : a < b
    · by_cases h3 : b ≤ 1099511627776
      · go_enter Try.func62, Try.ntmps62
        go_wp2
        go_ret
        simp [*]
      · have h3' : decide (b ≤ 1099511627776) = false := decide_eq_false h3
        go_enter Try.func62, Try.ntmps62
        go_wp2
        go_ret
        simp [*]
    · have h2' : decide (a < b) = false := decide_eq_false h2
      go_enter Try.func62, Try.ntmps62
      go_wp2
      go_ret
      simp [*]
  · have h1' : decide (0 ≤ a) = false := decide_eq_false h1
    go_enter Try.func62, Try.ntmps62
    go_wp2
    go_ret
    simp [*]
theorem spkB_iff {n : Int} : spkB n = true ↔ 0 ≤ n ∧ n < 64 := by unfold spkB; simp
theorem lngB_iff {n : Int} : lngB n = true ↔ 0 ≤ n ∧ n < 32 := by unfold lngB; simp
theorem timeB_iff {n : Int} : timeB n = true ↔ 0 ≤ n ∧ n < 1099511627776 := by unfold timeB; simp
theorem spanB_iff {a b : Int} : spanB a b = true ↔ 0 ≤ a ∧ a < b ∧ b ≤ 1099511627776 := by unfold spanB; simp [and_assoc]
/-- The reference's conditions, in its order. -/
def n1B (h : House) : Bool := decide (0 ≤ h.no) && decide (h.no ≤ 1048576)
def n2B (h : House) : Bool := decide (1 ≤ h.kind) && decide (h.kind ≤ 5)
def n3B (h : House) : Bool := decide (h.speaker = -1) || spkB h.speaker
def n4B (h : House) : Bool := decide (h.lang = -1) || lngB h.lang
theorem okH_ref (h : House) : h.ok = (n1B h && n2B h && n3B h && n4B h && spanB h.first h.last && spanB h.frm h.until_ && timeB h.known && c5B h) := by
  rw [Bool.eq_iff_iff, House.ok_iff]
  unfold n1B n2B n3B n4B c5B rngB
  simp only [Bool.and_eq_true, Bool.or_eq_true, decide_eq_true_eq, spkB_iff, lngB_iff, timeB_iff, spanB_iff]
  by_cases hk : h.kind = 3
  · simp only [hk, if_true, Bool.and_eq_true, decide_eq_true_eq]
    constructor
    · rintro ⟨_, _, _, _, _, _, _, _, _, _, _, _, _, _, _, _, _⟩; omega
    · intro e; constructor <;> omega
  · simp only [hk, if_false, decide_eq_true_eq]
    constructor
    · rintro ⟨_, _, _, _, _, _, _, _, _, _, _, _, _, _, _, _, _⟩; omega
    · intro e; constructor <;> omega
end Go.Proofs.Ytmindojbkedmlaa

/- Reference 35: Right. -/
namespace Go.Proofs.Ytmindojbkedmlaa
open Go.RowKit Go.Han
attribute [local irreducible] wpStill wpQuiet
set_option maxRecDepth 100000

theorem spkB_no {n : Int} : spkB n = false ↔ ¬ (0 ≤ n ∧ n < 64) := by rw [← spkB_iff]; simp
theorem lngB_no {n : Int} : lngB n = false ↔ ¬ (0 ≤ n ∧ n < 32) := by rw [← lngB_iff]; simp
theorem timeB_no {n : Int} : timeB n = false ↔ ¬ (0 ≤ n ∧ n < 1099511627776) := by rw [← timeB_iff]; simp
theorem spanB_no {a b : Int} : spanB a b = false ↔ ¬ (0 ≤ a ∧ a < b ∧ b ≤ 1099511627776) := by rw [← spanB_iff]; simp
theorem ret_bool {a b : Bool} (h : a = b) : Ending.returned (.bool a) = .returned (.bool b) := by rw [h]
set_option maxHeartbeats 4000000 in
theorem right35_any (h : House) (w : World) : Calls Try.prog 27 #[.agg #[.int .i64 h.no, .int .i64 h.kind, .int .i64 h.speaker, .int .i64 h.first, .int .i64 h.last, .int .i64 h.lang, .int .i64 h.frm, .int .i64 h.until_, .int .i64 h.known, .int .i64 h.ms]] w fun e w' => e = .returned (.bool h.ok) ∧ Below w.heap.size w w' := by
  obtain ⟨W, hW, hB, hb, _⟩ := hou_new h w
  obtain ⟨c0, c1, c2, c3, c4, c5, c6, c7, c8, c9⟩ := hou_at hb
  clear hb
  have HR := Lib.hid (okH_ref h)
  rw [HR.out]
  have H1 : Hid (n1B h = (decide (0 ≤ h.no) && decide (h.no ≤ 1048576))) := rfl
  have H2 : Hid (n2B h = (decide (1 ≤ h.kind) && decide (h.kind ≤ 5))) := rfl
  have H3 : Hid (n3B h = (decide (h.speaker = -1) || spkB h.speaker)) := rfl
  have H4 : Hid (n4B h = (decide (h.lang = -1) || lngB h.lang)) := rfl
  have H5 : Hid (c5B h = if h.kind = 3 then rngB h.ms 1 1073741824 else decide (h.ms = 0)) := rfl
  generalize n1B h = r1 at *
  generalize n2B h = r2 at *
  generalize n3B h = r3 at *
  generalize n4B h = r4 at *
  generalize c5B h = r5 at *
  clear HR
  go_enter Try.func27, Try.ntmps27
  go_wp2_with (first | (go_at_call 60; refine (spk35_any _ _).mono ?_; rintro e w' ⟨rfl, rfl⟩) | (go_at_call 61; refine (lng35_any _ _).mono ?_; rintro e w' ⟨rfl, rfl⟩) | (go_at_call 48; refine (time35_any _ _).mono ?_; rintro e w' ⟨rfl, rfl⟩) | (go_at_call 62; refine (span35_any _ _ _).mono ?_; rintro e w' ⟨rfl, rfl⟩))
  all_goals
    go_ret
    refine ⟨ret_bool ?_, hB⟩
    clear hB hW c0 c1 c2 c3 c4 c5 c6 c7 c8 c9
    have e1 := H1.out
    have e2 := H2.out
    have e3 := H3.out
    have e4 := H4.out
    have e5 := H5.out
    subst e1 e2 e3 e4 e5
    clear H1 H2 H3 H4 H5
    rw [Bool.eq_iff_iff]
    simp only [Bool.and_eq_true, Bool.or_eq_true, decide_eq_true_eq, spkB_iff, lngB_iff, timeB_iff, spanB_iff, lngB_no, timeB_no, Bool.not_eq_false', Bool.not_eq_true', beq_eq_false_iff_ne, beq_iff_eq, Bool.false_eq_true, false_iff, bne_eq_false_iff_eq] at *
    by_cases hk : h.kind = 3
    · simp only [rngB, hk, if_true, Bool.and_eq_true, decide_eq_true_eq] at *
      try omega
    · simp only [hk, if_false, decide_eq_true_eq] at *
      try omega
end Go.Proofs.Ytmindojbkedmlaa

/- Package house: Covers (of what is right). Reference 35: Check, About, Covers. Package verdicts: within. -/
namespace Go.Proofs.Ytmindojbkedmlaa
open Go.RowKit Go.Han
attribute [local irreducible] wpStill wpQuiet
set_option maxRecDepth 100000

theorem ret_two {a b : Bool} {k : Int} (h : a = b) : Ending.returned (.tuple #[.bool a, .int .i64 k]) = .returned (.tuple #[.bool b, .int .i64 k]) := by rw [h]
structure AskedOk (a : Asked) : Prop where
  s0 : 0 ≤ a.speaker
  s1 : a.speaker < 64
  b0 : 0 ≤ a.begun
  b1 : a.begun < 1099511627776
  l0 : 0 ≤ a.lang
  l1 : a.lang < 32
  t0 : 0 ≤ a.at_
  t1 : a.at_ < 1099511627776
  k0 : 0 ≤ a.known
  k1 : a.known < 1099511627776
theorem asked_iff {a : Asked} : a.ok = true ↔ AskedOk a := by
  unfold Asked.ok
  simp only [Bool.and_eq_true, spkB_iff, lngB_iff, timeB_iff]
  constructor
  · intro h; constructor <;> omega
  · rintro ⟨_, _, _, _, _, _, _, _, _, _⟩; omega
set_option maxHeartbeats 4000000 in
theorem CoversH_any (h : House) (a : Asked) (w : World) (hok : h.Ok) (ha : AskedOk a) :
    Calls Try.prog 93 #[.agg #[.int .i64 h.no, .int .i64 h.kind, .int .i64 h.speaker, .int .i64 h.first, .int .i64 h.last, .int .i64 h.lang, .int .i64 h.frm, .int .i64 h.until_, .int .i64 h.known, .int .i64 h.ms], .int .i64 a.speaker, .int .i64 a.begun, .int .i64 a.lang, .int .i64 a.at_] w fun e w' => e = .returned (.tuple #[.bool (covB h a), .int .i64 0]) ∧ Below w.heap.size w w' := by
  obtain ⟨W, hW, hB, hb, _⟩ := hou_new h w
  have cr := Lib.hid (fun W => rightH_any h W)
  have Hok := Lib.hid (House.ok_iff.2 hok)
  have Hb := Lib.hid hb
  obtain ⟨c0, c1, c2, c3, c4, c5, c6, c7, c8, c9⟩ := hou_at hb
  clear hb
  obtain ⟨_, _, _, _, i1, i2, i3, i4, i5, i6, i7, i8, i9, i10, _, _, _⟩ := hok
  obtain ⟨j1, j2, j3, j4, j5, j6, j7, j8, _, _⟩ := ha
  have r1 : rngB a.speaker 0 63 = true := by unfold rngB; simp; omega
  have r2 : rngB a.begun 0 1099511627775 = true := by unfold rngB; simp; omega
  have r3 : rngB a.lang 0 31 = true := by unfold rngB; simp; omega
  have r4 : rngB a.at_ 0 1099511627775 = true := by unfold rngB; simp; omega
  have HF : Hid (covB h a = covB h a) := rfl
  generalize hcv : covB h a = cv at *
  have Hcv : Hid (covB h a = cv) := hcv
  clear hcv HF
  go_enter Try.func93, Try.ntmps93
  go_wp2_with fail
  refine (cr.out _).mono ?_
  rintro e W1 ⟨rfl, hB1⟩
  rw [Hok.out]
  have hb1 := (hB1.block _ (lt_block Hb.out)).trans Hb.out
  have hB01 := ext_trans hB hB1
  obtain ⟨c0, c1, c2, c3, c4, c5, c6, c7, c8, c9⟩ := hou_at hb1
  clear hW Hb hB hB1 hb1
  go_wp2_with (go_at_call 105; refine (withinH_any _ _ _ _).mono ?_; rintro e w' ⟨rfl, rfl⟩)
  all_goals
    go_ret2
    refine ⟨ret_two ?_, hB01⟩
    clear hB01 c0 c1 c2 c3 c4 c5 c6 c7 c8 c9 cr Hok
    have e1 := Hcv.out
    subst e1
    clear Hcv
    rw [Bool.eq_iff_iff]
    simp only [covB, aboutB, inB, rngB, Bool.and_eq_true, Bool.or_eq_true, decide_eq_true_eq, Bool.false_eq_true, false_iff, bne_eq_false_iff_eq, bne_iff_ne] at *
    try omega
theorem within_any (n k : Int) (w : World) : Calls Try.prog 50 #[.int .i64 n, .int .i64 k] w fun e w' => e = .returned (.bool (decide (0 ≤ n) && decide (n < k))) ∧ w = w' := by
  go_enter Try.func50, Try.ntmps50
  go_wp2
  all_goals go_ret
  · simp [*]
  · have : ¬ 0 ≤ n := by omega
    simp [*]
set_option maxHeartbeats 4000000 in
theorem about35_any (h : House) (a : Asked) (w : World) : Calls Try.prog 124 #[.agg #[.int .i64 h.no, .int .i64 h.kind, .int .i64 h.speaker, .int .i64 h.first, .int .i64 h.last, .int .i64 h.lang, .int .i64 h.frm, .int .i64 h.until_, .int .i64 h.known, .int .i64 h.ms], .int .i64 a.speaker, .int .i64 a.begun, .int .i64 a.lang] w fun e w' => e = .returned (.bool (aboutB h a)) ∧ Below w.heap.size w w' := by
  obtain ⟨W, hW, hB, hb, _⟩ := hou_new h w
  obtain ⟨c0, c1, c2, c3, c4, c5, c6, c7, c8, c9⟩ := hou_at hb
  clear hb c0 c1 c6 c7 c8 c9
  generalize hcv : aboutB h a = cv
  have Hcv : Hid (aboutB h a = cv) := hcv
  clear hcv
  go_enter Try.func124, Try.ntmps124
  go_wp2
  all_goals
    go_ret
    refine ⟨ret_bool ?_, hB⟩
    clear hB hW c2 c3 c4 c5
    have e1 := Hcv.out
    subst e1
    clear Hcv
    rw [Bool.eq_iff_iff]
    simp only [aboutB, Bool.and_eq_true, Bool.or_eq_true, decide_eq_true_eq, Bool.false_eq_true, false_iff, true_iff, beq_iff_eq] at *
    try omega
set_option maxHeartbeats 4000000 in
theorem Covers35_any (h : House) (a : Asked) (w : World) (hok : h.ok = true) (ha : a.ok = true) :
    Calls Try.prog 104 #[.agg #[.int .i64 h.no, .int .i64 h.kind, .int .i64 h.speaker, .int .i64 h.first, .int .i64 h.last, .int .i64 h.lang, .int .i64 h.frm, .int .i64 h.until_, .int .i64 h.known, .int .i64 h.ms], .int .i64 a.speaker, .int .i64 a.begun, .int .i64 a.lang, .int .i64 a.at_] w fun e w' => e = .returned (.tuple #[.bool (covB h a), .int .i64 0]) ∧ Below w.heap.size w w' := by
  obtain ⟨W, hW, hB, hb, _⟩ := hou_new h w
  have cr := Lib.hid (fun W => right35_any h W)
  have Hok := Lib.hid hok
  have Hb := Lib.hid hb
  obtain ⟨c0, c1, c2, c3, c4, c5, c6, c7, c8, c9⟩ := hou_at hb
  unfold Asked.ok at ha
  simp only [Bool.and_eq_true] at ha
  obtain ⟨⟨⟨⟨r1, r2⟩, r3⟩, r4⟩, _⟩ := ha
  have Hcv : Hid (covB h a = (aboutB h a && (decide (h.frm ≤ a.at_) && decide (a.at_ < h.until_)))) := rfl
  generalize hcv : covB h a = cv at *
  clear hcv hb hok
  go_enter Try.func104, Try.ntmps104
  go_wp2_with fail
  refine (cr.out _).mono ?_
  rintro e W1 ⟨rfl, hB1⟩
  rw [Hok.out]
  have hb1 := (hB1.block _ (lt_block Hb.out)).trans Hb.out
  have hB01 := ext_trans hB hB1
  obtain ⟨c0, c1, c2, c3, c4, c5, c6, c7, c8, c9⟩ := hou_at hb1
  clear hW Hb hB hB1
  have Hb1 := Lib.hid hb1
  clear hb1
  go_wp2_with (first | (go_at_call 60; refine (spk35_any _ _).mono ?_; rintro e w' ⟨rfl, rfl⟩) | (go_at_call 61; refine (lng35_any _ _).mono ?_; rintro e w' ⟨rfl, rfl⟩) | (go_at_call 48; refine (time35_any _ _).mono ?_; rintro e w' ⟨rfl, rfl⟩))
  refine (about35_any h a _).mono ?_
  rintro e W2 ⟨rfl, hB2⟩
  have hb2 := (hB2.block _ (lt_block Hb1.out)).trans Hb1.out
  have hB02 := ext_trans hB01 hB2
  obtain ⟨c0, c1, c2, c3, c4, c5, c6, c7, c8, c9⟩ := hou_at hb2
  clear Hb1 hb2 hB2 hB01 r1 r2 r3 r4
  cases hab : aboutB h a
  · have HA := Lib.hid hab
    clear hab
    go_wp2
    go_ret2
    exact ⟨ret_two (by rw [Hcv.out, HA.out]; rfl), hB02⟩
  · have HA := Lib.hid hab
    clear hab
    by_cases h1 : h.frm ≤ a.at_
    · go_wp2
      go_ret2
      exact ⟨ret_two (by rw [Hcv.out, HA.out, decide_eq_true h1]; simp), hB02⟩
    · have h1' : decide (h.frm ≤ a.at_) = false := decide_eq_false h1
      go_wp2
      go_ret2
      exact ⟨ret_two (by rw [Hcv.out, HA.out, h1']; rfl), hB02⟩
end Go.Proofs.Ytmindojbkedmlaa

/- Reference 35: Check. -/
namespace Go.Proofs.Ytmindojbkedmlaa
open Go.RowKit Go.Han
attribute [local irreducible] wpStill wpQuiet
set_option maxRecDepth 100000

def lastN (l : List House) (k : Nat) : Int := if k = 0 then -1 else match l[k - 1]? with | some x => x.no | none => -1
theorem lastN_succ (l : List House) (k : Nat) (h : k < l.length) : lastN l (k + 1) = l[k].no := by
  unfold lastN
  rw [if_neg (by omega), Nat.add_sub_cancel, List.getElem?_eq_getElem h]
theorem ok_no {h : House} (e : h.ok = true) : -1 < h.no := by have := (House.ok_iff.1 e).n0; omega
set_option maxHeartbeats 2000000 in
theorem check35_any (A : Option Addr) (c : Nat) (l : List House) (w : World) (hr : Rd w A (hflat l)) (hm : l.length ≤ 9223372036854775807) :
    Calls Try.prog 79 #[.slice A l.length c] w fun e w' => e = .returned (.int .i64 (hchk l)) ∧ Below w.heap.size w w' := by
  by_cases hl : l.length ≤ 1024
  · have h1 : ¬ (1024 : Int) < l.length := by omega
    go_enter Try.func79, Try.ntmps79
    go_wp2_with fail
    go_loopw [3] (fun i wr => ∃ (k : Nat) (last : Int), k ≤ l.length ∧ i = .int .i64 k ∧ Below w.heap.size w wr ∧ Hid (hasc (-1) l = hasc last (l.drop k)) ∧ Hid (last = lastN l k)) (fun i _ => l.length - (intOf i).toNat)
    case atStart => exact ⟨0, -1, Nat.zero_le _, rfl, Below.refl _ _, rfl, rfl⟩
    case round =>
      obtain ⟨k, last, hk, rfl, hB, HR, HL⟩ := hrel
      have hz := hB.size
      by_cases hlt : k < l.length
      · obtain ⟨b, off, rfl, hb, hc⟩ := hou_elem hr hlt
        obtain ⟨h0, h1, h2, h3, h4, h5, h6, h7, h8, h9⟩ := hc wr hB
        have Hd := Lib.hid (hasc_drop l k hlt last)
        have hbw : b < wr.heap.size := Nat.lt_of_lt_of_le hb hz
        have hcE : ∀ b : Bool, b = (l[k].ok && decide (last < l[k].no)) → hchk l = if b then (if hasc l[k].no (l.drop (k + 1)) then 0 else 350) else 350 := by
          rintro b rfl
          unfold hchk
          rw [if_neg (by omega), HR.out, Hd.out]
          cases l[k].ok <;> simp
          by_cases h : last < l[k].no <;> simp [h]
        have HcE := Lib.hid hcE
        have cr := right35_any l[k]
        cases hok : l[k].ok
        · have HF : Hid (hchk l = 350) := by
            show _ = _
            rw [HcE.out false (by rw [hok]; rfl)]; rfl
          rw [hok] at cr
          have Cr := Lib.hid cr
          clear hcE hok cr HcE hc hr
          generalize l[k] = x at *
          have g0 := fun p => cell_ext (w := wr) (a := ⟨b, off + k * 10, none⟩) hbw h0 p
          have g1 := fun p => cell_ext (w := wr) (a := ⟨b, off + k * 10 + 1, none⟩) hbw h1 p
          have g2 := fun p => cell_ext (w := wr) (a := ⟨b, off + k * 10 + 2, none⟩) hbw h2 p
          have g3 := fun p => cell_ext (w := wr) (a := ⟨b, off + k * 10 + 3, none⟩) hbw h3 p
          have g4 := fun p => cell_ext (w := wr) (a := ⟨b, off + k * 10 + 4, none⟩) hbw h4 p
          have g5 := fun p => cell_ext (w := wr) (a := ⟨b, off + k * 10 + 5, none⟩) hbw h5 p
          have g6 := fun p => cell_ext (w := wr) (a := ⟨b, off + k * 10 + 6, none⟩) hbw h6 p
          have g7 := fun p => cell_ext (w := wr) (a := ⟨b, off + k * 10 + 7, none⟩) hbw h7 p
          have g8 := fun p => cell_ext (w := wr) (a := ⟨b, off + k * 10 + 8, none⟩) hbw h8 p
          have g9 := fun p => cell_ext (w := wr) (a := ⟨b, off + k * 10 + 9, none⟩) hbw h9 p
          clear h0 h1 h2 h3 h4 h5 h6 h7 h8 h9
          go_wp2_with fail
          refine wp_region_ext (by kernel_rfl) (by kernel_rfl) ?_
          repeat (go_big_quiet_step ((go_at_call 27; exact Calls.ext_of (Cr.out _))))
          refine wpQuiet_nil ?_
          intro _ hw'
          obtain ⟨p, rfl⟩ := hw'
          go_wp2
          go_ret
          exact ⟨by rw [HF.out]; rfl, hB.trans (p.ext.mono hz)⟩
        · rw [hok] at cr
          have Cr := Lib.hid cr
          have Hok := Lib.hid hok
          have hpos := ok_no hok
          clear hok cr hcE
          have HL2 : Hid (l[k].no = lastN l (k + 1)) := (lastN_succ l k hlt).symm
          rcases Nat.eq_zero_or_pos k with rfl | hk0
          · have hl0 : last = -1 := HL.out
            have HF : Hid (hasc (-1) l = hasc l[0].no (l.drop (0 + 1))) := by
              show _ = _
              rw [HR.out, Hd.out, Hok.out, hl0]
              simp; omega
            clear HR Hd
            subst hl0
            clear hc hr HcE HL Hok
            generalize l[0] = x at *
            simp only [Nat.zero_mul, Nat.add_zero] at h0 h1 h2 h3 h4 h5 h6 h7 h8 h9
            have g0 := fun p => cell_ext (w := wr) (a := ⟨b, off, none⟩) hbw h0 p
            have g1 := fun p => cell_ext (w := wr) (a := ⟨b, off + 1, none⟩) hbw h1 p
            have g2 := fun p => cell_ext (w := wr) (a := ⟨b, off + 2, none⟩) hbw h2 p
            have g3 := fun p => cell_ext (w := wr) (a := ⟨b, off + 3, none⟩) hbw h3 p
            have g4 := fun p => cell_ext (w := wr) (a := ⟨b, off + 4, none⟩) hbw h4 p
            have g5 := fun p => cell_ext (w := wr) (a := ⟨b, off + 5, none⟩) hbw h5 p
            have g6 := fun p => cell_ext (w := wr) (a := ⟨b, off + 6, none⟩) hbw h6 p
            have g7 := fun p => cell_ext (w := wr) (a := ⟨b, off + 7, none⟩) hbw h7 p
            have g8 := fun p => cell_ext (w := wr) (a := ⟨b, off + 8, none⟩) hbw h8 p
            have g9 := fun p => cell_ext (w := wr) (a := ⟨b, off + 9, none⟩) hbw h9 p
            clear h0 h1 h2 h3 h4 h5 h6 h7 h8 h9
            go_wp2_with fail
            refine wp_region_ext (by kernel_rfl) (by kernel_rfl) ?_
            repeat (go_big_quiet_step ((go_at_call 27; exact Calls.ext_of (Cr.out _))))
            refine wpQuiet_nil ?_
            intro _ hw'
            obtain ⟨p, rfl⟩ := hw'
            go_wp2
            go_roundw
            case rel => exact ⟨1, x.no, by omega, rfl, hB.trans (p.ext.mono hz), HF, HL2⟩
            case measure => simp [intOf]; omega
          · have hl1 : k - 1 < l.length := by omega
            have hlast : last = l[k - 1].no := by
              have := lastN_succ l (k - 1) hl1
              rw [Nat.sub_add_cancel hk0] at this
              rw [HL.out, this]
            obtain ⟨b', off', hbe, hb', hc'⟩ := hou_elem hr hl1
            cases hbe
            obtain ⟨h0', _⟩ := hc' wr hB
            have hk0' : (0 : Int) < (k : Int) := by omega
            have ek : ((k : Int) - 1) = ((k - 1 : Nat) : Int) := by omega
            have Hek := Lib.hid ek
            rw [← hlast] at h0'
            have HF : last < l[k].no → Hid (hasc (-1) l = hasc l[k].no (l.drop (k + 1))) := by
              intro h
              show _ = _
              rw [HR.out, Hd.out, Hok.out]
              simp [h]
            have HE : ¬ last < l[k].no → Hid (hchk l = 350) := by
              intro h
              show _ = _
              rw [HcE.out false (by rw [decide_eq_false h]; simp)]; rfl
            clear hc hr hc' HL Hok HcE HR Hd hlast ek
            generalize l[k] = x at *
            have g0 := fun p => cell_ext (w := wr) (a := ⟨b, off + k * 10, none⟩) hbw h0 p
            have g1 := fun p => cell_ext (w := wr) (a := ⟨b, off + k * 10 + 1, none⟩) hbw h1 p
            have g2 := fun p => cell_ext (w := wr) (a := ⟨b, off + k * 10 + 2, none⟩) hbw h2 p
            have g3 := fun p => cell_ext (w := wr) (a := ⟨b, off + k * 10 + 3, none⟩) hbw h3 p
            have g4 := fun p => cell_ext (w := wr) (a := ⟨b, off + k * 10 + 4, none⟩) hbw h4 p
            have g5 := fun p => cell_ext (w := wr) (a := ⟨b, off + k * 10 + 5, none⟩) hbw h5 p
            have g6 := fun p => cell_ext (w := wr) (a := ⟨b, off + k * 10 + 6, none⟩) hbw h6 p
            have g7 := fun p => cell_ext (w := wr) (a := ⟨b, off + k * 10 + 7, none⟩) hbw h7 p
            have g8 := fun p => cell_ext (w := wr) (a := ⟨b, off + k * 10 + 8, none⟩) hbw h8 p
            have g9 := fun p => cell_ext (w := wr) (a := ⟨b, off + k * 10 + 9, none⟩) hbw h9 p
            have g10 := fun p => cell_ext (w := wr) (a := ⟨b, off + (k - 1) * 10, none⟩) hbw h0' p
            clear h0 h1 h2 h3 h4 h5 h6 h7 h8 h9 h0'
            have w1 : IntKind.i64.wrap ((k : Int) - 1) = (k : Int) - 1 := IntWalk.i64_in _ (by omega)
            have w2 : (0 : Int) ≤ (k : Int) - 1 := by omega
            have w3 : (1 : Int) ≤ (k : Int) := by omega
            have w4 : (k : Int) - 1 < l.length := by omega
            have w5 : ((k : Int) - 1).toNat = k - 1 := by omega
            by_cases hla : last < x.no
            · have HF2 := HF hla
              have gg : decide (x.no ≤ last) = false := by simp; omega
              clear HF HE
              go_wp2_with fail
              refine wp_region_ext (by kernel_rfl) (by kernel_rfl) ?_
              repeat (go_big_quiet_step ((go_at_call 27; exact Calls.ext_of (Cr.out _))))
              refine wpQuiet_nil ?_
              intro _ hw'
              obtain ⟨p, rfl⟩ := hw'
              clear w1 w2 w3 w4 w5
              go_wp2
              go_roundw
              case rel => exact ⟨k + 1, x.no, by omega, by go_num, hB.trans (p.ext.mono hz), HF2, HL2⟩
              case measure => simp [intOf]; omega
            · have HF2 := HE hla
              have gg : decide (x.no ≤ last) = true := by simp; omega
              clear HF HE
              go_wp2_with fail
              refine wp_region_ext (by kernel_rfl) (by kernel_rfl) ?_
              repeat (go_big_quiet_step ((go_at_call 27; exact Calls.ext_of (Cr.out _))))
              refine wpQuiet_nil ?_
              intro _ hw'
              obtain ⟨p, rfl⟩ := hw'
              clear w1 w2 w3 w4 w5
              go_wp2
              go_ret
              exact ⟨by rw [HF2.out]; rfl, hB.trans (p.ext.mono hz)⟩
      · have HF : Hid (hchk l = 0) := by
          show _ = _
          have : k = l.length := by omega
          unfold hchk
          rw [if_neg (by omega), HR.out, this]; simp [hasc]
        clear HL HR
        go_wp2_with fail
        go_ret
        exact ⟨by rw [HF.out]; rfl, hB⟩
  · have HF : Hid (hchk l = 2) := by show _ = _; unfold hchk; rw [if_pos (by omega)]
    have h1 : (1024 : Int) < l.length := by omega
    go_enter Try.func79, Try.ntmps79
    go_wp2_with fail
    go_ret
    exact ⟨by rw [HF.out]; rfl, Below.refl _ _⟩
end Go.Proofs.Ytmindojbkedmlaa

/- Package audit: within, right, check; reference 39: Right, Error. -/
namespace Go.Proofs.Ytmindojbkedmlaa
open Go.RowKit Go.Han
attribute [local irreducible] wpStill wpQuiet
set_option maxRecDepth 100000

theorem withinA_any (n lo hi : Int) (w : World) : Calls Try.prog 74 #[.int .i64 n, .int .i64 lo, .int .i64 hi] w fun e w' => e = .returned (.bool (rngB n lo hi)) ∧ w = w' := by
  go_enter Try.func74, Try.ntmps74
  go_wp2
  all_goals go_ret
  · simp [rngB, *]
  · have : ¬ lo ≤ n := by omega
    simp [rngB, *]
theorem sig_new (s : Sight) (w : World) : ∃ W, w.alloc (.cells #[.int .i64 s.speaker, .int .i64 s.begun, .int .i64 s.lang, .int .i64 s.frm, .int .i64 s.until_] 60) = W ∧ Below w.heap.size w W ∧ W.heap[w.heap.size]? = some (.cells #[.int .i64 s.speaker, .int .i64 s.begun, .int .i64 s.lang, .int .i64 s.frm, .int .i64 s.until_] 60 (0, 0)) ∧ W.heap.size = w.heap.size + 1 :=
  ⟨_, rfl, ext_alloc (Below.refl _ _) _, World.alloc_heap_new _ _, by simp⟩
theorem sig_at {s : Sight} {b t : Nat} {W : World} (hb : W.heap[b]? = some (.cells #[.int .i64 s.speaker, .int .i64 s.begun, .int .i64 s.lang, .int .i64 s.frm, .int .i64 s.until_] t (0, 0))) :
    W.cell? ⟨b, 0, none⟩ = some (.int .i64 s.speaker) ∧ W.cell? ⟨b, 1, none⟩ = some (.int .i64 s.begun) ∧ W.cell? ⟨b, 2, none⟩ = some (.int .i64 s.lang) ∧ W.cell? ⟨b, 3, none⟩ = some (.int .i64 s.frm) ∧ W.cell? ⟨b, 4, none⟩ = some (.int .i64 s.until_) :=
  ⟨gblk hb 0, gblk hb 1, gblk hb 2, gblk hb 3, gblk hb 4⟩
theorem sig_elem {w : World} {A : Option Addr} {l : List Sight} (h : Rd w A (sflat l)) {k : Nat} (hk : k < l.length) :
    ∃ b off, A = some ⟨b, off, none⟩ ∧ b < w.heap.size ∧ ∀ wr, Below w.heap.size w wr →
      (wr.cell? ⟨b, off + k * 5, none⟩ = some (.int .i64 l[k].speaker)) ∧ (wr.cell? ⟨b, off + k * 5 + 1, none⟩ = some (.int .i64 l[k].begun)) ∧ (wr.cell? ⟨b, off + k * 5 + 2, none⟩ = some (.int .i64 l[k].lang)) ∧
      (wr.cell? ⟨b, off + k * 5 + 3, none⟩ = some (.int .i64 l[k].frm)) ∧ (wr.cell? ⟨b, off + k * 5 + 4, none⟩ = some (.int .i64 l[k].until_)) := by
  obtain ⟨b, off, hA, hb, hc⟩ := h.elem Sight.size_cells (by omega) hk
  refine ⟨b, off, hA, hb, fun wr hB => ?_⟩
  have hcc : ∀ (j : Nat) (u : Value), l[k].cells[j]? = some u → wr.cell? ⟨b, off + k * 5 + j, none⟩ = some u := fun j u hu => (hB.cell (p := ⟨b, off + k * 5 + j, none⟩) hb).trans (hc j u hu)
  exact ⟨hcc 0 _ rfl, hcc 1 _ rfl, hcc 2 _ rfl, hcc 3 _ rfl, hcc 4 _ rfl⟩
theorem rngB_iff {n a b : Int} : rngB n a b = true ↔ a ≤ n ∧ n ≤ b := by unfold rngB; simp
set_option maxHeartbeats 2000000 in
theorem rightA_any (s : Sight) (w : World) : Calls Try.prog 73 #[.agg #[.int .i64 s.speaker, .int .i64 s.begun, .int .i64 s.lang, .int .i64 s.frm, .int .i64 s.until_]] w fun e w' => e = .returned (.bool s.ok) ∧ Below w.heap.size w w' := by
  obtain ⟨W, hW, hB, hb, _⟩ := sig_new s w
  obtain ⟨c0, c1, c2, c3, c4⟩ := sig_at hb
  clear hb
  generalize hcv : s.ok = cv
  have Hcv := Lib.hid hcv
  clear hcv
  go_enter Try.func73, Try.ntmps73
  go_wp2_with (go_at_call 74; refine (withinA_any _ _ _ _).mono ?_; rintro e w' ⟨rfl, rfl⟩)
  all_goals
    go_ret
    refine ⟨ret_bool ?_, hB⟩
    clear hB hW c0 c1 c2 c3 c4
    have e1 := Hcv.out
    subst e1
    clear Hcv
    rw [Bool.eq_iff_iff]
    simp only [Sight.ok, spkB_iff, lngB_iff, timeB_iff, rngB_iff, Bool.and_eq_true, decide_eq_true_eq, Bool.false_eq_true, false_iff, true_iff] at *
    try omega

theorem oddA_any (s : Sight) (w : World) : Calls Try.prog 72 #[.agg #[.int .i64 s.speaker, .int .i64 s.begun, .int .i64 s.lang, .int .i64 s.frm, .int .i64 s.until_]] w fun e w' => e = .returned (.bool (!s.ok)) ∧ Below w.heap.size w w' := by
  obtain ⟨W, hW, hB, hb, _⟩ := sig_new s w
  obtain ⟨c0, c1, c2, c3, c4⟩ := sig_at hb
  clear hb
  go_enter Try.func72, Try.ntmps72
  go_wp2_with fail
  refine (rightA_any s W).mono ?_
  rintro e w1 ⟨rfl, hb1⟩
  go_wp2
  go_ret
  exact ⟨rfl, ext_trans hB hb1⟩
/-- The index of the first odd one. -/
def oddIx (l : List Sight) (k : Nat) : Int := match (l.drop k).findIdx? (fun s => !s.ok) with | some j => ((k + j : Nat) : Int) | none => -1
theorem all_drop (l : List Sight) (k : Nat) (hk : k < l.length) : (l.drop k).all Sight.ok = (l[k].ok && (l.drop (k + 1)).all Sight.ok) := by
  rw [List.drop_eq_getElem_cons hk, List.all_cons]
def IxPost (l : List Sight) (w : World) (e : Ending) (w' : World) : Prop := ∃ z : Int, e = .returned (.int .i64 z) ∧ (0 ≤ z ↔ l.all Sight.ok = false) ∧ Below w.heap.size w w'
set_option maxHeartbeats 1000000 in
theorem indexA_any (A : Option Addr) (c : Nat) (l : List Sight) (w : World) (hr : Rd w A (sflat l)) (hm : l.length ≤ 9223372036854775807) :
    Calls Try.prog 100 #[.slice A l.length c, .func (.func 72) #[] #[]] w (IxPost l w) := by
  have eo := enters_of Try.func72 (by kernel_rfl) rfl
  go_enter Try.func100, Try.ntmps100
  go_wp2_with fail
  go_loopw [8] (fun i wr => ∃ k : Nat, k ≤ l.length ∧ i = .int .i64 k ∧ Below w.heap.size w wr ∧ Hid (l.all Sight.ok = (l.drop k).all Sight.ok)) (fun i _ => l.length - (intOf i).toNat)
  case atStart => exact ⟨0, Nat.zero_le _, rfl, Below.refl _ _, rfl⟩
  case round =>
    obtain ⟨k, hk, rfl, hB, HR⟩ := hrel
    by_cases hlt : k < l.length
    · obtain ⟨b, off, rfl, hb, hc⟩ := sig_elem hr hlt
      obtain ⟨d0, d1, d2, d3, d4⟩ := hc wr hB
      have Hd := Lib.hid (all_drop l k hlt)
      clear hc hr
      generalize l[k] = x at *
      have cr := Lib.hid (oddA_any x wr)
      cases hok : x.ok
      · rw [hok] at cr Hd
        have HF : Hid (l.all Sight.ok = false) := by show _ = _; rw [HR.out, Hd.out]; rfl
        clear hok HR Hd
        go_wp2_with fail
        refine cr.out.mono ?_
        rintro e w1 ⟨rfl, hb1⟩
        have hfin : Hid (IxPost l w (.returned (.int .i64 (k : Int))) w1) := ⟨k, rfl, by rw [HF.out]; simp, ext_trans hB hb1⟩
        clear d0 d1 d2 d3 d4 cr
        go_wp2_with fail
        go_ret
        exact hfin.out
      · rw [hok] at cr Hd
        have HF : Hid (l.all Sight.ok = (l.drop (k + 1)).all Sight.ok) := by show _ = _; rw [HR.out, Hd.out]; rfl
        clear hok HR Hd
        go_wp2_with fail
        refine cr.out.mono ?_
        rintro e w1 ⟨rfl, hb1⟩
        clear d0 d1 d2 d3 d4 cr
        go_wp2_with fail
        go_roundw
        case rel => exact ⟨k + 1, by omega, by go_num, ext_trans hB hb1, HF⟩
        case measure => simp [intOf]; omega
    · obtain rfl : k = l.length := by omega
      have hfin : Hid (IxPost l w (.returned (.int .i64 (-1))) wr) := ⟨-1, rfl, by rw [HR.out, List.drop_length]; simp, hB⟩
      clear HR
      go_wp2_with fail
      go_ret
      exact hfin.out
theorem containsA_any (A : Option Addr) (c : Nat) (l : List Sight) (w : World) (hr : Rd w A (sflat l)) (hm : l.length ≤ 9223372036854775807) :
    Calls Try.prog 71 #[.slice A l.length c, .func (.func 72) #[] #[]] w fun e w' => e = .returned (.bool (!l.all Sight.ok)) ∧ Below w.heap.size w w' := by
  go_enter Try.func71, Try.ntmps71
  go_wp2_with fail
  refine (indexA_any A c l w hr hm).mono ?_
  rintro e w1 ⟨z, rfl, hz, hb1⟩
  have Hz := Lib.hid hz
  clear hz
  go_wp2
  go_ret
  refine ⟨ret_bool ?_, hb1⟩
  have := Hz.out
  by_cases h : 0 ≤ z
  · rw [decide_eq_true h, this.1 h]; rfl
  · rw [decide_eq_false h]
    cases hl : l.all Sight.ok
    · exact absurd (this.2 hl) h
    · rfl
def CheckPost (l : List House) (s : List Sight) (kn : Int) (w : World) (e : Ending) (w' : World) : Prop := e = .returned (.int .i64 (audE l s kn)) ∧ Below w.heap.size w w'
set_option maxHeartbeats 1000000 in
theorem checkA_any (A : Option Addr) (c : Nat) (l : List House) (A2 : Option Addr) (c2 : Nat) (s : List Sight) (kn : Int) (w : World) (hr : Rd w A (hflat l)) (hm : l.length ≤ 9223372036854775807) (hs : Rd w A2 (sflat s)) (hm2 : s.length ≤ 9223372036854775807) :
    Calls Try.prog 34 #[.slice A l.length c, .slice A2 s.length c2, .int .i64 kn] w (CheckPost l s kn w) := by
  have cC := Lib.hid (CheckH_any A c l w hr hm)
  have cS := Lib.hid (fun W (h : Below w.heap.size w W) => containsA_any A2 c2 s W (hs.ext h) hm2)
  have eo := enters_of Try.func72 (by kernel_rfl) rfl
  unfold CheckPost
  by_cases hc : hchk l = 0
  · have HE : Hid (audE l s kn = if 4096 < s.length then 2 else if s.all Sight.ok then (if timeB kn then 0 else 1) else 390) := by show _ = _; unfold audE; rw [if_pos hc]
    rw [hc] at cC
    clear hc
    by_cases h4 : 4096 < s.length
    · have h4' : (4096 : Int) < s.length := by omega
      have HF : Hid (audE l s kn = 2) := by show _ = _; rw [HE.out, if_pos h4]
      rw [HF.out]
      clear HE HF h4
      go_enter Try.func34, Try.ntmps34
      go_wp2_with fail
      refine cC.out.mono ?_
      rintro e w1 ⟨rfl, hb1⟩
      go_wp2_with fail
      go_ret
      exact ⟨rfl, hb1⟩
    · have h4' : decide ((4096 : Int) < s.length) = false := by simp; omega
      cases hall : s.all Sight.ok
      · have HF : Hid (audE l s kn = 390) := by show _ = _; rw [HE.out, if_neg h4, hall]; rfl
        rw [HF.out]
        have Hall := Lib.hid hall
        clear HE HF h4 hall
        go_enter Try.func34, Try.ntmps34
        go_wp2_with fail
        refine cC.out.mono ?_
        rintro e w1 ⟨rfl, hb1⟩
        go_wp2_with fail
        refine (cS.out w1 hb1).mono ?_
        rintro e w2 ⟨rfl, hb2⟩
        rw [Hall.out]
        go_wp2_with fail
        go_ret
        exact ⟨rfl, ext_trans hb1 hb2⟩
      · have hkr : rngB kn 0 1099511627775 = timeB kn := by
          rw [Bool.eq_iff_iff, rngB_iff, timeB_iff]; omega
        have HF : Hid (audE l s kn = if timeB kn then 0 else 1) := by show _ = _; rw [HE.out, if_neg h4, hall]; rfl
        rw [HF.out]
        have Hall := Lib.hid hall
        have Hkr := Lib.hid hkr
        clear HE HF h4 hall hkr
        cases hk : timeB kn
        all_goals
          have Hk := Lib.hid hk
          clear hk
          go_enter Try.func34, Try.ntmps34
          go_wp2_with fail
          refine cC.out.mono ?_
          rintro e w1 ⟨rfl, hb1⟩
          go_wp2_with fail
          refine (cS.out w1 hb1).mono ?_
          rintro e w2 ⟨rfl, hb2⟩
          rw [Hall.out]
          go_wp2_with fail
          refine (withinA_any _ _ _ _).mono ?_
          rintro e w' ⟨rfl, rfl⟩
          rw [Hkr.out, Hk.out]
          go_wp2_with fail
          go_ret
          exact ⟨rfl, ext_trans hb1 hb2⟩
  · have HE : Hid (audE l s kn = hchk l) := by show _ = _; unfold audE; rw [if_neg hc]
    rw [HE.out]
    have hc1 : (hchk l != 0) = true := by simpa using hc
    generalize hchk l = k at *
    clear hc HE
    go_enter Try.func34, Try.ntmps34
    go_wp2_with fail
    refine cC.out.mono ?_
    rintro e w1 ⟨rfl, hb1⟩
    go_wp2_with fail
    go_ret
    exact ⟨rfl, hb1⟩

set_option maxHeartbeats 2000000 in
theorem right39_any (s : Sight) (w : World) : Calls Try.prog 80 #[.agg #[.int .i64 s.speaker, .int .i64 s.begun, .int .i64 s.lang, .int .i64 s.frm, .int .i64 s.until_]] w fun e w' => e = .returned (.bool s.ok) ∧ Below w.heap.size w w' := by
  obtain ⟨W, hW, hB, hb, _⟩ := sig_new s w
  obtain ⟨c0, c1, c2, c3, c4⟩ := sig_at hb
  clear hb
  generalize hcv : s.ok = cv
  have Hcv := Lib.hid hcv
  clear hcv
  go_enter Try.func80, Try.ntmps80
  go_wp2_with (first | (go_at_call 60; refine (spk35_any _ _).mono ?_; rintro e w' ⟨rfl, rfl⟩) | (go_at_call 61; refine (lng35_any _ _).mono ?_; rintro e w' ⟨rfl, rfl⟩) | (go_at_call 48; refine (time35_any _ _).mono ?_; rintro e w' ⟨rfl, rfl⟩))
  all_goals
    go_ret
    refine ⟨ret_bool ?_, hB⟩
    clear hB hW c0 c1 c2 c3 c4
    have e1 := Hcv.out
    subst e1
    clear Hcv
    rw [Bool.eq_iff_iff]
    simp only [Sight.ok, spkB_iff, lngB_iff, timeB_iff, Bool.and_eq_true, decide_eq_true_eq, Bool.false_eq_true, false_iff, true_iff] at *
    try omega
set_option maxHeartbeats 1000000 in
theorem error39_any (A : Option Addr) (c : Nat) (l : List House) (A2 : Option Addr) (c2 : Nat) (s : List Sight) (kn : Int) (w : World) (hr : Rd w A (hflat l)) (hm : l.length ≤ 9223372036854775807) (hs : Rd w A2 (sflat s)) (hm2 : s.length ≤ 9223372036854775807) :
    Calls Try.prog 39 #[.slice A l.length c, .slice A2 s.length c2, .int .i64 kn] w (CheckPost l s kn w) := by
  have cC := Lib.hid (check35_any A c l w hr hm)
  unfold CheckPost
  by_cases hc : hchk l = 0
  · have HE : Hid (audE l s kn = if 4096 < s.length then 2 else if s.all Sight.ok then (if timeB kn then 0 else 1) else 390) := by show _ = _; unfold audE; rw [if_pos hc]
    rw [hc] at cC
    clear hc
    by_cases h4 : 4096 < s.length
    · have h4' : (4096 : Int) < s.length := by omega
      have HF : Hid (audE l s kn = 2) := by show _ = _; rw [HE.out, if_pos h4]
      rw [HF.out]
      clear HE HF h4
      go_enter Try.func39, Try.ntmps39
      go_wp2_with fail
      refine cC.out.mono ?_
      rintro e w1 ⟨rfl, hb1⟩
      go_wp2_with fail
      go_ret
      exact ⟨rfl, hb1⟩
    · have h4' : decide ((4096 : Int) < s.length) = false := by simp; omega
      have HE2 : Hid (audE l s kn = if s.all Sight.ok then (if timeB kn then 0 else 1) else 390) := by show _ = _; rw [HE.out, if_neg h4]
      have h5 : s.length ≤ 4096 := by omega
      generalize audE l s kn = ae at *
      clear HE h4
      go_enter Try.func39, Try.ntmps39
      go_wp2_with fail
      refine cC.out.mono ?_
      rintro e w1 ⟨rfl, hb1⟩
      go_wp2_with fail
      clear cC h4'
      go_loopw [8] (fun i wr => ∃ k : Nat, k ≤ s.length ∧ i = .int .i64 k ∧ Below w.heap.size w wr ∧ Hid (s.all Sight.ok = (s.drop k).all Sight.ok)) (fun i _ => s.length - (intOf i).toNat)
      case atStart => exact ⟨0, Nat.zero_le _, rfl, hb1, rfl⟩
      case round =>
        obtain ⟨k, hk, rfl, hB, HR⟩ := hrel
        by_cases hlt : k < s.length
        · obtain ⟨b, off, rfl, hb, hcc⟩ := sig_elem hs hlt
          obtain ⟨d0, d1, d2, d3, d4⟩ := hcc wr hB
          have Hd := Lib.hid (all_drop s k hlt)
          clear hcc hs
          generalize s[k] = x at *
          have cr := Lib.hid (right39_any x wr)
          cases hok : x.ok
          · rw [hok] at cr Hd
            have HF : Hid (ae = 390) := by show _ = _; rw [HE2.out, HR.out, Hd.out]; rfl
            clear hok HR Hd HE2
            go_wp2_with fail
            refine cr.out.mono ?_
            rintro e w1 ⟨rfl, hb1⟩
            go_wp2_with fail
            go_ret
            exact ⟨by rw [HF.out]; rfl, ext_trans hB hb1⟩
          · rw [hok] at cr Hd
            have HF : Hid (s.all Sight.ok = (s.drop (k + 1)).all Sight.ok) := by show _ = _; rw [HR.out, Hd.out]; rfl
            clear hok HR Hd
            go_wp2_with fail
            refine cr.out.mono ?_
            rintro e w1 ⟨rfl, hb1⟩
            clear d0 d1 d2 d3 d4 cr
            go_wp2_with fail
            go_roundw
            case rel => exact ⟨k + 1, by omega, by go_num, ext_trans hB hb1, HF⟩
            case measure => simp [intOf]; omega
        · obtain rfl : k = s.length := by omega
          have HF : Hid (ae = if timeB kn then 0 else 1) := by show _ = _; rw [HE2.out, HR.out, List.drop_length]; rfl
          clear HR HE2
          cases hk : timeB kn
          · rw [hk] at HF
            have Hk := Lib.hid hk
            clear hk
            go_wp2_with fail
            refine (time35_any _ _).mono ?_
            rintro e w' ⟨rfl, rfl⟩
            rw [Hk.out]
            go_wp2_with fail
            go_ret
            exact ⟨by rw [HF.out]; rfl, hB⟩
          · rw [hk] at HF
            have Hk := Lib.hid hk
            clear hk
            go_wp2_with fail
            refine (time35_any _ _).mono ?_
            rintro e w' ⟨rfl, rfl⟩
            rw [Hk.out]
            go_wp2_with fail
            go_ret
            exact ⟨by rw [HF.out]; rfl, hB⟩
  · have HE : Hid (audE l s kn = hchk l) := by show _ = _; unfold audE; rw [if_neg hc]
    rw [HE.out]
    have hc1 : (hchk l != 0) = true := by simpa using hc
    generalize hchk l = k at *
    clear hc HE
    go_enter Try.func39, Try.ntmps39
    go_wp2_with fail
    refine cC.out.mono ?_
    rintro e w1 ⟨rfl, hb1⟩
    go_wp2_with fail
    go_ret
    exact ⟨rfl, hb1⟩
end Go.Proofs.Ytmindojbkedmlaa

/- Reference 36: first, last, delay. -/
namespace Go.Proofs.Ytmindojbkedmlaa
open Go.RowKit Go.Han
attribute [local irreducible] wpStill wpQuiet
set_option maxRecDepth 100000

def kindB (k : Int) (h : House) : Bool := decide (h.kind = k)
def overB (k above : Int) (h : House) : Bool := decide (h.kind = k) && decide (above < h.no)
def delB (begun at_ : Int) (h : House) : Bool := decide (h.kind = 3) && decide (at_ < begun + h.ms)
def lastK (b : List House) (k : Int) : Int := maxNo (b.filter (kindB k))
def firstK (b : List House) (k above : Int) : Int := firstNo (b.filter (overB k above))
def delK (b : List House) (begun at_ : Int) : Int := firstNo (b.filter (delB begun at_))
theorem maxNo_snoc (l : List House) (h : House) : maxNo (l ++ [h]) = max (maxNo l) h.no := by unfold maxNo; rw [List.foldl_append]; rfl
theorem lastK_succ (b : List House) (k : Int) (j : Nat) (hj : j < b.length) : lastK (b.take (j + 1)) k = if b[j].kind = k then max (lastK (b.take j) k) b[j].no else lastK (b.take j) k := by
  unfold lastK
  rw [List.take_succ_eq_append_getElem hj, List.filter_append]
  by_cases h : b[j].kind = k
  · rw [if_pos h, List.filter_cons_of_pos (by simp [kindB, h]), List.filter_nil, maxNo_snoc]
  · rw [if_neg h, List.filter_cons_of_neg (by simp [kindB, h]), List.filter_nil, List.append_nil]
theorem firstNo_drop (b : List House) (p : House → Bool) (j : Nat) (hj : j < b.length) : firstNo ((b.drop j).filter p) = if p b[j] then b[j].no else firstNo ((b.drop (j + 1)).filter p) := by
  rw [List.drop_eq_getElem_cons hj]
  cases hp : p b[j]
  · rw [List.filter_cons_of_neg (by rw [hp]; decide)]; rfl
  · rw [List.filter_cons_of_pos hp]; rfl

set_option maxHeartbeats 1000000 in
theorem last36_any (A : Option Addr) (c : Nat) (b : List House) (kd : Int) (w : World) (hr : Rd w A (hflat b)) (hm : b.length ≤ 9223372036854775807) :
    Calls Try.prog 86 #[.slice A b.length c, .int .i64 kd] w fun e w' => e = .returned (.int .i64 (lastK b kd)) ∧ w = w' := by
  go_enter Try.func86, Try.ntmps86
  go_wp2_with fail
  go_loop [5, 6] (fun t i => ∃ k : Nat, k ≤ b.length ∧ i = .int .i64 k ∧ t = .int .i64 (lastK (b.take k) kd)) (fun _ i => b.length - (intOf i).toNat)
  case atStart => exact ⟨0, Nat.zero_le _, rfl, rfl⟩
  case round =>
    obtain ⟨k, hk, rfl, rfl⟩ := hrel
    by_cases hlt : k < b.length
    · obtain ⟨bb, off, rfl, hb, hc⟩ := hou_elem hr hlt
      obtain ⟨d0, d1, _⟩ := hc w (Below.refl _ _)
      have hs := lastK_succ b kd k hlt
      clear hc hr
      generalize b[k] = x at *
      by_cases h : x.kind = kd
      · have g1 : (x.kind == kd) = true := by simp [h]
        have HS : Hid (lastK (b.take (k + 1)) kd = max (lastK (b.take k) kd) x.no) := by show _ = _; rw [hs, if_pos h]
        clear hs h
        go_wp2
        go_round
        case rel => exact ⟨k + 1, by omega, by go_num, by rw [HS.out]⟩
        case measure => simp [intOf]; omega
      · have g1 : (x.kind == kd) = false := by simp [h]
        have HS : Hid (lastK (b.take (k + 1)) kd = lastK (b.take k) kd) := by show _ = _; rw [hs, if_neg h]
        clear hs h
        go_wp2
        go_round
        case rel => exact ⟨k + 1, by omega, by go_num, by rw [HS.out]⟩
        case measure => simp [intOf]; omega
    · obtain rfl : k = b.length := by omega
      rw [List.take_length]
      go_wp2
      go_ret
      exact ⟨rfl, rfl⟩
set_option maxHeartbeats 1000000 in
theorem first36_any (A : Option Addr) (c : Nat) (b : List House) (kd ab : Int) (w : World) (hr : Rd w A (hflat b)) (hm : b.length ≤ 9223372036854775807) :
    Calls Try.prog 85 #[.slice A b.length c, .int .i64 kd, .int .i64 ab] w fun e w' => e = .returned (.int .i64 (firstK b kd ab)) ∧ w = w' := by
  have HF : Hid (firstK b kd ab = firstNo ((b.drop 0).filter (overB kd ab))) := rfl
  generalize firstK b kd ab = fk at *
  go_enter Try.func85, Try.ntmps85
  go_wp2_with fail
  go_loop [7] (fun i => ∃ k : Nat, k ≤ b.length ∧ i = .int .i64 k ∧ Hid (fk = firstNo ((b.drop k).filter (overB kd ab)))) (fun i => b.length - (intOf i).toNat)
  case atStart => exact ⟨0, Nat.zero_le _, rfl, HF⟩
  case round =>
    obtain ⟨k, hk, rfl, HK⟩ := hrel
    by_cases hlt : k < b.length
    · obtain ⟨bb, off, rfl, hb, hc⟩ := hou_elem hr hlt
      obtain ⟨d0, d1, _⟩ := hc w (Below.refl _ _)
      have hs := firstNo_drop b (overB kd ab) k hlt
      clear hc hr
      generalize b[k] = x at *
      by_cases h : x.kind = kd
      · have g1 : (x.kind == kd) = true := by simp [h]
        by_cases h2 : ab < x.no
        · have HS : Hid (fk = x.no) := by show _ = _; rw [HK.out, hs, if_pos (by simp [overB, h, h2])]
          clear hs h HK HF
          go_wp2
          go_ret
          exact ⟨by rw [HS.out]; rfl, rfl⟩
        · have HS : Hid (fk = firstNo ((b.drop (k + 1)).filter (overB kd ab))) := by show _ = _; rw [HK.out, hs, if_neg (by simp [overB, h2])]
          have g2 : decide (ab < x.no) = false := by simp; omega
          clear hs h h2
          go_wp2
          go_round
          case rel => exact ⟨k + 1, by omega, by go_num, HS⟩
          case measure => simp [intOf]; omega
      · have g1 : (x.kind == kd) = false := by simp [h]
        have HS : Hid (fk = firstNo ((b.drop (k + 1)).filter (overB kd ab))) := by show _ = _; rw [HK.out, hs, if_neg (by simp [overB, h])]
        clear hs h
        go_wp2
        go_round
        case rel => exact ⟨k + 1, by omega, by go_num, HS⟩
        case measure => simp [intOf]; omega
    · obtain rfl : k = b.length := by omega
      have HS : Hid (fk = -1) := by show _ = _; rw [HK.out, List.drop_length]; rfl
      clear HK HF
      go_wp2
      go_ret
      exact ⟨by rw [HS.out]; rfl, rfl⟩
set_option maxHeartbeats 1000000 in
theorem delay36_any (A : Option Addr) (c : Nat) (b : List House) (bg at_ : Int) (w : World) (hr : Rd w A (hflat b)) (hm : b.length ≤ 9223372036854775807) (hok : ∀ h ∈ b, h.Ok) (hb0 : 0 ≤ bg) (hb1 : bg < 1099511627776) :
    Calls Try.prog 87 #[.slice A b.length c, .int .i64 bg, .int .i64 at_] w fun e w' => e = .returned (.int .i64 (delK b bg at_)) ∧ w = w' := by
  have HF : Hid (delK b bg at_ = firstNo ((b.drop 0).filter (delB bg at_))) := rfl
  generalize delK b bg at_ = fk at *
  go_enter Try.func87, Try.ntmps87
  go_wp2_with fail
  go_loop [7] (fun i => ∃ k : Nat, k ≤ b.length ∧ i = .int .i64 k ∧ Hid (fk = firstNo ((b.drop k).filter (delB bg at_)))) (fun i => b.length - (intOf i).toNat)
  case atStart => exact ⟨0, Nat.zero_le _, rfl, HF⟩
  case round =>
    obtain ⟨k, hk, rfl, HK⟩ := hrel
    by_cases hlt : k < b.length
    · obtain ⟨bb, off, rfl, hb, hc⟩ := hou_elem hr hlt
      obtain ⟨d0, d1, d2, d3, d4, d5, d6, d7, d8, d9⟩ := hc w (Below.refl _ _)
      have hs := firstNo_drop b (delB bg at_) k hlt
      have hxo := hok _ (List.getElem_mem hlt)
      clear hc hr hok
      generalize b[k] = x at *
      have hw : IntKind.i64.wrap (bg + x.ms) = bg + x.ms := by
        obtain ⟨_, _, _, _, _, _, _, _, _, _, _, _, _, _, _, _, hm⟩ := hxo
        exact IntWalk.i64_in _ (by omega)
      clear hxo
      by_cases h : x.kind = 3
      · have g1 : (x.kind == 3) = true := by simp [h]
        by_cases h2 : at_ < bg + x.ms
        · have HS : Hid (fk = x.no) := by show _ = _; rw [HK.out, hs, if_pos (by simp [delB, h, h2])]
          have g2 : decide (at_ < bg + x.ms) = true := by simp; omega
          clear hs h HK HF d2 d3 d4 d5 d6 d7 d8 h2
          go_wp2
          go_ret
          exact ⟨by rw [HS.out]; rfl, rfl⟩
        · have HS : Hid (fk = firstNo ((b.drop (k + 1)).filter (delB bg at_))) := by show _ = _; rw [HK.out, hs, if_neg (by simp [delB, h2])]
          have g2 : decide (at_ < bg + x.ms) = false := by simp; omega
          clear hs h h2 d2 d3 d4 d5 d6 d7 d8
          go_wp2
          go_round
          case rel => exact ⟨k + 1, by omega, by go_num, HS⟩
          case measure => simp [intOf]; omega
      · have g1 : (x.kind == 3) = false := by simp [h]
        have HS : Hid (fk = firstNo ((b.drop (k + 1)).filter (delB bg at_))) := by show _ = _; rw [HK.out, hs, if_neg (by simp [delB, h])]
        clear hs h d2 d3 d4 d5 d6 d7 d8 d9
        go_wp2
        go_round
        case rel => exact ⟨k + 1, by omega, by go_num, HS⟩
        case measure => simp [intOf]; omega
    · obtain rfl : k = b.length := by omega
      have HS : Hid (fk = -1) := by show _ = _; rw [HK.out, List.drop_length]; rfl
      clear HK HF
      go_wp2
      go_ret
      exact ⟨by rw [HS.out]; rfl, rfl⟩
end Go.Proofs.Ytmindojbkedmlaa
