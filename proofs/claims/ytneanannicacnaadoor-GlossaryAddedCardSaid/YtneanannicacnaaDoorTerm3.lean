/- Phrases; the check of a term, in the package and in the reference. -/
import Derived.Test.YtneanannicacnaaDoorTerm2
namespace Go.Proofs.YtneanannicacnaaDoor
open Go.RowKit Go.Han
attribute [local irreducible] wpStill wpQuiet
set_option maxRecDepth 100000

theorem strs_get (xs : List ByteArray) (k : Nat) (h : k < xs.length) : (strs xs)[k]? = some (.string xs[k]) := by simp [strs, h]
theorem StrS.at_ {w : World} {s : StrS} (h : s.lies w) {k : Nat} (hk : k < s.xs.length) : ∃ b off, s.addr = some ⟨b, off, none⟩ ∧ b < w.heap.size ∧ ∀ (j : Nat) (hj : j < s.xs.length), w.cell? ⟨b, off + j, none⟩ = some (.string s.xs[j]) := by
  obtain ⟨b, off, h1, h2, h3⟩ := h.rd.at_ (k := k) (by simpa [strs] using hk)
  exact ⟨b, off, h1, h2, fun j hj => h3 j _ (strs_get _ _ hj)⟩

theorem wrong_any (s : ByteArray) (w : World) (hT : Tabs w) : Calls Tryd.prog 112 #[.string s] w fun e w' => e = .returned (.bool (!wordB s)) ∧ Below w.heap.size w w' := by
  have cW := Lib.hid (word_any s w hT)
  generalize wordB s = b at *
  go_enter Tryd.func112, Tryd.ntmps112
  go_wp2_with fail
  refine cW.out.mono ?_
  rintro e w' ⟨rfl, hb⟩
  go_wp2_with fail
  go_ret
  exact ⟨rfl, hb⟩
/-- The index of the first text that is no word. -/
def IdxWord (xs : List ByteArray) (w : World) (e : Ending) (w' : World) : Prop := ∃ i : Int, e = .returned (.int .i64 i) ∧ ((xs.all wordB = true ∧ i = -1) ∨ (xs.all wordB = false ∧ 0 ≤ i)) ∧ Below w.heap.size w w'
theorem indexWrong_any (s : StrS) (w : World) (hT : Tabs w) (hs : s.lies w) : Calls Tryd.prog 127 #[s.val, .func (.func 112) #[] #[]] w (IdxWord s.xs w) := by
  obtain ⟨A, cp, xs⟩ := s
  have hmx : xs.length ≤ 9223372036854775807 := Nat.le_trans hs.cap hs.max
  have hat := Lib.hid (fun k hk => StrS.at_ hs (k := k) hk)
  have en := enters_of (P := Tryd.prog) Tryd.func112 (by kernel_rfl) rfl
  clear hs
  unfold StrS.val
  go_enter Tryd.func127, Tryd.ntmps127
  go_wp2_with fail
  go_loopw [8] (fun i wr => ∃ k : Nat, k ≤ xs.length ∧ i = .int .i64 k ∧ Below w.heap.size w wr ∧ Hid ((xs.take k).all wordB = true)) (fun i _ => xs.length - (intOf i).toNat)
  case atStart => exact ⟨0, Nat.zero_le _, rfl, Below.refl _ _, rfl⟩
  case round =>
    obtain ⟨k, hk, rfl, hB, HR⟩ := hrel
    by_cases hlt : k < xs.length
    · obtain ⟨b, off, he, hb, hc⟩ := hat.out k hlt
      change A = _ at he
      change ∀ (j : Nat) (hj : j < xs.length), w.cell? ⟨b, off + j, none⟩ = some (.string xs[j]) at hc
      subst he
      have d0 := (hB.cell (p := ⟨b, off + k, none⟩) hb).trans (hc k hlt)
      have cW := Lib.hid (wrong_any xs[k] wr (utf_ext hT hB))
      have Hs : Hid ((xs.take (k + 1)).all wordB = ((xs.take k).all wordB && wordB xs[k])) := by
        show _ = _
        rw [List.take_succ_eq_append_getElem hlt, List.all_append]; simp
      have Hf : Hid (wordB xs[k] = false → xs.all wordB = false) := fun h => List.all_eq_false.2 ⟨_, List.getElem_mem hlt, by simp [h]⟩
      clear hc
      generalize xs[k] = x at *
      cases hx : wordB x
      · have HF := Lib.hid (Hf.out hx)
        have hcw := cW.out
        rw [hx] at hcw
        have CW := Lib.hid hcw
        clear hx hcw cW Hs Hf
        go_wp2_with fail
        refine CW.out.mono ?_
        rintro e w' ⟨rfl, hb⟩
        go_wp2_with fail
        go_ret
        exact ⟨k, rfl, .inr ⟨HF.out, by omega⟩, ext_trans hB hb⟩
      · have HF : Hid ((xs.take (k + 1)).all wordB = true) := by show _ = _; rw [Hs.out, HR.out, hx]; rfl
        have hcw := cW.out
        rw [hx] at hcw
        have CW := Lib.hid hcw
        clear hx hcw cW Hs Hf
        go_wp2_with fail
        refine CW.out.mono ?_
        rintro e w' ⟨rfl, hb⟩
        go_wp2_with fail
        go_roundw
        case rel => exact ⟨k + 1, by omega, by go_num, ext_trans hB hb, HF⟩
        case measure => simp [intOf]; omega
    · have HF : Hid (xs.all wordB = true) := by
        show _ = _
        have h := HR.out
        rw [List.take_of_length_le (by omega)] at h
        exact h
      clear HR
      go_wp2_with fail
      go_ret
      exact ⟨-1, rfl, .inl ⟨HF.out, rfl⟩, hB⟩
theorem containsWrong_any (s : StrS) (w : World) (hT : Tabs w) (hs : s.lies w) : Calls Tryd.prog 113 #[s.val, .func (.func 112) #[] #[]] w fun e w' => e = .returned (.bool (!s.xs.all wordB)) ∧ Below w.heap.size w w' := by
  have cI := Lib.hid (indexWrong_any s w hT hs)
  obtain ⟨v, hv⟩ : ∃ v, s.val = v := ⟨_, rfl⟩
  rw [hv] at cI ⊢
  clear hv
  go_enter Tryd.func113, Tryd.ntmps113
  go_wp2_with fail
  refine cI.out.mono ?_
  rintro e w1 ⟨i, rfl, h, hb⟩
  rcases h with ⟨h, rfl⟩ | ⟨h, h0⟩
  · have H := Lib.hid h
    clear h
    go_wp2_with fail
    go_ret
    exact ⟨by rw [H.out]; rfl, hb⟩
  · have H := Lib.hid h
    clear h
    go_wp2_with fail
    go_ret
    exact ⟨by rw [H.out]; simp, hb⟩
theorem phrase_any (s : StrS) (w : World) (hT : Tabs w) (hs : s.lies w) : Calls Tryd.prog 95 #[s.val] w fun e w' => e = .returned (.bool (phraseB s.xs)) ∧ Below w.heap.size w w' := by
  have cI := Lib.hid (fun w hT hs => containsWrong_any s w hT hs)
  have hmx : s.xs.length ≤ 9223372036854775807 := Nat.le_trans hs.cap hs.max
  have hv : s.val = .slice s.addr s.xs.length s.cap := rfl
  rw [hv] at cI ⊢
  clear hv
  by_cases h1 : 1 ≤ s.xs.length
  · by_cases h2 : s.xs.length ≤ 4
    · have H : Hid (phraseB s.xs = s.xs.all wordB) := by show _ = _; unfold phraseB; rw [decide_eq_true h1, decide_eq_true h2]; rfl
      go_enter Tryd.func95, Tryd.ntmps95
      go_wp2_with fail
      refine (cI.out w hT hs).mono ?_
      rintro e w1 ⟨rfl, hb⟩
      go_wp2_with fail
      go_ret
      exact ⟨by rw [H.out]; simp, hb⟩
    · have H : Hid (phraseB s.xs = false) := by show _ = _; unfold phraseB; rw [decide_eq_false h2]; simp
      go_enter Tryd.func95, Tryd.ntmps95
      go_wp2_with fail
      go_ret
      exact ⟨by rw [H.out]; rfl, Below.refl _ _⟩
  · have H : Hid (phraseB s.xs = false) := by show _ = _; unfold phraseB; rw [decide_eq_false h1]; rfl
    have h0 : s.xs.length = 0 := by omega
    go_enter Tryd.func95, Tryd.ntmps95
    go_wp2_with fail
    go_ret
    exact ⟨by rw [H.out]; rfl, Below.refl _ _⟩
theorem words_any (s : StrS) (w : World) (hs : s.lies w) : Calls Tryd.prog 100 #[s.val] w fun e w' => e = .returned (.bool (phraseB s.xs)) ∧ Below w.heap.size w w' := by
  obtain ⟨A, cp, xs⟩ := s
  have hmx : xs.length ≤ 9223372036854775807 := Nat.le_trans hs.cap hs.max
  have hat := Lib.hid (fun k hk => StrS.at_ hs (k := k) hk)
  show Calls _ _ #[.slice A xs.length cp] w fun e w' => e = .returned (.bool (phraseB xs)) ∧ _
  clear hs
  have H : Hid (phraseB xs = (decide (1 ≤ xs.length) && decide (xs.length ≤ 4) && xs.all wordB)) := rfl
  go_enter Tryd.func100, Tryd.ntmps100
  go_wp2_with fail
  go_loopw [3] (fun i wr => ∃ k : Nat, k ≤ xs.length ∧ i = .int .i64 k ∧ Below w.heap.size w wr ∧ Hid ((xs.take k).all wordB = true)) (fun i _ => xs.length - (intOf i).toNat)
  case atStart => exact ⟨0, Nat.zero_le _, rfl, Below.refl _ _, rfl⟩
  case round =>
    obtain ⟨k, hk, rfl, hB, HR⟩ := hrel
    by_cases hlt : k < xs.length
    · obtain ⟨b, off, he, hb, hc⟩ := hat.out k hlt
      change A = _ at he
      change ∀ (j : Nat) (hj : j < xs.length), w.cell? ⟨b, off + j, none⟩ = some (.string xs[j]) at hc
      subst he
      have d0 := (hB.cell (p := ⟨b, off + k, none⟩) hb).trans (hc k hlt)
      have cW := Lib.hid (word9_any xs[k] wr)
      have Hs : Hid ((xs.take (k + 1)).all wordB = ((xs.take k).all wordB && wordB xs[k])) := by
        show _ = _
        rw [List.take_succ_eq_append_getElem hlt, List.all_append]; simp
      have Hf : Hid (wordB xs[k] = false → xs.all wordB = false) := fun h => List.all_eq_false.2 ⟨_, List.getElem_mem hlt, by simp [h]⟩
      clear hc
      generalize xs[k] = x at *
      cases hx : wordB x
      · have HF := Lib.hid (Hf.out hx)
        have hcw := cW.out
        rw [hx] at hcw
        have CW := Lib.hid hcw
        clear hx hcw cW Hs Hf
        go_wp2_with fail
        refine CW.out.mono ?_
        rintro e w' ⟨rfl, hb⟩
        go_wp2_with fail
        go_ret
        exact ⟨by rw [H.out, HF.out]; simp, ext_trans hB hb⟩
      · have HF : Hid ((xs.take (k + 1)).all wordB = true) := by show _ = _; rw [Hs.out, HR.out, hx]; rfl
        have hcw := cW.out
        rw [hx] at hcw
        have CW := Lib.hid hcw
        clear hx hcw cW Hs Hf
        go_wp2_with fail
        refine CW.out.mono ?_
        rintro e w' ⟨rfl, hb⟩
        go_wp2_with fail
        go_roundw
        case rel => exact ⟨k + 1, by omega, by go_num, ext_trans hB hb, HF⟩
        case measure => simp [intOf]; omega
    · have HF : Hid (phraseB xs = (decide (1 ≤ xs.length) && decide (xs.length ≤ 4))) := by
        show _ = _
        have h := HR.out
        rw [List.take_of_length_le (by omega)] at h
        rw [H.out, h, Bool.and_true]
      clear HR H
      by_cases h1 : 1 ≤ xs.length
      · by_cases h2 : xs.length ≤ 4
        · have HG : Hid (phraseB xs = true) := by show _ = _; rw [HF.out, decide_eq_true h1, decide_eq_true h2]; rfl
          have h3 : (xs.length : Int) ≤ 4 := by omega
          go_wp2_with fail
          go_ret
          exact ⟨by rw [HG.out]; simp, hB⟩
        · have HG : Hid (phraseB xs = false) := by show _ = _; rw [HF.out, decide_eq_false h2]; simp
          have h3 : ¬ (xs.length : Int) ≤ 4 := by omega
          go_wp2_with fail
          go_ret
          exact ⟨by rw [HG.out]; simp, hB⟩
      · have HG : Hid (phraseB xs = false) := by show _ = _; rw [HF.out, decide_eq_false h1]; rfl
        have h0 : xs.length = 0 := by omega
        go_wp2_with fail
        go_ret
        exact ⟨by rw [HG.out]; rfl, hB⟩
end Go.Proofs.YtneanannicacnaaDoor
