/- Texts of this claim, one after the other: Term2, Term3, Gen, TouA, AliA, Store, AliB, AliQ, AliC. -/
import Derived.Test.YtmindojbkedmlaaDoorM2
import Derived.Test.YtmindojbkedmlaaDoorM1
import Derived.RegionTactic
import Derived.BigRegion
import Derived.Deep.QuietTactic
import Derived.Defers
/- Names (package lex), phrases, the check of a term. -/
namespace Go.Proofs.YtmindojbkedmlaaDoor
open Go.RowKit Go.Han
attribute [local irreducible] wpStill wpQuiet
set_option maxRecDepth 100000

theorem classK_part {c k : Int} (h : ClassK c k) (hp : partB c = true) : k = 2 ∨ k = 3 ∨ k = 5 := by
  unfold partB at hp
  rcases h with ⟨_, h⟩ | ⟨_, _, h⟩ | ⟨_, _, _, h⟩ | ⟨h1, h2, h3, _⟩
  · exact .inl h
  · exact .inr (.inl h)
  · exact .inr (.inr h)
  · rw [h1, h2, decide_eq_false h3] at hp; cases hp
theorem classK_no {c k : Int} (h : ClassK c k) (hp : partB c = false) : k = 0 ∨ k = 1 ∨ k = 4 := by
  unfold partB at hp
  rcases h with ⟨h, _⟩ | ⟨_, h, _⟩ | ⟨_, _, h, _⟩ | ⟨_, _, _, h⟩
  · rw [h] at hp; cases hp
  · rw [h] at hp; simp at hp
  · rw [h] at hp; simp at hp
  · exact h
theorem classK_letter {c k : Int} (h : ClassK c k) (hp : letterB c = true) : k = 2 := by
  rcases h with ⟨_, h⟩ | ⟨h1, _, h⟩ | ⟨h1, _, _, h⟩ | ⟨h1, _, _, _⟩
  · exact h
  all_goals rw [hp] at h1; cases h1
theorem classK_other {c k : Int} (h : ClassK c k) (hp : letterB c = false) : k = 0 ∨ k = 1 ∨ k = 3 ∨ k = 4 ∨ k = 5 := by
  rcases h with ⟨h1, h⟩ | ⟨_, _, h⟩ | ⟨_, _, _, h⟩ | ⟨_, _, _, h⟩
  · rw [hp] at h1; cases h1
  all_goals omega
def InPost (Q : Int → Prop) (w : World) (e : Ending) (w' : World) : Prop := ∃ k, e = .returned (.int .i64 k) ∧ Q k ∧ w = w'
theorem class_part (c : Int) (w : World) (h : partB c = true) : Calls Tryd.prog 88 #[.int .u8 c] w (InPost (fun k => k = 2 ∨ k = 3 ∨ k = 5) w) :=
  (class_any c w).mono fun _ _ ⟨k, h1, h2, h3⟩ => ⟨k, h1, classK_part h2 h, h3⟩
theorem class_no (c : Int) (w : World) (h : partB c = false) : Calls Tryd.prog 88 #[.int .u8 c] w (InPost (fun k => k = 0 ∨ k = 1 ∨ k = 4) w) :=
  (class_any c w).mono fun _ _ ⟨k, h1, h2, h3⟩ => ⟨k, h1, classK_no h2 h, h3⟩
theorem class_letter (c : Int) (w : World) (h : letterB c = true) : Calls Tryd.prog 88 #[.int .u8 c] w (InPost (fun k => k = 2) w) :=
  (class_any c w).mono fun _ _ ⟨k, h1, h2, h3⟩ => ⟨k, h1, classK_letter h2 h, h3⟩
theorem class_other (c : Int) (w : World) (h : letterB c = false) : Calls Tryd.prog 88 #[.int .u8 c] w (InPost (fun k => k = 0 ∨ k = 1 ∨ k = 3 ∨ k = 4 ∨ k = 5) w) :=
  (class_any c w).mono fun _ _ ⟨k, h1, h2, h3⟩ => ⟨k, h1, classK_other h2 h, h3⟩

theorem str_ne {s : ByteArray} (h : 0 < s.size) : s.toList.isEmpty = false := by
  rw [ByteArray.toList_eq]
  cases hl : s.data.toList with
  | nil => rw [Lib.size_eq, hl] at h; simp at h
  | cons => rfl
theorem str_no {s : ByteArray} (h : ¬ 0 < s.size) : s.toList.isEmpty = true := by
  rw [ByteArray.toList_eq]
  cases hl : s.data.toList with
  | nil => rfl
  | cons => rw [Lib.size_eq, hl] at h; simp at h
set_option maxHeartbeats 1000000 in
theorem name_any (s : ByteArray) (w : World) : Calls Tryd.prog 64 #[.string s] w fun e w' => e = .returned (.bool (nameB s)) ∧ w = w' := by
  by_cases h0 : 0 < s.size
  · have g0' : (0 : Int) < s.size := by omega
    have g3 := str_ne h0
    by_cases h1 : s.size ≤ 32
    · have g1 : ¬ (32 : Int) < s.size := by omega
      cases h2 : letterB s[0].toNat
      · have H : Hid (nameB s = false) := nameB_head s h0 h2
        have CL := Lib.hid (fun w => class_other s[0].toNat w h2)
        clear h2
        go_enter Tryd.func64, Tryd.ntmps64
        go_wp2_with fail
        refine (CL.out _).mono ?_
        rintro e w' ⟨k, rfl, hk, rfl⟩
        rcases hk with rfl | rfl | rfl | rfl | rfl
        all_goals
          go_wp2_with fail
          go_ret
          exact ⟨by rw [H.out]; rfl, rfl⟩
      · have H : Hid (nameB s = s.data.toList.all (fun c => partB c.toNat)) := nameB_of s h0 h1 h2
        have CL := Lib.hid (fun w => class_letter s[0].toNat w h2)
        clear h2
        go_enter Tryd.func64, Tryd.ntmps64
        go_wp2_with fail
        refine (CL.out _).mono ?_
        rintro e w' ⟨k, rfl, rfl, rfl⟩
        go_wp2_with fail
        go_loop [20] (fun i => ∃ k : Nat, k ≤ s.size ∧ i = .int .i64 k ∧ Hid ((s.data.toList.take k).all (fun c => partB c.toNat) = true)) (fun i => s.size - (intOf i).toNat)
        case atStart => exact ⟨0, Nat.zero_le _, rfl, rfl⟩
        case round =>
          obtain ⟨k, hk, rfl, HR⟩ := hrel
          by_cases hlt : k < s.size
          · have Hs := Lib.hid (all_take_succ (f := fun c => partB c.toNat) s k hlt)
            have Hf := Lib.hid (fun h => all_false (f := fun c => partB c.toNat) s k hlt h)
            cases hp : partB s[k].toNat
            · have HF := Lib.hid (Hf.out hp)
              have CP := Lib.hid (fun w => class_no s[k].toNat w hp)
              clear hp Hs Hf
              go_wp2_with fail
              refine (CP.out _).mono ?_
              rintro e w' ⟨q, rfl, hq, rfl⟩
              rcases hq with rfl | rfl | rfl
              all_goals
                go_wp2_with fail
                go_ret
                exact ⟨by rw [H.out, HF.out]; rfl, rfl⟩
            · have HF : Hid ((s.data.toList.take (k + 1)).all (fun c => partB c.toNat) = true) := by show _ = _; rw [Hs.out, HR.out, hp]; rfl
              have CP := Lib.hid (fun w => class_part s[k].toNat w hp)
              clear hp Hs Hf
              go_wp2_with fail
              refine (CP.out _).mono ?_
              rintro e w' ⟨q, rfl, hq, rfl⟩
              rcases hq with rfl | rfl | rfl
              all_goals
                go_wp2_with fail
                go_round
                case rel => exact ⟨k + 1, by omega, by go_num, HF⟩
                case measure => simp [intOf]; omega
          · have HF : Hid (s.data.toList.all (fun c => partB c.toNat) = true) := by
              show _ = _
              have h := HR.out
              rw [List.take_of_length_le (by have := Lib.size_eq s; omega)] at h
              exact h
            clear HR
            go_wp2_with fail
            go_ret
            exact ⟨by rw [H.out, HF.out]; rfl, rfl⟩
    · have g1 : (32 : Int) < s.size := by omega
      have H := Lib.hid (nameB_big s h1)
      clear h1
      go_enter Tryd.func64, Tryd.ntmps64
      go_wp2_with fail
      go_ret
      exact ⟨by rw [H.out]; rfl, rfl⟩
  · have H := Lib.hid (nameB_none s h0)
    have g3 := str_no h0
    clear h0
    go_enter Tryd.func64, Tryd.ntmps64
    go_wp2_with fail
    go_ret
    exact ⟨by rw [H.out]; rfl, rfl⟩
end Go.Proofs.YtmindojbkedmlaaDoor

/- Phrases; the check of a term, in the package and in the reference. -/
namespace Go.Proofs.YtmindojbkedmlaaDoor
open Go.RowKit Go.Han
attribute [local irreducible] wpStill wpQuiet
set_option maxRecDepth 100000

theorem strs_get (xs : List ByteArray) (k : Nat) (h : k < xs.length) : (strs xs)[k]? = some (.string xs[k]) := by simp [strs, h]
theorem StrS.at_ {w : World} {s : StrS} (h : s.lies w) {k : Nat} (hk : k < s.xs.length) : ∃ b off, s.addr = some ⟨b, off, none⟩ ∧ b < w.heap.size ∧ ∀ (j : Nat) (hj : j < s.xs.length), w.cell? ⟨b, off + j, none⟩ = some (.string s.xs[j]) := by
  obtain ⟨b, off, h1, h2, h3⟩ := h.rd.at_ (k := k) (by simpa [strs] using hk)
  exact ⟨b, off, h1, h2, fun j hj => h3 j _ (strs_get _ _ hj)⟩

theorem wrong_any (s : ByteArray) (w : World) (hT : Tabs w) : Calls Tryd.prog 87 #[.string s] w fun e w' => e = .returned (.bool (!wordB s)) ∧ Below w.heap.size w w' := by
  have cW := Lib.hid (word_any s w hT)
  generalize wordB s = b at *
  go_enter Tryd.func87, Tryd.ntmps87
  go_wp2_with fail
  refine cW.out.mono ?_
  rintro e w' ⟨rfl, hb⟩
  go_wp2_with fail
  go_ret
  exact ⟨rfl, hb⟩
/-- The index of the first text that is no word. -/
def IdxWord (xs : List ByteArray) (w : World) (e : Ending) (w' : World) : Prop := ∃ i : Int, e = .returned (.int .i64 i) ∧ ((xs.all wordB = true ∧ i = -1) ∨ (xs.all wordB = false ∧ 0 ≤ i)) ∧ Below w.heap.size w w'
theorem indexWrong_any (s : StrS) (w : World) (hT : Tabs w) (hs : s.lies w) : Calls Tryd.prog 44 #[s.val, .func (.func 87) #[] #[]] w (IdxWord s.xs w) := by
  obtain ⟨A, cp, xs⟩ := s
  have hmx : xs.length ≤ 9223372036854775807 := Nat.le_trans hs.cap hs.max
  have hat := Lib.hid (fun k hk => StrS.at_ hs (k := k) hk)
  have en := enters_of (P := Tryd.prog) Tryd.func87 (by kernel_rfl) rfl
  clear hs
  unfold StrS.val
  go_enter Tryd.func44, Tryd.ntmps44
  go_wp2_with fail
  go_loopw [8] (fun i wr => ∃ k : Nat, k ≤ xs.length ∧ i = .int .i64 k ∧ Below w.heap.size w wr ∧ Hid ((xs.take k).all wordB = true)) (fun i _ => xs.length - (intOf i).toNat)
  case atStart => exact ⟨0, Nat.zero_le _, rfl, Below.refl _ _, rfl⟩
  case round =>
    obtain ⟨k, hk, rfl, hB, HR⟩ := hrel
    by_cases hlt : k < xs.length
    · obtain ⟨b, off, he, hb, hc⟩ := hat.out k hlt
      change A = _ at he
      change ∀ (j : Nat) (hj : j < xs.length), w.cell? ⟨b, off + j, none⟩ = some (.string xs[j]) at hc
      subst he
      have d0 := (hB.cell (p := ⟨b, off + k, none⟩) hb).trans (hc k hlt)
      have cW := Lib.hid (wrong_any xs[k] wr (utf_ext hT hB))
      have Hs : Hid ((xs.take (k + 1)).all wordB = ((xs.take k).all wordB && wordB xs[k])) := by
        show _ = _
        rw [List.take_succ_eq_append_getElem hlt, List.all_append]; simp
      have Hf : Hid (wordB xs[k] = false → xs.all wordB = false) := fun h => List.all_eq_false.2 ⟨_, List.getElem_mem hlt, by simp [h]⟩
      clear hc
      generalize xs[k] = x at *
      cases hx : wordB x
      · have HF := Lib.hid (Hf.out hx)
        have hcw := cW.out
        rw [hx] at hcw
        have CW := Lib.hid hcw
        clear hx hcw cW Hs Hf
        go_wp2_with fail
        refine CW.out.mono ?_
        rintro e w' ⟨rfl, hb⟩
        go_wp2_with fail
        go_ret
        exact ⟨k, rfl, .inr ⟨HF.out, by omega⟩, ext_trans hB hb⟩
      · have HF : Hid ((xs.take (k + 1)).all wordB = true) := by show _ = _; rw [Hs.out, HR.out, hx]; rfl
        have hcw := cW.out
        rw [hx] at hcw
        have CW := Lib.hid hcw
        clear hx hcw cW Hs Hf
        go_wp2_with fail
        refine CW.out.mono ?_
        rintro e w' ⟨rfl, hb⟩
        go_wp2_with fail
        go_roundw
        case rel => exact ⟨k + 1, by omega, by go_num, ext_trans hB hb, HF⟩
        case measure => simp [intOf]; omega
    · have HF : Hid (xs.all wordB = true) := by
        show _ = _
        have h := HR.out
        rw [List.take_of_length_le (by omega)] at h
        exact h
      clear HR
      go_wp2_with fail
      go_ret
      exact ⟨-1, rfl, .inl ⟨HF.out, rfl⟩, hB⟩
theorem containsWrong_any (s : StrS) (w : World) (hT : Tabs w) (hs : s.lies w) : Calls Tryd.prog 21 #[s.val, .func (.func 87) #[] #[]] w fun e w' => e = .returned (.bool (!s.xs.all wordB)) ∧ Below w.heap.size w w' := by
  have cI := Lib.hid (indexWrong_any s w hT hs)
  obtain ⟨v, hv⟩ : ∃ v, s.val = v := ⟨_, rfl⟩
  rw [hv] at cI ⊢
  clear hv
  go_enter Tryd.func21, Tryd.ntmps21
  go_wp2_with fail
  refine cI.out.mono ?_
  rintro e w1 ⟨i, rfl, h, hb⟩
  rcases h with ⟨h, rfl⟩ | ⟨h, h0⟩
  · have H := Lib.hid h
    clear h
    go_wp2_with fail
    go_ret
    exact ⟨by rw [H.out]; rfl, hb⟩
  · have H := Lib.hid h
    clear h
    go_wp2_with fail
    go_ret
    exact ⟨by rw [H.out]; simp, hb⟩
theorem phrase_any (s : StrS) (w : World) (hT : Tabs w) (hs : s.lies w) : Calls Tryd.prog 63 #[s.val] w fun e w' => e = .returned (.bool (phraseB s.xs)) ∧ Below w.heap.size w w' := by
  have cI := Lib.hid (fun w hT hs => containsWrong_any s w hT hs)
  have hmx : s.xs.length ≤ 9223372036854775807 := Nat.le_trans hs.cap hs.max
  have hv : s.val = .slice s.addr s.xs.length s.cap := rfl
  rw [hv] at cI ⊢
  clear hv
  by_cases h1 : 1 ≤ s.xs.length
  · by_cases h2 : s.xs.length ≤ 4
    · have H : Hid (phraseB s.xs = s.xs.all wordB) := by show _ = _; unfold phraseB; rw [decide_eq_true h1, decide_eq_true h2]; rfl
      go_enter Tryd.func63, Tryd.ntmps63
      go_wp2_with fail
      refine (cI.out w hT hs).mono ?_
      rintro e w1 ⟨rfl, hb⟩
      go_wp2_with fail
      go_ret
      exact ⟨by rw [H.out]; simp, hb⟩
    · have H : Hid (phraseB s.xs = false) := by show _ = _; unfold phraseB; rw [decide_eq_false h2]; simp
      go_enter Tryd.func63, Tryd.ntmps63
      go_wp2_with fail
      go_ret
      exact ⟨by rw [H.out]; rfl, Below.refl _ _⟩
  · have H : Hid (phraseB s.xs = false) := by show _ = _; unfold phraseB; rw [decide_eq_false h1]; rfl
    have h0 : s.xs.length = 0 := by omega
    go_enter Tryd.func63, Tryd.ntmps63
    go_wp2_with fail
    go_ret
    exact ⟨by rw [H.out]; rfl, Below.refl _ _⟩
theorem words_any (s : StrS) (w : World) (hs : s.lies w) : Calls Tryd.prog 73 #[s.val] w fun e w' => e = .returned (.bool (phraseB s.xs)) ∧ Below w.heap.size w w' := by
  obtain ⟨A, cp, xs⟩ := s
  have hmx : xs.length ≤ 9223372036854775807 := Nat.le_trans hs.cap hs.max
  have hat := Lib.hid (fun k hk => StrS.at_ hs (k := k) hk)
  show Calls _ _ #[.slice A xs.length cp] w fun e w' => e = .returned (.bool (phraseB xs)) ∧ _
  clear hs
  have H : Hid (phraseB xs = (decide (1 ≤ xs.length) && decide (xs.length ≤ 4) && xs.all wordB)) := rfl
  go_enter Tryd.func73, Tryd.ntmps73
  go_wp2_with fail
  go_loopw [3] (fun i wr => ∃ k : Nat, k ≤ xs.length ∧ i = .int .i64 k ∧ Below w.heap.size w wr ∧ Hid ((xs.take k).all wordB = true)) (fun i _ => xs.length - (intOf i).toNat)
  case atStart => exact ⟨0, Nat.zero_le _, rfl, Below.refl _ _, rfl⟩
  case round =>
    obtain ⟨k, hk, rfl, hB, HR⟩ := hrel
    by_cases hlt : k < xs.length
    · obtain ⟨b, off, he, hb, hc⟩ := hat.out k hlt
      change A = _ at he
      change ∀ (j : Nat) (hj : j < xs.length), w.cell? ⟨b, off + j, none⟩ = some (.string xs[j]) at hc
      subst he
      have d0 := (hB.cell (p := ⟨b, off + k, none⟩) hb).trans (hc k hlt)
      have cW := Lib.hid (word9_any xs[k] wr)
      have Hs : Hid ((xs.take (k + 1)).all wordB = ((xs.take k).all wordB && wordB xs[k])) := by
        show _ = _
        rw [List.take_succ_eq_append_getElem hlt, List.all_append]; simp
      have Hf : Hid (wordB xs[k] = false → xs.all wordB = false) := fun h => List.all_eq_false.2 ⟨_, List.getElem_mem hlt, by simp [h]⟩
      clear hc
      generalize xs[k] = x at *
      cases hx : wordB x
      · have HF := Lib.hid (Hf.out hx)
        have hcw := cW.out
        rw [hx] at hcw
        have CW := Lib.hid hcw
        clear hx hcw cW Hs Hf
        go_wp2_with fail
        refine CW.out.mono ?_
        rintro e w' ⟨rfl, hb⟩
        go_wp2_with fail
        go_ret
        exact ⟨by rw [H.out, HF.out]; simp, ext_trans hB hb⟩
      · have HF : Hid ((xs.take (k + 1)).all wordB = true) := by show _ = _; rw [Hs.out, HR.out, hx]; rfl
        have hcw := cW.out
        rw [hx] at hcw
        have CW := Lib.hid hcw
        clear hx hcw cW Hs Hf
        go_wp2_with fail
        refine CW.out.mono ?_
        rintro e w' ⟨rfl, hb⟩
        go_wp2_with fail
        go_roundw
        case rel => exact ⟨k + 1, by omega, by go_num, ext_trans hB hb, HF⟩
        case measure => simp [intOf]; omega
    · have HF : Hid (phraseB xs = (decide (1 ≤ xs.length) && decide (xs.length ≤ 4))) := by
        show _ = _
        have h := HR.out
        rw [List.take_of_length_le (by omega)] at h
        rw [H.out, h, Bool.and_true]
      clear HR H
      by_cases h1 : 1 ≤ xs.length
      · by_cases h2 : xs.length ≤ 4
        · have HG : Hid (phraseB xs = true) := by show _ = _; rw [HF.out, decide_eq_true h1, decide_eq_true h2]; rfl
          have h3 : (xs.length : Int) ≤ 4 := by omega
          go_wp2_with fail
          go_ret
          exact ⟨by rw [HG.out]; simp, hB⟩
        · have HG : Hid (phraseB xs = false) := by show _ = _; rw [HF.out, decide_eq_false h2]; simp
          have h3 : ¬ (xs.length : Int) ≤ 4 := by omega
          go_wp2_with fail
          go_ret
          exact ⟨by rw [HG.out]; simp, hB⟩
      · have HG : Hid (phraseB xs = false) := by show _ = _; rw [HF.out, decide_eq_false h1]; rfl
        have h0 : xs.length = 0 := by omega
        go_wp2_with fail
        go_ret
        exact ⟨by rw [HG.out]; rfl, hB⟩
end Go.Proofs.YtmindojbkedmlaaDoor

/- Small lemmas: blocks, new slices, rows that grow. No program in sight. -/
namespace Go.Han
open Go.RowKit
theorem gblk {w : World} {b t : Nat} {cs : Array Value} {fr : Nat × Nat} (h : w.heap[b]? = some (.cells cs t fr)) (j : Nat) : w.cell? ⟨b, j, none⟩ = cs[j]? := by
  simp [World.cell?, h]
theorem galloc_at (w : World) (o : Obj) (n : Nat) (h : n = w.heap.size) : (w.alloc o).heap[n]? = some o := by
  subst h; exact World.alloc_heap_new _ _
theorem grd_blk {w : World} {b t : Nat} {cs : Array Value} {fr : Nat × Nat} {xs : List Value} (h : w.heap[b]? = some (.cells cs t fr)) (hx : cs.toList = xs) : Rd w (some ⟨b, 0, none⟩) xs := by
  refine .inr ⟨b, 0, rfl, lt_block h, fun j u hu => ?_⟩
  rw [Nat.zero_add, gblk h]
  rw [← hx] at hu
  simpa using hu
theorem grd_new {w : World} {cs : Array Value} {t : Nat} {xs : List Value} (hx : cs.toList = xs) : Rd (w.alloc (.cells cs t)) (some ⟨w.heap.size, 0, none⟩) xs := grd_blk (galloc_at _ _ _ rfl) hx
theorem gcells_new (w : World) (cs : List Value) (t : Nat) : ∀ (j : Nat) (u : Value), cs[j]? = some u → (w.alloc (.cells cs.toArray t)).cell? ((⟨w.heap.size, 0, none⟩ : Addr).add j) = some u := by
  intro j u hu
  rw [show (⟨w.heap.size, 0, none⟩ : Addr).add j = ⟨w.heap.size, j, none⟩ from by unfold Addr.add; split <;> simp_all, gblk (galloc_at _ _ _ rfl)]
  simpa using hu
theorem gcells_new2 (w : World) (o : Obj) (cs : List Value) (t : Nat) : ∀ (j : Nat) (u : Value), cs[j]? = some u → ((w.alloc o).alloc (.cells cs.toArray t)).cell? ((⟨w.heap.size + 1, 0, none⟩ : Addr).add j) = some u := by
  have h := gcells_new (w.alloc o) cs t
  rw [World.size_alloc] at h
  exact h
theorem gcells_newd (w : World) (cs : List Value) (t : Nat) : ∀ (j : Nat) (u : Value), cs[j]? = some u → (w.alloc (.cells cs.toArray t)).drew.cell? ((⟨w.heap.size, 0, none⟩ : Addr).add j) = some u := fun j u hu => gcells_new w cs t j u hu
theorem gbelow_grown {w w' : World} (h : Below w.heap.size w w') (row : Option Nat) : w.grownBy w' row := ⟨h.os, h.tape, h.output, h.size, fun i hi _ => h.block i hi⟩
theorem grd_grown {w w' : World} {A : Option Addr} {xs : List Value} {row : Option Nat} (h : Rd w A xs) (hg : w.grownBy w' row) (hne : ∀ a, A = some a → some a.block ≠ row) : Rd w' A xs := by
  rcases h with h | ⟨b, off, rfl, hlt, hc⟩
  · exact .inl h
  · exact .inr ⟨b, off, rfl, Nat.lt_of_lt_of_le hlt hg.size, fun j u hu => (World.cell?_of_block (w := w) (a := ⟨b, off + j, none⟩) (hg.block b hlt (hne _ rfl))).trans (hc j u hu)⟩
theorem below_drewN {w w' : World} (h : Below w.heap.size w w') (n : Nat) : Below w.heap.size w (w'.drewN n) := ⟨h.os, h.tape, h.output, h.size, h.block⟩
end Go.Han

/- Slices of slices of strings; IndexFunc and ContainsFunc at them. -/
namespace Go.Proofs.YtmindojbkedmlaaDoor
open Go.RowKit Go.Han
attribute [local irreducible] wpStill wpQuiet
set_option maxRecDepth 100000

structure SentsAt (w : World) (A : Option Addr) (S : List StrS) : Prop where
  rd : Rd w A (S.map StrS.val)
  lie : ∀ s ∈ S, s.lies w
theorem SentsAt.ext {w w' : World} {A : Option Addr} {S : List StrS} (h : SentsAt w A S) (hb : Below w.heap.size w w') : SentsAt w' A S := ⟨h.rd.ext hb, fun s hs => (h.lie s hs).ext hb⟩
theorem SentsAt.at_ {w : World} {A : Option Addr} {S : List StrS} (h : SentsAt w A S) {k : Nat} (hk : k < S.length) : ∃ b off, A = some ⟨b, off, none⟩ ∧ b < w.heap.size ∧ ∀ (j : Nat) (hj : j < S.length) (W : World), Below w.heap.size w W → W.cell? ⟨b, off + j, none⟩ = some (.slice S[j].addr S[j].xs.length S[j].cap) := by
  obtain ⟨b, off, h1, h2, h3⟩ := h.rd.at_ (k := k) (by simpa using hk)
  exact ⟨b, off, h1, h2, fun j hj W hb => (hb.cell (p := ⟨b, off + j, none⟩) h2).trans (h3 j _ (by simp [hj, StrS.val]))⟩

theorem any_take {α : Type} {l : List α} {P : α → Bool} {k : Nat} (h : k < l.length) : (l.take (k + 1)).any P = ((l.take k).any P || P l[k]) := by
  rw [List.take_succ_eq_append_getElem h, List.any_append]; simp
set_option maxHeartbeats 1000000 in
theorem indexFuncS_any (A : Option Addr) (cp : Nat) (S : List StrS) (fid : Nat) (P : StrS → Bool) (w : World) (hS : SentsAt w A S) (hm : S.length ≤ 9223372036854775807) (eg : ∀ args w, (callFunc fid args).run Tryd.prog w = .ok (.enter fid args) w)
    (hf : ∀ W, Below w.heap.size w W → ∀ s ∈ S, Calls Tryd.prog fid #[.slice s.addr s.xs.length s.cap] W fun e w' => e = .returned (.bool (P s)) ∧ Below W.heap.size W w') :
    Calls Tryd.prog 43 #[.slice A S.length cp, .func (.func fid) #[] #[]] w fun e w' => ∃ k : Int, e = .returned (.int .i64 k) ∧ decide (0 ≤ k) = S.any P ∧ Below w.heap.size w w' := by
  have Hf := Lib.hid hf
  have HS := Lib.hid hS
  clear hf hS
  go_enter Tryd.func43, Tryd.ntmps43
  go_wp2_with fail
  go_loopw [8] (fun i wr => ∃ k : Nat, k ≤ S.length ∧ i = .int .i64 k ∧ Below w.heap.size w wr ∧ Hid ((S.take k).any P = false)) (fun i _ => S.length - (intOf i).toNat)
  case atStart => exact ⟨0, Nat.zero_le _, rfl, Below.refl _ _, rfl⟩
  case round =>
    obtain ⟨k, hk, rfl, hB, HR⟩ := hrel
    by_cases hlt : k < S.length
    · obtain ⟨b, off, rfl, hb, hc⟩ := HS.out.at_ hlt
      have d0 := hc k hlt wr hB
      have cF := Lib.hid (Hf.out wr hB _ (List.getElem_mem hlt))
      have Htk := Lib.hid (any_take (P := P) hlt)
      have hmem := List.getElem_mem hlt
      have Hmem := Lib.hid hmem
      clear hc hmem
      generalize S[k] = s at *
      go_wp2_with fail
      refine cF.out.mono ?_
      rintro e w1 ⟨rfl, hb1⟩
      have hB1 := ext_trans hB hb1
      cases hP : P s
      · have HN : Hid ((S.take (k + 1)).any P = false) := by show _ = _; rw [Htk.out, HR.out, hP]; rfl
        clear hP
        go_wp2_with fail
        go_roundw
        case rel => exact ⟨k + 1, by omega, by go_num, hB1, HN⟩
        case measure => simp [intOf]; omega
      · have HN : Hid (S.any P = true) := List.any_eq_true.2 ⟨s, Hmem.out, hP⟩
        clear hP
        go_wp2_with fail
        go_ret
        exact ⟨k, rfl, by rw [HN.out]; exact decide_eq_true (by omega), hB1⟩
    · have HN : Hid (S.any P = false) := by
        have h := HR.out
        rw [List.take_of_length_le (by omega)] at h
        exact h
      go_wp2_with fail
      go_ret
      exact ⟨-1, rfl, by rw [HN.out]; rfl, hB⟩
theorem containsFuncS_any (A : Option Addr) (cp : Nat) (S : List StrS) (fid : Nat) (P : StrS → Bool) (w : World) (hS : SentsAt w A S) (hm : S.length ≤ 9223372036854775807) (eg : ∀ args w, (callFunc fid args).run Tryd.prog w = .ok (.enter fid args) w)
    (hf : ∀ W, Below w.heap.size w W → ∀ s ∈ S, Calls Tryd.prog fid #[.slice s.addr s.xs.length s.cap] W fun e w' => e = .returned (.bool (P s)) ∧ Below W.heap.size W w') :
    Calls Tryd.prog 19 #[.slice A S.length cp, .func (.func fid) #[] #[]] w fun e w' => e = .returned (.bool (S.any P)) ∧ Below w.heap.size w w' := by
  have cI := Lib.hid (indexFuncS_any A cp S fid P w hS hm eg hf)
  clear hS hf eg
  go_enter Tryd.func19, Tryd.ntmps19
  go_wp2_with fail
  refine cI.out.mono ?_
  rintro e w1 ⟨k, rfl, hk, hb1⟩
  cases hP : S.any P
  · rw [hP] at hk
    have g1 : decide (k ≥ 0) = false := hk
    have g2 : k < 0 := by have := of_decide_eq_false hk; omega
    clear hk
    go_wp2_with fail
    go_ret
    exact ⟨by first | rfl | (rw [hP]; rfl) | (rw [hP]; simp; omega), hb1⟩
  · rw [hP] at hk
    have g1 : decide (k ≥ 0) = true := hk
    have g2 : 0 ≤ k := of_decide_eq_true hk
    clear hk
    go_wp2_with fail
    go_ret
    exact ⟨by first | rfl | (rw [hP]; rfl) | (rw [hP]; simp; omega), hb1⟩

/-! ### at strings -/
set_option maxHeartbeats 1000000 in
theorem indexFuncW_any (s : StrS) (fid : Nat) (P : ByteArray → Bool) (w : World) (hS : s.lies w) (eg : ∀ args w, (callFunc fid args).run Tryd.prog w = .ok (.enter fid args) w)
    (hf : ∀ W, Below w.heap.size w W → ∀ x, Calls Tryd.prog fid #[.string x] W fun e w' => e = .returned (.bool (P x)) ∧ Below W.heap.size W w') :
    Calls Tryd.prog 44 #[.slice s.addr s.xs.length s.cap, .func (.func fid) #[] #[]] w fun e w' => ∃ k : Int, e = .returned (.int .i64 k) ∧ decide (0 ≤ k) = s.xs.any P ∧ Below w.heap.size w w' := by
  have Hf := Lib.hid hf
  have HS := Lib.hid hS
  have hm : s.xs.length ≤ 9223372036854775807 := Nat.le_trans hS.cap hS.max
  obtain ⟨A, cp, xs⟩ := s
  simp only at *
  clear hf hS
  go_enter Tryd.func44, Tryd.ntmps44
  go_wp2_with fail
  go_loopw [8] (fun i wr => ∃ k : Nat, k ≤ xs.length ∧ i = .int .i64 k ∧ Below w.heap.size w wr ∧ Hid ((xs.take k).any P = false)) (fun i _ => xs.length - (intOf i).toNat)
  case atStart => exact ⟨0, Nat.zero_le _, rfl, Below.refl _ _, rfl⟩
  case round =>
    obtain ⟨k, hk, rfl, hB, HR⟩ := hrel
    by_cases hlt : k < xs.length
    · obtain ⟨b, off, hA, hb, hc⟩ := StrS.at_ HS.out (k := k) hlt
      have hA : A = some ⟨b, off, none⟩ := hA
      subst hA
      have d0 : wr.cell? ⟨b, off + k, none⟩ = some (.string xs[k]) := (hB.cell (p := ⟨b, off + k, none⟩) hb).trans (hc k hlt)
      have cF := Lib.hid (Hf.out wr hB xs[k])
      have Htk := Lib.hid (any_take (P := P) hlt)
      have hmem := List.getElem_mem hlt
      have Hmem := Lib.hid hmem
      clear hc hmem
      generalize xs[k] = x at *
      go_wp2_with fail
      refine cF.out.mono ?_
      rintro e w1 ⟨rfl, hb1⟩
      have hB1 := ext_trans hB hb1
      cases hP : P x
      · have HN : Hid ((xs.take (k + 1)).any P = false) := by show _ = _; rw [Htk.out, HR.out, hP]; rfl
        clear hP
        go_wp2_with fail
        go_roundw
        case rel => exact ⟨k + 1, by omega, by go_num, hB1, HN⟩
        case measure => simp [intOf]; omega
      · have HN : Hid (xs.any P = true) := List.any_eq_true.2 ⟨x, Hmem.out, hP⟩
        clear hP
        go_wp2_with fail
        go_ret
        exact ⟨k, rfl, by rw [HN.out]; exact decide_eq_true (by omega), hB1⟩
    · have HN : Hid (xs.any P = false) := by
        have h := HR.out
        rw [List.take_of_length_le (by omega)] at h
        exact h
      go_wp2_with fail
      go_ret
      exact ⟨-1, rfl, by rw [HN.out]; rfl, hB⟩
theorem containsFuncW_any (s : StrS) (fid : Nat) (P : ByteArray → Bool) (w : World) (hS : s.lies w) (eg : ∀ args w, (callFunc fid args).run Tryd.prog w = .ok (.enter fid args) w)
    (hf : ∀ W, Below w.heap.size w W → ∀ x, Calls Tryd.prog fid #[.string x] W fun e w' => e = .returned (.bool (P x)) ∧ Below W.heap.size W w') :
    Calls Tryd.prog 21 #[.slice s.addr s.xs.length s.cap, .func (.func fid) #[] #[]] w fun e w' => e = .returned (.bool (s.xs.any P)) ∧ Below w.heap.size w w' := by
  have cI := Lib.hid (indexFuncW_any s fid P w hS eg hf)
  clear hS hf eg
  go_enter Tryd.func21, Tryd.ntmps21
  go_wp2_with fail
  refine cI.out.mono ?_
  rintro e w1 ⟨k, rfl, hk, hb1⟩
  cases hP : s.xs.any P
  · rw [hP] at hk
    have g1 : decide (k ≥ 0) = false := hk
    have g2 : k < 0 := by have := of_decide_eq_false hk; omega
    clear hk
    go_wp2_with fail
    go_ret
    exact ⟨by first | rfl | (rw [hP]; rfl) | (rw [hP]; simp; omega), hb1⟩
  · rw [hP] at hk
    have g1 : decide (k ≥ 0) = true := hk
    have g2 : 0 ≤ k := of_decide_eq_true hk
    clear hk
    go_wp2_with fail
    go_ret
    exact ⟨by first | rfl | (rw [hP]; rfl) | (rw [hP]; simp; omega), hb1⟩
end Go.Proofs.YtmindojbkedmlaaDoor

/- Package align: the steps. -/
namespace Go.Proofs.YtmindojbkedmlaaDoor
open Go.RowKit Go.Han
attribute [local irreducible] wpStill wpQuiet
set_option maxRecDepth 100000

def pairA (a b : StrS) : Array Value := #[.slice a.addr a.xs.length a.cap, .slice b.addr b.xs.length b.cap]
def placeA (i k : Nat) : Array Value := #[.int .i64 (i : Int), .int .i64 (k : Int)]
def sameB (a b : StrS) (i k : Nat) : Bool := match a.xs[i]?, b.xs[k]? with | some x, some y => decide (x = y) | _, _ => false
def swapB (a b : StrS) (i k : Nat) : Bool := match a.xs[i]?, b.xs[k]? with | some x, some y => !decide (x = y) | _, _ => false
structure AW (a b : StrS) (i k : Nat) (w W : World) : Prop where
  below : Below w.heap.size w W
  p : W.heap[w.heap.size]? = some (.cells (pairA a b) 79 (0, 0))
  x : W.heap[w.heap.size + 1]? = some (.cells (placeA i k) 86 (0, 0))
  y : W.heap[w.heap.size + 1 + 1]? = some (.cells #[.int .i64 0, .int .i64 0] 86 (0, 0))
theorem aw_new (a b : StrS) (i k : Nat) (w : World) : AW a b i k w (((w.alloc (.cells (pairA a b) 79)).alloc (.cells (placeA i k) 86)).alloc (.cells #[.int .i64 0, .int .i64 0] 86)) := by
  refine ⟨ext_alloc (ext_alloc (ext_alloc (Below.refl _ _) _) _) _, ?_, ?_, ?_⟩
  · exact (Below.heap_alloc _ _ _ (by simp; omega)).trans ((Below.heap_alloc _ _ _ (by simp)).trans (galloc_at _ _ _ rfl))
  · exact (Below.heap_alloc _ _ _ (by simp)).trans (galloc_at _ _ _ (by simp))
  · exact galloc_at _ _ _ (by simp)
def StepPost (i k : Nat) (c : Int) (ok : Bool) (w : World) (e : Ending) (w' : World) : Prop := e = .returned (.tuple #[.agg (placeA i k), .int .i64 c, .bool ok]) ∧ Below w.heap.size w w'

def yset (W : World) (n i k : Nat) : World := ((W.setCell ⟨n, 0, none⟩ (.int .i64 (i : Int))).setCell ⟨n, 1, none⟩ (.int .i64 (k : Int))).drew
theorem AW.facts {a b : StrS} {i k : Nat} {w W : World} (h : AW a b i k w W) :
    (W.cell? ⟨w.heap.size, 0, none⟩ = some (.slice a.addr a.xs.length a.cap)) ∧ (W.cell? ⟨w.heap.size, 1, none⟩ = some (.slice b.addr b.xs.length b.cap)) ∧
    (W.cell? ⟨w.heap.size + 1, 0, none⟩ = some (.int .i64 (i : Int))) ∧ (W.cell? ⟨w.heap.size + 1, 1, none⟩ = some (.int .i64 (k : Int))) ∧
    (W.cell? ⟨w.heap.size + 1 + 1, 0, none⟩ = some (.int .i64 0)) ∧ (W.cell? ⟨w.heap.size + 1 + 1, 1, none⟩ = some (.int .i64 0)) ∧
    (W.frozen? ⟨w.heap.size + 1 + 1, 0, none⟩ = false) ∧ (W.frozen? ⟨w.heap.size + 1 + 1, 1, none⟩ = false) :=
  ⟨gblk h.p 0, gblk h.p 1, gblk h.x 0, gblk h.x 1, gblk h.y 0, gblk h.y 1, by simp [World.frozen?, h.y], by simp [World.frozen?, h.y]⟩
theorem AW.end_ {a b : StrS} {i k : Nat} {w W : World} (h : AW a b i k w W) (n m : Nat) :
    Below w.heap.size w (yset W (w.heap.size + 1 + 1) n m) ∧ (yset W (w.heap.size + 1 + 1) n m).cell? ⟨w.heap.size + 1 + 1, 0, none⟩ = some (.int .i64 (n : Int)) ∧ (yset W (w.heap.size + 1 + 1) n m).cell? ⟨w.heap.size + 1 + 1, 1, none⟩ = some (.int .i64 (m : Int)) := by
  refine ⟨ext_drew ((h.below.setCell (by simp; omega) _).setCell (by simp; omega) _), ?_, ?_⟩
  · exact (World.cell?_setCell_other _ _ _ _ (by intro h; cases h)).trans (World.cell?_setCell_same _ _ _ (gblk h.y 0))
  · exact World.cell?_setCell_same _ _ _ ((World.cell?_setCell_other _ _ _ _ (by intro h; cases h)).trans (gblk h.y 1))

set_option maxHeartbeats 2000000 in
theorem less_any (a b : StrS) (i k : Nat) (w : World) (hi : i ≤ 64) : Calls Tryd.prog 85 #[.agg (pairA a b), .agg (placeA i k)] w (StepPost (i + 1) k 1 (decide (i < a.xs.length)) w) := by
  have hw1 : IntKind.i64.wrap ((i : Int) + 1) = (i : Int) + 1 := by rw [IntKind.wrap_i64]; omega
  have hA := aw_new a b i k w
  unfold pairA placeA at *
  go_enter Tryd.func85, Tryd.ntmps85
  go_wp2_with fail
  generalize World.alloc (World.alloc (World.alloc w _) _) _ = W at hA ⊢
  obtain ⟨p0, p1, x0, x1, y0, y1, f0, f1⟩ := hA.facts
  have hE := hA.end_ (i + 1) k
  go_region
  change Exit.then _ _ _ _ (yset W (w.heap.size + 1 + 1) (i + 1) k)
  generalize yset W (w.heap.size + 1 + 1) (i + 1) k = V at hE ⊢
  obtain ⟨hB, c0, c1⟩ := hE
  go_wp2_with fail
  exact bodyPost_ret (v := .tuple #[.agg #[.int .i64 ((i : Int) + 1), .int .i64 (k : Int)], .int .i64 1, .bool (decide (i < a.xs.length))]) (by simp [results, Tryd.results85, go_sem, c0, c1]) rfl ⟨rfl, hB⟩

set_option maxHeartbeats 2000000 in
theorem more_any (a b : StrS) (i k : Nat) (w : World) (hk : k ≤ 64) : Calls Tryd.prog 86 #[.agg (pairA a b), .agg (placeA i k)] w (StepPost i (k + 1) 1 (decide (k < b.xs.length)) w) := by
  have hw1 : IntKind.i64.wrap ((k : Int) + 1) = (k : Int) + 1 := by rw [IntKind.wrap_i64]; omega
  have hA := aw_new a b i k w
  unfold pairA placeA at *
  go_enter Tryd.func86, Tryd.ntmps86
  go_wp2_with fail
  generalize World.alloc (World.alloc (World.alloc w _) _) _ = W at hA ⊢
  obtain ⟨p0, p1, x0, x1, y0, y1, f0, f1⟩ := hA.facts
  have hE := hA.end_ i (k + 1)
  go_region
  change Exit.then _ _ _ _ (yset W (w.heap.size + 1 + 1) i (k + 1))
  generalize yset W (w.heap.size + 1 + 1) i (k + 1) = V at hE ⊢
  obtain ⟨hB, c0, c1⟩ := hE
  go_wp2_with fail
  exact bodyPost_ret (v := .tuple #[.agg #[.int .i64 (i : Int), .int .i64 ((k : Int) + 1)], .int .i64 1, .bool (decide (k < b.xs.length))]) (by simp [results, Tryd.results86, go_sem, c0, c1]) rfl ⟨rfl, hB⟩
end Go.Proofs.YtmindojbkedmlaaDoor

/- A region that draws its order and stores: the world is a function of what has been done. -/
namespace Go.Han
open Go.RowKit
section
variable {P : Program} {ops : Array Oper} {md : Region.Mode} {F : Array Bool → World}

/-- What an operation hands back: v, and the world W. -/
def handsT (P : Program) (W : World) (v : Value) : Result Next → Prop
  | .ok (.value u) w' => w' = W ∧ u = v
  | .ok .skip w' => w' = W ∧ v = undef
  | .ok (.enter f args) w' => Calls P f args w' (fun e w'' => e = .returned v ∧ w'' = W)
  | _ => False
/-- In frame a operation i yields v, whatever has been done of the others. -/
def GivesT (P : Program) (ops : Array Oper) (F : Array Bool → World) (i : Nat) (o : Oper) (v : Value) (a : Act) : Prop :=
  (Region.wanted o (yielded ops a.tmps) = true ∧ ∀ m, m.getD i true = false → handsT P (F (m.setIfInBounds i true)) v ((execOp a.eval o).run P (F m))) ∨
  (Region.wanted o (yielded ops a.tmps) = false ∧ v = undef ∧ ∀ m, m.getD i true = false → F (m.setIfInBounds i true) = F m)
def opT (P : Program) (ops : Array Oper) (F : Array Bool → World) (i : Nat) (K : Act → Prop) (a : Act) : Prop :=
  ∀ o, ops[i]? = some o → ∃ v, GivesT P ops F i o v a ∧ K (a.put o.dst v)
def anyT (P : Program) (md : Region.Mode) (ops : Array Oper) (F : Array Bool → World) (Q : Array Bool → Act → Prop) : Nat → Array Bool → Act → Prop
  | 0, m, a => Region.ready md ops m = [] ∧ Q m a
  | f + 1, m, a => Region.ready md ops m ≠ [] ∧ ∀ i ∈ Region.ready md ops m, opT P ops F i (anyT P md ops F Q f (m.setIfInBounds i true)) a
def textT (P : Program) (ops : Array Oper) (F : Array Bool → World) (Q : Act → Prop) : Nat → List Oper → Act → Prop
  | _, [], a => Q a
  | k, o :: r, a => ∃ v, GivesT P ops F k o v a ∧ textT P ops F Q (k + 1) r (a.put o.dst v)

theorem opT_mono {i : Nat} {a : Act} {K K' : Act → Prop} (h : ∀ a, K a → K' a) (hh : opT P ops F i K a) : opT P ops F i K' a :=
  fun o ho => let ⟨v, h1, h2⟩ := hh o ho; ⟨v, h1, h _ h2⟩
theorem wpOp_of_opT {i : Nat} {o : Oper} {m : Array Bool} {a : Act} {K : Act → Prop} {K' : Act → World → Prop} {Q : Exit → Act → World → Prop} (ho : ops[i]? = some o) (hm : m.getD i true = false)
    (h : ∀ a, K a → K' a (F (m.setIfInBounds i true))) (hh : opT P ops F i K a) : wpOp P ops Q i K' a (F m) := by
  obtain ⟨v, hg, hK⟩ := hh o ho
  unfold wpOp
  simp only [ho]
  rcases hg with ⟨hw, hg⟩ | ⟨hw, rfl, he⟩
  · simp only [hw, if_true]
    have h1 := hg m hm
    refine .inl ?_
    unfold Oper.wp
    generalize (execOp a.eval o).run P (F m) = r at *
    cases r with
    | ok n w' =>
      cases n <;> simp only [handsT] at h1 <;> simp only [Oper.upon]
      case value u => obtain ⟨rfl, rfl⟩ := h1; exact h _ hK
      case skip => obtain ⟨rfl, rfl⟩ := h1; exact h _ hK
      case enter f args => exact h1.mono fun e w'' ⟨he, hw''⟩ => by subst he; subst hw''; exact h _ hK
    | halt x w' => simp only [handsT] at h1
  · simp only [hw, Bool.false_eq_true, if_false]
    rw [← he m hm]
    exact h _ hK
theorem any_of_anyT {Q : Array Bool → Act → Prop} {Q' : Exit → Act → World → Prop} (hQ : ∀ m a, Q m a → Q' .normal a (F m)) : ∀ (f : Nat) (m : Array Bool) (a : Act), anyT P md ops F Q f m a → wpAny P md ops Q' f m a (F m)
  | 0, _, _, h => ⟨h.1, hQ _ _ h.2⟩
  | f + 1, m, _, h => ⟨fun h0 => absurd h0 h.1, fun i hi => by
      obtain ⟨hm, o, ho, _⟩ := mem_ready.1 hi
      exact wpOp_of_opT ho hm (fun a' h' => any_of_anyT hQ f _ a' h') (h.2 i hi)⟩
theorem GivesT.same {i : Nat} {o : Oper} {v : Value} {a a' : Act} (h : GivesT P ops F i o v a) (he : execOp a'.eval o = execOp a.eval o) (hw : Region.wanted o (yielded ops a'.tmps) = Region.wanted o (yielded ops a.tmps)) : GivesT P ops F i o v a' := by
  unfold GivesT at *
  rw [he, hw]
  exact h
theorem opT_put {i j : Nat} {oi oj : Oper} {v : Value} (hj : ops[j]? = some oj) (hap : oi.apart ops oj = true) (hsi : ∀ cs b, oi.op ≠ .select cs b) (hsj : ∀ cs b, oj.op ≠ .select cs b) {K : Act → Prop} {a : Act}
    (hy : GivesT P ops F i oi v a) (h : opT P ops F j K (a.put oi.dst v)) : opT P ops F j (fun a' => GivesT P ops F i oi v a' ∧ K (a'.put oi.dst v)) a := by
  obtain ⟨h1, h2, h3⟩ := Oper.apart_spec hap
  intro o ho
  obtain rfl : oj = o := Option.some.inj (hj.symm.trans ho)
  obtain ⟨u, hu, hK⟩ := h oj hj
  refine ⟨u, hu.same (execOp_put oj hsj a oi.dst v h1).symm (wanted_put oj a oi.dst v h1).symm, hy.same (execOp_put oi hsi a oj.dst u h3) (wanted_put oi a oj.dst u h3), ?_⟩
  rw [← Act.put_comm a v u h2]
  exact hK
theorem anyT_first {Q : Array Bool → Act → Prop} {i : Nat} {oi : Oper} {v : Value} (hi : ops[i]? = some oi) (hsel : ∀ (j : Nat) (o : Oper) cs b, ops[j]? = some o → o.op ≠ .select cs b) :
    ∀ (f : Nat) (m : Array Bool) (a : Act),
      (∀ j oj, ops[j]? = some oj → j ≠ i → m.getD j true = false → (∀ e ∈ oj.after, Region.binds md e = true → e.on ≠ i) → oi.apart ops oj = true) →
      i ∈ Region.ready md ops m → GivesT P ops F i oi v a → anyT P md ops F Q f (m.setIfInBounds i true) (a.put oi.dst v) → anyT P md ops F Q (f + 1) m a := by
  intro f
  induction f with
  | zero =>
    intro m a _ hr hy H
    refine ⟨fun h => (by rw [h] at hr; cases hr), fun j hj => ?_⟩
    by_cases hji : j = i
    · subst hji
      intro o ho
      obtain rfl : oi = o := Option.some.inj (hi.symm.trans ho)
      exact ⟨v, hy, H⟩
    · have := ready_mono hj hji
      rw [H.1] at this
      cases this
  | succ f ih =>
    intro m a hfree hr hy H
    refine ⟨fun h => (by rw [h] at hr; cases hr), fun j hj => ?_⟩
    by_cases hji : j = i
    · subst hji
      intro o ho
      obtain rfl : oi = o := Option.some.inj (hi.symm.trans ho)
      exact ⟨v, hy, H⟩
    · have h1 := H.2 j (ready_mono hj hji)
      obtain ⟨hjun, oj, hoj, hall⟩ := mem_ready.1 hj
      have hun := (mem_ready.1 hr).1
      have hnot : ∀ e ∈ oj.after, Region.binds md e = true → e.on ≠ i := fun e he hb heq => by
        have h2 := hall e he hb
        rw [heq] at h2
        rcases Nat.lt_or_ge i m.size with h' | h'
        · simp [h'] at hun h2; rw [hun] at h2; cases h2
        · simp [Array.getElem?_eq_none h'] at h2
      have h2 := opT_put hoj (hfree j oj hoj hji hjun hnot) (fun cs b => hsel i oi cs b hi) (fun cs b => hsel j oj cs b hoj) hy h1
      refine opT_mono (fun a' h3 => ih (m.setIfInBounds j true) a' (fun k ok hk hki hun' hno => hfree k ok hk hki ?_ hno) (ready_mono hr (Ne.symm hji)) h3.1 ?_) h2
      · by_cases hjk : j = k
        · subst hjk; exact hjun
        · rwa [getD_set_ne true hjk] at hun'
      · rw [Array.setIfInBounds_comm _ _ hji]
        exact h3.2
/-- What has been done behind k more operations in the order of the text. -/
def doneT : Nat → Nat → Array Bool → Array Bool
  | 0, _, m => m
  | n + 1, k, m => doneT n (k + 1) (m.setIfInBounds k true)
theorem anyT_text {Q : Act → Prop} (hs : Region.noSelect ops = true) : ∀ (l : List Oper) (k : Nat) (m : Array Bool) (a : Act), (∀ j, l[j]? = ops[k + j]?) →
    Region.lexFrom md ops l.length k m = true → textT P ops F Q k l a → anyT P md ops F (fun m' a' => m' = doneT l.length k m ∧ Q a') l.length m a
  | [], _, _, _, _, hB, h => ⟨by simpa [Region.lexFrom] using hB, rfl, h⟩
  | o :: l, k, m, a, hl, hB, ⟨v, hg, hK⟩ => by
    have h0 : ops[k]? = some o := by simpa using (hl 0).symm
    simp only [List.length_cons, Region.lexFrom, Bool.and_eq_true] at hB
    obtain ⟨⟨hr, hf⟩, hB'⟩ := hB
    exact anyT_first h0 (Region.noSelect_spec hs) l.length m a (Region.free_spec h0 hf) (by simpa using hr) hg
      (anyT_text hs l (k + 1) _ _ (fun j => by have := hl (j + 1); simpa [Nat.add_assoc, Nat.add_comm 1 j] using this) hB' hK)
theorem wp_region_text {id : Nat} {Q : Exit → Act → World → Prop} {a : Act} {w : World} {l : List Oper} (F : Array Bool → World) (hm : P.follows .mixedOrders = true) (hB : Region.lexB .any l.toArray = true)
    (h0 : F (Array.replicate l.toArray.size false) = { w with drawn := w.drawn + 1 })
    (h : textT P l.toArray F (fun a' => Q .normal a' (F (doneT l.length 0 (Array.replicate l.toArray.size false)))) 0 l a) : (Code.region id l.toArray true).wp P Q a w := by
  simp only [Region.lexB, Bool.and_eq_true] at hB
  refine wp_region_any hm ?_
  rw [← h0]
  have := anyT_text (md := .any) hB.1 l 0 (Array.replicate l.toArray.size false) a (by simp) (by simpa using hB.2) h
  exact any_of_anyT (Q := fun m' a' => m' = doneT l.length 0 (Array.replicate l.toArray.size false) ∧ Q .normal a' (F (doneT l.length 0 (Array.replicate l.toArray.size false)))) (fun m' a' hq => by rw [hq.1]; exact hq.2) _ _ _ (by simpa using this)
/-- One store: the world before it, and behind it. -/
def twoT (W V : World) (b : Bool) : World := if b then V else W
def atT (s : Nat) (W V : World) (m : Array Bool) : World := twoT W V (m.getD s false)
theorem textT_step {s k : Nat} {W V : World} {Q : Act → Prop} {o : Oper} {r : List Oper} {a : Act} (hk : k ≠ s)
    (h : ∀ K : Act → Prop, (∀ a, textT P ops (atT s W V) Q (k + 1) r a → K a) → if Region.wanted o (yielded ops a.tmps) then ∃ v, (∀ b, handsT P (twoT W V b) v ((execOp a.eval o).run P (twoT W V b))) ∧ K (a.put o.dst v) else K (a.put o.dst undef)) :
    textT P ops (atT s W V) Q k (o :: r) a := by
  have hF : ∀ m : Array Bool, atT s W V (m.setIfInBounds k true) = atT s W V m := fun m => by unfold atT; rw [getD_set_ne false hk]
  have := h _ (fun _ h => h)
  by_cases hw : Region.wanted o (yielded ops a.tmps) = true
  · simp only [hw, if_true] at this
    obtain ⟨v, hv, hK⟩ := this
    exact ⟨v, .inl ⟨hw, fun m _ => by rw [hF]; exact hv _⟩, hK⟩
  · simp only [hw] at this
    exact ⟨undef, .inr ⟨by simpa using hw, rfl, fun m _ => hF m⟩, this⟩
theorem textT_store {s k : Nat} {W V : World} {Q : Act → Prop} {o : Oper} {r : List Oper} {a : Act} (hk : k = s) (hw : Region.wanted o (yielded ops a.tmps) = true)
    (h : ∀ K : Act → Prop, (∀ a, textT P ops (atT s W V) Q (k + 1) r a → K a) → ∃ v, handsT P V v ((execOp a.eval o).run P W) ∧ K (a.put o.dst v)) :
    textT P ops (atT s W V) Q k (o :: r) a := by
  subst hk
  obtain ⟨v, hv, hK⟩ := h _ (fun _ h => h)
  refine ⟨v, .inl ⟨hw, fun m hm => ?_⟩, hK⟩
  have hlt : k < m.size := by
    rcases Nat.lt_or_ge k m.size with h' | h'
    · exact h'
    · simp [Array.getElem?_eq_none h'] at hm
  have h1 : atT k W V m = W := by
    have : m.getD k false = false := by simp [hlt] at hm ⊢; exact hm
    unfold atT; rw [this]; rfl
  have h2 : atT k W V (m.setIfInBounds k true) = V := by
    have : (m.setIfInBounds k true).getD k false = true := by simp [hlt]
    unfold atT; rw [this]; rfl
  rw [h1, h2]
  exact hv
theorem textT_nil {k : Nat} {Q : Act → Prop} {a : Act} (h : Q a) : textT P ops F Q k [] a := h
theorem wp_region_one {id : Nat} {Q : Exit → Act → World → Prop} {a : Act} {w V : World} {l : List Oper} (s : Nat) (hs : (doneT l.length 0 (Array.replicate l.toArray.size false)).getD s false = true) (hm : P.follows .mixedOrders = true) (hB : Region.lexB .any l.toArray = true)
    (h : textT P l.toArray (atT s { w with drawn := w.drawn + 1 } V) (fun a' => Q .normal a' V) 0 l a) : (Code.region id l.toArray true).wp P Q a w :=
  wp_region_text (atT s { w with drawn := w.drawn + 1 } V) hm hB (by
    have : (Array.replicate l.toArray.size false).getD s false = false := by
      simp only [Array.getD_eq_getD_getElem?, Array.getElem?_replicate]
      split <;> rfl
    unfold atT; rw [this]; rfl) (by
    have : atT s { w with drawn := w.drawn + 1 } V (doneT l.length 0 (Array.replicate l.toArray.size false)) = V := by unfold atT; rw [hs]; rfl
    rw [this]; exact h)
end
end Go.Han

/- Package align: the steps, two. -/
namespace Go.Proofs.YtmindojbkedmlaaDoor
open Go.RowKit Go.Han
attribute [local irreducible] wpStill wpQuiet
set_option maxRecDepth 100000

theorem yset_cell {W : World} {n i k b o : Nat} (h : n ≠ b) : (yset W n i k).cell? ⟨b, o, none⟩ = W.cell? ⟨b, o, none⟩ :=
  (World.cell?_setCell_other _ _ _ _ (by intro h'; cases h'; exact h rfl)).trans (World.cell?_setCell_other _ _ _ _ (by intro h'; cases h'; exact h rfl))
theorem two_cell {W : World} {n i k b o : Nat} {v : Value} (h : n ≠ b) (hc : W.cell? ⟨b, o, none⟩ = some v) : ∀ c, (twoT W.drew (yset W n i k) c).cell? ⟨b, o, none⟩ = some v := by
  intro c
  cases c with
  | false => exact hc
  | true => exact (yset_cell h).trans hc
attribute [go_sem] handsT
theorem StrS.lies.str {w : World} {s : StrS} (h : s.lies w) (k : Nat) (hk : k < s.xs.length) : ∃ b off, s.addr = some ⟨b, off, none⟩ ∧ b < w.heap.size ∧ w.cell? ⟨b, off + k, none⟩ = some (.string s.xs[k]) := by
  obtain ⟨b, off, he, hlt, hc⟩ := h.rd.at_ (by simp [strs]; omega)
  exact ⟨b, off, he, hlt, hc k _ (by simp [strs, hk])⟩
theorem text_beq (x y : ByteArray) : (x.toList == y.toList) = decide (x = y) := by
  by_cases h : x = y
  · subst h; simp
  · have h1 : x.toList ≠ y.toList := fun h' => h (by rw [ByteArray.toList_eq, ByteArray.toList_eq] at h'; exact ByteArray.ext (Array.toList_inj.1 h'))
    rw [decide_eq_false h]
    simpa using h1

set_option maxHeartbeats 4000000 in
theorem same_a (a b : StrS) (i k : Nat) (w : World) (hi : i ≤ 64) (hk : k ≤ 64) (h1 : a.xs.length ≤ i) : Calls Tryd.prog 83 #[.agg (pairA a b), .agg (placeA i k)] w (StepPost (i + 1) (k + 1) 0 false w) := by
  have hw1 : IntKind.i64.wrap ((i : Int) + 1) = (i : Int) + 1 := by rw [IntKind.wrap_i64]; omega
  have hw2 : IntKind.i64.wrap ((k : Int) + 1) = (k : Int) + 1 := by rw [IntKind.wrap_i64]; omega
  have hA := aw_new a b i k w
  have h1' : decide (i < a.xs.length) = false := decide_eq_false (by omega)
  unfold pairA placeA at *
  go_enter Tryd.func83, Tryd.ntmps83
  go_wp2_with fail
  generalize World.alloc (World.alloc (World.alloc w _) _) _ = W at *
  have hE := hA.end_ (i + 1) (k + 1)
  obtain ⟨p0, p1, x0, x1, y0, y1, f0, f1⟩ := hA.facts
  refine wp_region_one (V := yset W (w.heap.size + 1 + 1) (i + 1) (k + 1)) 36 (by kernel_rfl) (by kernel_rfl) (by kernel_rfl) ?_
  change textT _ _ (atT 36 W.drew _) _ _ _ _
  have q0 := two_cell (i := i + 1) (k := k + 1) (n := w.heap.size + 1 + 1) (by omega) p0
  have q1 := two_cell (i := i + 1) (k := k + 1) (n := w.heap.size + 1 + 1) (by omega) p1
  have q2 := two_cell (i := i + 1) (k := k + 1) (n := w.heap.size + 1 + 1) (by omega) x0
  have q3 := two_cell (i := i + 1) (k := k + 1) (n := w.heap.size + 1 + 1) (by omega) x1
  repeat (refine textT_step (by decide) (fun K hK => ?_); go_simp; refine hK _ ?_; clear hK K)
  refine textT_store rfl (by kernel_rfl) (fun K hK => ?_)
  go_simp
  refine ⟨rfl, hK _ ?_⟩
  clear hK K
  repeat (refine textT_step (by decide) (fun K hK => ?_); go_simp; refine hK _ ?_; clear hK K)
  refine textT_nil ?_
  clear q0 q1 q2 q3
  generalize yset W (w.heap.size + 1 + 1) (i + 1) (k + 1) = V at hE ⊢
  obtain ⟨hB, c0, c1⟩ := hE
  go_wp2_with fail
  exact bodyPost_ret (v := .tuple #[.agg #[.int .i64 ((i : Int) + 1), .int .i64 ((k : Int) + 1)], .int .i64 0, .bool false]) (by simp [results, Tryd.results83, go_sem, c0, c1]) rfl ⟨rfl, hB⟩

set_option maxHeartbeats 4000000 in
theorem same_b (a b : StrS) (i k : Nat) (w : World) (hi : i ≤ 64) (hk : k ≤ 64) (h1 : i < a.xs.length) (h2 : b.xs.length ≤ k) : Calls Tryd.prog 83 #[.agg (pairA a b), .agg (placeA i k)] w (StepPost (i + 1) (k + 1) 0 false w) := by
  have hw1 : IntKind.i64.wrap ((i : Int) + 1) = (i : Int) + 1 := by rw [IntKind.wrap_i64]; omega
  have hw2 : IntKind.i64.wrap ((k : Int) + 1) = (k : Int) + 1 := by rw [IntKind.wrap_i64]; omega
  have hA := aw_new a b i k w
  have h1' : decide (i < a.xs.length) = true := decide_eq_true h1
  have h2' : decide (k < b.xs.length) = false := decide_eq_false (by omega)
  unfold pairA placeA at *
  go_enter Tryd.func83, Tryd.ntmps83
  go_wp2_with fail
  generalize World.alloc (World.alloc (World.alloc w _) _) _ = W at *
  have hE := hA.end_ (i + 1) (k + 1)
  obtain ⟨p0, p1, x0, x1, y0, y1, f0, f1⟩ := hA.facts
  refine wp_region_one (V := yset W (w.heap.size + 1 + 1) (i + 1) (k + 1)) 36 (by kernel_rfl) (by kernel_rfl) (by kernel_rfl) ?_
  change textT _ _ (atT 36 W.drew _) _ _ _ _
  have q0 := two_cell (i := i + 1) (k := k + 1) (n := w.heap.size + 1 + 1) (by omega) p0
  have q1 := two_cell (i := i + 1) (k := k + 1) (n := w.heap.size + 1 + 1) (by omega) p1
  have q2 := two_cell (i := i + 1) (k := k + 1) (n := w.heap.size + 1 + 1) (by omega) x0
  have q3 := two_cell (i := i + 1) (k := k + 1) (n := w.heap.size + 1 + 1) (by omega) x1
  repeat (refine textT_step (by decide) (fun K hK => ?_); go_simp; refine hK _ ?_; clear hK K)
  refine textT_store rfl (by kernel_rfl) (fun K hK => ?_)
  go_simp
  refine ⟨rfl, hK _ ?_⟩
  clear hK K
  repeat (refine textT_step (by decide) (fun K hK => ?_); go_simp; refine hK _ ?_; clear hK K)
  refine textT_nil ?_
  clear q0 q1 q2 q3
  generalize yset W (w.heap.size + 1 + 1) (i + 1) (k + 1) = V at hE ⊢
  obtain ⟨hB, c0, c1⟩ := hE
  go_wp2_with fail
  exact bodyPost_ret (v := .tuple #[.agg #[.int .i64 ((i : Int) + 1), .int .i64 ((k : Int) + 1)], .int .i64 0, .bool false]) (by simp [results, Tryd.results83, go_sem, c0, c1]) rfl ⟨rfl, hB⟩

set_option maxHeartbeats 4000000 in
theorem same_c (a b : StrS) (i k : Nat) (w : World) (hi : i ≤ 64) (hk : k ≤ 64) (h1 : i < a.xs.length) (h2 : k < b.xs.length) (ha : a.lies w) (hb : b.lies w) : Calls Tryd.prog 83 #[.agg (pairA a b), .agg (placeA i k)] w (StepPost (i + 1) (k + 1) 0 (decide (a.xs[i] = b.xs[k])) w) := by
  have hw1 : IntKind.i64.wrap ((i : Int) + 1) = (i : Int) + 1 := by rw [IntKind.wrap_i64]; omega
  have hw2 : IntKind.i64.wrap ((k : Int) + 1) = (k : Int) + 1 := by rw [IntKind.wrap_i64]; omega
  have hA := aw_new a b i k w
  have h1' : decide (i < a.xs.length) = true := decide_eq_true h1
  have h2' : decide (k < b.xs.length) = true := decide_eq_true h2
  unfold pairA placeA at *
  go_enter Tryd.func83, Tryd.ntmps83
  go_wp2_with fail
  generalize World.alloc (World.alloc (World.alloc w _) _) _ = W at *
  have hE := hA.end_ (i + 1) (k + 1)
  obtain ⟨p0, p1, x0, x1, y0, y1, f0, f1⟩ := hA.facts
  refine wp_region_one (V := yset W (w.heap.size + 1 + 1) (i + 1) (k + 1)) 36 (by kernel_rfl) (by kernel_rfl) (by kernel_rfl) ?_
  change textT _ _ (atT 36 W.drew _) _ _ _ _
  have q0 := two_cell (i := i + 1) (k := k + 1) (n := w.heap.size + 1 + 1) (by omega) p0
  have q1 := two_cell (i := i + 1) (k := k + 1) (n := w.heap.size + 1 + 1) (by omega) p1
  have q2 := two_cell (i := i + 1) (k := k + 1) (n := w.heap.size + 1 + 1) (by omega) x0
  have q3 := two_cell (i := i + 1) (k := k + 1) (n := w.heap.size + 1 + 1) (by omega) x1
  obtain ⟨ab, ao, hae, hab, hac⟩ := ha.str i h1
  obtain ⟨bb, bo, hbe, hbb, hbc⟩ := hb.str k h2
  have e0 := two_cell (i := i + 1) (k := k + 1) (n := w.heap.size + 1 + 1) (by omega) ((hA.below.cell (p := ⟨ab, ao + i, none⟩) hab).trans hac)
  have e1 := two_cell (i := i + 1) (k := k + 1) (n := w.heap.size + 1 + 1) (by omega) ((hA.below.cell (p := ⟨bb, bo + k, none⟩) hbb).trans hbc)
  repeat (refine textT_step (by decide) (fun K hK => ?_); go_simp; refine hK _ ?_; clear hK K)
  refine textT_store rfl (by kernel_rfl) (fun K hK => ?_)
  go_simp
  refine ⟨rfl, hK _ ?_⟩
  clear hK K
  repeat (refine textT_step (by decide) (fun K hK => ?_); go_simp; refine hK _ ?_; clear hK K)
  refine textT_nil ?_
  clear q0 q1 q2 q3
  generalize yset W (w.heap.size + 1 + 1) (i + 1) (k + 1) = V at hE ⊢
  obtain ⟨hB, c0, c1⟩ := hE
  go_wp2_with fail
  exact bodyPost_ret (v := .tuple #[.agg #[.int .i64 ((i : Int) + 1), .int .i64 ((k : Int) + 1)], .int .i64 0, .bool (decide (a.xs[i] = b.xs[k]))]) (by simp [results, Tryd.results83, go_sem, c0, c1, text_beq]) rfl ⟨rfl, hB⟩

set_option maxHeartbeats 4000000 in
theorem swap_a (a b : StrS) (i k : Nat) (w : World) (hi : i ≤ 64) (hk : k ≤ 64) (h1 : a.xs.length ≤ i) : Calls Tryd.prog 84 #[.agg (pairA a b), .agg (placeA i k)] w (StepPost (i + 1) (k + 1) 1 false w) := by
  have hw1 : IntKind.i64.wrap ((i : Int) + 1) = (i : Int) + 1 := by rw [IntKind.wrap_i64]; omega
  have hw2 : IntKind.i64.wrap ((k : Int) + 1) = (k : Int) + 1 := by rw [IntKind.wrap_i64]; omega
  have hA := aw_new a b i k w
  have h1' : decide (i < a.xs.length) = false := decide_eq_false (by omega)
  unfold pairA placeA at *
  go_enter Tryd.func84, Tryd.ntmps84
  go_wp2_with fail
  generalize World.alloc (World.alloc (World.alloc w _) _) _ = W at *
  have hE := hA.end_ (i + 1) (k + 1)
  obtain ⟨p0, p1, x0, x1, y0, y1, f0, f1⟩ := hA.facts
  refine wp_region_one (V := yset W (w.heap.size + 1 + 1) (i + 1) (k + 1)) 36 (by kernel_rfl) (by kernel_rfl) (by kernel_rfl) ?_
  change textT _ _ (atT 36 W.drew _) _ _ _ _
  have q0 := two_cell (i := i + 1) (k := k + 1) (n := w.heap.size + 1 + 1) (by omega) p0
  have q1 := two_cell (i := i + 1) (k := k + 1) (n := w.heap.size + 1 + 1) (by omega) p1
  have q2 := two_cell (i := i + 1) (k := k + 1) (n := w.heap.size + 1 + 1) (by omega) x0
  have q3 := two_cell (i := i + 1) (k := k + 1) (n := w.heap.size + 1 + 1) (by omega) x1
  repeat (refine textT_step (by decide) (fun K hK => ?_); go_simp; refine hK _ ?_; clear hK K)
  refine textT_store rfl (by kernel_rfl) (fun K hK => ?_)
  go_simp
  refine ⟨rfl, hK _ ?_⟩
  clear hK K
  repeat (refine textT_step (by decide) (fun K hK => ?_); go_simp; refine hK _ ?_; clear hK K)
  refine textT_nil ?_
  clear q0 q1 q2 q3
  generalize yset W (w.heap.size + 1 + 1) (i + 1) (k + 1) = V at hE ⊢
  obtain ⟨hB, c0, c1⟩ := hE
  go_wp2_with fail
  exact bodyPost_ret (v := .tuple #[.agg #[.int .i64 ((i : Int) + 1), .int .i64 ((k : Int) + 1)], .int .i64 1, .bool false]) (by simp [results, Tryd.results84, go_sem, c0, c1]) rfl ⟨rfl, hB⟩

set_option maxHeartbeats 4000000 in
theorem swap_b (a b : StrS) (i k : Nat) (w : World) (hi : i ≤ 64) (hk : k ≤ 64) (h1 : i < a.xs.length) (h2 : b.xs.length ≤ k) : Calls Tryd.prog 84 #[.agg (pairA a b), .agg (placeA i k)] w (StepPost (i + 1) (k + 1) 1 false w) := by
  have hw1 : IntKind.i64.wrap ((i : Int) + 1) = (i : Int) + 1 := by rw [IntKind.wrap_i64]; omega
  have hw2 : IntKind.i64.wrap ((k : Int) + 1) = (k : Int) + 1 := by rw [IntKind.wrap_i64]; omega
  have hA := aw_new a b i k w
  have h1' : decide (i < a.xs.length) = true := decide_eq_true h1
  have h2' : decide (k < b.xs.length) = false := decide_eq_false (by omega)
  unfold pairA placeA at *
  go_enter Tryd.func84, Tryd.ntmps84
  go_wp2_with fail
  generalize World.alloc (World.alloc (World.alloc w _) _) _ = W at *
  have hE := hA.end_ (i + 1) (k + 1)
  obtain ⟨p0, p1, x0, x1, y0, y1, f0, f1⟩ := hA.facts
  refine wp_region_one (V := yset W (w.heap.size + 1 + 1) (i + 1) (k + 1)) 36 (by kernel_rfl) (by kernel_rfl) (by kernel_rfl) ?_
  change textT _ _ (atT 36 W.drew _) _ _ _ _
  have q0 := two_cell (i := i + 1) (k := k + 1) (n := w.heap.size + 1 + 1) (by omega) p0
  have q1 := two_cell (i := i + 1) (k := k + 1) (n := w.heap.size + 1 + 1) (by omega) p1
  have q2 := two_cell (i := i + 1) (k := k + 1) (n := w.heap.size + 1 + 1) (by omega) x0
  have q3 := two_cell (i := i + 1) (k := k + 1) (n := w.heap.size + 1 + 1) (by omega) x1
  repeat (refine textT_step (by decide) (fun K hK => ?_); go_simp; refine hK _ ?_; clear hK K)
  refine textT_store rfl (by kernel_rfl) (fun K hK => ?_)
  go_simp
  refine ⟨rfl, hK _ ?_⟩
  clear hK K
  repeat (refine textT_step (by decide) (fun K hK => ?_); go_simp; refine hK _ ?_; clear hK K)
  refine textT_nil ?_
  clear q0 q1 q2 q3
  generalize yset W (w.heap.size + 1 + 1) (i + 1) (k + 1) = V at hE ⊢
  obtain ⟨hB, c0, c1⟩ := hE
  go_wp2_with fail
  exact bodyPost_ret (v := .tuple #[.agg #[.int .i64 ((i : Int) + 1), .int .i64 ((k : Int) + 1)], .int .i64 1, .bool false]) (by simp [results, Tryd.results84, go_sem, c0, c1]) rfl ⟨rfl, hB⟩

set_option maxHeartbeats 4000000 in
theorem swap_c (a b : StrS) (i k : Nat) (w : World) (hi : i ≤ 64) (hk : k ≤ 64) (h1 : i < a.xs.length) (h2 : k < b.xs.length) (ha : a.lies w) (hb : b.lies w) : Calls Tryd.prog 84 #[.agg (pairA a b), .agg (placeA i k)] w (StepPost (i + 1) (k + 1) 1 (!decide (a.xs[i] = b.xs[k])) w) := by
  have hw1 : IntKind.i64.wrap ((i : Int) + 1) = (i : Int) + 1 := by rw [IntKind.wrap_i64]; omega
  have hw2 : IntKind.i64.wrap ((k : Int) + 1) = (k : Int) + 1 := by rw [IntKind.wrap_i64]; omega
  have hA := aw_new a b i k w
  have h1' : decide (i < a.xs.length) = true := decide_eq_true h1
  have h2' : decide (k < b.xs.length) = true := decide_eq_true h2
  unfold pairA placeA at *
  go_enter Tryd.func84, Tryd.ntmps84
  go_wp2_with fail
  generalize World.alloc (World.alloc (World.alloc w _) _) _ = W at *
  have hE := hA.end_ (i + 1) (k + 1)
  obtain ⟨p0, p1, x0, x1, y0, y1, f0, f1⟩ := hA.facts
  refine wp_region_one (V := yset W (w.heap.size + 1 + 1) (i + 1) (k + 1)) 36 (by kernel_rfl) (by kernel_rfl) (by kernel_rfl) ?_
  change textT _ _ (atT 36 W.drew _) _ _ _ _
  have q0 := two_cell (i := i + 1) (k := k + 1) (n := w.heap.size + 1 + 1) (by omega) p0
  have q1 := two_cell (i := i + 1) (k := k + 1) (n := w.heap.size + 1 + 1) (by omega) p1
  have q2 := two_cell (i := i + 1) (k := k + 1) (n := w.heap.size + 1 + 1) (by omega) x0
  have q3 := two_cell (i := i + 1) (k := k + 1) (n := w.heap.size + 1 + 1) (by omega) x1
  obtain ⟨ab, ao, hae, hab, hac⟩ := ha.str i h1
  obtain ⟨bb, bo, hbe, hbb, hbc⟩ := hb.str k h2
  have e0 := two_cell (i := i + 1) (k := k + 1) (n := w.heap.size + 1 + 1) (by omega) ((hA.below.cell (p := ⟨ab, ao + i, none⟩) hab).trans hac)
  have e1 := two_cell (i := i + 1) (k := k + 1) (n := w.heap.size + 1 + 1) (by omega) ((hA.below.cell (p := ⟨bb, bo + k, none⟩) hbb).trans hbc)
  repeat (refine textT_step (by decide) (fun K hK => ?_); go_simp; refine hK _ ?_; clear hK K)
  refine textT_store rfl (by kernel_rfl) (fun K hK => ?_)
  go_simp
  refine ⟨rfl, hK _ ?_⟩
  clear hK K
  repeat (refine textT_step (by decide) (fun K hK => ?_); go_simp; refine hK _ ?_; clear hK K)
  refine textT_nil ?_
  clear q0 q1 q2 q3
  generalize yset W (w.heap.size + 1 + 1) (i + 1) (k + 1) = V at hE ⊢
  obtain ⟨hB, c0, c1⟩ := hE
  go_wp2_with fail
  exact bodyPost_ret (v := .tuple #[.agg #[.int .i64 ((i : Int) + 1), .int .i64 ((k : Int) + 1)], .int .i64 1, .bool (!decide (a.xs[i] = b.xs[k]))]) (by simp [results, Tryd.results84, go_sem, c0, c1, text_beq]) rfl ⟨rfl, hB⟩
end Go.Proofs.YtmindojbkedmlaaDoor

/- Alignments by places: what each step does, the least costs, the first best step. No program in sight. -/
namespace Go.Proofs.YtmindojbkedmlaaDoor
open Go.RowKit Go.Han

/-- The least cost from a place on. -/
def cA (a b : Ws) (i k : Nat) : Nat := alC (a.drop i) (b.drop k)
/-- Step j + 1: where it leads, what it costs, whether it is possible. -/
def stI (j i : Nat) : Nat := if j = 3 then i else i + 1
def stK (j k : Nat) : Nat := if j = 2 then k else k + 1
def stC (j : Nat) : Nat := if j = 0 then 0 else 1
def eqAt (a b : Ws) (i k : Nat) : Bool := match a[i]?, b[k]? with | some x, some y => decide (x = y) | _, _ => false
def neAt (a b : Ws) (i k : Nat) : Bool := match a[i]?, b[k]? with | some x, some y => !decide (x = y) | _, _ => false
def stOk (a b : Ws) (j i k : Nat) : Bool :=
  if j = 0 then eqAt a b i k else if j = 1 then neAt a b i k else if j = 2 then decide (i < a.length) else decide (k < b.length)
theorem eqAt_iff {a b : Ws} {i k : Nat} : eqAt a b i k = true ↔ ∃ (h1 : i < a.length) (h2 : k < b.length), a[i] = b[k] := by
  unfold eqAt
  rcases Nat.lt_or_ge i a.length with h1 | h1 <;> rcases Nat.lt_or_ge k b.length with h2 | h2 <;>
    simp [h1, h2] <;> (intros; omega)
theorem neAt_iff {a b : Ws} {i k : Nat} : neAt a b i k = true ↔ ∃ (h1 : i < a.length) (h2 : k < b.length), a[i] ≠ b[k] := by
  unfold neAt
  rcases Nat.lt_or_ge i a.length with h1 | h1 <;> rcases Nat.lt_or_ge k b.length with h2 | h2 <;>
    simp [h1, h2] <;> (intros; omega)
theorem stOk_le {a b : Ws} {j i k : Nat} (hj : j < 4) (h : stOk a b j i k = true) (hi : i ≤ a.length) (hk : k ≤ b.length) : stI j i ≤ a.length ∧ stK j k ≤ b.length := by
  rcases (show j = 0 ∨ j = 1 ∨ j = 2 ∨ j = 3 by omega) with rfl | rfl | rfl | rfl
  · obtain ⟨h1, h2, _⟩ := eqAt_iff.1 h
    exact ⟨h1, h2⟩
  · obtain ⟨h1, h2, _⟩ := neAt_iff.1 h
    exact ⟨h1, h2⟩
  · exact ⟨of_decide_eq_true h, hk⟩
  · exact ⟨hi, of_decide_eq_true h⟩
/-- The least of what the first j steps lead to. -/
def mS (a b : Ws) (i k : Nat) : Nat → Nat
  | 0 => 128
  | j + 1 => if stOk a b j i k = true then min (mS a b i k j) (stC j + cA a b (stI j i) (stK j k)) else mS a b i k j
theorem mS_ok {a b : Ws} {i k j : Nat} (h : stOk a b j i k = true) : mS a b i k (j + 1) = min (mS a b i k j) (stC j + cA a b (stI j i) (stK j k)) := by
  rw [mS, if_pos h]
theorem mS_no {a b : Ws} {i k j : Nat} (h : stOk a b j i k = false) : mS a b i k (j + 1) = mS a b i k j := by
  rw [mS, if_neg (by rw [h]; decide)]
theorem mS_le (a b : Ws) (i k : Nat) : ∀ j, mS a b i k j ≤ 128
  | 0 => Nat.le_refl _
  | j + 1 => by
    have := mS_le a b i k j
    rw [mS]; split <;> omega
theorem cA_le (a b : Ws) (i k : Nat) : cA a b i k ≤ 128 := alC_128 _ _
theorem cA_end {a b : Ws} {i k : Nat} (hi : a.length ≤ i) (hk : b.length ≤ k) : cA a b i k = 0 := by
  unfold cA
  rw [List.drop_eq_nil_of_le hi, List.drop_eq_nil_of_le hk, alC_nn]
theorem dropc {a : Ws} {i : Nat} (h : i < a.length) : a.drop i = a[i] :: a.drop (i + 1) := List.drop_eq_getElem_cons h
theorem eqAt_ne {a b : Ws} {i k : Nat} (h : ¬ (i < a.length ∧ k < b.length)) : eqAt a b i k = false := by
  cases e : eqAt a b i k with
  | false => rfl
  | true => obtain ⟨h1, h2, _⟩ := eqAt_iff.1 e; exact absurd ⟨h1, h2⟩ h
theorem neAt_ne {a b : Ws} {i k : Nat} (h : ¬ (i < a.length ∧ k < b.length)) : neAt a b i k = false := by
  cases e : neAt a b i k with
  | false => rfl
  | true => obtain ⟨h1, h2, _⟩ := neAt_iff.1 e; exact absurd ⟨h1, h2⟩ h
theorem eqAt_in {a b : Ws} {i k : Nat} (h1 : i < a.length) (h2 : k < b.length) : eqAt a b i k = decide (a[i] = b[k]) := by
  unfold eqAt; rw [List.getElem?_eq_getElem h1, List.getElem?_eq_getElem h2]
theorem neAt_in {a b : Ws} {i k : Nat} (h1 : i < a.length) (h2 : k < b.length) : neAt a b i k = !decide (a[i] = b[k]) := by
  unfold neAt; rw [List.getElem?_eq_getElem h1, List.getElem?_eq_getElem h2]
theorem mS_4 (a b : Ws) (i k : Nat) : mS a b i k 4 =
    (let m1 := if eqAt a b i k = true then min 128 (0 + cA a b (i + 1) (k + 1)) else 128
     let m2 := if neAt a b i k = true then min m1 (1 + cA a b (i + 1) (k + 1)) else m1
     let m3 := if i < a.length then min m2 (1 + cA a b (i + 1) k) else m2
     if k < b.length then min m3 (1 + cA a b i (k + 1)) else m3) := by
  simp [mS, stOk, stC, stI, stK]
theorem mS_all {a b : Ws} {i k : Nat} (hi : i ≤ a.length) (hk : k ≤ b.length) (hne : ¬ (i = a.length ∧ k = b.length)) : mS a b i k 4 = cA a b i k := by
  rw [mS_4]
  unfold cA
  rcases Nat.lt_or_ge i a.length with h1 | h1
  · rcases Nat.lt_or_ge k b.length with h2 | h2
    · rw [dropc h1, dropc h2, alC_cc, eqAt_in h1 h2, neAt_in h1 h2, ← dropc h1, ← dropc h2]
      by_cases e : a[i] = b[k]
      · simp [e, h1, h2]
      · simp [e, h1, h2]
    · obtain rfl : k = b.length := by omega
      rw [eqAt_ne (by omega), neAt_ne (by omega), dropc h1, List.drop_length, alC_cn]
      simp [h1]
  · obtain rfl : i = a.length := by omega
    rcases Nat.lt_or_ge k b.length with h2 | h2
    · rw [eqAt_ne (by omega), neAt_ne (by omega), dropc h2, List.drop_length, alC_nc]
      simp [h2]
    · exact absurd ⟨rfl, by omega⟩ hne
/-- The steps from a place on. -/
def sA (a b : Ws) (i k : Nat) : List Nat := alS (a.drop i) (b.drop k)
def hitB (a b : Ws) (i k j : Nat) : Bool := stOk a b j i k && decide (cA a b i k = stC j + cA a b (stI j i) (stK j k))
theorem sA_end {a b : Ws} {i k : Nat} (hi : a.length ≤ i) (hk : b.length ≤ k) : sA a b i k = [] := by
  unfold sA
  rw [List.drop_eq_nil_of_le hi, List.drop_eq_nil_of_le hk, alS_nn]
theorem hit0 {a b : Ws} {i k : Nat} : hitB a b i k 0 = (eqAt a b i k && decide (cA a b i k = cA a b (i + 1) (k + 1))) := by simp [hitB, stOk, stC, stI, stK]
theorem hit1 {a b : Ws} {i k : Nat} : hitB a b i k 1 = (neAt a b i k && decide (cA a b i k = 1 + cA a b (i + 1) (k + 1))) := by simp [hitB, stOk, stC, stI, stK]
theorem hit2 {a b : Ws} {i k : Nat} : hitB a b i k 2 = (decide (i < a.length) && decide (cA a b i k = 1 + cA a b (i + 1) k)) := by simp [hitB, stOk, stC, stI, stK]
theorem hit3 {a b : Ws} {i k : Nat} : hitB a b i k 3 = (decide (k < b.length) && decide (cA a b i k = 1 + cA a b i (k + 1))) := by simp [hitB, stOk, stC, stI, stK]
theorem sA_step {a b : Ws} {i k j : Nat} (hlen : a.length + b.length ≤ 128) (hj : j < 4) (hi : i ≤ a.length) (hk : k ≤ b.length) (h : hitB a b i k j = true) (hno : ∀ j', j' < j → hitB a b i k j' = false) :
    sA a b i k = (j + 1) :: sA a b (stI j i) (stK j k) := by
  have n0 : 0 < j → hitB a b i k 0 = false := fun h => hno 0 h
  have n1 : 1 < j → hitB a b i k 1 = false := fun h => hno 1 h
  have n2 : 2 < j → hitB a b i k 2 = false := fun h => hno 2 h
  rw [hit0] at n0
  rw [hit1] at n1
  rw [hit2] at n2
  rcases Nat.lt_or_ge i a.length with h1 | h1
  · rcases Nat.lt_or_ge k b.length with h2 | h2
    · rw [eqAt_in h1 h2] at n0
      rw [neAt_in h1 h2] at n1
      unfold sA
      unfold cA at n0 n1 n2
      have hd1 := dropc h1
      have hd2 := dropc h2
      rcases (show j = 0 ∨ j = 1 ∨ j = 2 ∨ j = 3 by omega) with rfl | rfl | rfl | rfl
      · rw [hit0, eqAt_in h1 h2] at h
        simp only [Bool.and_eq_true, decide_eq_true_eq] at h
        obtain ⟨e, h⟩ := h
        unfold cA at h
        simp only [stI, stK]
        rw [hd1, hd2, ← e] at h ⊢
        simpa using alS_same h
      · rw [hit1, neAt_in h1 h2] at h
        simp only [Bool.and_eq_true, decide_eq_true_eq, Bool.not_eq_true', decide_eq_false_iff_not] at h
        obtain ⟨e, h⟩ := h
        unfold cA at h
        simp only [stI, stK]
        rw [hd1, hd2] at h ⊢
        simpa using alS_swap e h
      · rw [hit2] at h
        simp only [Bool.and_eq_true, decide_eq_true_eq] at h
        obtain ⟨_, h⟩ := h
        unfold cA at h
        have m0 := n0 (by omega)
        have m1 := n1 (by omega)
        simp only [Bool.and_eq_false_iff, decide_eq_false_iff_not, Bool.not_eq_false', decide_eq_true_eq] at m0 m1
        simp only [stI, stK]
        rw [hd1, hd2] at m0 m1 ⊢
        rw [hd1, hd2] at h
        refine (alS_less (fun hh => ?_) (fun hh => ?_) h).trans ?_
        · rcases m0 with m | m
          · exact m hh.1
          · exact m hh.2
        · rcases m1 with m | m
          · exact hh.1 m
          · exact m hh.2
        · simp
      · have m0 := n0 (by omega)
        have m1 := n1 (by omega)
        have m2 := n2 (by omega)
        simp only [Bool.and_eq_false_iff, decide_eq_false_iff_not, Bool.not_eq_false', decide_eq_true_eq] at m0 m1 m2
        simp only [stI, stK]
        rw [hd1, hd2] at m0 m1 m2 ⊢
        refine (alS_more (fun hh => ?_) (fun hh => ?_) (fun hh => ?_)).trans ?_
        · rcases m0 with m | m
          · exact m hh.1
          · exact m hh.2
        · rcases m1 with m | m
          · exact hh.1 m
          · exact m hh.2
        · rcases m2 with m | m
          · exact m h1
          · exact m hh
        · simp
    · obtain rfl : k = b.length := by omega
      rcases (show j = 0 ∨ j = 1 ∨ j = 2 ∨ j = 3 by omega) with rfl | rfl | rfl | rfl
      · rw [hit0, eqAt_ne (by omega)] at h; simp at h
      · rw [hit1, neAt_ne (by omega)] at h; simp at h
      · unfold sA
        rw [dropc h1, List.drop_length, alS_cn]
        simp [stI, stK]
      · rw [hit3] at h; simp at h
  · obtain rfl : i = a.length := by omega
    rcases (show j = 0 ∨ j = 1 ∨ j = 2 ∨ j = 3 by omega) with rfl | rfl | rfl | rfl
    · rw [hit0, eqAt_ne (by omega)] at h; simp at h
    · rw [hit1, neAt_ne (by omega)] at h; simp at h
    · rw [hit2] at h; simp at h
    · rw [hit3] at h
      simp only [Bool.and_eq_true, decide_eq_true_eq] at h
      unfold sA
      rw [dropc h.1, List.drop_length, alS_nc]
      simp [stI, stK]
/-- One of the four steps is a best one. -/
theorem hit_some {a b : Ws} {i k : Nat} (hlen : a.length + b.length ≤ 128) (hi : i ≤ a.length) (hk : k ≤ b.length) (hne : ¬ (i = a.length ∧ k = b.length)) (hno : ∀ j, j < 4 → hitB a b i k j = false) : False := by
  have n0 := hno 0 (by omega)
  have n1 := hno 1 (by omega)
  have n2 := hno 2 (by omega)
  have n3 := hno 3 (by omega)
  rw [hit0] at n0
  rw [hit1] at n1
  rw [hit2] at n2
  rw [hit3] at n3
  unfold cA at n0 n1 n2 n3
  rcases Nat.lt_or_ge i a.length with h1 | h1
  · rcases Nat.lt_or_ge k b.length with h2 | h2
    · rw [eqAt_in h1 h2] at n0
      rw [neAt_in h1 h2] at n1
      simp only [Bool.and_eq_false_iff, decide_eq_false_iff_not, Bool.not_eq_false', decide_eq_true_eq] at n0 n1 n2 n3
      rw [dropc h1, dropc h2] at n0 n1 n2 n3
      rcases alC_some (x := a[i]) (y := b[k]) (a := a.drop (i + 1)) (b := b.drop (k + 1)) (by simp; omega) with h | h | h | h
      · rcases n0 with m | m
        · exact m h.1
        · exact m h.2
      · rcases n1 with m | m
        · exact h.1 m
        · exact m h.2
      · rcases n2 with m | m
        · exact m h1
        · exact m h
      · rcases n3 with m | m
        · exact m h2
        · exact m h
    · obtain rfl : k = b.length := by omega
      simp only [Bool.and_eq_false_iff, decide_eq_false_iff_not] at n2
      rcases n2 with m | m
      · exact m h1
      · apply m
        rw [dropc h1, List.drop_length, alC_a (by simp; omega)]
  · obtain rfl : i = a.length := by omega
    have h2 : k < b.length := by
      rcases Nat.lt_or_ge k b.length with h2 | h2
      · exact h2
      · exact absurd ⟨rfl, by omega⟩ hne
    simp only [Bool.and_eq_false_iff, decide_eq_false_iff_not] at n3
    rcases n3 with m | m
    · exact m h2
    · apply m
      rw [dropc h2, List.drop_length, alC_b (by simp; omega)]

/-! ### The order of the places -/
def rowP (la lb r c : Nat) : List (Nat × Nat) := (List.range c).map fun c => (la - r, lb - c)
def doneP (la lb r c : Nat) : List (Nat × Nat) := (List.range r).flatMap (fun r => rowP la lb r (lb + 1)) ++ rowP la lb r c
def allP (la lb : Nat) : List (Nat × Nat) := (List.range (la + 1)).flatMap fun r => rowP la lb r (lb + 1)
theorem doneP_row (la lb r : Nat) : doneP la lb (r + 1) 0 = doneP la lb r (lb + 1) := by
  unfold doneP
  rw [List.range_succ, List.flatMap_append]
  simp [rowP]
theorem rowP_succ (la lb r c : Nat) : rowP la lb r (c + 1) = rowP la lb r c ++ [(la - r, lb - c)] := by
  unfold rowP
  rw [List.range_succ, List.map_append]
  rfl
theorem doneP_succ (la lb r c : Nat) : doneP la lb r (c + 1) = doneP la lb r c ++ [(la - r, lb - c)] := by
  unfold doneP
  rw [rowP_succ, List.append_assoc]
theorem doneP_end (la lb : Nat) : doneP la lb (la + 1) 0 = allP la lb := by
  unfold doneP allP rowP
  simp
theorem range_pre {k n : Nat} (h : k ≤ n) : ∃ t, List.range n = List.range k ++ t := by
  refine ⟨(List.range n).drop k, ?_⟩
  conv => lhs; rw [← List.take_append_drop k (List.range n)]
  rw [List.take_range, Nat.min_eq_left h]
theorem doneP_pre {la lb r c : Nat} (hr : r ≤ la) (hc : c ≤ lb + 1) : doneP la lb r c <+: allP la lb := by
  obtain ⟨t, ht⟩ := range_pre (show r + 1 ≤ la + 1 by omega)
  obtain ⟨u, hu⟩ := range_pre hc
  unfold allP
  rw [ht, List.range_succ, List.flatMap_append, List.flatMap_append]
  refine ⟨u.map (fun c => (la - r, lb - c)) ++ t.flatMap fun r => rowP la lb r (lb + 1), ?_⟩
  unfold doneP
  have : rowP la lb r (lb + 1) = rowP la lb r c ++ u.map (fun c => (la - r, lb - c)) := by
    unfold rowP
    rw [hu, List.map_append]
  simp only [List.flatMap_cons, List.flatMap_nil, List.append_nil, List.append_assoc]
  rw [this]
  simp only [List.append_assoc]
theorem mem_allP {la lb : Nat} {y : Nat × Nat} : y ∈ allP la lb ↔ y.1 ≤ la ∧ y.2 ≤ lb := by
  obtain ⟨i, k⟩ := y
  simp only [allP, rowP, List.mem_flatMap, List.mem_map, List.mem_range, Prod.mk.injEq]
  constructor
  · rintro ⟨r, hr, c, hc, rfl, rfl⟩; omega
  · rintro ⟨h1, h2⟩; exact ⟨la - i, by omega, lb - k, by omega, by omega, by omega⟩
def After (p q : Nat × Nat) : Prop := q.1 < p.1 ∨ (q.1 = p.1 ∧ q.2 < p.2)
theorem allP_pair (la lb : Nat) : (allP la lb).Pairwise After := by
  unfold allP
  rw [List.pairwise_flatMap]
  refine ⟨fun r hr => ?_, ?_⟩
  · unfold rowP
    rw [List.pairwise_map]
    refine List.Pairwise.imp_of_mem ?_ (List.pairwise_lt_range)
    intro c d hc hd hlt
    have := List.mem_range.1 hd
    exact .inr ⟨rfl, by show lb - d < lb - c; omega⟩
  · refine List.Pairwise.imp_of_mem ?_ (List.pairwise_lt_range)
    intro r s hr hs hlt x hx y hy
    have := List.mem_range.1 hs
    simp only [rowP, List.mem_map, List.mem_range] at hx hy
    obtain ⟨c, _, rfl⟩ := hx
    obtain ⟨d, _, rfl⟩ := hy
    exact .inl (by show la - s < la - r; omega)
/-- What comes later in the words has been done. -/
theorem done_before {la lb : Nat} {pre : List (Nat × Nat)} {x y : Nat × Nat} (h : pre ++ [x] <+: allP la lb) (h1 : y.1 ≤ la) (h2 : y.2 ≤ lb) (ha : After y x) : y ∈ pre := by
  obtain ⟨t, ht⟩ := h
  have hm : y ∈ allP la lb := mem_allP.2 ⟨h1, h2⟩
  have hp := allP_pair la lb
  rw [← ht] at hm hp
  simp only [List.mem_append, List.mem_singleton] at hm
  rcases hm with (hm | hm) | hm
  · exact hm
  · subst hm
    rcases ha with h | h <;> omega
  · have := (List.pairwise_append.1 hp).2.2 x (by simp) y hm
    unfold After at ha this
    omega
theorem not_done {la lb : Nat} {pre : List (Nat × Nat)} {x : Nat × Nat} (h : pre ++ [x] <+: allP la lb) : x.1 ≤ la ∧ x.2 ≤ lb ∧ x ∉ pre := by
  obtain ⟨t, ht⟩ := h
  have hp := allP_pair la lb
  have hm : x ∈ allP la lb := by rw [← ht]; simp
  obtain ⟨h1, h2⟩ := mem_allP.1 hm
  refine ⟨h1, h2, fun hx => ?_⟩
  rw [← ht] at hp
  have := (List.pairwise_append.1 (List.pairwise_append.1 hp).1).2.2 x hx x (by simp)
  unfold After at this
  omega
end Go.Proofs.YtmindojbkedmlaaDoor

/- Package align: end, steps, need, caught, words (of right lists). -/
namespace Go.Proofs.YtmindojbkedmlaaDoor
open Go.RowKit Go.Han
attribute [local irreducible] wpStill wpQuiet
set_option maxRecDepth 100000

theorem end21_any (a b : StrS) (w : World) : Calls Tryd.prog 57 #[.agg (pairA a b)] w fun e w' => e = .returned (.agg (placeA a.xs.length b.xs.length)) ∧ Below w.heap.size w w' := by
  unfold pairA placeA at *
  go_enter Tryd.func57, Tryd.ntmps57
  go_wp2_with fail
  exact bodyPost_ret (v := .agg #[.int .i64 (a.xs.length : Int), .int .i64 (b.xs.length : Int)]) (by simp [results, Tryd.results57, go_sem]) rfl ⟨rfl, ext_alloc (ext_alloc (Below.refl _ _) _) _⟩

def stepF (j : Nat) : Nat := if j = 0 then 83 else if j = 1 then 84 else if j = 2 then 85 else 86
def stepCells : Array Value := #[(.func (Fn.func 83) #[] #[]), (.func (Fn.func 84) #[] #[]), (.func (Fn.func 85) #[] #[]), (.func (Fn.func 86) #[] #[])]
theorem stepCells_at {j : Nat} (hj : j < 4) : stepCells[j]? = some (.func (Fn.func (stepF j)) #[] #[]) := by
  rcases (show j = 0 ∨ j = 1 ∨ j = 2 ∨ j = 3 by omega) with rfl | rfl | rfl | rfl <;> rfl
theorem steps21_any (w : World) : Calls Tryd.prog 56 #[] w fun e w' => e = .returned (.slice (some ⟨w.heap.size, 0, none⟩) 4 4) ∧ w.alloc (.cells stepCells 88) = w' := by
  go_enter Tryd.func56, Tryd.ntmps56
  go_wp2_with fail
  go_ret
  exact ⟨rfl, rfl⟩
theorem stepF_enter {j : Nat} (hj : j < 4) : ∀ args w, (callFunc (stepF j) args).run Tryd.prog w = .ok (.enter (stepF j) args) w := by
  rcases (show j = 0 ∨ j = 1 ∨ j = 2 ∨ j = 3 by omega) with rfl | rfl | rfl | rfl
  · exact enters_of Tryd.func83 (by kernel_rfl) rfl
  · exact enters_of Tryd.func84 (by kernel_rfl) rfl
  · exact enters_of Tryd.func85 (by kernel_rfl) rfl
  · exact enters_of Tryd.func86 (by kernel_rfl) rfl
theorem step21_any (a b : StrS) (j i k : Nat) (w : World) (hj : j < 4) (hi : i ≤ 64) (hk : k ≤ 64) (ha : a.lies w) (hb : b.lies w) :
    Calls Tryd.prog (stepF j) #[.agg (pairA a b), .agg (placeA i k)] w (StepPost (stI j i) (stK j k) (stC j : Nat) (stOk a.xs b.xs j i k) w) := by
  rcases (show j = 0 ∨ j = 1 ∨ j = 2 ∨ j = 3 by omega) with rfl | rfl | rfl | rfl
  · show Calls _ _ _ _ (StepPost (i + 1) (k + 1) 0 (eqAt a.xs b.xs i k) w)
    rcases Nat.lt_or_ge i a.xs.length with h1 | h1
    · rcases Nat.lt_or_ge k b.xs.length with h2 | h2
      · rw [eqAt_in h1 h2]; exact same_c a b i k w hi hk h1 h2 ha hb
      · rw [eqAt_ne (by omega)]; exact same_b a b i k w hi hk h1 h2
    · rw [eqAt_ne (by omega)]; exact same_a a b i k w hi hk h1
  · show Calls _ _ _ _ (StepPost (i + 1) (k + 1) 1 (neAt a.xs b.xs i k) w)
    rcases Nat.lt_or_ge i a.xs.length with h1 | h1
    · rcases Nat.lt_or_ge k b.xs.length with h2 | h2
      · rw [neAt_in h1 h2]; exact swap_c a b i k w hi hk h1 h2 ha hb
      · rw [neAt_ne (by omega)]; exact swap_b a b i k w hi hk h1 h2
    · rw [neAt_ne (by omega)]; exact swap_a a b i k w hi hk h1
  · exact less_any a b i k w hi
  · exact more_any a b i k w hk

theorem need21_t (b : Bool) (k : Int) (w : World) (h : b = true) :
    Calls Tryd.prog 78 #[.bool b, .int .i64 k] w fun e w' => e = .returned (.tuple #[]) ∧ w = w' := by
  subst h
  go_enter Tryd.func78, Tryd.ntmps78
  go_wp2
  go_end0
  exact ⟨rfl, rfl⟩
theorem caught21_ret (b : Nat) (w : World) :
    CallsD Tryd.prog 53 #[.pointer (some ⟨b, 0, none⟩)] .returning w fun e u' w' => u' = .returning ∧ e = .returned (.tuple #[]) ∧ w' = w := by
  refine callsD_of_wpS Tryd.func53 rfl fun c₀ cs hu => ?_
  simp only [Tryd.ntmps53, List.size_toArray, List.length_cons, List.length_nil, Nat.reduceAdd, Nat.reduceSub, Array.replicate_succ, Array.replicate_zero, List.push_toArray, List.append_toArray, List.nil_append, List.cons_append]
  apply wpS_seq
  apply wpS_region
  simp [wpOpsS, go_sem, recoverD, hu, Exit.thenS]
  refine wpS_of_wp ?_
  go_wp2
  cases c₀
  simp_all [bodyPostS, results, Tryd.results53]
theorem odd21_any (s : ByteArray) (w : World) (hT : Tabs w) : Calls Tryd.prog 79 #[.string s] w fun e w' => e = .returned (.bool (!wordB s)) ∧ Below w.heap.size w w' := by
  go_enter Tryd.func79, Tryd.ntmps79
  go_wp2_with fail
  refine (word_any s w hT).mono ?_
  rintro e w1 ⟨rfl, hb1⟩
  go_wp2_with fail
  go_ret
  exact ⟨by simp, hb1⟩
theorem any_not {xs : List ByteArray} (h : xs.all wordB = true) : xs.any (fun y => !wordB y) = false := by
  rw [List.any_eq_false]
  intro y hy
  have := List.all_eq_true.1 h y hy
  simp [this]
set_option maxHeartbeats 1000000 in
theorem words21_any (a b : StrS) (w : World) (hT : Tabs w) (ha : a.lies w) (hb : b.lies w) (h1 : a.xs.length ≤ 64) (h2 : b.xs.length ≤ 64) (h3 : a.xs.all wordB = true) (h4 : b.xs.all wordB = true) :
    Calls Tryd.prog 54 #[.slice a.addr a.xs.length a.cap, .slice b.addr b.xs.length b.cap] w fun e w' => e = .returned (.agg (pairA a b)) ∧ Below w.heap.size w w' := by
  have eo := enters_of Tryd.func79 (by kernel_rfl) rfl
  have cA := Lib.hid (fun W (h : Below w.heap.size w W) => containsFuncW_any a 79 (fun y => !wordB y) W (ha.ext h) eo (fun W' hb y => odd21_any y W' (utf_ext hT (ext_trans h hb))))
  have cB := Lib.hid (fun W (h : Below w.heap.size w W) => containsFuncW_any b 79 (fun y => !wordB y) W (hb.ext h) eo (fun W' hb y => odd21_any y W' (utf_ext hT (ext_trans h hb))))
  have HA := Lib.hid (any_not h3)
  have HB := Lib.hid (any_not h4)
  have e1 : (a.xs.length : Int) ≤ 64 := by omega
  have e2 : (b.xs.length : Int) ≤ 64 := by omega
  have e3 : max (a.xs.length : Int) (b.xs.length : Int) ≤ 64 := by omega
  clear ha hb hT h3 h4 eo
  unfold pairA
  go_enter Tryd.func54, Tryd.ntmps54
  go_wp2_with fail
  obtain ⟨W0, hW0⟩ : ∃ W0, w.alloc (.cells #[.slice none 0 0, .slice none 0 0] 79) = W0 := ⟨_, rfl⟩
  have hB0 : Below w.heap.size w W0 := by rw [← hW0]; exact ext_alloc (Below.refl _ _) _
  have hk0 : W0.heap[w.heap.size]? = some (.cells #[.slice none 0 0, .slice none 0 0] 79 (0, 0)) := by rw [← hW0]; exact World.alloc_heap_new _ _
  rw [hW0]
  refine (need21_t _ _ W0 (by simp)).mono ?_
  rintro e w' ⟨rfl, rfl⟩
  go_wp2_with fail
  refine (cA.out W0 hB0).mono ?_
  rintro e w1 ⟨rfl, hb1⟩
  rw [HA.out]
  go_wp2_with fail
  refine (cB.out w1 (ext_trans hB0 hb1)).mono ?_
  rintro e w2 ⟨rfl, hb2⟩
  rw [HB.out]
  have hb12 := ext_trans hb1 hb2
  have hk2 := (hb12.block _ (lt_block hk0)).trans hk0
  have x0 : w2.cell? ⟨w.heap.size, 0, none⟩ = some (.slice none 0 0) := gblk hk2 0
  have x1 : w2.cell? ⟨w.heap.size, 1, none⟩ = some (.slice none 0 0) := gblk hk2 1
  have f0 := frozen_one hk2 0
  have f1 := frozen_one hk2 1
  have hB2 := ext_trans hB0 hb12
  clear hW0 hk0 hb1 hb2 hb12
  go_wp2_with fail
  refine (need21_t _ _ w2 (by simp)).mono ?_
  rintro e w' ⟨rfl, rfl⟩
  go_wp2_with fail
  have y0 : ((w2.setCell ⟨w.heap.size, 0, none⟩ (.slice a.addr a.xs.length a.cap)).setCell ⟨w.heap.size, 1, none⟩ (.slice b.addr b.xs.length b.cap)).cell? ⟨w.heap.size, 0, none⟩ = some (.slice a.addr a.xs.length a.cap) := (World.cell?_setCell_other _ _ _ _ (by intro h; cases h)).trans (World.cell?_setCell_same _ _ _ x0)
  have y1 : ((w2.setCell ⟨w.heap.size, 0, none⟩ (.slice a.addr a.xs.length a.cap)).setCell ⟨w.heap.size, 1, none⟩ (.slice b.addr b.xs.length b.cap)).cell? ⟨w.heap.size, 1, none⟩ = some (.slice b.addr b.xs.length b.cap) := World.cell?_setCell_same _ _ _ ((World.cell?_setCell_other _ _ _ _ (by intro h; cases h)).trans x1)
  exact bodyPost_ret (v := .agg #[.slice a.addr a.xs.length a.cap, .slice b.addr b.xs.length b.cap]) (by simp [results, Tryd.results54, go_sem, y0, y1]) rfl ⟨rfl, (hB2.setCell (p := ⟨w.heap.size, 0, none⟩) (Nat.le_refl _) _).setCell (p := ⟨w.heap.size, 1, none⟩) (Nat.le_refl _) _⟩
end Go.Proofs.YtmindojbkedmlaaDoor
