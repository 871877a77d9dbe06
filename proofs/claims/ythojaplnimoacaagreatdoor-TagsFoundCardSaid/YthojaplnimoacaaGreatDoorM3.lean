/- Texts of this claim, one after the other: Term2, Term3, Gen, Term4, Term5, GrmP, Grm0. -/
import Derived.Test.YthojaplnimoacaaGreatDoorM2
/- Names (package lex), phrases, the check of a term. -/
namespace Go.Proofs.YthojaplnimoacaaGreatDoor
open Go.RowKit Go.Han
attribute [local irreducible] wpStill wpQuiet
set_option maxRecDepth 100000

theorem classK_part {c k : Int} (h : ClassK c k) (hp : partB c = true) : k = 2 ∨ k = 3 ∨ k = 5 := by
  unfold partB at hp
  rcases h with ⟨_, h⟩ | ⟨_, _, h⟩ | ⟨_, _, _, h⟩ | ⟨h1, h2, h3, _⟩
  · exact .inl h
  · exact .inr (.inl h)
  · exact .inr (.inr h)
  · rw [h1, h2, decide_eq_false h3] at hp; cases hp
theorem classK_no {c k : Int} (h : ClassK c k) (hp : partB c = false) : k = 0 ∨ k = 1 ∨ k = 4 := by
  unfold partB at hp
  rcases h with ⟨h, _⟩ | ⟨_, h, _⟩ | ⟨_, _, h, _⟩ | ⟨_, _, _, h⟩
  · rw [h] at hp; cases hp
  · rw [h] at hp; simp at hp
  · rw [h] at hp; simp at hp
  · exact h
theorem classK_letter {c k : Int} (h : ClassK c k) (hp : letterB c = true) : k = 2 := by
  rcases h with ⟨_, h⟩ | ⟨h1, _, h⟩ | ⟨h1, _, _, h⟩ | ⟨h1, _, _, _⟩
  · exact h
  all_goals rw [hp] at h1; cases h1
theorem classK_other {c k : Int} (h : ClassK c k) (hp : letterB c = false) : k = 0 ∨ k = 1 ∨ k = 3 ∨ k = 4 ∨ k = 5 := by
  rcases h with ⟨h1, h⟩ | ⟨_, _, h⟩ | ⟨_, _, _, h⟩ | ⟨_, _, _, h⟩
  · rw [hp] at h1; cases h1
  all_goals omega
def InPost (Q : Int → Prop) (w : World) (e : Ending) (w' : World) : Prop := ∃ k, e = .returned (.int .i64 k) ∧ Q k ∧ w = w'
theorem class_part (c : Int) (w : World) (h : partB c = true) : Calls Tryz.prog 180 #[.int .u8 c] w (InPost (fun k => k = 2 ∨ k = 3 ∨ k = 5) w) :=
  (class_any c w).mono fun _ _ ⟨k, h1, h2, h3⟩ => ⟨k, h1, classK_part h2 h, h3⟩
theorem class_no (c : Int) (w : World) (h : partB c = false) : Calls Tryz.prog 180 #[.int .u8 c] w (InPost (fun k => k = 0 ∨ k = 1 ∨ k = 4) w) :=
  (class_any c w).mono fun _ _ ⟨k, h1, h2, h3⟩ => ⟨k, h1, classK_no h2 h, h3⟩
theorem class_letter (c : Int) (w : World) (h : letterB c = true) : Calls Tryz.prog 180 #[.int .u8 c] w (InPost (fun k => k = 2) w) :=
  (class_any c w).mono fun _ _ ⟨k, h1, h2, h3⟩ => ⟨k, h1, classK_letter h2 h, h3⟩
theorem class_other (c : Int) (w : World) (h : letterB c = false) : Calls Tryz.prog 180 #[.int .u8 c] w (InPost (fun k => k = 0 ∨ k = 1 ∨ k = 3 ∨ k = 4 ∨ k = 5) w) :=
  (class_any c w).mono fun _ _ ⟨k, h1, h2, h3⟩ => ⟨k, h1, classK_other h2 h, h3⟩

theorem str_ne {s : ByteArray} (h : 0 < s.size) : s.toList.isEmpty = false := by
  rw [ByteArray.toList_eq]
  cases hl : s.data.toList with
  | nil => rw [Lib.size_eq, hl] at h; simp at h
  | cons => rfl
theorem str_no {s : ByteArray} (h : ¬ 0 < s.size) : s.toList.isEmpty = true := by
  rw [ByteArray.toList_eq]
  cases hl : s.data.toList with
  | nil => rfl
  | cons => rw [Lib.size_eq, hl] at h; simp at h
set_option maxHeartbeats 1000000 in
theorem name_any (s : ByteArray) (w : World) : Calls Tryz.prog 141 #[.string s] w fun e w' => e = .returned (.bool (nameB s)) ∧ w = w' := by
  by_cases h0 : 0 < s.size
  · have g0' : (0 : Int) < s.size := by omega
    have g3 := str_ne h0
    by_cases h1 : s.size ≤ 32
    · have g1 : ¬ (32 : Int) < s.size := by omega
      cases h2 : letterB s[0].toNat
      · have H : Hid (nameB s = false) := nameB_head s h0 h2
        have CL := Lib.hid (fun w => class_other s[0].toNat w h2)
        clear h2
        go_enter Tryz.func141, Tryz.ntmps141
        go_wp2_with fail
        refine (CL.out _).mono ?_
        rintro e w' ⟨k, rfl, hk, rfl⟩
        rcases hk with rfl | rfl | rfl | rfl | rfl
        all_goals
          go_wp2_with fail
          go_ret
          exact ⟨by rw [H.out]; rfl, rfl⟩
      · have H : Hid (nameB s = s.data.toList.all (fun c => partB c.toNat)) := nameB_of s h0 h1 h2
        have CL := Lib.hid (fun w => class_letter s[0].toNat w h2)
        clear h2
        go_enter Tryz.func141, Tryz.ntmps141
        go_wp2_with fail
        refine (CL.out _).mono ?_
        rintro e w' ⟨k, rfl, rfl, rfl⟩
        go_wp2_with fail
        go_loop [20] (fun i => ∃ k : Nat, k ≤ s.size ∧ i = .int .i64 k ∧ Hid ((s.data.toList.take k).all (fun c => partB c.toNat) = true)) (fun i => s.size - (intOf i).toNat)
        case atStart => exact ⟨0, Nat.zero_le _, rfl, rfl⟩
        case round =>
          obtain ⟨k, hk, rfl, HR⟩ := hrel
          by_cases hlt : k < s.size
          · have Hs := Lib.hid (all_take_succ (f := fun c => partB c.toNat) s k hlt)
            have Hf := Lib.hid (fun h => all_false (f := fun c => partB c.toNat) s k hlt h)
            cases hp : partB s[k].toNat
            · have HF := Lib.hid (Hf.out hp)
              have CP := Lib.hid (fun w => class_no s[k].toNat w hp)
              clear hp Hs Hf
              go_wp2_with fail
              refine (CP.out _).mono ?_
              rintro e w' ⟨q, rfl, hq, rfl⟩
              rcases hq with rfl | rfl | rfl
              all_goals
                go_wp2_with fail
                go_ret
                exact ⟨by rw [H.out, HF.out]; rfl, rfl⟩
            · have HF : Hid ((s.data.toList.take (k + 1)).all (fun c => partB c.toNat) = true) := by show _ = _; rw [Hs.out, HR.out, hp]; rfl
              have CP := Lib.hid (fun w => class_part s[k].toNat w hp)
              clear hp Hs Hf
              go_wp2_with fail
              refine (CP.out _).mono ?_
              rintro e w' ⟨q, rfl, hq, rfl⟩
              rcases hq with rfl | rfl | rfl
              all_goals
                go_wp2_with fail
                go_round
                case rel => exact ⟨k + 1, by omega, by go_num, HF⟩
                case measure => simp [intOf]; omega
          · have HF : Hid (s.data.toList.all (fun c => partB c.toNat) = true) := by
              show _ = _
              have h := HR.out
              rw [List.take_of_length_le (by have := Lib.size_eq s; omega)] at h
              exact h
            clear HR
            go_wp2_with fail
            go_ret
            exact ⟨by rw [H.out, HF.out]; rfl, rfl⟩
    · have g1 : (32 : Int) < s.size := by omega
      have H := Lib.hid (nameB_big s h1)
      clear h1
      go_enter Tryz.func141, Tryz.ntmps141
      go_wp2_with fail
      go_ret
      exact ⟨by rw [H.out]; rfl, rfl⟩
  · have H := Lib.hid (nameB_none s h0)
    have g3 := str_no h0
    clear h0
    go_enter Tryz.func141, Tryz.ntmps141
    go_wp2_with fail
    go_ret
    exact ⟨by rw [H.out]; rfl, rfl⟩
end Go.Proofs.YthojaplnimoacaaGreatDoor

/- Phrases; the check of a term, in the package and in the reference. -/
namespace Go.Proofs.YthojaplnimoacaaGreatDoor
open Go.RowKit Go.Han
attribute [local irreducible] wpStill wpQuiet
set_option maxRecDepth 100000

theorem strs_get (xs : List ByteArray) (k : Nat) (h : k < xs.length) : (strs xs)[k]? = some (.string xs[k]) := by simp [strs, h]
theorem StrS.at_ {w : World} {s : StrS} (h : s.lies w) {k : Nat} (hk : k < s.xs.length) : ∃ b off, s.addr = some ⟨b, off, none⟩ ∧ b < w.heap.size ∧ ∀ (j : Nat) (hj : j < s.xs.length), w.cell? ⟨b, off + j, none⟩ = some (.string s.xs[j]) := by
  obtain ⟨b, off, h1, h2, h3⟩ := h.rd.at_ (k := k) (by simpa [strs] using hk)
  exact ⟨b, off, h1, h2, fun j hj => h3 j _ (strs_get _ _ hj)⟩

theorem wrong_any (s : ByteArray) (w : World) (hT : Tabs w) : Calls Tryz.prog 179 #[.string s] w fun e w' => e = .returned (.bool (!wordB s)) ∧ Below w.heap.size w w' := by
  have cW := Lib.hid (word_any s w hT)
  generalize wordB s = b at *
  go_enter Tryz.func179, Tryz.ntmps179
  go_wp2_with fail
  refine cW.out.mono ?_
  rintro e w' ⟨rfl, hb⟩
  go_wp2_with fail
  go_ret
  exact ⟨rfl, hb⟩
/-- The index of the first text that is no word. -/
def IdxWord (xs : List ByteArray) (w : World) (e : Ending) (w' : World) : Prop := ∃ i : Int, e = .returned (.int .i64 i) ∧ ((xs.all wordB = true ∧ i = -1) ∨ (xs.all wordB = false ∧ 0 ≤ i)) ∧ Below w.heap.size w w'
theorem indexWrong_any (s : StrS) (w : World) (hT : Tabs w) (hs : s.lies w) : Calls Tryz.prog 145 #[s.val, .func (.func 179) #[] #[]] w (IdxWord s.xs w) := by
  obtain ⟨A, cp, xs⟩ := s
  have hmx : xs.length ≤ 9223372036854775807 := Nat.le_trans hs.cap hs.max
  have hat := Lib.hid (fun k hk => StrS.at_ hs (k := k) hk)
  have en := enters_of (P := Tryz.prog) Tryz.func179 (by kernel_rfl) rfl
  clear hs
  unfold StrS.val
  go_enter Tryz.func145, Tryz.ntmps145
  go_wp2_with fail
  go_loopw [8] (fun i wr => ∃ k : Nat, k ≤ xs.length ∧ i = .int .i64 k ∧ Below w.heap.size w wr ∧ Hid ((xs.take k).all wordB = true)) (fun i _ => xs.length - (intOf i).toNat)
  case atStart => exact ⟨0, Nat.zero_le _, rfl, Below.refl _ _, rfl⟩
  case round =>
    obtain ⟨k, hk, rfl, hB, HR⟩ := hrel
    by_cases hlt : k < xs.length
    · obtain ⟨b, off, he, hb, hc⟩ := hat.out k hlt
      change A = _ at he
      change ∀ (j : Nat) (hj : j < xs.length), w.cell? ⟨b, off + j, none⟩ = some (.string xs[j]) at hc
      subst he
      have d0 := (hB.cell (p := ⟨b, off + k, none⟩) hb).trans (hc k hlt)
      have cW := Lib.hid (wrong_any xs[k] wr (utf_ext hT hB))
      have Hs : Hid ((xs.take (k + 1)).all wordB = ((xs.take k).all wordB && wordB xs[k])) := by
        show _ = _
        rw [List.take_succ_eq_append_getElem hlt, List.all_append]; simp
      have Hf : Hid (wordB xs[k] = false → xs.all wordB = false) := fun h => List.all_eq_false.2 ⟨_, List.getElem_mem hlt, by simp [h]⟩
      clear hc
      generalize xs[k] = x at *
      cases hx : wordB x
      · have HF := Lib.hid (Hf.out hx)
        have hcw := cW.out
        rw [hx] at hcw
        have CW := Lib.hid hcw
        clear hx hcw cW Hs Hf
        go_wp2_with fail
        refine CW.out.mono ?_
        rintro e w' ⟨rfl, hb⟩
        go_wp2_with fail
        go_ret
        exact ⟨k, rfl, .inr ⟨HF.out, by omega⟩, ext_trans hB hb⟩
      · have HF : Hid ((xs.take (k + 1)).all wordB = true) := by show _ = _; rw [Hs.out, HR.out, hx]; rfl
        have hcw := cW.out
        rw [hx] at hcw
        have CW := Lib.hid hcw
        clear hx hcw cW Hs Hf
        go_wp2_with fail
        refine CW.out.mono ?_
        rintro e w' ⟨rfl, hb⟩
        go_wp2_with fail
        go_roundw
        case rel => exact ⟨k + 1, by omega, by go_num, ext_trans hB hb, HF⟩
        case measure => simp [intOf]; omega
    · have HF : Hid (xs.all wordB = true) := by
        show _ = _
        have h := HR.out
        rw [List.take_of_length_le (by omega)] at h
        exact h
      clear HR
      go_wp2_with fail
      go_ret
      exact ⟨-1, rfl, .inl ⟨HF.out, rfl⟩, hB⟩
theorem containsWrong_any (s : StrS) (w : World) (hT : Tabs w) (hs : s.lies w) : Calls Tryz.prog 100 #[s.val, .func (.func 179) #[] #[]] w fun e w' => e = .returned (.bool (!s.xs.all wordB)) ∧ Below w.heap.size w w' := by
  have cI := Lib.hid (indexWrong_any s w hT hs)
  obtain ⟨v, hv⟩ : ∃ v, s.val = v := ⟨_, rfl⟩
  rw [hv] at cI ⊢
  clear hv
  go_enter Tryz.func100, Tryz.ntmps100
  go_wp2_with fail
  refine cI.out.mono ?_
  rintro e w1 ⟨i, rfl, h, hb⟩
  rcases h with ⟨h, rfl⟩ | ⟨h, h0⟩
  · have H := Lib.hid h
    clear h
    go_wp2_with fail
    go_ret
    exact ⟨by rw [H.out]; rfl, hb⟩
  · have H := Lib.hid h
    clear h
    go_wp2_with fail
    go_ret
    exact ⟨by rw [H.out]; simp, hb⟩
theorem phrase_any (s : StrS) (w : World) (hT : Tabs w) (hs : s.lies w) : Calls Tryz.prog 140 #[s.val] w fun e w' => e = .returned (.bool (phraseB s.xs)) ∧ Below w.heap.size w w' := by
  have cI := Lib.hid (fun w hT hs => containsWrong_any s w hT hs)
  have hmx : s.xs.length ≤ 9223372036854775807 := Nat.le_trans hs.cap hs.max
  have hv : s.val = .slice s.addr s.xs.length s.cap := rfl
  rw [hv] at cI ⊢
  clear hv
  by_cases h1 : 1 ≤ s.xs.length
  · by_cases h2 : s.xs.length ≤ 4
    · have H : Hid (phraseB s.xs = s.xs.all wordB) := by show _ = _; unfold phraseB; rw [decide_eq_true h1, decide_eq_true h2]; rfl
      go_enter Tryz.func140, Tryz.ntmps140
      go_wp2_with fail
      refine (cI.out w hT hs).mono ?_
      rintro e w1 ⟨rfl, hb⟩
      go_wp2_with fail
      go_ret
      exact ⟨by rw [H.out]; simp, hb⟩
    · have H : Hid (phraseB s.xs = false) := by show _ = _; unfold phraseB; rw [decide_eq_false h2]; simp
      go_enter Tryz.func140, Tryz.ntmps140
      go_wp2_with fail
      go_ret
      exact ⟨by rw [H.out]; rfl, Below.refl _ _⟩
  · have H : Hid (phraseB s.xs = false) := by show _ = _; unfold phraseB; rw [decide_eq_false h1]; rfl
    have h0 : s.xs.length = 0 := by omega
    go_enter Tryz.func140, Tryz.ntmps140
    go_wp2_with fail
    go_ret
    exact ⟨by rw [H.out]; rfl, Below.refl _ _⟩
theorem words_any (s : StrS) (w : World) (hs : s.lies w) : Calls Tryz.prog 138 #[s.val] w fun e w' => e = .returned (.bool (phraseB s.xs)) ∧ Below w.heap.size w w' := by
  obtain ⟨A, cp, xs⟩ := s
  have hmx : xs.length ≤ 9223372036854775807 := Nat.le_trans hs.cap hs.max
  have hat := Lib.hid (fun k hk => StrS.at_ hs (k := k) hk)
  show Calls _ _ #[.slice A xs.length cp] w fun e w' => e = .returned (.bool (phraseB xs)) ∧ _
  clear hs
  have H : Hid (phraseB xs = (decide (1 ≤ xs.length) && decide (xs.length ≤ 4) && xs.all wordB)) := rfl
  go_enter Tryz.func138, Tryz.ntmps138
  go_wp2_with fail
  go_loopw [3] (fun i wr => ∃ k : Nat, k ≤ xs.length ∧ i = .int .i64 k ∧ Below w.heap.size w wr ∧ Hid ((xs.take k).all wordB = true)) (fun i _ => xs.length - (intOf i).toNat)
  case atStart => exact ⟨0, Nat.zero_le _, rfl, Below.refl _ _, rfl⟩
  case round =>
    obtain ⟨k, hk, rfl, hB, HR⟩ := hrel
    by_cases hlt : k < xs.length
    · obtain ⟨b, off, he, hb, hc⟩ := hat.out k hlt
      change A = _ at he
      change ∀ (j : Nat) (hj : j < xs.length), w.cell? ⟨b, off + j, none⟩ = some (.string xs[j]) at hc
      subst he
      have d0 := (hB.cell (p := ⟨b, off + k, none⟩) hb).trans (hc k hlt)
      have cW := Lib.hid (word9_any xs[k] wr)
      have Hs : Hid ((xs.take (k + 1)).all wordB = ((xs.take k).all wordB && wordB xs[k])) := by
        show _ = _
        rw [List.take_succ_eq_append_getElem hlt, List.all_append]; simp
      have Hf : Hid (wordB xs[k] = false → xs.all wordB = false) := fun h => List.all_eq_false.2 ⟨_, List.getElem_mem hlt, by simp [h]⟩
      clear hc
      generalize xs[k] = x at *
      cases hx : wordB x
      · have HF := Lib.hid (Hf.out hx)
        have hcw := cW.out
        rw [hx] at hcw
        have CW := Lib.hid hcw
        clear hx hcw cW Hs Hf
        go_wp2_with fail
        refine CW.out.mono ?_
        rintro e w' ⟨rfl, hb⟩
        go_wp2_with fail
        go_ret
        exact ⟨by rw [H.out, HF.out]; simp, ext_trans hB hb⟩
      · have HF : Hid ((xs.take (k + 1)).all wordB = true) := by show _ = _; rw [Hs.out, HR.out, hx]; rfl
        have hcw := cW.out
        rw [hx] at hcw
        have CW := Lib.hid hcw
        clear hx hcw cW Hs Hf
        go_wp2_with fail
        refine CW.out.mono ?_
        rintro e w' ⟨rfl, hb⟩
        go_wp2_with fail
        go_roundw
        case rel => exact ⟨k + 1, by omega, by go_num, ext_trans hB hb, HF⟩
        case measure => simp [intOf]; omega
    · have HF : Hid (phraseB xs = (decide (1 ≤ xs.length) && decide (xs.length ≤ 4))) := by
        show _ = _
        have h := HR.out
        rw [List.take_of_length_le (by omega)] at h
        rw [H.out, h, Bool.and_true]
      clear HR H
      by_cases h1 : 1 ≤ xs.length
      · by_cases h2 : xs.length ≤ 4
        · have HG : Hid (phraseB xs = true) := by show _ = _; rw [HF.out, decide_eq_true h1, decide_eq_true h2]; rfl
          have h3 : (xs.length : Int) ≤ 4 := by omega
          go_wp2_with fail
          go_ret
          exact ⟨by rw [HG.out]; simp, hB⟩
        · have HG : Hid (phraseB xs = false) := by show _ = _; rw [HF.out, decide_eq_false h2]; simp
          have h3 : ¬ (xs.length : Int) ≤ 4 := by omega
          go_wp2_with fail
          go_ret
          exact ⟨by rw [HG.out]; simp, hB⟩
      · have HG : Hid (phraseB xs = false) := by show _ = _; rw [HF.out, decide_eq_false h1]; rfl
        have h0 : xs.length = 0 := by omega
        go_wp2_with fail
        go_ret
        exact ⟨by rw [HG.out]; rfl, hB⟩
end Go.Proofs.YthojaplnimoacaaGreatDoor

/- Small lemmas: blocks, new slices, rows that grow. No program in sight. -/
namespace Go.Han
open Go.RowKit
theorem gblk {w : World} {b t : Nat} {cs : Array Value} {fr : Nat × Nat} (h : w.heap[b]? = some (.cells cs t fr)) (j : Nat) : w.cell? ⟨b, j, none⟩ = cs[j]? := by
  simp [World.cell?, h]
theorem galloc_at (w : World) (o : Obj) (n : Nat) (h : n = w.heap.size) : (w.alloc o).heap[n]? = some o := by
  subst h; exact World.alloc_heap_new _ _
theorem grd_blk {w : World} {b t : Nat} {cs : Array Value} {fr : Nat × Nat} {xs : List Value} (h : w.heap[b]? = some (.cells cs t fr)) (hx : cs.toList = xs) : Rd w (some ⟨b, 0, none⟩) xs := by
  refine .inr ⟨b, 0, rfl, lt_block h, fun j u hu => ?_⟩
  rw [Nat.zero_add, gblk h]
  rw [← hx] at hu
  simpa using hu
theorem gcells_new (w : World) (cs : List Value) (t : Nat) : ∀ (j : Nat) (u : Value), cs[j]? = some u → (w.alloc (.cells cs.toArray t)).cell? ((⟨w.heap.size, 0, none⟩ : Addr).add j) = some u := by
  intro j u hu
  rw [show (⟨w.heap.size, 0, none⟩ : Addr).add j = ⟨w.heap.size, j, none⟩ from by unfold Addr.add; split <;> simp_all, gblk (galloc_at _ _ _ rfl)]
  simpa using hu
theorem gcells_new2 (w : World) (o : Obj) (cs : List Value) (t : Nat) : ∀ (j : Nat) (u : Value), cs[j]? = some u → ((w.alloc o).alloc (.cells cs.toArray t)).cell? ((⟨w.heap.size + 1, 0, none⟩ : Addr).add j) = some u := by
  have h := gcells_new (w.alloc o) cs t
  rw [World.size_alloc] at h
  exact h
theorem gbelow_grown {w w' : World} (h : Below w.heap.size w w') (row : Option Nat) : w.grownBy w' row := ⟨h.os, h.tape, h.output, h.size, fun i hi _ => h.block i hi⟩
theorem below_drewN {w w' : World} (h : Below w.heap.size w w') (n : Nat) : Below w.heap.size w (w'.drewN n) := ⟨h.os, h.tape, h.output, h.size, h.block⟩
end Go.Han

/- The check of a term, in the package and in the reference. -/
namespace Go.Proofs.YthojaplnimoacaaGreatDoor
open Go.RowKit Go.Han
attribute [local irreducible] wpStill wpQuiet
set_option maxRecDepth 100000

set_option maxHeartbeats 1000000 in
theorem rightT_any (x : Term) (w : World) (hT : Tabs w) (hx : x.lies w) : Calls Tryz.prog 92 #[x.val] w fun e w' => e = .returned (.bool x.ok) ∧ Below w.heap.size w w' := by
  obtain ⟨no, at_, known, lang, ⟨sA, sc, sx⟩, ⟨tA, tc, tx⟩, cat, gone⟩ := x
  have Hok : Hid (Term.ok ⟨no, at_, known, lang, ⟨sA, sc, sx⟩, ⟨tA, tc, tx⟩, cat, gone⟩ = (noB no && tmB at_ && tmB known && langB lang && phraseB sx && (if gone then decide (tx.length = 0) && decide (cat.size = 0) else phraseB tx && nameB cat))) := rfl
  have hv : Term.val ⟨no, at_, known, lang, ⟨sA, sc, sx⟩, ⟨tA, tc, tx⟩, cat, gone⟩ = .agg #[.int .i64 no, .int .i64 at_, .int .i64 known, .int .i64 lang, .slice sA sx.length sc, .slice tA tx.length tc, .string cat, .bool gone] := rfl
  obtain ⟨ok, hok⟩ : ∃ ok, Term.ok ⟨no, at_, known, lang, ⟨sA, sc, sx⟩, ⟨tA, tc, tx⟩, cat, gone⟩ = ok := ⟨_, rfl⟩
  rw [hok] at Hok ⊢
  rw [hv]
  obtain ⟨W0, hW0⟩ : ∃ W0, w.alloc (.cells #[.int .i64 no, .int .i64 at_, .int .i64 known, .int .i64 lang, .slice sA sx.length sc, .slice tA tx.length tc, .string cat, .bool gone] 66) = W0 := ⟨_, rfl⟩
  have hB0 : Below w.heap.size w W0 := by rw [← hW0]; exact ext_alloc (Below.refl _ _) _
  have hz0 : W0.heap.size = w.heap.size + 1 := by rw [← hW0]; simp
  have hk : Hid (∀ W, Below W0.heap.size W0 W → W.cell? ⟨w.heap.size, 0, none⟩ = some (.int .i64 no) ∧ W.cell? ⟨w.heap.size, 1, none⟩ = some (.int .i64 at_) ∧ W.cell? ⟨w.heap.size, 2, none⟩ = some (.int .i64 known) ∧ W.cell? ⟨w.heap.size, 3, none⟩ = some (.int .i64 lang) ∧ W.cell? ⟨w.heap.size, 4, none⟩ = some (.slice sA sx.length sc) ∧ W.cell? ⟨w.heap.size, 5, none⟩ = some (.slice tA tx.length tc) ∧ W.cell? ⟨w.heap.size, 6, none⟩ = some (.string cat) ∧ W.cell? ⟨w.heap.size, 7, none⟩ = some (.bool gone)) := by
    intro W hb
    have h0 : W0.heap[w.heap.size]? = some (.cells #[.int .i64 no, .int .i64 at_, .int .i64 known, .int .i64 lang, .slice sA sx.length sc, .slice tA tx.length tc, .string cat, .bool gone] 66 (0, 0)) := by rw [← hW0]; exact World.alloc_heap_new _ _
    have h1 := (hb.block _ (by omega)).trans h0
    exact ⟨gblk h1 0, gblk h1 1, gblk h1 2, gblk h1 3, gblk h1 4, gblk h1 5, gblk h1 6, gblk h1 7⟩
  have cS : Hid (∀ W, Below W0.heap.size W0 W → Calls Tryz.prog 140 #[.slice sA sx.length sc] W fun e w' => e = .returned (.bool (phraseB sx)) ∧ Below W.heap.size W w') := fun W hb => phrase_any ⟨sA, sc, sx⟩ W (utf_ext hT (ext_trans hB0 hb)) (hx.1.ext (ext_trans hB0 hb))
  have cT : Hid (∀ W, Below W0.heap.size W0 W → Calls Tryz.prog 140 #[.slice tA tx.length tc] W fun e w' => e = .returned (.bool (phraseB tx)) ∧ Below W.heap.size W w') := fun W hb => phrase_any ⟨tA, tc, tx⟩ W (utf_ext hT (ext_trans hB0 hb)) (hx.2.ext (ext_trans hB0 hb))
  have htl : tx.length ≤ 9223372036854775807 := Nat.le_trans hx.2.cap hx.2.max
  clear hok hv hx
  by_cases n0 : no < 0
  · have H : Hid (ok = false) := by show _ = _; rw [Hok.out]; unfold noB; rw [decide_eq_false (show ¬ 0 ≤ no by omega)]; rfl
    go_enter Tryz.func92, Tryz.ntmps92
    obtain ⟨d0, d1, d2, d3, d4, d5, d6, d7⟩ := hk.out W0 (Below.refl _ _)
    go_wp2_with fail
    go_ret
    exact ⟨by rw [H.out]; rfl, hB0⟩
  by_cases n1 : 1048576 < no
  · have H : Hid (ok = false) := by show _ = _; rw [Hok.out]; unfold noB; rw [decide_eq_false (show ¬ no ≤ 1048576 by omega), Bool.and_false]; rfl
    go_enter Tryz.func92, Tryz.ntmps92
    obtain ⟨d0, d1, d2, d3, d4, d5, d6, d7⟩ := hk.out W0 (Below.refl _ _)
    go_wp2_with fail
    go_ret
    exact ⟨by rw [H.out]; rfl, hB0⟩
  have hno : noB no = true := by unfold noB; rw [decide_eq_true (show 0 ≤ no by omega), decide_eq_true (show no ≤ 1048576 by omega)]; rfl
  rw [hno] at Hok
  clear hno
  have c1 := Lib.hid (fun w => isTime_any at_ w)
  have c2 := Lib.hid (fun w => isTime_any known w)
  have c3 := Lib.hid (fun w => isLang_any lang w)
  generalize tmB at_ = b1 at *
  generalize tmB known = b2 at *
  generalize langB lang = b3 at *
  generalize phraseB sx = b4 at *
  go_enter Tryz.func92, Tryz.ntmps92
  obtain ⟨d0, d1, d2, d3, d4, d5, d6, d7⟩ := hk.out W0 (Below.refl _ _)
  go_wp2_with fail
  refine (c1.out _).mono ?_
  rintro e w' ⟨rfl, rfl⟩
  cases b1
  · have H : Hid (ok = false) := by show _ = _; rw [Hok.out]; simp
    go_wp2_with fail
    go_ret
    exact ⟨by rw [H.out]; rfl, hB0⟩
  go_wp2_with fail
  refine (c2.out _).mono ?_
  rintro e w' ⟨rfl, rfl⟩
  cases b2
  · have H : Hid (ok = false) := by show _ = _; rw [Hok.out]; simp
    go_wp2_with fail
    go_ret
    exact ⟨by rw [H.out]; rfl, hB0⟩
  go_wp2_with fail
  refine (c3.out _).mono ?_
  rintro e w' ⟨rfl, rfl⟩
  cases b3
  · have H : Hid (ok = false) := by show _ = _; rw [Hok.out]; simp
    go_wp2_with fail
    go_ret
    exact ⟨by rw [H.out]; rfl, hB0⟩
  go_wp2_with fail
  refine (cS.out _ (Below.refl _ _)).mono ?_
  rintro e w1 ⟨rfl, hb1⟩
  have hB1 := ext_trans hB0 hb1
  clear d0 d1 d2 d3 d4 d5 d6 d7
  obtain ⟨d0, d1, d2, d3, d4, d5, d6, d7⟩ := hk.out w1 hb1
  cases b4
  · have H : Hid (ok = false) := by show _ = _; rw [Hok.out]; simp
    go_wp2_with fail
    go_ret
    exact ⟨by rw [H.out]; rfl, hB1⟩
  cases gone
  · have H : Hid (ok = (phraseB tx && nameB cat)) := by show _ = _; rw [Hok.out]; simp
    have cN := Lib.hid (fun w => name_any cat w)
    generalize phraseB tx = b5 at *
    generalize nameB cat = b6 at *
    clear Hok
    go_wp2_with fail
    refine (cT.out w1 hb1).mono ?_
    rintro e w2 ⟨rfl, hb2⟩
    have hB2 := ext_trans hB1 hb2
    clear d0 d1 d2 d3 d4 d5 d6 d7
    obtain ⟨d0, d1, d2, d3, d4, d5, d6, d7⟩ := hk.out w2 (ext_trans hb1 hb2)
    cases b5
    · go_wp2_with fail
      go_ret
      exact ⟨by rw [H.out]; rfl, hB2⟩
    · go_wp2_with fail
      refine (cN.out w2).mono ?_
      rintro e w' ⟨rfl, rfl⟩
      go_wp2_with fail
      go_ret
      exact ⟨by rw [H.out]; rfl, hB2⟩
  · have H : Hid (ok = (decide (tx.length = 0) && decide (cat.size = 0))) := by show _ = _; rw [Hok.out]; simp
    clear Hok
    by_cases h1 : tx.length = 0
    · have g1 : ((tx.length : Int) == 0) = true := by simp [h1]
      by_cases h2 : 0 < cat.size
      · have g2 := str_ne h2
        have H2 : Hid (ok = false) := by show _ = _; rw [H.out, decide_eq_false (show ¬ cat.size = 0 by omega), Bool.and_false]
        clear h1
        go_wp2_with fail
        go_ret
        exact ⟨by rw [H2.out]; rfl, hB1⟩
      · have g2 := str_no h2
        have H2 : Hid (ok = true) := by show _ = _; rw [H.out, decide_eq_true h1, decide_eq_true (show cat.size = 0 by omega)]; rfl
        clear h1
        go_wp2_with fail
        go_ret
        exact ⟨by rw [H2.out]; rfl, hB1⟩
    · have g1 : ((tx.length : Int) == 0) = false := beq_eq_false_iff_ne.2 (by omega)
      have H2 : Hid (ok = false) := by show _ = _; rw [H.out, decide_eq_false h1]; rfl
      clear h1
      go_wp2_with fail
      go_ret
      exact ⟨by rw [H2.out]; rfl, hB1⟩
set_option maxHeartbeats 1000000 in
theorem rightT27_any (x : Term) (w : World) (hx : x.lies w) : Calls Tryz.prog 91 #[x.val] w fun e w' => e = .returned (.bool x.ok) ∧ Below w.heap.size w w' := by
  obtain ⟨no, at_, known, lang, ⟨sA, sc, sx⟩, ⟨tA, tc, tx⟩, cat, gone⟩ := x
  have Hok : Hid (Term.ok ⟨no, at_, known, lang, ⟨sA, sc, sx⟩, ⟨tA, tc, tx⟩, cat, gone⟩ = (noB no && tmB at_ && tmB known && langB lang && phraseB sx && (if gone then decide (tx.length = 0) && decide (cat.size = 0) else phraseB tx && nameB cat))) := rfl
  have hv : Term.val ⟨no, at_, known, lang, ⟨sA, sc, sx⟩, ⟨tA, tc, tx⟩, cat, gone⟩ = .agg #[.int .i64 no, .int .i64 at_, .int .i64 known, .int .i64 lang, .slice sA sx.length sc, .slice tA tx.length tc, .string cat, .bool gone] := rfl
  obtain ⟨ok, hok⟩ : ∃ ok, Term.ok ⟨no, at_, known, lang, ⟨sA, sc, sx⟩, ⟨tA, tc, tx⟩, cat, gone⟩ = ok := ⟨_, rfl⟩
  rw [hok] at Hok ⊢
  rw [hv]
  obtain ⟨W0, hW0⟩ : ∃ W0, w.alloc (.cells #[.int .i64 no, .int .i64 at_, .int .i64 known, .int .i64 lang, .slice sA sx.length sc, .slice tA tx.length tc, .string cat, .bool gone] 66) = W0 := ⟨_, rfl⟩
  have hB0 : Below w.heap.size w W0 := by rw [← hW0]; exact ext_alloc (Below.refl _ _) _
  have hz0 : W0.heap.size = w.heap.size + 1 := by rw [← hW0]; simp
  have hk : Hid (∀ W, Below W0.heap.size W0 W → W.cell? ⟨w.heap.size, 0, none⟩ = some (.int .i64 no) ∧ W.cell? ⟨w.heap.size, 1, none⟩ = some (.int .i64 at_) ∧ W.cell? ⟨w.heap.size, 2, none⟩ = some (.int .i64 known) ∧ W.cell? ⟨w.heap.size, 3, none⟩ = some (.int .i64 lang) ∧ W.cell? ⟨w.heap.size, 4, none⟩ = some (.slice sA sx.length sc) ∧ W.cell? ⟨w.heap.size, 5, none⟩ = some (.slice tA tx.length tc) ∧ W.cell? ⟨w.heap.size, 6, none⟩ = some (.string cat) ∧ W.cell? ⟨w.heap.size, 7, none⟩ = some (.bool gone)) := by
    intro W hb
    have h0 : W0.heap[w.heap.size]? = some (.cells #[.int .i64 no, .int .i64 at_, .int .i64 known, .int .i64 lang, .slice sA sx.length sc, .slice tA tx.length tc, .string cat, .bool gone] 66 (0, 0)) := by rw [← hW0]; exact World.alloc_heap_new _ _
    have h1 := (hb.block _ (by omega)).trans h0
    exact ⟨gblk h1 0, gblk h1 1, gblk h1 2, gblk h1 3, gblk h1 4, gblk h1 5, gblk h1 6, gblk h1 7⟩
  have cS : Hid (∀ W, Below W0.heap.size W0 W → Calls Tryz.prog 138 #[.slice sA sx.length sc] W fun e w' => e = .returned (.bool (phraseB sx)) ∧ Below W.heap.size W w') := fun W hb => words_any ⟨sA, sc, sx⟩ W (hx.1.ext (ext_trans hB0 hb))
  have cT : Hid (∀ W, Below W0.heap.size W0 W → Calls Tryz.prog 138 #[.slice tA tx.length tc] W fun e w' => e = .returned (.bool (phraseB tx)) ∧ Below W.heap.size W w') := fun W hb => words_any ⟨tA, tc, tx⟩ W (hx.2.ext (ext_trans hB0 hb))
  have htl : tx.length ≤ 9223372036854775807 := Nat.le_trans hx.2.cap hx.2.max
  clear hok hv hx
  by_cases n0 : no < 0
  · have H : Hid (ok = false) := by show _ = _; rw [Hok.out]; unfold noB; rw [decide_eq_false (show ¬ 0 ≤ no by omega)]; rfl
    go_enter Tryz.func91, Tryz.ntmps91
    obtain ⟨d0, d1, d2, d3, d4, d5, d6, d7⟩ := hk.out W0 (Below.refl _ _)
    go_wp2_with fail
    go_ret
    exact ⟨by rw [H.out]; rfl, hB0⟩
  by_cases n1 : 1048576 < no
  · have H : Hid (ok = false) := by show _ = _; rw [Hok.out]; unfold noB; rw [decide_eq_false (show ¬ no ≤ 1048576 by omega), Bool.and_false]; rfl
    go_enter Tryz.func91, Tryz.ntmps91
    obtain ⟨d0, d1, d2, d3, d4, d5, d6, d7⟩ := hk.out W0 (Below.refl _ _)
    go_wp2_with fail
    go_ret
    exact ⟨by rw [H.out]; rfl, hB0⟩
  have hno : noB no = true := by unfold noB; rw [decide_eq_true (show 0 ≤ no by omega), decide_eq_true (show no ≤ 1048576 by omega)]; rfl
  rw [hno] at Hok
  clear hno
  have c1 := Lib.hid (fun w => time27_any at_ w)
  have c2 := Lib.hid (fun w => time27_any known w)
  have c3 := Lib.hid (fun w => language27_any lang w)
  generalize tmB at_ = b1 at *
  generalize tmB known = b2 at *
  generalize langB lang = b3 at *
  generalize phraseB sx = b4 at *
  go_enter Tryz.func91, Tryz.ntmps91
  obtain ⟨d0, d1, d2, d3, d4, d5, d6, d7⟩ := hk.out W0 (Below.refl _ _)
  go_wp2_with fail
  refine (c1.out _).mono ?_
  rintro e w' ⟨rfl, rfl⟩
  cases b1
  · have H : Hid (ok = false) := by show _ = _; rw [Hok.out]; simp
    go_wp2_with fail
    go_ret
    exact ⟨by rw [H.out]; rfl, hB0⟩
  go_wp2_with fail
  refine (c2.out _).mono ?_
  rintro e w' ⟨rfl, rfl⟩
  cases b2
  · have H : Hid (ok = false) := by show _ = _; rw [Hok.out]; simp
    go_wp2_with fail
    go_ret
    exact ⟨by rw [H.out]; rfl, hB0⟩
  go_wp2_with fail
  refine (c3.out _).mono ?_
  rintro e w' ⟨rfl, rfl⟩
  cases b3
  · have H : Hid (ok = false) := by show _ = _; rw [Hok.out]; simp
    go_wp2_with fail
    go_ret
    exact ⟨by rw [H.out]; rfl, hB0⟩
  go_wp2_with fail
  refine (cS.out _ (Below.refl _ _)).mono ?_
  rintro e w1 ⟨rfl, hb1⟩
  have hB1 := ext_trans hB0 hb1
  clear d0 d1 d2 d3 d4 d5 d6 d7
  obtain ⟨d0, d1, d2, d3, d4, d5, d6, d7⟩ := hk.out w1 hb1
  cases b4
  · have H : Hid (ok = false) := by show _ = _; rw [Hok.out]; simp
    go_wp2_with fail
    go_ret
    exact ⟨by rw [H.out]; rfl, hB1⟩
  cases gone
  · have H : Hid (ok = (phraseB tx && nameB cat)) := by show _ = _; rw [Hok.out]; simp
    have cN := Lib.hid (fun w => name3_any cat w)
    generalize phraseB tx = b5 at *
    generalize nameB cat = b6 at *
    clear Hok
    go_wp2_with fail
    refine (cT.out w1 hb1).mono ?_
    rintro e w2 ⟨rfl, hb2⟩
    have hB2 := ext_trans hB1 hb2
    clear d0 d1 d2 d3 d4 d5 d6 d7
    obtain ⟨d0, d1, d2, d3, d4, d5, d6, d7⟩ := hk.out w2 (ext_trans hb1 hb2)
    cases b5
    · go_wp2_with fail
      go_ret
      exact ⟨by rw [H.out]; rfl, hB2⟩
    · go_wp2_with fail
      refine (cN.out w2).mono ?_
      rintro e w' ⟨rfl, rfl⟩
      go_wp2_with fail
      go_ret
      exact ⟨by rw [H.out]; rfl, hB2⟩
  · have H : Hid (ok = (decide (tx.length = 0) && decide (cat.size = 0))) := by show _ = _; rw [Hok.out]; simp
    clear Hok
    by_cases h1 : tx.length = 0
    · have g1 : ((tx.length : Int) == 0) = true := by simp [h1]
      by_cases h2 : 0 < cat.size
      · have g2 := str_ne h2
        have H2 : Hid (ok = false) := by show _ = _; rw [H.out, decide_eq_false (show ¬ cat.size = 0 by omega), Bool.and_false]
        clear h1
        go_wp2_with fail
        go_ret
        exact ⟨by rw [H2.out]; rfl, hB1⟩
      · have g2 := str_no h2
        have H2 : Hid (ok = true) := by show _ = _; rw [H.out, decide_eq_true h1, decide_eq_true (show cat.size = 0 by omega)]; rfl
        clear h1
        go_wp2_with fail
        go_ret
        exact ⟨by rw [H2.out]; rfl, hB1⟩
    · have g1 : ((tx.length : Int) == 0) = false := beq_eq_false_iff_ne.2 (by omega)
      have H2 : Hid (ok = false) := by show _ = _; rw [H.out, decide_eq_false h1]; rfl
      clear h1
      go_wp2_with fail
      go_ret
      exact ⟨by rw [H2.out]; rfl, hB1⟩
end Go.Proofs.YthojaplnimoacaaGreatDoor

/- The check of terms, in the package and in the reference; few terms. -/
namespace Go.Proofs.YthojaplnimoacaaGreatDoor
open Go.RowKit Go.Han
attribute [local irreducible] wpStill wpQuiet
set_option maxRecDepth 100000

def tflat (l : List Term) : List Value := l.flatMap Term.cells
/-- A slice of terms as it lies. -/
structure TermsAt (w : World) (A : Option Addr) (l : List Term) : Prop where
  rd : Rd w A (tflat l)
  lie : ∀ x ∈ l, x.lies w
theorem TermsAt.ext {w w' : World} {A : Option Addr} {l : List Term} (h : TermsAt w A l) (hb : Below w.heap.size w w') : TermsAt w' A l := ⟨h.rd.ext hb, fun x hx => (h.lie x hx).ext hb⟩
theorem TermsAt.nil (w : World) (A : Option Addr) : TermsAt w A [] := ⟨Rd.nil _ _, fun x hx => by cases hx⟩
/-- The k-th term's cells, in every later world. -/
theorem TermsAt.at_ {w : World} {A : Option Addr} {l : List Term} (h : TermsAt w A l) {k : Nat} (hk : k < l.length) : ∃ b off, A = some ⟨b, off, none⟩ ∧ b < w.heap.size ∧
    (∀ (i : Nat) (hi : i < l.length) (W : World), Below w.heap.size w W → W.cell? ⟨b, off + i * 8, none⟩ = some (.int .i64 l[i].no) ∧ W.cell? ⟨b, off + i * 8 + 1, none⟩ = some (.int .i64 l[i].at_) ∧ W.cell? ⟨b, off + i * 8 + 2, none⟩ = some (.int .i64 l[i].known) ∧ W.cell? ⟨b, off + i * 8 + 3, none⟩ = some (.int .i64 l[i].lang) ∧
      W.cell? ⟨b, off + i * 8 + 4, none⟩ = some (.slice l[i].src.addr l[i].src.xs.length l[i].src.cap) ∧ W.cell? ⟨b, off + i * 8 + 5, none⟩ = some (.slice l[i].tgt.addr l[i].tgt.xs.length l[i].tgt.cap) ∧ W.cell? ⟨b, off + i * 8 + 6, none⟩ = some (.string l[i].cat) ∧ W.cell? ⟨b, off + i * 8 + 7, none⟩ = some (.bool l[i].gone)) := by
  obtain ⟨b, off, he, hb, _⟩ := h.rd.elem Term.size_cells (by omega) hk
  refine ⟨b, off, he, hb, fun i hi W hW => ?_⟩
  obtain ⟨b', off', he', _, hc⟩ := h.rd.elem Term.size_cells (by omega) hi
  rw [he] at he'
  cases he'
  have c0 := (hW.cell (p := ⟨b, off + i * 8 + 0, none⟩) hb).trans (hc 0 _ rfl)
  simp only [Nat.add_zero] at c0
  exact ⟨c0, (hW.cell (p := ⟨b, off + i * 8 + 1, none⟩) hb).trans (hc 1 _ rfl), (hW.cell (p := ⟨b, off + i * 8 + 2, none⟩) hb).trans (hc 2 _ rfl), (hW.cell (p := ⟨b, off + i * 8 + 3, none⟩) hb).trans (hc 3 _ rfl), (hW.cell (p := ⟨b, off + i * 8 + 4, none⟩) hb).trans (hc 4 _ rfl), (hW.cell (p := ⟨b, off + i * 8 + 5, none⟩) hb).trans (hc 5 _ rfl), (hW.cell (p := ⟨b, off + i * 8 + 6, none⟩) hb).trans (hc 6 _ rfl), (hW.cell (p := ⟨b, off + i * 8 + 7, none⟩) hb).trans (hc 7 _ rfl)⟩

def chkT : Int → List Term → Bool
  | _, [] => true
  | last, x :: l => x.ok && decide (last < x.no) && chkT x.no l
def checkT (l : List Term) : Int := if 1024 < l.length then 2 else if chkT (-1) l then 0 else 270
def lastT (l : List Term) : Nat → Int
  | 0 => -1
  | k + 1 => match l[k]? with | some x => x.no | none => -1
theorem lastT_succ (l : List Term) (k : Nat) (h : k < l.length) : lastT l (k + 1) = l[k].no := by
  show (match l[k]? with | some x => x.no | none => -1) = _
  rw [List.getElem?_eq_getElem h]
theorem chkT_drop (l : List Term) (k : Nat) (h : k < l.length) (last : Int) : chkT last (l.drop k) = (l[k].ok && decide (last < l[k].no) && chkT l[k].no (l.drop (k + 1))) := by
  rw [List.drop_eq_getElem_cons h]; rfl
theorem ok_no {x : Term} (h : x.ok = true) : 0 ≤ x.no ∧ x.no ≤ 1048576 := by
  unfold Term.ok noB at h
  simp only [Bool.and_eq_true, decide_eq_true_eq] at h
  exact h.1.1.1.1.1

theorem rightT_at (x : Term) (w : World) (hT : Tabs w) (hx : x.lies w) : Calls Tryz.prog 92 #[.agg #[.int .i64 x.no, .int .i64 x.at_, .int .i64 x.known, .int .i64 x.lang, .slice x.src.addr x.src.xs.length x.src.cap, .slice x.tgt.addr x.tgt.xs.length x.tgt.cap, .string x.cat, .bool x.gone]] w fun e w' => e = .returned (.bool x.ok) ∧ Below w.heap.size w w' := rightT_any x w hT hx
theorem rightT27_at (x : Term) (w : World) (hx : x.lies w) : Calls Tryz.prog 91 #[.agg #[.int .i64 x.no, .int .i64 x.at_, .int .i64 x.known, .int .i64 x.lang, .slice x.src.addr x.src.xs.length x.src.cap, .slice x.tgt.addr x.tgt.xs.length x.tgt.cap, .string x.cat, .bool x.gone]] w fun e w' => e = .returned (.bool x.ok) ∧ Below w.heap.size w w' := rightT27_any x w hx

set_option maxHeartbeats 1000000 in
theorem CheckT_any (A : Option Addr) (c : Nat) (l : List Term) (w : World) (hT : Tabs w) (hr : TermsAt w A l) (hm : l.length ≤ 9223372036854775807) :
    Calls Tryz.prog 83 #[.slice A l.length c] w fun e w' => e = .returned (.int .i64 (checkT l)) ∧ Below w.heap.size w w' := by
  by_cases hl : l.length ≤ 1024
  · have h1 : ¬ (1024 : Int) < l.length := by omega
    go_enter Tryz.func83, Tryz.ntmps83
    go_wp2_with fail
    go_loopw [3, 11] (fun t i wr => ∃ (k : Nat) (last : Int), k ≤ l.length ∧ i = .int .i64 k ∧ t = .int .i64 last ∧ Below w.heap.size w wr ∧ Hid (chkT (-1) l = chkT last (l.drop k))) (fun _ i _ => l.length - (intOf i).toNat)
    case atStart => exact ⟨0, _, Nat.zero_le _, rfl, rfl, Below.refl _ _, rfl⟩
    case round =>
      obtain ⟨k, last, hk, rfl, rfl, hB, HR⟩ := hrel
      by_cases hlt : k < l.length
      · obtain ⟨b, off, rfl, hb, hc⟩ := hr.at_ hlt
        obtain ⟨d0, d1, d2, d3, d4, d5, d6, d7⟩ := hc k hlt wr hB
        have hx : l[k].lies wr := (hr.lie _ (List.getElem_mem hlt)).ext hB
        have Hd := Lib.hid (chkT_drop l k hlt last)
        have hfin : ∀ b : Bool, b = (l[k].ok && decide (last < l[k].no)) → checkT l = if b then (if chkT l[k].no (l.drop (k + 1)) then 0 else 270) else 270 := by
          rintro b rfl
          unfold checkT
          rw [if_neg (by omega), HR.out, Hd.out]
          cases l[k].ok <;> simp
          by_cases h : last < l[k].no <;> simp [h]
        have Hfin := Lib.hid hfin
        clear hc hfin
        generalize l[k] = x at *
        have hBx : Below wr.heap.size wr (wr.alloc (.cells #[.int .i64 x.no, .int .i64 x.at_, .int .i64 x.known, .int .i64 x.lang, .slice x.src.addr x.src.xs.length x.src.cap, .slice x.tgt.addr x.tgt.xs.length x.tgt.cap, .string x.cat, .bool x.gone] 66)) := ext_alloc (Below.refl _ _) _
        have n0 := World.alloc_heap_new wr (.cells #[.int .i64 x.no, .int .i64 x.at_, .int .i64 x.known, .int .i64 x.lang, .slice x.src.addr x.src.xs.length x.src.cap, .slice x.tgt.addr x.tgt.xs.length x.tgt.cap, .string x.cat, .bool x.gone] 66)
        have cr := Lib.hid (rightT_at x _ (utf_ext hT (ext_trans hB hBx)) (hx.ext hBx))
        obtain ⟨ok, hok⟩ : ∃ ok, x.ok = ok := ⟨_, rfl⟩
        rw [hok] at Hd Hfin cr
        have Hok := Lib.hid hok
        clear hok hx
        go_wp2_with fail
        refine cr.out.mono ?_
        rintro e w2 ⟨rfl, hb2⟩
        have hB2 := ext_trans hB (ext_trans hBx hb2)
        have n2 := (hb2.block wr.heap.size (by simp)).trans n0
        have e0 := gblk n2 0
        clear n0 n2 d0 d1 d2 d3 d4 d5 d6 d7 cr hBx
        cases ok
        · have HF := Lib.hid (Hfin.out false rfl)
          clear Hfin Hd HR
          go_wp2_with fail
          go_ret
          exact ⟨by rw [HF.out]; rfl, hB2⟩
        · by_cases hla : last < x.no
          · have HF : Hid (chkT (-1) l = chkT x.no (l.drop (k + 1))) := by show _ = _; rw [HR.out, Hd.out, decide_eq_true hla]; rfl
            clear Hfin Hd HR
            go_wp2_with fail
            go_roundw
            case rel => exact ⟨k + 1, x.no, by omega, by go_num, rfl, hB2, HF⟩
            case measure => simp [intOf]; omega
          · have HF := Lib.hid (Hfin.out false (by rw [decide_eq_false hla]; rfl))
            clear Hfin Hd HR
            go_wp2_with fail
            go_ret
            exact ⟨by rw [HF.out]; rfl, hB2⟩
      · have h5 : Hid (checkT l = 0) := by
          show _ = _
          unfold checkT
          rw [if_neg (by omega), HR.out, show k = l.length by omega, List.drop_length]; rfl
        clear HR
        go_wp2_with fail
        go_ret
        exact ⟨by rw [h5.out]; rfl, hB⟩
  · have h5 : Hid (checkT l = 2) := by show _ = _; unfold checkT; rw [if_pos (by omega)]
    have h1 : (1024 : Int) < l.length := by omega
    go_enter Tryz.func83, Tryz.ntmps83
    go_wp2_with fail
    go_ret
    exact ⟨by rw [h5.out]; rfl, Below.refl _ _⟩

set_option maxHeartbeats 2000000 in
theorem check27_any (A : Option Addr) (c : Nat) (l : List Term) (w : World) (hr : TermsAt w A l) (hm : l.length ≤ 9223372036854775807) :
    Calls Tryz.prog 44 #[.slice A l.length c] w fun e w' => e = .returned (.int .i64 (checkT l)) ∧ Below w.heap.size w w' := by
  by_cases hl : l.length ≤ 1024
  · have h1 : ¬ (1024 : Int) < l.length := by omega
    go_enter Tryz.func44, Tryz.ntmps44
    go_wp2_with fail
    go_loopw [3] (fun i wr => ∃ (k : Nat) (last : Int), k ≤ l.length ∧ i = .int .i64 k ∧ Below w.heap.size w wr ∧ Hid (chkT (-1) l = chkT last (l.drop k)) ∧ Hid (last = lastT l k)) (fun i _ => l.length - (intOf i).toNat)
    case atStart => exact ⟨0, -1, Nat.zero_le _, rfl, Below.refl _ _, rfl, rfl⟩
    case round =>
      obtain ⟨k, last, hk, rfl, hB, HR, HL⟩ := hrel
      have hz := hB.size
      by_cases hlt : k < l.length
      · obtain ⟨b, off, rfl, hb, hc⟩ := hr.at_ hlt
        obtain ⟨d0, d1, d2, d3, d4, d5, d6, d7⟩ := hc k hlt wr hB
        have hx : l[k].lies wr := (hr.lie _ (List.getElem_mem hlt)).ext hB
        have Hd := Lib.hid (chkT_drop l k hlt last)
        have hbw : b < wr.heap.size := Nat.lt_of_lt_of_le hb hz
        have hcE : ∀ b : Bool, b = (l[k].ok && decide (last < l[k].no)) → checkT l = if b then (if chkT l[k].no (l.drop (k + 1)) then 0 else 270) else 270 := by
          rintro b rfl
          unfold checkT
          rw [if_neg (by omega), HR.out, Hd.out]
          cases l[k].ok <;> simp
          by_cases h : last < l[k].no <;> simp [h]
        have HcE := Lib.hid hcE
        have HL2 : Hid (l[k].no = lastT l (k + 1)) := (lastT_succ l k hlt).symm
        have cr : ∀ p : ExtBy wr, Calls Tryz.prog 91 _ p.wt _ := fun p => rightT27_at l[k] p.wt (hx.ext p.ext)
        cases hok : l[k].ok
        · have HF : Hid (checkT l = 270) := by
            show _ = _
            rw [HcE.out false (by rw [hok]; rfl)]; rfl
          rw [hok] at cr
          have Cr := Lib.hid cr
          clear hcE hok cr HcE hc hx Hd HL2
          generalize l[k] = x at *
          have c0 := fun p => cell_ext (w := wr) (a := ⟨b, off + k * 8, none⟩) hbw d0 p
          have c1 := fun p => cell_ext (w := wr) (a := ⟨b, off + k * 8 + 1, none⟩) hbw d1 p
          have c2 := fun p => cell_ext (w := wr) (a := ⟨b, off + k * 8 + 2, none⟩) hbw d2 p
          have c3 := fun p => cell_ext (w := wr) (a := ⟨b, off + k * 8 + 3, none⟩) hbw d3 p
          have c4 := fun p => cell_ext (w := wr) (a := ⟨b, off + k * 8 + 4, none⟩) hbw d4 p
          have c5 := fun p => cell_ext (w := wr) (a := ⟨b, off + k * 8 + 5, none⟩) hbw d5 p
          have c6 := fun p => cell_ext (w := wr) (a := ⟨b, off + k * 8 + 6, none⟩) hbw d6 p
          have c7 := fun p => cell_ext (w := wr) (a := ⟨b, off + k * 8 + 7, none⟩) hbw d7 p
          go_wp2_with fail
          refine wp_region_ext (by kernel_rfl) (by kernel_rfl) ?_
          repeat (quiet_step ((go_at_call 91; exact Calls.ext_of (Cr.out _))))
          refine wpQuiet_nil ?_
          intro _ hw'
          obtain ⟨p, rfl⟩ := hw'
          go_wp2
          go_ret
          exact ⟨by rw [HF.out]; rfl, hB.trans (p.ext.mono hz)⟩
        · rw [hok] at cr
          have Cr := Lib.hid cr
          have Hok := Lib.hid hok
          have hpos := (ok_no hok).1
          clear hok cr hcE hx
          rcases Nat.eq_zero_or_pos k with rfl | hk0
          · have hl0 : last = -1 := HL.out
            have HF : Hid (chkT (-1) l = chkT l[0].no (l.drop (0 + 1))) := by
              show _ = _
              rw [HR.out, Hd.out, Hok.out, hl0]
              simp; omega
            clear HR Hd
            subst hl0
            clear hc HcE HL Hok
            generalize l[0] = x at *
            simp only [Nat.zero_mul, Nat.add_zero] at d0 d1 d2 d3 d4 d5 d6 d7
            have c0 := fun p => cell_ext (w := wr) (a := ⟨b, off, none⟩) hbw d0 p
            have c1 := fun p => cell_ext (w := wr) (a := ⟨b, off + 1, none⟩) hbw d1 p
            have c2 := fun p => cell_ext (w := wr) (a := ⟨b, off + 2, none⟩) hbw d2 p
            have c3 := fun p => cell_ext (w := wr) (a := ⟨b, off + 3, none⟩) hbw d3 p
            have c4 := fun p => cell_ext (w := wr) (a := ⟨b, off + 4, none⟩) hbw d4 p
            have c5 := fun p => cell_ext (w := wr) (a := ⟨b, off + 5, none⟩) hbw d5 p
            have c6 := fun p => cell_ext (w := wr) (a := ⟨b, off + 6, none⟩) hbw d6 p
            have c7 := fun p => cell_ext (w := wr) (a := ⟨b, off + 7, none⟩) hbw d7 p
            go_wp2_with fail
            refine wp_region_ext (by kernel_rfl) (by kernel_rfl) ?_
            repeat (quiet_step ((go_at_call 91; exact Calls.ext_of (Cr.out _))))
            refine wpQuiet_nil ?_
            intro _ hw'
            obtain ⟨p, rfl⟩ := hw'
            go_wp2
            go_roundw
            case rel => exact ⟨1, x.no, by omega, rfl, hB.trans (p.ext.mono hz), HF, HL2⟩
            case measure => simp [intOf]; omega
          · have hl1 : k - 1 < l.length := by omega
            have hlast : last = l[k - 1].no := by
              have := lastT_succ l (k - 1) hl1
              rw [Nat.sub_add_cancel hk0] at this
              rw [HL.out, this]
            have e0 := (hc (k - 1) hl1 wr hB).1
            have ek : ((k : Int) - 1) = ((k - 1 : Nat) : Int) := by omega
            have Hek := Lib.hid ek
            rw [← hlast] at e0
            have HF : last < l[k].no → Hid (chkT (-1) l = chkT l[k].no (l.drop (k + 1))) := by
              intro h
              show _ = _
              rw [HR.out, Hd.out, Hok.out]
              simp [h]
            have HE : ¬ last < l[k].no → Hid (checkT l = 270) := by
              intro h
              show _ = _
              rw [HcE.out false (by rw [decide_eq_false h]; simp)]; rfl
            clear hc HL Hok HcE HR Hd hlast ek
            generalize l[k] = x at *
            have c0 := fun p => cell_ext (w := wr) (a := ⟨b, off + k * 8, none⟩) hbw d0 p
            have c1 := fun p => cell_ext (w := wr) (a := ⟨b, off + k * 8 + 1, none⟩) hbw d1 p
            have c2 := fun p => cell_ext (w := wr) (a := ⟨b, off + k * 8 + 2, none⟩) hbw d2 p
            have c3 := fun p => cell_ext (w := wr) (a := ⟨b, off + k * 8 + 3, none⟩) hbw d3 p
            have c4 := fun p => cell_ext (w := wr) (a := ⟨b, off + k * 8 + 4, none⟩) hbw d4 p
            have c5 := fun p => cell_ext (w := wr) (a := ⟨b, off + k * 8 + 5, none⟩) hbw d5 p
            have c6 := fun p => cell_ext (w := wr) (a := ⟨b, off + k * 8 + 6, none⟩) hbw d6 p
            have c7 := fun p => cell_ext (w := wr) (a := ⟨b, off + k * 8 + 7, none⟩) hbw d7 p
            have c9 := fun p => cell_ext (w := wr) (a := ⟨b, off + (k - 1) * 8, none⟩) hbw e0 p
            have w1 : IntKind.i64.wrap ((k : Int) - 1) = (k : Int) - 1 := IntWalk.i64_in _ (by omega)
            have w2 : (0 : Int) ≤ (k : Int) - 1 := by omega
            have w3 : (1 : Int) ≤ (k : Int) := by omega
            have w4 : (k : Int) - 1 < l.length := by omega
            have w5 : ((k : Int) - 1).toNat = k - 1 := by omega
            have w6 : (0 : Int) < (k : Int) := by omega
            by_cases hla : last < x.no
            · have HF2 := HF hla
              have g1 : decide (x.no ≤ last) = false := by simp; omega
              clear HF HE
              go_wp2_with fail
              refine wp_region_ext (by kernel_rfl) (by kernel_rfl) ?_
              repeat (quiet_step ((go_at_call 91; exact Calls.ext_of (Cr.out _))))
              refine wpQuiet_nil ?_
              intro _ hw'
              obtain ⟨p, rfl⟩ := hw'
              clear w1 w2 w3 w4 w5
              go_wp2
              go_roundw
              case rel => exact ⟨k + 1, x.no, by omega, by go_num, hB.trans (p.ext.mono hz), HF2, HL2⟩
              case measure => simp [intOf]; omega
            · have HE2 := HE hla
              have g1 : decide (x.no ≤ last) = true := by simp; omega
              clear HF HE
              go_wp2_with fail
              refine wp_region_ext (by kernel_rfl) (by kernel_rfl) ?_
              repeat (quiet_step ((go_at_call 91; exact Calls.ext_of (Cr.out _))))
              refine wpQuiet_nil ?_
              intro _ hw'
              obtain ⟨p, rfl⟩ := hw'
              clear w1 w2 w3 w4 w5
              go_wp2
              go_ret
              exact ⟨by rw [HE2.out]; rfl, hB.trans (p.ext.mono hz)⟩
      · have h5 : Hid (checkT l = 0) := by
          show _ = _
          unfold checkT
          rw [if_neg (by omega), HR.out, show k = l.length by omega, List.drop_length]; rfl
        clear HR
        go_wp2_with fail
        go_ret
        exact ⟨by rw [h5.out]; rfl, hB⟩
  · have h5 : Hid (checkT l = 2) := by show _ = _; unfold checkT; rw [if_pos (by omega)]
    have h1 : (1024 : Int) < l.length := by omega
    go_enter Tryz.func44, Tryz.ntmps44
    go_wp2_with fail
    go_ret
    exact ⟨by rw [h5.out]; rfl, Below.refl _ _⟩
end Go.Proofs.YthojaplnimoacaaGreatDoor

/- Grammars: as they lie, and what is right of them. Conditions: none; plain facts. -/
namespace Go.Proofs.YthojaplnimoacaaGreatDoor
open Go.RowKit Go.Han
set_option maxRecDepth 100000

/-! ### chains of categories -/
section
variable {α : Type}
/-- A path of n steps. -/
def PathN (E : α → α → Prop) : Nat → α → Prop
  | 0, _ => True
  | n + 1, x => ∃ y, E x y ∧ PathN E n y
/-- There is a step, or more, from x to y. -/
inductive Leads (E : α → α → Prop) : α → α → Prop
  | one {x y} : E x y → Leads E x y
  | more {x y z} : E x y → Leads E y z → Leads E x z
theorem Leads.snoc {E : α → α → Prop} {x y z : α} (h : Leads E x y) (e : E y z) : Leads E x z := by
  induction h with
  | one h => exact .more h (.one e)
  | more h _ ih => exact .more h (ih e)
theorem Leads.trans {E : α → α → Prop} {x y z : α} (h : Leads E x y) (k : Leads E y z) : Leads E x z := by
  induction h with
  | one h => exact .more h k
  | more h _ ih => exact .more h (ih k)
/-- Something leads in a circle. -/
def Circle (E : α → α → Prop) : Prop := ∃ x, Leads E x x
/-- x leads to a circle, or lies on one. -/
def ToCircle (E : α → α → Prop) (x : α) : Prop := ∃ y, (x = y ∨ Leads E x y) ∧ Leads E y y
theorem toCircle_step {E : α → α → Prop} {x : α} (h : ToCircle E x) : ∃ y, E x y ∧ ToCircle E y := by
  obtain ⟨y, hxy, hy⟩ := h
  have hl : Leads E x y := by
    rcases hxy with rfl | h
    · exact hy
    · exact h
  cases hl with
  | one e => exact ⟨y, e, y, .inl rfl, hy⟩
  | more e h => exact ⟨_, e, y, .inr h, hy⟩
theorem toCircle_of_path [DecidableEq α] {E : α → α → Prop} (l : List α) (n : Nat) : ∀ (seen : List α) (x : α), (∀ y z, E y z → z ∈ l) → l.length ≤ n + seen.length → (∀ s ∈ seen, s ∈ l) → seen.Nodup → (∀ s ∈ seen, Leads E s x) → x ∈ l → PathN E n x → Circle E := by
  induction n with
  | zero =>
    intro seen x hl hn hs hd hr hx _
    have hm : x ∈ seen := by
      rcases Classical.em (x ∈ seen) with h | h
      · exact h
      · exfalso
        have h1 : (x :: seen).Nodup := List.nodup_cons.2 ⟨h, hd⟩
        have h2 : (x :: seen) ⊆ l := by
          intro s hs'
          rcases List.mem_cons.1 hs' with rfl | h'
          · exact hx
          · exact hs s h'
        have h3 := h1.length_le_of_subset h2
        simp at h3
        omega
    exact ⟨x, hr x hm⟩
  | succ n ih =>
    intro seen x hl hn hs hd hr hx hp
    obtain ⟨y, e, hp⟩ := hp
    rcases Classical.em (x ∈ seen) with h | h
    · exact ⟨x, hr x h⟩
    · refine ih (x :: seen) y hl (by simp; omega) ?_ (List.nodup_cons.2 ⟨h, hd⟩) ?_ (hl _ _ e) hp
      · intro s hs'
        rcases List.mem_cons.1 hs' with rfl | h'
        · exact hx
        · exact hs s h'
      · intro s hs'
        rcases List.mem_cons.1 hs' with rfl | h'
        · exact .one e
        · exact (hr s h').snoc e
end
/-! ### grammars as they lie -/
/-- A slice of structs. -/
structure SlS (α : Type) where
  addr : Option Addr
  cap : Nat
  xs : List α
def SlS.val {α : Type} (s : SlS α) : Value := .slice s.addr s.xs.length s.cap
structure PartG where
  cat : ByteArray
  no : Int
  text : ByteArray
structure GiveG where
  part : Int
  text : ByteArray
structure EntryG where
  text : ByteArray
  cat : ByteArray
  no : Int
  gives : StrS
  cost : Int
structure RuleG where
  cat : ByteArray
  no : Int
  parts : SlS PartG
  gives : SlS GiveG
  cost : Int
structure Gram where
  name : ByteArray
  cats : StrS
  start : ByteArray
  startNo : Int
  entries : SlS EntryG
  rules : SlS RuleG
def PartG.cells (x : PartG) : List Value := [.string x.cat, .int .i64 x.no, .string x.text]
def GiveG.cells (x : GiveG) : List Value := [.int .i64 x.part, .string x.text]
def EntryG.cells (x : EntryG) : List Value := [.string x.text, .string x.cat, .int .i64 x.no, .slice x.gives.addr x.gives.xs.length x.gives.cap, .int .i64 x.cost]
def RuleG.cells (x : RuleG) : List Value := [.string x.cat, .int .i64 x.no, .slice x.parts.addr x.parts.xs.length x.parts.cap, .slice x.gives.addr x.gives.xs.length x.gives.cap, .int .i64 x.cost]
def Gram.cells (x : Gram) : List Value := [.string x.name, .slice x.cats.addr x.cats.xs.length x.cats.cap, .string x.start, .int .i64 x.startNo, .slice x.entries.addr x.entries.xs.length x.entries.cap, .slice x.rules.addr x.rules.xs.length x.rules.cap]

/-! ### what is right -/
def kwords : List ByteArray := ["grammar".toUTF8, "category".toUTF8, "start".toUTF8, "word".toUTF8, "is".toUTF8, "gives".toUTF8, "cost".toUTF8, "rule".toUTF8]
def freeB (s : ByteArray) : Bool := nameB s && !kwords.any (fun y => decide (y = s))
/-- The index of a name; -1 if it is not there. -/
def idxF (s : ByteArray) : List ByteArray → Int
  | [] => -1
  | x :: l => if x = s then 0 else if idxF s l = -1 then -1 else idxF s l + 1
def catB (cats : List ByteArray) (s : ByteArray) : Bool := decide (0 ≤ idxF s cats)
def costB (n : Int) : Bool := decide (0 ≤ n) && decide (n ≤ 1000)
def entryB (cats : List ByteArray) (x : EntryG) : Bool := freeB x.text && catB cats x.cat && (decide (1 ≤ x.gives.xs.length) && decide (x.gives.xs.length ≤ 4)) && x.gives.xs.all freeB && costB x.cost
def partOk (cats : List ByteArray) (p : PartG) : Bool := if p.text.size = 0 then catB cats p.cat else decide (p.cat.size = 0) && freeB p.text
def isCatAt (parts : List PartG) (n : Int) : Bool := decide (0 ≤ n) && (match parts[n.toNat]? with | some p => decide (p.text.size = 0) | none => false)
def giveB (parts : List PartG) (y : GiveG) : Bool := if y.text.size = 0 then isCatAt parts y.part else decide (y.part = 0) && freeB y.text
def given (gives : List GiveG) (n : Nat) : Nat := gives.countP (fun y => decide (y.text.size = 0) && decide (y.part = (n : Int)))
def givenB (gives : List GiveG) : Nat → List PartG → Bool
  | _, [] => true
  | k, p :: l => (decide (p.text.size ≠ 0) || decide (given gives k = 1)) && givenB gives (k + 1) l
def ruleB (cats : List ByteArray) (x : RuleG) : Bool :=
  catB cats x.cat && (decide (1 ≤ x.parts.xs.length) && decide (x.parts.xs.length ≤ 4)) && (decide (1 ≤ x.gives.xs.length) && decide (x.gives.xs.length ≤ 8)) && costB x.cost &&
    x.parts.xs.all (partOk cats) && x.gives.xs.all (giveB x.parts.xs) && givenB x.gives.xs 0 x.parts.xs
def typedB (g : Gram) : Bool :=
  freeB g.name && decide (1 ≤ g.cats.xs.length) && catB g.cats.xs g.start && g.cats.xs.all freeB && decide g.cats.xs.Nodup && g.entries.xs.all (entryB g.cats.xs) && g.rules.xs.all (ruleB g.cats.xs)
/-- A rule that is a chain, from a to b. -/
def chainB (a b : ByteArray) (x : RuleG) : Bool := match x.parts.xs with | [p] => decide (x.cat = a) && decide (p.text.size = 0) && decide (p.cat = b) | _ => false
def ChainE (rs : List RuleG) (a b : ByteArray) : Prop := ∃ x ∈ rs, chainB a b x = true
/-- There is a path of n chains. -/
def pathB (rs : List RuleG) : Nat → ByteArray → Bool
  | 0, _ => true
  | n + 1, a => rs.any (fun x => match x.parts.xs with | [p] => decide (x.cat = a) && decide (p.text.size = 0) && pathB rs n p.cat | _ => false)
def circB (g : Gram) : Bool := g.cats.xs.any (fun c => pathB g.rules.xs g.cats.xs.length c)
def noP (cats : List ByteArray) (p : PartG) : Int := if p.text.size = 0 then idxF p.cat cats else 0
def resolvedB (g : Gram) : Bool :=
  decide (g.startNo = idxF g.start g.cats.xs) && g.entries.xs.all (fun x => decide (x.no = idxF x.cat g.cats.xs)) &&
    g.rules.xs.all (fun x => decide (x.no = idxF x.cat g.cats.xs) && x.parts.xs.all (fun p => decide (p.no = noP g.cats.xs p)))
def bigB (g : Gram) : Bool := decide (32 < g.cats.xs.length) || decide (512 < g.entries.xs.length) || decide (128 < g.rules.xs.length)
def checkG (g : Gram) : Int := if bigB g then 2 else if !typedB g then 260 else if circB g then 261 else if resolvedB g then 0 else 260

theorem pathB_iff (rs : List RuleG) (n : Nat) : ∀ a, pathB rs n a = true ↔ PathN (ChainE rs) n a := by
  induction n with
  | zero => intro a; simp [pathB, PathN]
  | succ n ih =>
    intro a
    unfold pathB PathN
    rw [List.any_eq_true]
    constructor
    · rintro ⟨x, hx, h⟩
      split at h
      · rename_i p hp
        simp only [Bool.and_eq_true, decide_eq_true_eq] at h
        refine ⟨p.cat, ⟨x, hx, ?_⟩, (ih _).1 h.2⟩
        unfold chainB
        rw [hp]; simp [h.1]
      · cases h
    · rintro ⟨b, ⟨x, hx, h⟩, hp⟩
      refine ⟨x, hx, ?_⟩
      unfold chainB at h
      split at h
      · rename_i p hp'
        simp only [Bool.and_eq_true, decide_eq_true_eq] at h
        simp only [Bool.and_eq_true, decide_eq_true_eq]
        exact ⟨h.1, (ih _).2 (by rw [h.2]; exact hp)⟩
      · cases h
theorem PathN.of_toCircle {α : Type} {E : α → α → Prop} (n : Nat) : ∀ {x : α}, ToCircle E x → PathN E n x := by
  induction n with
  | zero => intro x _; trivial
  | succ n ih =>
    intro x h
    obtain ⟨y, e, hy⟩ := toCircle_step h
    exact ⟨y, e, ih hy⟩
theorem circB_iff (g : Gram) (h : ∀ x ∈ g.rules.xs, ∀ p, x.parts.xs = [p] → p.text.size = 0 → p.cat ∈ g.cats.xs) (hc : ∀ x ∈ g.rules.xs, x.cat ∈ g.cats.xs) : circB g = true ↔ Circle (ChainE g.rules.xs) := by
  unfold circB
  rw [List.any_eq_true]
  constructor
  · rintro ⟨c, hc', hp⟩
    refine toCircle_of_path g.cats.xs g.cats.xs.length [] c ?_ (by simp) (by simp) List.nodup_nil (by simp) hc' ((pathB_iff _ _ _).1 hp)
    rintro y z ⟨x, hx, hz⟩
    unfold chainB at hz
    split at hz
    · rename_i p hp'
      simp only [Bool.and_eq_true, decide_eq_true_eq] at hz
      rw [← hz.2]
      exact h x hx p hp' hz.1.2
    · cases hz
  · rintro ⟨x, hx⟩
    have hxc : x ∈ g.cats.xs := by
      have : ∃ y, ChainE g.rules.xs x y := by cases hx with
        | one e => exact ⟨_, e⟩
        | more e _ => exact ⟨_, e⟩
      obtain ⟨y, r, hr, e⟩ := this
      unfold chainB at e
      split at e
      · simp only [Bool.and_eq_true, decide_eq_true_eq] at e
        rw [← e.1.1]; exact hc r hr
      · cases e
    exact ⟨x, hxc, (pathB_iff _ _ _).2 (PathN.of_toCircle _ ⟨x, .inl rfl, hx⟩)⟩
/-! ### indices -/
theorem idxF_ge (s : ByteArray) : ∀ l, -1 ≤ idxF s l
  | [] => by simp [idxF]
  | x :: l => by
    have := idxF_ge s l
    unfold idxF
    split
    · omega
    · split <;> omega
theorem idxF_lt (s : ByteArray) : ∀ l, idxF s l < l.length
  | [] => by simp [idxF]
  | x :: l => by
    have := idxF_lt s l
    unfold idxF
    rw [List.length_cons]
    split
    · omega
    · split <;> omega
theorem idxF_mem (s : ByteArray) : ∀ l, 0 ≤ idxF s l ↔ s ∈ l
  | [] => by simp [idxF]
  | x :: l => by
    have h := idxF_mem s l
    have h2 := idxF_ge s l
    unfold idxF
    rw [List.mem_cons]
    split
    · rename_i e; simp [e]
    · rename_i e
      have : ¬ s = x := fun e' => e e'.symm
      split
      · constructor
        · omega
        · rintro (h' | h'); exact absurd h' this; have := h.2 h'; omega
      · constructor
        · intro; right; apply h.1; omega
        · intro; omega
theorem idxF_get (s : ByteArray) : ∀ (l : List ByteArray) (k : Nat), idxF s l = k → l[k]? = some s
  | [], k => by simp [idxF]
  | x :: l, k => by
    unfold idxF
    split
    · rename_i e; intro h; obtain rfl : k = 0 := by omega
      simp [e]
    · split
      · omega
      · intro h
        have := idxF_get s l (k - 1) (by omega)
        obtain ⟨j, rfl⟩ : ∃ j, k = j + 1 := ⟨k - 1, by omega⟩
        simpa using this
theorem catB_iff (cats : List ByteArray) (s : ByteArray) : catB cats s = true ↔ s ∈ cats := by unfold catB; rw [decide_eq_true_eq, idxF_mem]
end Go.Proofs.YthojaplnimoacaaGreatDoor

/- Grammars as they lie in memory. Conditions: none; plain facts about the machine's memory. -/
namespace Go.Proofs.YthojaplnimoacaaGreatDoor
open Go.RowKit Go.Han
set_option maxRecDepth 100000

structure SlS.lies {α : Type} (f : α → List Value) (w : World) (s : SlS α) : Prop where
  rd : Rd w s.addr (s.xs.flatMap f)
  cap : s.xs.length ≤ s.cap
  max : s.cap ≤ 9223372036854775807
  nil : s.addr = none → s.xs = []
theorem SlS.lies.ext {α : Type} {f : α → List Value} {w w' : World} {s : SlS α} (h : s.lies f w) (hb : Below w.heap.size w w') : s.lies f w' := ⟨h.rd.ext hb, h.cap, h.max, h.nil⟩
/-- The k-th element's cells, in every later world. -/
theorem SlS.lies.at_ {α : Type} {f : α → List Value} {sz : Nat} (hf : ∀ x, (f x).length = sz) (h0 : 0 < sz) {w : World} {s : SlS α} (h : s.lies f w) {k : Nat} (hk : k < s.xs.length) : ∃ b off, s.addr = some ⟨b, off, none⟩ ∧ b < w.heap.size ∧
    ∀ (i : Nat) (hi : i < s.xs.length) (W : World), Below w.heap.size w W → ∀ (j : Nat) (u : Value), (f s.xs[i])[j]? = some u → W.cell? ⟨b, off + i * sz + j, none⟩ = some u := by
  obtain ⟨b, off, he, hb, _⟩ := h.rd.elem hf h0 hk
  refine ⟨b, off, he, hb, fun i hi W hW j u hu => ?_⟩
  obtain ⟨b', off', he', _, hc⟩ := h.rd.elem hf h0 hi
  rw [he] at he'
  cases he'
  exact (hW.cell (p := ⟨b, off + i * sz + j, none⟩) hb).trans (hc j u hu)
theorem PartG.size_cells (x : PartG) : x.cells.length = 3 := rfl
theorem GiveG.size_cells (x : GiveG) : x.cells.length = 2 := rfl
theorem EntryG.size_cells (x : EntryG) : x.cells.length = 5 := rfl
theorem RuleG.size_cells (x : RuleG) : x.cells.length = 5 := rfl
def EntryG.lies (w : World) (x : EntryG) : Prop := x.gives.lies w
def RuleG.lies (w : World) (x : RuleG) : Prop := x.parts.lies PartG.cells w ∧ x.gives.lies GiveG.cells w
structure Gram.lies (w : World) (g : Gram) : Prop where
  cats : g.cats.lies w
  entries : g.entries.lies EntryG.cells w
  entry : ∀ x ∈ g.entries.xs, x.lies w
  rules : g.rules.lies RuleG.cells w
  rule : ∀ x ∈ g.rules.xs, x.lies w
theorem EntryG.lies.ext {w w' : World} {x : EntryG} (h : x.lies w) (hb : Below w.heap.size w w') : x.lies w' := StrS.lies.ext h hb
theorem RuleG.lies.ext {w w' : World} {x : RuleG} (h : x.lies w) (hb : Below w.heap.size w w') : x.lies w' := ⟨h.1.ext hb, h.2.ext hb⟩
theorem Gram.lies.ext {w w' : World} {g : Gram} (h : g.lies w) (hb : Below w.heap.size w w') : g.lies w' := ⟨h.cats.ext hb, h.entries.ext hb, fun x hx => (h.entry x hx).ext hb, h.rules.ext hb, fun x hx => (h.rule x hx).ext hb⟩
end Go.Proofs.YthojaplnimoacaaGreatDoor
