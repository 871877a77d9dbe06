/- Names (package lex), phrases, the check of a term. -/
import Derived.Test.YtneanannicacnaaDoorTerm
namespace Go.Proofs.YtneanannicacnaaDoor
open Go.RowKit Go.Han
attribute [local irreducible] wpStill wpQuiet
set_option maxRecDepth 100000

theorem classK_part {c k : Int} (h : ClassK c k) (hp : partB c = true) : k = 2 ∨ k = 3 ∨ k = 5 := by
  unfold partB at hp
  rcases h with ⟨_, h⟩ | ⟨_, _, h⟩ | ⟨_, _, _, h⟩ | ⟨h1, h2, h3, _⟩
  · exact .inl h
  · exact .inr (.inl h)
  · exact .inr (.inr h)
  · rw [h1, h2, decide_eq_false h3] at hp; cases hp
theorem classK_no {c k : Int} (h : ClassK c k) (hp : partB c = false) : k = 0 ∨ k = 1 ∨ k = 4 := by
  unfold partB at hp
  rcases h with ⟨h, _⟩ | ⟨_, h, _⟩ | ⟨_, _, h, _⟩ | ⟨_, _, _, h⟩
  · rw [h] at hp; cases hp
  · rw [h] at hp; simp at hp
  · rw [h] at hp; simp at hp
  · exact h
theorem classK_letter {c k : Int} (h : ClassK c k) (hp : letterB c = true) : k = 2 := by
  rcases h with ⟨_, h⟩ | ⟨h1, _, h⟩ | ⟨h1, _, _, h⟩ | ⟨h1, _, _, _⟩
  · exact h
  all_goals rw [hp] at h1; cases h1
theorem classK_other {c k : Int} (h : ClassK c k) (hp : letterB c = false) : k = 0 ∨ k = 1 ∨ k = 3 ∨ k = 4 ∨ k = 5 := by
  rcases h with ⟨h1, h⟩ | ⟨_, _, h⟩ | ⟨_, _, _, h⟩ | ⟨_, _, _, h⟩
  · rw [hp] at h1; cases h1
  all_goals omega
def InPost (Q : Int → Prop) (w : World) (e : Ending) (w' : World) : Prop := ∃ k, e = .returned (.int .i64 k) ∧ Q k ∧ w = w'
theorem class_part (c : Int) (w : World) (h : partB c = true) : Calls Tryd.prog 114 #[.int .u8 c] w (InPost (fun k => k = 2 ∨ k = 3 ∨ k = 5) w) :=
  (class_any c w).mono fun _ _ ⟨k, h1, h2, h3⟩ => ⟨k, h1, classK_part h2 h, h3⟩
theorem class_no (c : Int) (w : World) (h : partB c = false) : Calls Tryd.prog 114 #[.int .u8 c] w (InPost (fun k => k = 0 ∨ k = 1 ∨ k = 4) w) :=
  (class_any c w).mono fun _ _ ⟨k, h1, h2, h3⟩ => ⟨k, h1, classK_no h2 h, h3⟩
theorem class_letter (c : Int) (w : World) (h : letterB c = true) : Calls Tryd.prog 114 #[.int .u8 c] w (InPost (fun k => k = 2) w) :=
  (class_any c w).mono fun _ _ ⟨k, h1, h2, h3⟩ => ⟨k, h1, classK_letter h2 h, h3⟩
theorem class_other (c : Int) (w : World) (h : letterB c = false) : Calls Tryd.prog 114 #[.int .u8 c] w (InPost (fun k => k = 0 ∨ k = 1 ∨ k = 3 ∨ k = 4 ∨ k = 5) w) :=
  (class_any c w).mono fun _ _ ⟨k, h1, h2, h3⟩ => ⟨k, h1, classK_other h2 h, h3⟩

theorem str_ne {s : ByteArray} (h : 0 < s.size) : s.toList.isEmpty = false := by
  rw [ByteArray.toList_eq]
  cases hl : s.data.toList with
  | nil => rw [Lib.size_eq, hl] at h; simp at h
  | cons => rfl
theorem str_no {s : ByteArray} (h : ¬ 0 < s.size) : s.toList.isEmpty = true := by
  rw [ByteArray.toList_eq]
  cases hl : s.data.toList with
  | nil => rfl
  | cons => rw [Lib.size_eq, hl] at h; simp at h
set_option maxHeartbeats 1000000 in
theorem name_any (s : ByteArray) (w : World) : Calls Tryd.prog 96 #[.string s] w fun e w' => e = .returned (.bool (nameB s)) ∧ w = w' := by
  by_cases h0 : 0 < s.size
  · have g0' : (0 : Int) < s.size := by omega
    have g3 := str_ne h0
    by_cases h1 : s.size ≤ 32
    · have g1 : ¬ (32 : Int) < s.size := by omega
      cases h2 : letterB s[0].toNat
      · have H : Hid (nameB s = false) := nameB_head s h0 h2
        have CL := Lib.hid (fun w => class_other s[0].toNat w h2)
        clear h2
        go_enter Tryd.func96, Tryd.ntmps96
        go_wp2_with fail
        refine (CL.out _).mono ?_
        rintro e w' ⟨k, rfl, hk, rfl⟩
        rcases hk with rfl | rfl | rfl | rfl | rfl
        all_goals
          go_wp2_with fail
          go_ret
          exact ⟨by rw [H.out]; rfl, rfl⟩
      · have H : Hid (nameB s = s.data.toList.all (fun c => partB c.toNat)) := nameB_of s h0 h1 h2
        have CL := Lib.hid (fun w => class_letter s[0].toNat w h2)
        clear h2
        go_enter Tryd.func96, Tryd.ntmps96
        go_wp2_with fail
        refine (CL.out _).mono ?_
        rintro e w' ⟨k, rfl, rfl, rfl⟩
        go_wp2_with fail
        go_loop [20] (fun i => ∃ k : Nat, k ≤ s.size ∧ i = .int .i64 k ∧ Hid ((s.data.toList.take k).all (fun c => partB c.toNat) = true)) (fun i => s.size - (intOf i).toNat)
        case atStart => exact ⟨0, Nat.zero_le _, rfl, rfl⟩
        case round =>
          obtain ⟨k, hk, rfl, HR⟩ := hrel
          by_cases hlt : k < s.size
          · have Hs := Lib.hid (all_take_succ (f := fun c => partB c.toNat) s k hlt)
            have Hf := Lib.hid (fun h => all_false (f := fun c => partB c.toNat) s k hlt h)
            cases hp : partB s[k].toNat
            · have HF := Lib.hid (Hf.out hp)
              have CP := Lib.hid (fun w => class_no s[k].toNat w hp)
              clear hp Hs Hf
              go_wp2_with fail
              refine (CP.out _).mono ?_
              rintro e w' ⟨q, rfl, hq, rfl⟩
              rcases hq with rfl | rfl | rfl
              all_goals
                go_wp2_with fail
                go_ret
                exact ⟨by rw [H.out, HF.out]; rfl, rfl⟩
            · have HF : Hid ((s.data.toList.take (k + 1)).all (fun c => partB c.toNat) = true) := by show _ = _; rw [Hs.out, HR.out, hp]; rfl
              have CP := Lib.hid (fun w => class_part s[k].toNat w hp)
              clear hp Hs Hf
              go_wp2_with fail
              refine (CP.out _).mono ?_
              rintro e w' ⟨q, rfl, hq, rfl⟩
              rcases hq with rfl | rfl | rfl
              all_goals
                go_wp2_with fail
                go_round
                case rel => exact ⟨k + 1, by omega, by go_num, HF⟩
                case measure => simp [intOf]; omega
          · have HF : Hid (s.data.toList.all (fun c => partB c.toNat) = true) := by
              show _ = _
              have h := HR.out
              rw [List.take_of_length_le (by have := Lib.size_eq s; omega)] at h
              exact h
            clear HR
            go_wp2_with fail
            go_ret
            exact ⟨by rw [H.out, HF.out]; rfl, rfl⟩
    · have g1 : (32 : Int) < s.size := by omega
      have H := Lib.hid (nameB_big s h1)
      clear h1
      go_enter Tryd.func96, Tryd.ntmps96
      go_wp2_with fail
      go_ret
      exact ⟨by rw [H.out]; rfl, rfl⟩
  · have H := Lib.hid (nameB_none s h0)
    have g3 := str_no h0
    clear h0
    go_enter Tryd.func96, Tryd.ntmps96
    go_wp2_with fail
    go_ret
    exact ⟨by rw [H.out]; rfl, rfl⟩
end Go.Proofs.YtneanannicacnaaDoor
