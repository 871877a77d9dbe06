/- Names, phrases, terms of a glossary: as they lie, and what is right. -/
import Derived.Test.YtneanannicacnaaDoorRef9b
import Derived.Test.YtneanannicacnaaDoorOwn
import Derived.Test.YtneanannicacnaaDoorShelf2
import Derived.Test.YtneanannicacnaaDoorQuiet
namespace Go.Proofs.YtneanannicacnaaDoor
open Go.RowKit Go.Han
attribute [local irreducible] wpStill wpQuiet
set_option maxRecDepth 100000

/-- A slice of texts as it lies. -/
structure StrS where
  addr : Option Addr
  cap : Nat
  xs : List ByteArray
def StrS.val (s : StrS) : Value := .slice s.addr s.xs.length s.cap
def strs (xs : List ByteArray) : List Value := xs.map Value.string
structure StrS.lies (w : World) (s : StrS) : Prop where
  rd : Rd w s.addr (strs s.xs)
  cap : s.xs.length ≤ s.cap
  max : s.cap ≤ 9223372036854775807
  nil : s.addr = none → s.xs = []
theorem StrS.lies.ext {w w' : World} {s : StrS} (h : s.lies w) (hb : Below w.heap.size w w') : s.lies w' := ⟨h.rd.ext hb, h.cap, h.max, h.nil⟩
structure Term where
  no : Int
  at_ : Int
  known : Int
  lang : Int
  src : StrS
  tgt : StrS
  cat : ByteArray
  gone : Bool
def Term.cells (x : Term) : List Value := [.int .i64 x.no, .int .i64 x.at_, .int .i64 x.known, .int .i64 x.lang, x.src.val, x.tgt.val, .string x.cat, .bool x.gone]
def Term.val (x : Term) : Value := .agg #[.int .i64 x.no, .int .i64 x.at_, .int .i64 x.known, .int .i64 x.lang, x.src.val, x.tgt.val, .string x.cat, .bool x.gone]
theorem Term.size_cells (x : Term) : x.cells.length = 8 := rfl
def Term.lies (w : World) (x : Term) : Prop := x.src.lies w ∧ x.tgt.lies w
theorem Term.lies.ext {w w' : World} {x : Term} (h : x.lies w) (hb : Below w.heap.size w w') : x.lies w' := ⟨h.1.ext hb, h.2.ext hb⟩

/-! ### what is right -/
def letterB (c : Int) : Bool := (decide (97 ≤ c) && decide (c ≤ 122)) || (decide (65 ≤ c) && decide (c ≤ 90))
def digitB (c : Int) : Bool := decide (48 ≤ c) && decide (c ≤ 57)
def partB (c : Int) : Bool := letterB c || digitB c || decide (c = 95)
def headLetter (l : List UInt8) : Bool := match l with | [] => false | c :: _ => letterB c.toNat
def nameB (s : ByteArray) : Bool := decide (0 < s.size) && decide (s.size ≤ 32) && headLetter s.data.toList && s.data.toList.all (fun c => partB c.toNat)
def phraseB (xs : List ByteArray) : Bool := decide (1 ≤ xs.length) && decide (xs.length ≤ 4) && xs.all wordB
def tmB (n : Int) : Bool := decide (0 ≤ n) && decide (n < 1099511627776)
def langB (n : Int) : Bool := decide (0 ≤ n) && decide (n < 32)
def noB (n : Int) : Bool := decide (0 ≤ n) && decide (n ≤ 1048576)
def Term.ok (x : Term) : Bool := noB x.no && tmB x.at_ && tmB x.known && langB x.lang && phraseB x.src.xs && (if x.gone then decide (x.tgt.xs.length = 0) && decide (x.cat.size = 0) else phraseB x.tgt.xs && nameB x.cat)

theorem isTime_any (n : Int) (w : World) : Calls Tryd.prog 70 #[.int .i64 n] w fun e w' => e = .returned (.bool (tmB n)) ∧ w = w' := by
  go_enter Tryd.func70, Tryd.ntmps70
  go_wp2
  all_goals go_ret
  · simp [tmB, *]
  · have : ¬ 0 ≤ n := by omega
    simp [tmB, *]
theorem isLang_any (n : Int) (w : World) : Calls Tryd.prog 69 #[.int .i64 n] w fun e w' => e = .returned (.bool (langB n)) ∧ w = w' := by
  go_enter Tryd.func69, Tryd.ntmps69
  go_wp2
  all_goals go_ret
  · simp [langB, *]
  · have : ¬ 0 ≤ n := by omega
    simp [langB, *]
theorem time27_any (n : Int) (w : World) : Calls Tryd.prog 73 #[.int .i64 n] w fun e w' => e = .returned (.bool (tmB n)) ∧ w = w' := by
  go_enter Tryd.func73, Tryd.ntmps73
  go_wp2
  all_goals go_ret
  · simp [tmB, *]
  · have : ¬ 0 ≤ n := by omega
    simp [tmB, *]
theorem language27_any (n : Int) (w : World) : Calls Tryd.prog 72 #[.int .i64 n] w fun e w' => e = .returned (.bool (langB n)) ∧ w = w' := by
  go_enter Tryd.func72, Tryd.ntmps72
  go_wp2
  all_goals go_ret
  · simp [langB, *]
  · have : ¬ 0 ≤ n := by omega
    simp [langB, *]

/-! ### letters -/
theorem letter_any (c : Int) (w : World) : Calls Tryd.prog 116 #[.int .u8 c] w fun e w' => e = .returned (.bool (letterB c)) ∧ w = w' := by
  go_enter Tryd.func116, Tryd.ntmps116
  go_wp2
  all_goals go_ret
  all_goals (unfold letterB; simp [*]; try omega)
theorem figure_any (c : Int) (w : World) : Calls Tryd.prog 130 #[.int .u8 c] w fun e w' => e = .returned (.bool (digitB c)) ∧ w = w' := by
  go_enter Tryd.func130, Tryd.ntmps130
  go_wp2
  all_goals go_ret
  all_goals (unfold digitB; simp [*]; try omega)
theorem part_any (c : Int) (w : World) : Calls Tryd.prog 117 #[.int .u8 c] w fun e w' => e = .returned (.bool (partB c)) ∧ w = w' := by
  have H : Hid (partB c = (letterB c || digitB c || decide (c = 95))) := rfl
  go_enter Tryd.func117, Tryd.ntmps117
  go_wp2_with fail
  refine (letter_any _ _).mono ?_
  rintro e w' ⟨rfl, rfl⟩
  generalize letterB c = b1 at *
  cases b1
  · go_wp2_with fail
    refine (figure_any _ _).mono ?_
    rintro e w' ⟨rfl, rfl⟩
    generalize digitB c = b2 at *
    cases b2
    · go_wp2_with fail
      go_ret
      exact ⟨by rw [H.out]; rfl, rfl⟩
    · go_wp2_with fail
      go_ret
      exact ⟨by rw [H.out]; rfl, rfl⟩
  · go_wp2_with fail
    go_ret
    exact ⟨by rw [H.out]; rfl, rfl⟩

/-- The class of a byte. -/
def ClassK (c k : Int) : Prop := (letterB c = true ∧ k = 2) ∨ (letterB c = false ∧ digitB c = true ∧ k = 3) ∨ (letterB c = false ∧ digitB c = false ∧ c = 95 ∧ k = 5) ∨ (letterB c = false ∧ digitB c = false ∧ c ≠ 95 ∧ (k = 0 ∨ k = 1 ∨ k = 4))
def ClassPost (c : Int) (w : World) (e : Ending) (w' : World) : Prop := ∃ k, e = .returned (.int .i64 k) ∧ ClassK c k ∧ w = w'
theorem class_any (c : Int) (w : World) : Calls Tryd.prog 114 #[.int .u8 c] w (ClassPost c w) := by
  have HI := Lib.hid (fun w => Tryd.strings_IndexByte ⟨#[123, 125, 40, 41, 59, 44, 61, 58, 46, 60, 62, 33, 43, 45, 42, 47]⟩ c w)
  by_cases h1 : 97 ≤ c ∧ c ≤ 122
  · obtain ⟨h2, h3⟩ := h1
    have H : Hid (letterB c = true) := by show _ = _; simp [letterB]; omega
    go_enter Tryd.func114, Tryd.ntmps114
    go_wp2_with fail
    go_ret
    exact ⟨2, rfl, .inl ⟨H.out, rfl⟩, rfl⟩
  by_cases h4 : 65 ≤ c ∧ c ≤ 90
  · obtain ⟨h2, h3⟩ := h4
    have h5 : ¬ 97 ≤ c := by omega
    have H : Hid (letterB c = true) := by show _ = _; simp [letterB]; omega
    clear h1
    go_enter Tryd.func114, Tryd.ntmps114
    go_wp2_with fail
    go_ret
    exact ⟨2, rfl, .inl ⟨H.out, rfl⟩, rfl⟩
  have H : Hid (letterB c = false) := by show _ = _; simp [letterB]; omega
  have g1 : (decide (97 ≤ c) && decide (c ≤ 122)) = false := by simp; omega
  have g2 : (decide (65 ≤ c) && decide (c ≤ 90)) = false := by simp; omega
  by_cases h6 : 48 ≤ c ∧ c ≤ 57
  · obtain ⟨h2, h3⟩ := h6
    have h5 : ¬ 65 ≤ c := by omega
    have h7 : ¬ 97 ≤ c := by omega
    have HD : Hid (digitB c = true) := by show _ = _; simp [digitB]; omega
    clear h1 h4 g1 g2
    go_enter Tryd.func114, Tryd.ntmps114
    go_wp2_with fail
    go_ret
    exact ⟨3, rfl, .inr (.inl ⟨H.out, HD.out, rfl⟩), rfl⟩
  have HD : Hid (digitB c = false) := by show _ = _; simp [digitB]; omega
  by_cases h8 : c = 95
  · subst h8
    clear h1 h4 h6 g1 g2
    go_enter Tryd.func114, Tryd.ntmps114
    go_wp2_with fail
    go_ret
    exact ⟨5, rfl, .inr (.inr (.inl ⟨H.out, HD.out, rfl, rfl⟩)), rfl⟩
  have h9 : (c == 95) = false := by simpa using h8
  have H95 := Lib.hid h8
  clear h8
  go_enter Tryd.func114, Tryd.ntmps114
  go_wp2_with (refine (HI.out _).mono ?_; rintro e w' ⟨rfl, rfl⟩)
  all_goals first | omega | skip
  all_goals go_ret
  all_goals first | exact ⟨1, rfl, .inr (.inr (.inr ⟨by decide, by decide, by decide, by simp⟩)), rfl⟩ | exact ⟨1, rfl, .inr (.inr (.inr ⟨H.out, HD.out, H95.out, by simp⟩)), rfl⟩ | exact ⟨4, rfl, .inr (.inr (.inr ⟨H.out, HD.out, H95.out, by simp⟩)), rfl⟩ | exact ⟨0, rfl, .inr (.inr (.inr ⟨H.out, HD.out, H95.out, by simp⟩)), rfl⟩

/-! ### names -/
theorem byte_at (s : ByteArray) (k : Nat) (h : k < s.size) : s.data.toList[k]'(by rw [← Lib.size_eq]; exact h) = s[k] := rfl
theorem headLetter_at (s : ByteArray) (h : 0 < s.size) : headLetter s.data.toList = letterB s[0].toNat := by
  have h1 : 0 < s.data.toList.length := by rw [← Lib.size_eq]; exact h
  cases hl : s.data.toList with
  | nil => rw [hl] at h1; simp at h1
  | cons c q =>
    have : s[0] = c := by
      rw [← byte_at s 0 h]
      simp [hl]
    rw [this]; rfl
theorem all_take_succ {f : UInt8 → Bool} (s : ByteArray) (k : Nat) (h : k < s.size) : (s.data.toList.take (k + 1)).all f = ((s.data.toList.take k).all f && f s[k]) := by
  rw [List.take_succ_eq_append_getElem (by rw [← Lib.size_eq]; exact h), List.all_append]
  simp [byte_at s k h]
theorem all_false {f : UInt8 → Bool} (s : ByteArray) (k : Nat) (h : k < s.size) (hf : f s[k] = false) : s.data.toList.all f = false := by
  rw [List.all_eq_false]
  exact ⟨s[k], by rw [← byte_at s k h]; exact List.getElem_mem _, by simp [hf]⟩
theorem nameB_of (s : ByteArray) (h0 : 0 < s.size) (h1 : s.size ≤ 32) (h2 : letterB s[0].toNat = true) : nameB s = s.data.toList.all (fun c => partB c.toNat) := by
  unfold nameB
  rw [decide_eq_true h0, decide_eq_true h1, headLetter_at s h0, h2]; rfl
theorem nameB_head (s : ByteArray) (h0 : 0 < s.size) (h2 : letterB s[0].toNat = false) : nameB s = false := by
  unfold nameB
  rw [headLetter_at s h0, h2]; simp
theorem nameB_big (s : ByteArray) (h : ¬ s.size ≤ 32) : nameB s = false := by
  unfold nameB
  rw [decide_eq_false h]; simp
theorem nameB_none (s : ByteArray) (h : ¬ 0 < s.size) : nameB s = false := by
  unfold nameB
  rw [decide_eq_false h]; simp

set_option maxHeartbeats 1000000 in
theorem name3_any (s : ByteArray) (w : World) : Calls Tryd.prog 101 #[.string s] w fun e w' => e = .returned (.bool (nameB s)) ∧ w = w' := by
  by_cases h0 : 0 < s.size
  · have g0 : ¬ (s.size : Int) < 1 := by omega
    have g0' : (0 : Int) < s.size := by omega
    by_cases h1 : s.size ≤ 32
    · have g1 : ¬ (32 : Int) < s.size := by omega
      cases h2 : letterB s[0].toNat
      · have H : Hid (nameB s = false) := nameB_head s h0 h2
        have cL := letter_any s[0].toNat
        rw [h2] at cL
        have CL := Lib.hid cL
        clear h2 cL
        go_enter Tryd.func101, Tryd.ntmps101
        go_wp2_with fail
        refine (CL.out _).mono ?_
        rintro e w' ⟨rfl, rfl⟩
        go_wp2_with fail
        go_ret
        exact ⟨by rw [H.out]; rfl, rfl⟩
      · have H : Hid (nameB s = s.data.toList.all (fun c => partB c.toNat)) := nameB_of s h0 h1 h2
        have cL := letter_any s[0].toNat
        rw [h2] at cL
        have CL := Lib.hid cL
        clear h2 cL
        go_enter Tryd.func101, Tryd.ntmps101
        go_wp2_with fail
        refine (CL.out _).mono ?_
        rintro e w' ⟨rfl, rfl⟩
        go_wp2_with fail
        go_loop [3] (fun i => ∃ k : Nat, k ≤ s.size ∧ i = .int .i64 k ∧ Hid ((s.data.toList.take k).all (fun c => partB c.toNat) = true)) (fun i => s.size - (intOf i).toNat)
        case atStart => exact ⟨0, Nat.zero_le _, rfl, rfl⟩
        case round =>
          obtain ⟨k, hk, rfl, HR⟩ := hrel
          by_cases hlt : k < s.size
          · have Hs := Lib.hid (all_take_succ (f := fun c => partB c.toNat) s k hlt)
            have Hf := Lib.hid (fun h => all_false (f := fun c => partB c.toNat) s k hlt h)
            have cP := part_any s[k].toNat
            cases hp : partB s[k].toNat
            · have HF := Lib.hid (Hf.out hp)
              rw [hp] at cP
              have CP := Lib.hid cP
              clear hp cP Hs Hf
              go_wp2_with fail
              refine (CP.out _).mono ?_
              rintro e w' ⟨rfl, rfl⟩
              go_wp2_with fail
              go_ret
              exact ⟨by rw [H.out, HF.out]; rfl, rfl⟩
            · have HF : Hid ((s.data.toList.take (k + 1)).all (fun c => partB c.toNat) = true) := by show _ = _; rw [Hs.out, HR.out, hp]; rfl
              rw [hp] at cP
              have CP := Lib.hid cP
              clear hp cP Hs Hf
              go_wp2_with fail
              refine (CP.out _).mono ?_
              rintro e w' ⟨rfl, rfl⟩
              go_wp2_with fail
              go_round
              case rel => exact ⟨k + 1, by omega, by go_num, HF⟩
              case measure => simp [intOf]; omega
          · have HF : Hid (s.data.toList.all (fun c => partB c.toNat) = true) := by
              show _ = _
              have h := HR.out
              rw [List.take_of_length_le (by have := Lib.size_eq s; omega)] at h
              exact h
            clear HR
            go_wp2_with fail
            go_ret
            exact ⟨by rw [H.out, HF.out]; rfl, rfl⟩
    · have g1 : (32 : Int) < s.size := by omega
      have H := Lib.hid (nameB_big s h1)
      clear h1
      go_enter Tryd.func101, Tryd.ntmps101
      go_wp2_with fail
      go_ret
      exact ⟨by rw [H.out]; rfl, rfl⟩
  · have g0 : (s.size : Int) < 1 := by omega
    have H := Lib.hid (nameB_none s h0)
    have g2 : s.size = 0 := by omega
    clear h0
    go_enter Tryd.func101, Tryd.ntmps101
    go_wp2_with fail
    go_ret
    exact ⟨by rw [H.out]; rfl, rfl⟩
end Go.Proofs.YtneanannicacnaaDoor
