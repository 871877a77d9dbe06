/- The code points of a string, as plain functions on lists of bytes. No program in sight. -/
import Derived.Lib.TrimU
import Derived.Lib.DecodeNEq
import Derived.Shelf.Unicode.DecodeSlow
namespace Go.Han
open Go.Lib

def byteAt (l : List UInt8) (i : Nat) : Nat := (l[i]?.getD 0).toNat
/-- The code point with which bytes begin, and how many bytes it has (65533, 1: none). -/
def dec (l : List UInt8) : Nat × Nat := decodeN l.length (byteAt l 0) (byteAt l 1) (byteAt l 2) (byteAt l 3)
def badB (d : Nat × Nat) : Bool := d.1 == 65533 && decide (d.2 < 2)

def runesTo : Nat → List UInt8 → List Nat × Bool
  | 0, _ => ([], true)
  | _ + 1, [] => ([], true)
  | f + 1, c :: l => if badB (dec (c :: l)) then ([], false) else ((dec (c :: l)).1 :: (runesTo f ((c :: l).drop (dec (c :: l)).2)).1, (runesTo f ((c :: l).drop (dec (c :: l)).2)).2)
/-- The code points of bytes, up to a byte that belongs to none; whether there is no such byte. -/
def runes (l : List UInt8) : List Nat × Bool := runesTo l.length l

theorem dec_ge1 (l : List UInt8) : 1 ≤ (dec l).2 := decodeN_ge1 _ _ _ _ _

theorem runesTo_more : ∀ (f f' : Nat) (l : List UInt8), l.length ≤ f → l.length ≤ f' → runesTo f l = runesTo f' l
  | 0, 0, _, _, _ => rfl
  | 0, f' + 1, l, h, _ => by
    have : l = [] := List.eq_nil_of_length_eq_zero (by omega)
    subst this; rfl
  | f + 1, 0, l, _, h => by
    have : l = [] := List.eq_nil_of_length_eq_zero (by omega)
    subst this; rfl
  | f + 1, f' + 1, [], _, _ => rfl
  | f + 1, f' + 1, c :: l, h, h' => by
    have h1 := dec_ge1 (c :: l)
    have e := runesTo_more f f' ((c :: l).drop (dec (c :: l)).2) (by simp at h ⊢; omega) (by simp at h' ⊢; omega)
    simp only [runesTo, e]

theorem runes_nil : runes [] = ([], true) := rfl
theorem runes_step (l : List UInt8) (h : l ≠ []) : runes l = if badB (dec l) then ([], false) else ((dec l).1 :: (runes (l.drop (dec l).2)).1, (runes (l.drop (dec l).2)).2) := by
  cases l with
  | nil => exact absurd rfl h
  | cons c l =>
    have h1 := dec_ge1 (c :: l)
    have e := runesTo_more l.length ((c :: l).drop (dec (c :: l)).2).length ((c :: l).drop (dec (c :: l)).2) (by simp; omega) (Nat.le_refl _)
    unfold runes
    simp only [List.length_cons, runesTo, e]

theorem runes_bad (l : List UInt8) (h : l ≠ []) (hb : badB (dec l) = true) : runes l = ([], false) := by rw [runes_step l h, if_pos hb]
theorem runes_good (l : List UInt8) (h : l ≠ []) (hb : badB (dec l) = false) : runes l = ((dec l).1 :: (runes (l.drop (dec l).2)).1, (runes (l.drop (dec l).2)).2) := by rw [runes_step l h, hb]; rfl

theorem runesTo_length : ∀ (f : Nat) (l : List UInt8), (runesTo f l).1.length ≤ l.length
  | 0, _ => Nat.zero_le _
  | _ + 1, [] => Nat.le_refl _
  | f + 1, c :: l => by
    have h1 := dec_ge1 (c :: l)
    have ih := runesTo_length f ((c :: l).drop (dec (c :: l)).2)
    simp only [runesTo]
    split
    · exact Nat.zero_le _
    · simp at ih ⊢; omega
theorem runes_length (l : List UInt8) : (runes l).1.length ≤ l.length := runesTo_length _ l

theorem get!_byteAt (s : ByteArray) (i : Nat) : (s.get! i).toNat = byteAt s.data.toList i := by
  unfold byteAt
  cases s with
  | mk d =>
    show (d[i]!).toNat = _
    rw [Array.getElem!_eq_getD, Array.getD_eq_getD_getElem?]
    simp
    rfl

theorem decodeGo_dec (s : ByteArray) (h : s.data.toList ≠ []) : decodeGo s = dec s.data.toList := by
  have hs : ¬ s.size = 0 := fun e => h (List.eq_nil_of_length_eq_zero ((Go.Lib.size_eq s).symm.trans e))
  unfold decodeGo
  rw [if_neg hs, decode_at]
  simp only [get!_byteAt, Nat.zero_add, Nat.sub_zero, dec]
  congr 1

theorem dec_range (l : List UInt8) (hl : l ≠ []) : (dec l).1 ≤ 1114111 ∧ (dec l).2 ≤ l.length ∧ (dec l).2 ≤ 4 := by
  have hb : ∀ i, byteAt l i < 256 := fun i => (l[i]?.getD 0).toNat_lt
  have h0 := hb 0; have h1 := hb 1; have h2 := hb 2; have h3 := hb 3
  have hn : 1 ≤ l.length := by cases l with | nil => exact absurd rfl hl | cons _ _ => simp
  unfold dec decodeN
  generalize byteAt l 0 = b0 at *
  generalize byteAt l 1 = b1 at *
  generalize byteAt l 2 = b2 at *
  generalize byteAt l 3 = b3 at *
  generalize l.length = n at *
  repeat' split
  all_goals (refine ⟨?_, ?_, ?_⟩ <;> simp <;> omega)

theorem extract_list (s : ByteArray) (n : Nat) : (s.extract n s.size).data.toList = s.data.toList.drop n := by
  rw [Go.Lib.extract_data, Go.Lib.size_eq s]
  exact List.take_of_length_le (by simp)

end Go.Han
