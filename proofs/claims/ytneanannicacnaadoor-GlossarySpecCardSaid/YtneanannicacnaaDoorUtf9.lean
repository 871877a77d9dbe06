/- The code point with which bytes begin, as the reference has it: plain functions on lists of bytes, and that they answer as 'dec' does. No program in sight. -/
import Derived.Test.YtneanannicacnaaDoorUtf
namespace Go.Han
open Go.Lib

def longR (b : Nat) : Nat × Nat := if b < 128 then (1, b) else if 192 ≤ b ∧ b < 224 then (2, b - 192) else if 224 ≤ b ∧ b < 240 then (3, b - 224) else if 240 ≤ b ∧ b < 248 then (4, b - 240) else (0, 0)
def contB (b : Nat) : Bool := decide (128 ≤ b) && decide (b < 192)
def pointB (r : Int) : Bool := decide (0 ≤ r) && (decide (r ≤ 1114111) && (decide (r < 55296) || decide (57343 < r)))
def bytesR (r : Nat) : List UInt8 :=
  if r < 128 then [UInt8.ofNat r] else if r < 2048 then [UInt8.ofNat (192 + r / 64), UInt8.ofNat (128 + r % 64)]
  else if r < 65536 then [UInt8.ofNat (224 + r / 4096), UInt8.ofNat (128 + r / 64 % 64), UInt8.ofNat (128 + r % 64)]
  else [UInt8.ofNat (240 + r / 262144), UInt8.ofNat (128 + r / 4096 % 64), UInt8.ofNat (128 + r / 64 % 64), UInt8.ofNat (128 + r % 64)]
/-- The bits of the first k + 1 bytes. -/
def accR (l : List UInt8) : Nat → Nat
  | 0 => (longR (byteAt l 0)).2
  | k + 1 => accR l k * 64 + byteAt l (k + 1) - 128
/-- The bytes 1 .. k go on a code point. -/
def goesR (l : List UInt8) : Nat → Bool
  | 0 => true
  | k + 1 => goesR l k && contB (byteAt l (k + 1))
def lastR (l : List UInt8) (n : Nat) : Nat × Nat := if pointB (accR l (n - 1)) && (bytesR (accR l (n - 1)) == l.take n) then (accR l (n - 1), n) else (0, 0)
def firstR (l : List UInt8) : Nat × Nat :=
  if (longR (byteAt l 0)).1 = 0 ∨ l.length < (longR (byteAt l 0)).1 then (0, 0)
  else if goesR l ((longR (byteAt l 0)).1 - 1) then lastR l (longR (byteAt l 0)).1 else (0, 0)

theorem acc1 (l : List UInt8) (n x : Nat) (e : longR (byteAt l 0) = (n, x)) : accR l 1 = x * 64 + byteAt l 1 - 128 := by
  show (longR (byteAt l 0)).2 * 64 + byteAt l 1 - 128 = _
  rw [e]
theorem acc2 (l : List UInt8) (n x : Nat) (e : longR (byteAt l 0) = (n, x)) : accR l 2 = (x * 64 + byteAt l 1 - 128) * 64 + byteAt l 2 - 128 := by
  show accR l 1 * 64 + byteAt l 2 - 128 = _
  rw [acc1 l n x e]
theorem acc3 (l : List UInt8) (n x : Nat) (e : longR (byteAt l 0) = (n, x)) : accR l 3 = ((x * 64 + byteAt l 1 - 128) * 64 + byteAt l 2 - 128) * 64 + byteAt l 3 - 128 := by
  show accR l 2 * 64 + byteAt l 3 - 128 = _
  rw [acc2 l n x e]

theorem u8_eq (c : UInt8) (n : Nat) (h : n < 256) : (UInt8.ofNat n = c) ↔ n = c.toNat := by
  constructor
  · rintro rfl
    rw [UInt8.toNat_ofNat', Nat.mod_eq_of_lt (by omega)]
  · rintro rfl
    exact UInt8.ofNat_toNat

theorem bytes_len (r : Nat) : (bytesR r).length = if r < 128 then 1 else if r < 2048 then 2 else if r < 65536 then 3 else 4 := by
  unfold bytesR
  repeat' split
  all_goals rfl

theorem decN_1 (n b0 b1 b2 b3 : Nat) (h : b0 < 128) : decodeN n b0 b1 b2 b3 = (b0, 1) := by unfold decodeN; rw [if_pos h]
theorem decN_2 (n b0 b1 b2 b3 : Nat) (h : 192 ≤ b0 ∧ b0 < 224) (hn : 1 < n) (h1 : 128 ≤ b1 ∧ b1 < 192) (r : Nat) (hr : (b0 - 192) * 64 + b1 - 128 = r) :
    decodeN n b0 b1 b2 b3 = if 128 ≤ r then (r, 2) else (65533, 1) := by
  have e : b0 % 32 * 64 + b1 % 64 = r := by omega
  unfold decodeN
  rw [if_neg (show ¬ b0 < 128 by omega), if_pos (show b0 / 32 = 6 ∧ (1 < n ∧ b1 / 64 = 2) by omega), e]
theorem decN_3 (n b0 b1 b2 b3 : Nat) (h : 224 ≤ b0 ∧ b0 < 240) (hn : 2 < n) (h1 : 128 ≤ b1 ∧ b1 < 192) (h2 : 128 ≤ b2 ∧ b2 < 192) (r : Nat) (hr : ((b0 - 224) * 64 + b1 - 128) * 64 + b2 - 128 = r) :
    decodeN n b0 b1 b2 b3 = if 2048 ≤ r ∧ (r < 55296 ∨ (57344 ≤ r ∧ r ≤ 1114111)) then (r, 3) else (65533, 1) := by
  have e : b0 % 16 * 4096 + b1 % 64 * 64 + b2 % 64 = r := by omega
  unfold decodeN
  rw [if_neg (show ¬ b0 < 128 by omega), if_neg (show ¬ (b0 / 32 = 6 ∧ (1 < n ∧ b1 / 64 = 2)) by omega), if_pos (show b0 / 16 = 14 ∧ (1 < n ∧ b1 / 64 = 2) ∧ (2 < n ∧ b2 / 64 = 2) by omega), e]
theorem decN_4 (n b0 b1 b2 b3 : Nat) (h : 240 ≤ b0 ∧ b0 < 248) (hn : 3 < n) (h1 : 128 ≤ b1 ∧ b1 < 192) (h2 : 128 ≤ b2 ∧ b2 < 192) (h3 : 128 ≤ b3 ∧ b3 < 192) (r : Nat) (hr : (((b0 - 240) * 64 + b1 - 128) * 64 + b2 - 128) * 64 + b3 - 128 = r) :
    decodeN n b0 b1 b2 b3 = if 65536 ≤ r ∧ (r < 55296 ∨ (57344 ≤ r ∧ r ≤ 1114111)) then (r, 4) else (65533, 1) := by
  have e : b0 % 8 * 262144 + b1 % 64 * 4096 + b2 % 64 * 64 + b3 % 64 = r := by omega
  unfold decodeN
  rw [if_neg (show ¬ b0 < 128 by omega), if_neg (show ¬ (b0 / 32 = 6 ∧ (1 < n ∧ b1 / 64 = 2)) by omega), if_neg (show ¬ (b0 / 16 = 14 ∧ (1 < n ∧ b1 / 64 = 2) ∧ (2 < n ∧ b2 / 64 = 2)) by omega),
    if_pos (show b0 / 8 = 30 ∧ (1 < n ∧ b1 / 64 = 2) ∧ (2 < n ∧ b2 / 64 = 2) ∧ (3 < n ∧ b3 / 64 = 2) by omega), e]
theorem decN_0 (n b0 b1 b2 b3 : Nat) (h0 : ¬ b0 < 128) (h2 : ¬ ((192 ≤ b0 ∧ b0 < 224) ∧ 1 < n ∧ 128 ≤ b1 ∧ b1 < 192)) (h3 : ¬ ((224 ≤ b0 ∧ b0 < 240) ∧ 2 < n ∧ (128 ≤ b1 ∧ b1 < 192) ∧ (128 ≤ b2 ∧ b2 < 192)))
    (h4 : ¬ ((240 ≤ b0 ∧ b0 < 248) ∧ 3 < n ∧ (128 ≤ b1 ∧ b1 < 192) ∧ (128 ≤ b2 ∧ b2 < 192) ∧ (128 ≤ b3 ∧ b3 < 192))) : decodeN n b0 b1 b2 b3 = (65533, 1) := by
  unfold decodeN
  rw [if_neg h0, if_neg (show ¬ (b0 / 32 = 6 ∧ (1 < n ∧ b1 / 64 = 2)) by omega), if_neg (show ¬ (b0 / 16 = 14 ∧ (1 < n ∧ b1 / 64 = 2) ∧ (2 < n ∧ b2 / 64 = 2)) by omega),
    if_neg (show ¬ (b0 / 8 = 30 ∧ (1 < n ∧ b1 / 64 = 2) ∧ (2 < n ∧ b2 / 64 = 2) ∧ (3 < n ∧ b3 / 64 = 2)) by omega)]

theorem take_bytes (l : List UInt8) (r n : Nat) (h : n ≤ l.length) : (bytesR r == l.take n) = true ↔ (n = (bytesR r).length ∧ ∀ i, i < n → ((bytesR r)[i]?.getD 0).toNat = byteAt l i) := by
  rw [beq_iff_eq]
  constructor
  · intro e
    refine ⟨by rw [e]; simp; omega, fun i hi => ?_⟩
    rw [e, List.getElem?_take_of_lt hi]; rfl
  · rintro ⟨e, hi⟩
    apply List.ext_getElem?
    intro i
    by_cases hin : i < n
    · have h5 := hi i hin
      rw [List.getElem?_take_of_lt hin]
      unfold byteAt at h5
      rw [List.getElem?_eq_getElem (by omega), List.getElem?_eq_getElem (by omega)] at h5
      rw [List.getElem?_eq_getElem (by omega), List.getElem?_eq_getElem (by omega)]
      simp only [Option.getD_some] at h5
      rw [UInt8.toNat_inj.1 h5]
    · rw [List.getElem?_eq_none (by omega), List.getElem?_eq_none (by simp; omega)]
theorem u8_nat (x : Nat) (h : x < 256) : (UInt8.ofNat x).toNat = x := by rw [UInt8.toNat_ofNat', Nat.mod_eq_of_lt (by omega)]

theorem last_no (l : List UInt8) (n : Nat) (hn : n ≤ l.length) (h : (bytesR (accR l (n - 1))).length ≠ n) : lastR l n = (0, 0) := by
  unfold lastR
  have hk : (bytesR (accR l (n - 1)) == l.take n) = false := by
    rw [Bool.eq_false_iff]; intro h'
    exact h ((take_bytes l _ n hn).1 h').1.symm
  rw [hk, Bool.and_false]; rfl
theorem last_point (l : List UInt8) (n : Nat) (h : pointB (accR l (n - 1)) = false) : lastR l n = (0, 0) := by
  unfold lastR
  rw [h, Bool.false_and]; rfl
theorem last_yes (l : List UInt8) (n : Nat) (hn : n ≤ l.length) (h : pointB (accR l (n - 1)) = true) (hk : n = (bytesR (accR l (n - 1))).length ∧ ∀ i, i < n → ((bytesR (accR l (n - 1)))[i]?.getD 0).toNat = byteAt l i) : lastR l n = (accR l (n - 1), n) := by
  unfold lastR
  rw [h, (take_bytes l _ n hn).2 hk]; rfl

theorem bad_no (r n : Nat) (h : r ≠ 65533 ∨ 2 ≤ n) : badB (r, n) = false := by
  unfold badB
  rcases h with h | h
  · rw [show ((r, n).1 == 65533) = false by simpa using h]; rfl
  · rw [show decide ((r, n).2 < 2) = false by simpa using h, Bool.and_false]
theorem bad_yes : badB (65533, 1) = true := rfl

theorem firstR_dec (l : List UInt8) (hl : l ≠ []) : firstR l = if badB (dec l) then (0, 0) else dec l := by
  have hb : ∀ i, byteAt l i < 256 := fun i => (l[i]?.getD 0).toNat_lt
  have h0 := hb 0; have h1 := hb 1; have h2 := hb 2; have h3 := hb 3
  have hn : 1 ≤ l.length := by cases l with | nil => exact absurd rfl hl | cons _ _ => simp
  have hbad : dec l = (65533, 1) → firstR l = (0, 0) → firstR l = if badB (dec l) then (0, 0) else dec l := fun a b => by rw [a, b, bad_yes]; rfl
  have hgood : ∀ r n, dec l = (r, n) → (r ≠ 65533 ∨ 2 ≤ n) → firstR l = (r, n) → firstR l = if badB (dec l) then (0, 0) else dec l := fun r n a b c => by rw [a, c, bad_no r n b]; rfl
  have fno : ∀ n, longR (byteAt l 0) = n → (n.1 = 0 ∨ l.length < n.1) → firstR l = (0, 0) := fun n e h => by unfold firstR; rw [e, if_pos h]
  have fgo : ∀ n, longR (byteAt l 0) = n → 0 < n.1 → n.1 ≤ l.length → goesR l (n.1 - 1) = true → firstR l = lastR l n.1 := fun n e ha hb hg => by unfold firstR; rw [e, if_neg (by omega), if_pos hg]
  have fst : ∀ n, longR (byteAt l 0) = n → 0 < n.1 → n.1 ≤ l.length → goesR l (n.1 - 1) = false → firstR l = (0, 0) := fun n e ha hb hg => by unfold firstR; rw [e, if_neg (by omega), hg]; rfl
  clear hb hl
  by_cases c1 : byteAt l 0 < 128
  · have e1 : longR (byteAt l 0) = (1, byteAt l 0) := by unfold longR; rw [if_pos c1]
    have ea : accR l 0 = byteAt l 0 := by
      show (longR (byteAt l 0)).2 = _
      rw [e1]
    have hbr : bytesR (byteAt l 0) = [UInt8.ofNat (byteAt l 0)] := by unfold bytesR; rw [if_pos c1]
    have hd : dec l = (byteAt l 0, 1) := by unfold dec; exact decN_1 _ _ _ _ _ c1
    refine hgood (byteAt l 0) 1 hd (.inl (fun h => by omega)) ?_
    rw [fgo _ e1 (by simp) hn rfl, last_yes l 1 hn (by rw [ea]; simp [pointB]; omega) ?_]
    · rw [ea]
    · rw [ea, hbr]
      refine ⟨rfl, fun i hi => ?_⟩
      obtain rfl : i = 0 := by omega
      simp [u8_nat _ h0]
  by_cases c2 : 192 ≤ byteAt l 0 ∧ byteAt l 0 < 224
  · have e1 : longR (byteAt l 0) = (2, byteAt l 0 - 192) := by unfold longR; rw [if_neg c1, if_pos c2]
    by_cases n2 : 2 ≤ l.length
    · by_cases k1 : contB (byteAt l 1) = true
      · have k1' : 128 ≤ byteAt l 1 ∧ byteAt l 1 < 192 := by simpa [contB] using k1
        have hg := fgo _ e1 (by simp) n2 (by simp [goesR, k1])
        have ea : accR l 1 = (byteAt l 0 - 192) * 64 + byteAt l 1 - 128 := acc1 l _ _ e1
        have hd := decN_2 l.length (byteAt l 0) (byteAt l 1) (byteAt l 2) (byteAt l 3) c2 (by omega) k1' _ rfl
        generalize hr : (byteAt l 0 - 192) * 64 + byteAt l 1 - 128 = r at hd
        rw [hr] at ea
        by_cases c : 128 ≤ r
        · rw [if_pos c] at hd
          have hbr : bytesR r = [UInt8.ofNat (192 + r / 64), UInt8.ofNat (128 + r % 64)] := by unfold bytesR; rw [if_neg (by omega), if_pos (by omega)]
          refine hgood r 2 hd (by omega) ?_
          rw [hg, last_yes l 2 n2 (by rw [ea]; simp [pointB]; omega) ?_]
          · rw [ea]
          · rw [ea, hbr]
            refine ⟨rfl, fun i hi => ?_⟩
            rcases (show i = 0 ∨ i = 1 by omega) with rfl | rfl
            · show (UInt8.ofNat (192 + r / 64)).toNat = _
              rw [u8_nat _ (by omega)]; omega
            · show (UInt8.ofNat (128 + r % 64)).toNat = _
              rw [u8_nat _ (by omega)]; omega
        · rw [if_neg c] at hd
          refine hbad hd (hg.trans (last_no l 2 n2 ?_))
          rw [ea, bytes_len, if_pos (by omega)]; decide
      · have k1' : ¬ (128 ≤ byteAt l 1 ∧ byteAt l 1 < 192) := by simpa [contB] using k1
        exact hbad (decN_0 _ _ _ _ _ c1 (by omega) (by omega) (by omega)) (fst _ e1 (by simp) n2 (by simp [goesR, k1]))
    · exact hbad (decN_0 _ _ _ _ _ c1 (by omega) (by omega) (by omega)) (fno _ e1 (.inr (by simp; omega)))
  by_cases c3 : 224 ≤ byteAt l 0 ∧ byteAt l 0 < 240
  · have e1 : longR (byteAt l 0) = (3, byteAt l 0 - 224) := by unfold longR; rw [if_neg c1, if_neg c2, if_pos c3]
    by_cases n3 : 3 ≤ l.length
    · by_cases k : goesR l 2 = true
      · have k' : (128 ≤ byteAt l 1 ∧ byteAt l 1 < 192) ∧ (128 ≤ byteAt l 2 ∧ byteAt l 2 < 192) := by simpa [goesR, contB] using k
        have hg := fgo _ e1 (by simp) n3 k
        have ea : accR l 2 = ((byteAt l 0 - 224) * 64 + byteAt l 1 - 128) * 64 + byteAt l 2 - 128 := acc2 l _ _ e1
        have hd := decN_3 l.length (byteAt l 0) (byteAt l 1) (byteAt l 2) (byteAt l 3) c3 (by omega) k'.1 k'.2 _ rfl
        generalize hr : ((byteAt l 0 - 224) * 64 + byteAt l 1 - 128) * 64 + byteAt l 2 - 128 = r at hd
        rw [hr] at ea
        by_cases c : 2048 ≤ r
        · by_cases cp : r < 55296 ∨ 57344 ≤ r
          · rw [if_pos (by omega)] at hd
            have hbr : bytesR r = [UInt8.ofNat (224 + r / 4096), UInt8.ofNat (128 + r / 64 % 64), UInt8.ofNat (128 + r % 64)] := by unfold bytesR; rw [if_neg (by omega), if_neg (by omega), if_pos (by omega)]
            refine hgood r 3 hd (by omega) ?_
            rw [hg, last_yes l 3 n3 (by rw [ea]; simp [pointB]; omega) ?_]
            · rw [ea]
            · rw [ea, hbr]
              refine ⟨rfl, fun i hi => ?_⟩
              rcases (show i = 0 ∨ i = 1 ∨ i = 2 by omega) with rfl | rfl | rfl
              · show (UInt8.ofNat (224 + r / 4096)).toNat = _
                rw [u8_nat _ (by omega)]; omega
              · show (UInt8.ofNat (128 + r / 64 % 64)).toNat = _
                rw [u8_nat _ (by omega)]; omega
              · show (UInt8.ofNat (128 + r % 64)).toNat = _
                rw [u8_nat _ (by omega)]; omega
          · rw [if_neg (by omega)] at hd
            refine hbad hd (hg.trans (last_point l 3 ?_))
            rw [ea]; simp [pointB]; omega
        · rw [if_neg (by omega)] at hd
          refine hbad hd (hg.trans (last_no l 3 n3 ?_))
          rw [ea, bytes_len]
          split
          · decide
          · rw [if_pos (by omega)]; decide
      · have k' : ¬ ((128 ≤ byteAt l 1 ∧ byteAt l 1 < 192) ∧ (128 ≤ byteAt l 2 ∧ byteAt l 2 < 192)) := by
          intro h; exact k (by simpa [goesR, contB] using h)
        exact hbad (decN_0 _ _ _ _ _ c1 (by omega) (by omega) (by omega)) (fst _ e1 (by simp) n3 (by simpa using k))
    · exact hbad (decN_0 _ _ _ _ _ c1 (by omega) (by omega) (by omega)) (fno _ e1 (.inr (by simp; omega)))
  by_cases c4 : 240 ≤ byteAt l 0 ∧ byteAt l 0 < 248
  · have e1 : longR (byteAt l 0) = (4, byteAt l 0 - 240) := by unfold longR; rw [if_neg c1, if_neg c2, if_neg c3, if_pos c4]
    by_cases n4 : 4 ≤ l.length
    · by_cases k : goesR l 3 = true
      · have k' : ((128 ≤ byteAt l 1 ∧ byteAt l 1 < 192) ∧ (128 ≤ byteAt l 2 ∧ byteAt l 2 < 192)) ∧ (128 ≤ byteAt l 3 ∧ byteAt l 3 < 192) := by simpa [goesR, contB] using k
        have hg := fgo _ e1 (by simp) n4 k
        have ea : accR l 3 = (((byteAt l 0 - 240) * 64 + byteAt l 1 - 128) * 64 + byteAt l 2 - 128) * 64 + byteAt l 3 - 128 := acc3 l _ _ e1
        have hd := decN_4 l.length (byteAt l 0) (byteAt l 1) (byteAt l 2) (byteAt l 3) c4 (by omega) k'.1.1 k'.1.2 k'.2 _ rfl
        generalize hr : (((byteAt l 0 - 240) * 64 + byteAt l 1 - 128) * 64 + byteAt l 2 - 128) * 64 + byteAt l 3 - 128 = r at hd
        rw [hr] at ea
        by_cases c : 65536 ≤ r
        · by_cases cp : r ≤ 1114111
          · rw [if_pos (by omega)] at hd
            have hbr : bytesR r = [UInt8.ofNat (240 + r / 262144), UInt8.ofNat (128 + r / 4096 % 64), UInt8.ofNat (128 + r / 64 % 64), UInt8.ofNat (128 + r % 64)] := by unfold bytesR; rw [if_neg (by omega), if_neg (by omega), if_neg (by omega)]
            refine hgood r 4 hd (by omega) ?_
            rw [hg, last_yes l 4 n4 (by rw [ea]; simp [pointB]; omega) ?_]
            · rw [ea]
            · rw [ea, hbr]
              refine ⟨rfl, fun i hi => ?_⟩
              rcases (show i = 0 ∨ i = 1 ∨ i = 2 ∨ i = 3 by omega) with rfl | rfl | rfl | rfl
              · show (UInt8.ofNat (240 + r / 262144)).toNat = _
                rw [u8_nat _ (by omega)]; omega
              · show (UInt8.ofNat (128 + r / 4096 % 64)).toNat = _
                rw [u8_nat _ (by omega)]; omega
              · show (UInt8.ofNat (128 + r / 64 % 64)).toNat = _
                rw [u8_nat _ (by omega)]; omega
              · show (UInt8.ofNat (128 + r % 64)).toNat = _
                rw [u8_nat _ (by omega)]; omega
          · rw [if_neg (by omega)] at hd
            refine hbad hd (hg.trans (last_point l 4 ?_))
            rw [ea]; simp [pointB]; omega
        · rw [if_neg (by omega)] at hd
          refine hbad hd (hg.trans (last_no l 4 n4 ?_))
          rw [ea, bytes_len]
          split
          · decide
          · split
            · decide
            · rw [if_pos (by omega)]; decide
      · have k' : ¬ (((128 ≤ byteAt l 1 ∧ byteAt l 1 < 192) ∧ (128 ≤ byteAt l 2 ∧ byteAt l 2 < 192)) ∧ (128 ≤ byteAt l 3 ∧ byteAt l 3 < 192)) := by
          intro h; exact k (by simpa [goesR, contB] using h)
        exact hbad (decN_0 _ _ _ _ _ c1 (by omega) (by omega) (by omega)) (fst _ e1 (by simp) n4 (by simpa using k))
    · exact hbad (decN_0 _ _ _ _ _ c1 (by omega) (by omega) (by omega)) (fno _ e1 (.inr (by simp; omega)))
  · have e1 : longR (byteAt l 0) = (0, 0) := by unfold longR; rw [if_neg c1, if_neg c2, if_neg c3, if_neg c4]
    exact hbad (decN_0 _ _ _ _ _ c1 (by omega) (by omega) (by omega)) (fno _ e1 (.inl rfl))
end Go.Han
