/- Texts of this claim, one after the other: Term6, StandP, FindA, TagP, GrmN, GrmQ, TagA, Term6b. -/
import Derived.Test.YthojaplnimoacaaGreatDoorM3
import Derived.Test.YthojaplnimoacaaGreatDoorM10
import Derived.Test.YthojaplnimoacaaGreatDoorM9
import Derived.Test.YthojaplnimoacaaGreatDoorM2
import Derived.Test.YthojaplnimoacaaGreatDoorM6
import Derived.Lib.Join
import Derived.Laws.CopyOwn
import Derived.Lib.SliceRun
import Derived.RangeFuncBox
import Derived.Maps.AppendAt
/- Comparing texts and terms (the reference); what counts, what is later. -/
namespace Go.Proofs.YthojaplnimoacaaGreatDoor
open Go.RowKit Go.Han
attribute [local irreducible] wpStill wpQuiet
set_option maxRecDepth 100000

theorem sameText_any (s t : StrS) (w : World) (hs : s.lies w) (ht : t.lies w) : Calls Tryz.prog 170 #[s.val, t.val] w fun e w' => e = .returned (.bool (decide (s.xs = t.xs))) ∧ Below w.heap.size w w' := by
  obtain ⟨A, c, l⟩ := s
  obtain ⟨B, d, l'⟩ := t
  have hm : l.length ≤ 9223372036854775807 := Nat.le_trans hs.cap hs.max
  have hat := Lib.hid (fun k hk => StrS.at_ hs (k := k) hk)
  have hat' := Lib.hid (fun k hk => StrS.at_ ht (k := k) hk)
  show Calls _ _ #[.slice A l.length c, .slice B l'.length d] w fun e w' => e = .returned (.bool (decide (l = l'))) ∧ _
  clear hs ht
  by_cases hl : l.length = l'.length
  · have hne : ((l.length : Int) != (l'.length : Int)) = false := by simp [hl]
    have Hl := Lib.hid hl
    clear hl
    go_enter Tryz.func170, Tryz.ntmps170
    go_wp2_with fail
    go_loopw [5] (fun i wr => ∃ k : Nat, k ≤ l.length ∧ i = .int .i64 k ∧ Below w.heap.size w wr ∧ Hid (l.take k = l'.take k)) (fun i _ => l.length - (intOf i).toNat)
    case atStart => exact ⟨0, Nat.zero_le _, rfl, Below.refl _ _, rfl⟩
    case round =>
      obtain ⟨k, hk, rfl, hB, HR⟩ := hrel
      by_cases hlt : k < l.length
      · have hlt' : k < l'.length := by have := Hl.out; omega
        obtain ⟨b, off, he, hb, hc⟩ := hat.out k hlt
        obtain ⟨b', off', he', hb', hc'⟩ := hat'.out k hlt'
        change A = _ at he
        change B = _ at he'
        change ∀ (j : Nat) (hj : j < l.length), w.cell? ⟨b, off + j, none⟩ = some (.string l[j]) at hc
        change ∀ (j : Nat) (hj : j < l'.length), w.cell? ⟨b', off' + j, none⟩ = some (.string l'[j]) at hc'
        subst he he'
        have h1 := (hB.cell (p := ⟨b, off + k, none⟩) hb).trans (hc k hlt)
        have h2 := (hB.cell (p := ⟨b', off' + k, none⟩) hb').trans (hc' k hlt')
        have htk : l.take (k + 1) = l.take k ++ [l[k]] := List.take_succ_eq_append_getElem hlt
        have htk' : l'.take (k + 1) = l'.take k ++ [l'[k]] := List.take_succ_eq_append_getElem hlt'
        have Htk := Lib.hid htk
        have Htk' := Lib.hid htk'
        have hf : Hid (l = l' → l[k] = l'[k]) := by rintro rfl; rfl
        clear hc hc' htk htk'
        generalize l[k] = x at *
        generalize l'[k] = y at *
        by_cases hxy : x = y
        · subst hxy
          have g1 : (x.toList != x.toList) = false := by simp
          have g2 : (x.toList == x.toList) = true := by simp
          go_wp2_with fail
          go_still (by kernel_rfl)
          go_wp2
          go_roundw
          case rel => exact ⟨k + 1, by omega, by go_num, hB.drew, by show _ = _; rw [Htk.out, Htk'.out, HR.out]⟩
          case measure => simp [intOf]; omega
        · have HF : Hid (decide (l = l') = false) := decide_eq_false (fun h => hxy (hf.out h))
          have hxl : ¬ x.toList = y.toList := fun h => hxy (by rw [ByteArray.toList_eq, ByteArray.toList_eq] at h; cases x with | mk a => cases y with | mk b => cases a; cases b; simp at h; rw [h])
          have g1 : (x.toList != y.toList) = true := by simpa using hxl
          have g2 : (x.toList == y.toList) = false := by simpa using hxl
          clear hxy hxl
          go_wp2_with fail
          go_still (by kernel_rfl)
          go_wp2
          go_ret
          exact ⟨by rw [HF.out]; rfl, hB.drew⟩
      · have HF : Hid (decide (l = l') = true) := by
          refine decide_eq_true ?_
          obtain rfl : k = l.length := by omega
          have h := HR.out
          rw [List.take_length, List.take_of_length_le (by have := Hl.out; omega)] at h
          exact h
        clear HR
        go_wp2_with fail
        go_ret
        exact ⟨by rw [HF.out]; rfl, hB⟩
  · have hne : ((l.length : Int) != (l'.length : Int)) = true := by simp; omega
    have HF : Hid (decide (l = l') = false) := decide_eq_false (fun h => hl (by rw [h]))
    clear hl
    go_enter Tryz.func170, Tryz.ntmps170
    go_wp2_with fail
    go_ret
    exact ⟨by rw [HF.out]; rfl, Below.refl _ _⟩
theorem sameText_at (s t : StrS) (w : World) (hs : s.lies w) (ht : t.lies w) : Calls Tryz.prog 170 #[.slice s.addr s.xs.length s.cap, .slice t.addr t.xs.length t.cap] w fun e w' => e = .returned (.bool (decide (s.xs = t.xs))) ∧ Below w.heap.size w w' := sameText_any s t w hs ht

def countsB (x : Term) (at_ known : Int) : Bool := decide (x.at_ ≤ at_) && decide (x.known ≤ known)
def laterB (a b : Term) : Bool := decide (b.at_ < a.at_) || (decide (a.at_ = b.at_) && decide (b.no < a.no))
def aboutB (a b : Term) : Bool := decide (a.lang = b.lang) && decide (a.src.xs = b.src.xs)
theorem fewT_any (A : Option Addr) (c : Nat) (l : List Term) (w : World) (hm : l.length ≤ 9223372036854775807) : Calls Tryz.prog 66 #[.slice A l.length c] w fun e w' => e = .returned (.bool (decide (l.length ≤ 30) || (decide (1024 < l.length) && decide (l.length ≤ 1100)))) ∧ w = w' := by
  obtain ⟨q, hq⟩ : ∃ q, (decide (l.length ≤ 30) || (decide (1024 < l.length) && decide (l.length ≤ 1100))) = q := ⟨_, rfl⟩
  rw [hq]
  go_enter Tryz.func66, Tryz.ntmps66
  by_cases h1 : l.length ≤ 30
  · have H : Hid (q = true) := by show _ = _; rw [← hq]; simp [h1]
    have i1 : (l.length : Int) ≤ 30 := by omega
    clear hq
    go_wp2_with fail
    go_ret
    exact ⟨by rw [H.out]; first | rfl | (simp; done) | (simp; omega), rfl⟩
  · have i1 : ¬ (l.length : Int) ≤ 30 := by omega
    by_cases h2 : 1024 < l.length
    · have i2 : (1024 : Int) < l.length := by omega
      by_cases h3 : l.length ≤ 1100
      · have H : Hid (q = true) := by show _ = _; rw [← hq]; simp [h2, h3]
        have i3 : (l.length : Int) ≤ 1100 := by omega
        clear hq
        go_wp2_with fail
        go_ret
        exact ⟨by rw [H.out]; first | rfl | (simp; done) | (simp; omega), rfl⟩
      · have H : Hid (q = false) := by show _ = _; rw [← hq]; simp [h1, h3]
        have i3 : ¬ (l.length : Int) ≤ 1100 := by omega
        clear hq
        go_wp2_with fail
        go_ret
        exact ⟨by rw [H.out]; first | rfl | (simp; done) | (simp; omega), rfl⟩
    · have H : Hid (q = false) := by show _ = _; rw [← hq]; simp [h1, h2]
      have i2 : ¬ (1024 : Int) < l.length := by omega
      clear hq
      go_wp2_with fail
      go_ret
      exact ⟨by rw [H.out]; first | rfl | (simp; done) | (simp; omega), rfl⟩

end Go.Proofs.YthojaplnimoacaaGreatDoor

/- Standing terms, in plain lists: words have no line feed; keys; the last terms. No program in sight. -/
namespace Go.Proofs.YthojaplnimoacaaGreatDoor
open Go.RowKit Go.Han

/-! ### line feeds -/
theorem dec_low (l : List UInt8) (h : byteAt l 0 < 128) : dec l = (byteAt l 0, 1) := by
  unfold dec Lib.decodeN
  rw [if_pos h]
theorem decN_high (n b0 b1 b2 b3 : Nat) (h : 128 ≤ b0) : (2 ≤ (Lib.decodeN n b0 b1 b2 b3).2 → 128 ≤ b1) ∧ (3 ≤ (Lib.decodeN n b0 b1 b2 b3).2 → 128 ≤ b2) ∧ (4 ≤ (Lib.decodeN n b0 b1 b2 b3).2 → 128 ≤ b3) ∧ (Lib.decodeN n b0 b1 b2 b3).2 ≤ 4 := by
  unfold Lib.decodeN
  rw [if_neg (by omega)]
  repeat' split
  all_goals (refine ⟨?_, ?_, ?_, ?_⟩ <;> simp <;> omega)
theorem dec_high (l : List UInt8) (h : 128 ≤ byteAt l 0) : ∀ i, i < (dec l).2 → 128 ≤ byteAt l i := by
  obtain ⟨h1, h2, h3, h4⟩ := decN_high l.length (byteAt l 0) (byteAt l 1) (byteAt l 2) (byteAt l 3) h
  intro i hi
  change i < (Lib.decodeN l.length (byteAt l 0) (byteAt l 1) (byteAt l 2) (byteAt l 3)).2 at hi
  rcases (show i = 0 ∨ i = 1 ∨ i = 2 ∨ i = 3 by omega) with rfl | rfl | rfl | rfl
  · exact h
  · exact h1 (by omega)
  · exact h2 (by omega)
  · exact h3 (by omega)
theorem runes_lf : ∀ (n : Nat) (l : List UInt8), l.length ≤ n → (runes l).2 = true → (10 : UInt8) ∈ l → 10 ∈ (runes l).1
  | 0, l, hn, _, h => by
    have : l = [] := List.eq_nil_of_length_eq_zero (by omega)
    rw [this] at h; cases h
  | n + 1, l, hn, hr, h => by
    have hne : l ≠ [] := by rintro rfl; cases h
    have hge := dec_ge1 l
    have hlen : 0 < l.length := List.length_pos_iff.2 hne
    cases hb : badB (dec l)
    · rw [runes_good l hne hb] at hr ⊢
      simp only at hr ⊢
      have key : (10 : UInt8) ∈ l.drop (dec l).2 ∨ (dec l).1 = 10 := by
        by_cases h128 : byteAt l 0 < 128
        · rw [dec_low l h128]
          cases l with
          | nil => cases h
          | cons c t =>
            rcases List.mem_cons.1 h with e | h
            · right; subst e; rfl
            · left; exact h
        · left
          have hh := dec_high l (by omega)
          rw [← List.take_append_drop (dec l).2 l] at h
          rcases List.mem_append.1 h with h | h
          · exfalso
            obtain ⟨i, hi, he⟩ := List.getElem_of_mem h
            have hi2 : i < (dec l).2 ∧ i < l.length := by rw [List.length_take] at hi; omega
            have := hh i hi2.1
            unfold byteAt at this
            rw [List.getElem?_eq_getElem hi2.2] at this
            rw [List.getElem_take] at he
            rw [he] at this
            exact absurd this (by decide)
          · exact h
      rcases key with h1 | h1
      · exact List.mem_cons_of_mem _ (runes_lf n _ (by simp; omega) hr h1)
      · rw [h1]; exact List.mem_cons_self ..
    · rw [runes_bad l hne hb] at hr; cases hr
theorem word_lf {s : ByteArray} (h : wordB s = true) : (10 : UInt8) ∉ s.data.toList := by
  unfold wordB at h
  simp only [Bool.and_eq_true, Bool.not_eq_true', decide_eq_true_eq] at h
  intro h10
  have := runes_lf _ _ (Nat.le_refl _) h.1.2 h10
  have h2 := h.2
  rw [List.any_eq_false] at h2
  exact h2 10 this (by decide)
theorem word_size {s : ByteArray} (h : wordB s = true) : s.data.toList.length ≤ 64 := by
  unfold wordB at h
  simp only [Bool.and_eq_true, decide_eq_true_eq] at h
  rw [← Lib.size_eq]; exact h.1.1.1

/-! ### joining with line feeds -/
theorem split_first {a b p q : List UInt8} (ha : (10 : UInt8) ∉ a) (hb : (10 : UInt8) ∉ b) (hp : p = [] ∨ ∃ p', p = 10 :: p') (hq : q = [] ∨ ∃ q', q = 10 :: q') (h : a ++ p = b ++ q) : a = b ∧ p = q := by
  induction a generalizing b with
  | nil =>
    cases b with
    | nil => exact ⟨rfl, h⟩
    | cons y b =>
      simp only [List.nil_append, List.cons_append] at h
      rcases hp with rfl | ⟨p', rfl⟩
      · cases h
      · simp only [List.cons.injEq] at h
        exact absurd (h.1 ▸ List.mem_cons_self ..) hb
  | cons x a ih =>
    cases b with
    | nil =>
      simp only [List.nil_append, List.cons_append] at h
      rcases hq with rfl | ⟨q', rfl⟩
      · cases h
      · simp only [List.cons.injEq] at h
        exact absurd (h.1 ▸ List.mem_cons_self ..) ha
    | cons y b =>
      simp only [List.cons_append, List.cons.injEq] at h
      obtain ⟨h1, h2⟩ := ih (fun h => ha (List.mem_cons_of_mem _ h)) (fun h => hb (List.mem_cons_of_mem _ h)) h.2
      exact ⟨by rw [h.1, h1], h2⟩
theorem tail_form (r : List (List UInt8)) : Lib.joinTail [10] r = [] ∨ ∃ p', Lib.joinTail [10] r = 10 :: p' := by
  cases r with
  | nil => exact .inl rfl
  | cons x r => exact .inr ⟨_, rfl⟩
theorem tail_inj : ∀ (r r' : List (List UInt8)), (∀ x ∈ r, (10 : UInt8) ∉ x) → (∀ x ∈ r', (10 : UInt8) ∉ x) → Lib.joinTail [10] r = Lib.joinTail [10] r' → r = r'
  | [], [], _, _, _ => rfl
  | [], x :: r', _, _, h => by cases h
  | x :: r, [], _, _, h => by cases h
  | x :: r, y :: r', h1, h2, h => by
    have e : x ++ Lib.joinTail [10] r = y ++ Lib.joinTail [10] r' := by
      simpa [Lib.joinTail] using h
    obtain ⟨hx, hr⟩ := split_first (h1 x (List.mem_cons_self ..)) (h2 y (List.mem_cons_self ..)) (tail_form r) (tail_form r') e
    rw [hx, tail_inj r r' (fun z hz => h1 z (List.mem_cons_of_mem _ hz)) (fun z hz => h2 z (List.mem_cons_of_mem _ hz)) hr]
theorem join_inj {r r' : List (List UInt8)} (h1 : ∀ x ∈ r, (10 : UInt8) ∉ x) (h2 : ∀ x ∈ r', (10 : UInt8) ∉ x) (n1 : r ≠ []) (n2 : r' ≠ []) (h : Lib.join r [10] = Lib.join r' [10]) : r = r' := by
  cases r with
  | nil => exact absurd rfl n1
  | cons x r =>
    cases r' with
    | nil => exact absurd rfl n2
    | cons y r' =>
      rw [Lib.join_cons, Lib.join_cons] at h
      obtain ⟨hx, hr⟩ := split_first (h1 x (List.mem_cons_self ..)) (h2 y (List.mem_cons_self ..)) (tail_form r) (tail_form r') h
      rw [hx, tail_inj r r' (fun z hz => h1 z (List.mem_cons_of_mem _ hz)) (fun z hz => h2 z (List.mem_cons_of_mem _ hz)) hr]
theorem join_length (r : List (List UInt8)) (n : Nat) (h : ∀ x ∈ r, x.length ≤ n) : (Lib.join r [10]).length ≤ r.length * (n + 1) := by
  cases r with
  | nil => simp [Lib.join_nil]
  | cons x r =>
    rw [Lib.join_cons]
    have ht : ∀ q : List (List UInt8), (∀ x ∈ q, x.length ≤ n) → (Lib.joinTail [10] q).length ≤ q.length * (n + 1) := by
      intro q
      induction q with
      | nil => intro _; simp [Lib.joinTail]
      | cons y q ih =>
        intro hq
        have h1 := ih (fun z hz => hq z (List.mem_cons_of_mem _ hz))
        have h2 := hq y (List.mem_cons_self ..)
        have e : Lib.joinTail [10] (y :: q) = 10 :: (y ++ Lib.joinTail [10] q) := by simp [Lib.joinTail]
        rw [e]
        simp only [List.length_cons, List.length_append, Nat.add_mul, Nat.one_mul]
        omega
    have h1 := ht r (fun z hz => h z (List.mem_cons_of_mem _ hz))
    have h2 := h x (List.mem_cons_self ..)
    simp only [List.length_cons, List.length_append, Nat.add_mul, Nat.one_mul]
    omega

/-! ### keys -/
structure GKey where
  lang : Int
  src : ByteArray
  deriving DecidableEq
def joined (xs : List ByteArray) : List UInt8 := Lib.join (xs.map (fun s => s.data.toList)) [10]
def aboutK (x : Term) : GKey := ⟨x.lang, ⟨(joined x.src.xs).toArray⟩⟩
theorem ok_src {x : Term} (h : x.ok = true) : 1 ≤ x.src.xs.length ∧ x.src.xs.length ≤ 4 ∧ ∀ s ∈ x.src.xs, wordB s = true := by
  unfold Term.ok phraseB at h
  simp only [Bool.and_eq_true, decide_eq_true_eq, List.all_eq_true] at h
  exact ⟨h.1.2.1.1, h.1.2.1.2, h.1.2.2⟩
theorem map_data_inj : ∀ {xs ys : List ByteArray}, xs.map (fun s => s.data.toList) = ys.map (fun s => s.data.toList) → xs = ys
  | [], [], _ => rfl
  | [], _ :: _, h => by cases h
  | _ :: _, [], h => by cases h
  | x :: xs, y :: ys, h => by
    simp only [List.map_cons, List.cons.injEq] at h
    rw [WideShapes.bytes_inj h.1, map_data_inj h.2]
theorem aboutK_iff {a b : Term} (ha : a.ok = true) (hb : b.ok = true) : aboutK a = aboutK b ↔ aboutB a b = true := by
  obtain ⟨a1, _, a3⟩ := ok_src ha
  obtain ⟨b1, _, b3⟩ := ok_src hb
  unfold aboutB aboutK
  simp only [GKey.mk.injEq, Bool.and_eq_true, decide_eq_true_eq]
  refine and_congr_right fun _ => ⟨fun h => ?_, fun h => by rw [h]⟩
  have h' : joined a.src.xs = joined b.src.xs := by
    have := congrArg (fun s : ByteArray => s.data.toList) h
    simpa using this
  refine map_data_inj (join_inj ?_ ?_ ?_ ?_ h')
  · intro x hx
    obtain ⟨s, hs, rfl⟩ := List.mem_map.1 hx
    exact word_lf (a3 s hs)
  · intro x hx
    obtain ⟨s, hs, rfl⟩ := List.mem_map.1 hx
    exact word_lf (b3 s hs)
  · intro h0; rw [List.map_eq_nil_iff] at h0; rw [h0] at a1; simp at a1
  · intro h0; rw [List.map_eq_nil_iff] at h0; rw [h0] at b1; simp at b1
theorem joined_length {x : Term} (h : x.ok = true) : (joined x.src.xs).length ≤ 260 := by
  obtain ⟨_, h2, h3⟩ := ok_src h
  have := join_length (x.src.xs.map (fun s => s.data.toList)) 64 (fun y hy => by
    obtain ⟨s, hs, rfl⟩ := List.mem_map.1 hy
    exact word_size (h3 s hs))
  unfold joined
  simp at this
  omega

/-! ### the last terms -/
def cntB (lang t u : Int) (x : Term) : Bool := decide (x.lang = lang) && countsB x t u
/-- What the map of the last terms holds at a key, behind the terms p. -/
def lastStep (lang t u : Int) (K : GKey) (o : Option Term) (y : Term) : Option Term :=
  if cntB lang t u y = true ∧ aboutK y = K then (match o with | none => some y | some z => if z.at_ ≤ y.at_ then some y else some z) else o
def lastF (lang t u : Int) (p : List Term) (K : GKey) : Option Term := p.foldl (lastStep lang t u K) none
theorem lastF_snoc (lang t u : Int) (p : List Term) (y : Term) (K : GKey) : lastF lang t u (p ++ [y]) K = lastStep lang t u K (lastF lang t u p K) y := by
  unfold lastF; rw [List.foldl_append]; rfl
theorem lastF_spec (lang t u : Int) (K : GKey) : ∀ (q p : List Term), (p ++ q).Pairwise (fun a b => a.no < b.no) →
    (match lastF lang t u p K with | none => ∀ c ∈ p, ¬ (cntB lang t u c = true ∧ aboutK c = K) | some z => z ∈ p ∧ cntB lang t u z = true ∧ aboutK z = K ∧ ∀ c ∈ p, cntB lang t u c = true → aboutK c = K → laterB c z = false) →
    (match lastF lang t u (p ++ q) K with | none => ∀ c ∈ p ++ q, ¬ (cntB lang t u c = true ∧ aboutK c = K) | some z => z ∈ p ++ q ∧ cntB lang t u z = true ∧ aboutK z = K ∧ ∀ c ∈ p ++ q, cntB lang t u c = true → aboutK c = K → laterB c z = false)
  | [], p, _, h => by simpa using h
  | y :: q, p, hp, h => by
    have e : p ++ y :: q = (p ++ [y]) ++ q := by simp
    rw [e] at hp ⊢
    refine lastF_spec lang t u K q (p ++ [y]) hp ?_
    have hy : ∀ c ∈ p, c.no < y.no := by
      rw [List.append_assoc, List.pairwise_append] at hp
      exact fun c hc => hp.2.2 c hc y (by simp)
    rw [lastF_snoc]
    unfold lastStep
    by_cases hc : cntB lang t u y = true ∧ aboutK y = K
    · rw [if_pos hc]
      cases hl : lastF lang t u p K with
      | none =>
        rw [hl] at h
        refine ⟨by simp, hc.1, hc.2, fun c hcm h1 h2 => ?_⟩
        rcases List.mem_append.1 hcm with hcm | hcm
        · exact absurd ⟨h1, h2⟩ (h c hcm)
        · simp at hcm; subst hcm; simp [laterB]
      | some z =>
        rw [hl] at h
        obtain ⟨z1, z2, z3, z4⟩ := h
        by_cases hz : z.at_ ≤ y.at_
        · simp only [if_pos hz]
          refine ⟨by simp, hc.1, hc.2, fun c hcm h1 h2 => ?_⟩
          rcases List.mem_append.1 hcm with hcm | hcm
          · have h3 := z4 c hcm h1 h2
            have h4 := hy c hcm
            unfold laterB at h3 ⊢
            simp at h3 ⊢
            omega
          · simp at hcm; subst hcm; simp [laterB]
        · simp only [if_neg hz]
          refine ⟨List.mem_append_left _ z1, z2, z3, fun c hcm h1 h2 => ?_⟩
          rcases List.mem_append.1 hcm with hcm | hcm
          · exact z4 c hcm h1 h2
          · simp at hcm; subst hcm
            unfold laterB
            simp; omega
    · rw [if_neg hc]
      cases hl : lastF lang t u p K with
      | none =>
        rw [hl] at h
        intro c hcm
        rcases List.mem_append.1 hcm with hcm | hcm
        · exact h c hcm
        · simp at hcm; subst hcm; exact hc
      | some z =>
        rw [hl] at h
        obtain ⟨z1, z2, z3, z4⟩ := h
        refine ⟨List.mem_append_left _ z1, z2, z3, fun c hcm h1 h2 => ?_⟩
        rcases List.mem_append.1 hcm with hcm | hcm
        · exact z4 c hcm h1 h2
        · simp at hcm; subst hcm; exact absurd ⟨h1, h2⟩ hc
/-- Does a term of l stand? -/
def standsB (l : List Term) (t u : Int) (x : Term) : Bool := !x.gone && countsB x t u && !(l.any fun z => aboutB z x && countsB z t u && laterB z x)
def standT (l : List Term) (lang t u : Int) : List Term := l.filter (fun x => decide (x.lang = lang) && standsB l t u x)
def pickB (lang t u : Int) (l : List Term) (y : Term) : Bool := match lastF lang t u l (aboutK y) with | some z => z.no == y.no && !y.gone | none => false
theorem no_inj {l : List Term} (hs : l.Pairwise (fun a b => a.no < b.no)) {a b : Term} (ha : a ∈ l) (hb : b ∈ l) (h : a.no = b.no) : a = b := by
  obtain ⟨i, hi, rfl⟩ := List.getElem_of_mem ha
  obtain ⟨j, hj, rfl⟩ := List.getElem_of_mem hb
  rw [List.pairwise_iff_getElem] at hs
  rcases Nat.lt_trichotomy i j with h1 | h1 | h1
  · have := hs i j hi hj h1; omega
  · subst h1; rfl
  · have := hs j i hj hi h1; omega
theorem pick_stands {l : List Term} (hs : l.Pairwise (fun a b => a.no < b.no)) (hok : ∀ x ∈ l, x.ok = true) (lang t u : Int) {y : Term} (hy : y ∈ l) : pickB lang t u l y = (decide (y.lang = lang) && standsB l t u y) := by
  have hsp := lastF_spec lang t u (aboutK y) l [] (by simpa using hs) (fun c hc => by cases hc)
  simp only [List.nil_append] at hsp
  unfold pickB standsB
  have lang_of : ∀ c, aboutK c = aboutK y → c.lang = y.lang := fun c h => congrArg GKey.lang h
  cases hl : lastF lang t u l (aboutK y) with
  | none =>
    rw [hl] at hsp
    have h1 := hsp y hy
    simp only [and_true, cntB, Bool.and_eq_true, decide_eq_true_eq, not_and] at h1
    by_cases h2 : y.lang = lang
    · have h3 := h1 h2
      have h4 : countsB y t u = false := by simpa using h3
      simp [h4]
    · simp [h2]
  | some z =>
    rw [hl] at hsp
    obtain ⟨z1, z2, z3, z4⟩ := hsp
    simp only [cntB, Bool.and_eq_true, decide_eq_true_eq] at z2
    by_cases hzy : z.no = y.no
    · have e := no_inj hs z1 hy hzy
      subst e
      have hany : (l.any fun c => aboutB c z && countsB c t u && laterB c z) = false := by
        rw [List.any_eq_false]
        intro c hc
        by_cases h1 : aboutB c z = true
        · by_cases h2 : countsB c t u = true
          · have h3 := (aboutK_iff (hok c hc) (hok z z1)).2 h1
            have h4 := z4 c hc (by simp [cntB, lang_of c h3, z2.1, h2]) h3
            simp [h4]
          · simp [h2]
        · simp [h1]
      simp [z2.1, z2.2, hany]
    · have hb : (z.no == y.no) = false := by simpa using hzy
      show (z.no == y.no && !y.gone) = _
      rw [hb, Bool.false_and]
      symm
      by_cases hyl : y.lang = lang
      · by_cases hyc : countsB y t u = true
        · have h5 := z4 y hy (by simp [cntB, hyl, hyc]) rfl
          have h6 : laterB z y = true := by
            unfold laterB at h5 ⊢
            simp at h5 ⊢
            omega
          have hany : (l.any fun c => aboutB c y && countsB c t u && laterB c y) = true :=
            List.any_eq_true.2 ⟨z, z1, by rw [(aboutK_iff (hok z z1) (hok y hy)).1 z3, z2.2, h6]; rfl⟩
          simp [hany]
        · simp [hyc]
      · simp [hyl]
theorem filter_pick {l : List Term} (hs : l.Pairwise (fun a b => a.no < b.no)) (hok : ∀ x ∈ l, x.ok = true) (lang t u : Int) : l.filter (pickB lang t u l) = standT l lang t u := by
  unfold standT
  exact List.filter_congr fun y hy => pick_stands hs hok lang t u hy
def standE (l : List Term) (lang t u : Int) : Int := if checkT l ≠ 0 then checkT l else if (langB lang && tmB t && tmB u) = false then 1 else 0
end Go.Proofs.YthojaplnimoacaaGreatDoor

/- A piece of a slice of strings; IsAt (the reference). -/
namespace Go.Proofs.YthojaplnimoacaaGreatDoor
open Go.RowKit Go.Han
attribute [local irreducible] wpStill wpQuiet
set_option maxRecDepth 100000

def StrS.sub (s : StrS) (i n : Nat) : StrS := ⟨if s.cap = i then s.addr else s.addr.map (·.add (i * 1)), s.cap - i, (s.xs.drop i).take n⟩
theorem StrS.sub_len {s : StrS} {i n : Nat} (h : i + n ≤ s.xs.length) : (s.sub i n).xs.length = n := by
  show ((s.xs.drop i).take n).length = n
  simp; omega
theorem StrS.sub_lies {w : World} {s : StrS} (hs : s.lies w) {i n : Nat} (h : i + n ≤ s.xs.length) : (s.sub i n).lies w := by
  have hcap := hs.cap
  have hmax := hs.max
  have hn := StrS.sub_len h
  refine ⟨?_, by rw [hn]; show n ≤ s.cap - i; omega, by show s.cap - i ≤ _; omega, ?_⟩
  · show Rd w (if s.cap = i then s.addr else s.addr.map (·.add (i * 1))) (strs ((s.xs.drop i).take n))
    by_cases hc : s.cap = i
    · obtain rfl : n = 0 := by omega
      exact Rd.nil _ _
    · rw [if_neg hc]
      rcases hs.rd with h0 | ⟨b, off, he, hb, hcl⟩
      · have h1 : s.xs = [] := by simpa [strs] using h0
        rw [h1]
        simp only [List.drop_nil, List.take_nil]
        exact Rd.nil _ _
      · refine .inr ⟨b, off + i, by rw [he]; simp [Addr.add], hb, fun j u hu => ?_⟩
        have hj : j < n := by
          obtain ⟨hlt, _⟩ := List.getElem?_eq_some_iff.1 hu
          simp [strs] at hlt
          omega
        rw [Nat.add_assoc]
        refine hcl (i + j) u ?_
        rw [← hu]
        simp [strs, hj]
  · intro h0
    have h1 : s.addr = none := by
      change (if s.cap = i then s.addr else s.addr.map (·.add (i * 1))) = none at h0
      split at h0
      · exact h0
      · simpa using h0
    show (s.xs.drop i).take n = []
    rw [hs.nil h1]; simp
theorem run_sub (s : StrS) (i n : Nat) (w : World) (h : i + n ≤ s.xs.length) (hc : s.xs.length ≤ s.cap) :
    (Instr.slice 22 (.slice s.addr s.xs.length s.cap) (some (.int .i64 i)) (some (.int .i64 ((i : Int) + (n : Int)))) none).run Tryz.prog w = .ok (.slice (s.sub i n).addr n (s.sub i n).cap) w := by
  have e := run_slice_lh (P := Tryz.prog) (w := w) 22 s.addr s.xs.length s.cap (by rw [Tryz.underlying22]; rfl) .i64 .i64 (i : Int) ((i : Int) + (n : Int)) (by omega) (by omega) (by omega)
  rw [e]
  have h1 : ((i : Int) + (n : Int)).toNat = i + n := by omega
  have h2 : ((i : Int)).toNat = i := by omega
  rw [h1, h2]
  have h3 : (Go.sizeOf (Tryz.prog.elem 22)).run Tryz.prog w = .ok 1 w := by kernel_rfl
  rw [h3]
  show Result.ok (sliced s.addr i (i + n) s.cap 1) w = _
  unfold sliced StrS.sub
  rw [show i + n - i = n by omega]
theorem run_from (s : StrS) (i : Nat) (w : World) (h : i ≤ s.xs.length) :
    (Instr.slice 22 (.slice s.addr s.xs.length s.cap) (some (.int .i64 i)) none none).run Tryz.prog w = .ok (.slice (s.sub i (s.xs.length - i)).addr (s.xs.length - i) (s.sub i (s.xs.length - i)).cap) w := by
  have e := run_slice_l (P := Tryz.prog) (w := w) 22 s.addr s.xs.length s.cap (by rw [Tryz.underlying22]; rfl) .i64 (i : Int) (by omega) (by omega)
  rw [e]
  have h2 : ((i : Int)).toNat = i := by omega
  rw [h2]
  have h3 : (Go.sizeOf (Tryz.prog.elem 22)).run Tryz.prog w = .ok 1 w := by kernel_rfl
  rw [h3]
  rfl
theorem run_upto (s : StrS) (n : Nat) (w : World) (h : n ≤ s.xs.length) (hc : s.xs.length ≤ s.cap) :
    (Instr.slice 22 (.slice s.addr s.xs.length s.cap) none (some (.int .i64 n)) none).run Tryz.prog w = .ok (.slice (s.sub 0 n).addr n (s.sub 0 n).cap) w := by
  have e := run_slice_h (P := Tryz.prog) (w := w) 22 s.addr s.xs.length s.cap (by rw [Tryz.underlying22]; rfl) .i64 (n : Int) (by omega) (by omega)
  rw [e]
  have h2 : ((n : Int)).toNat = n := by omega
  rw [h2]
  have h3 : (Go.sizeOf (Tryz.prog.elem 22)).run Tryz.prog w = .ok 1 w := by kernel_rfl
  rw [h3]
  rfl

/-- The term's source stands at the head of these words. -/
def startB (x : Term) (ws : List ByteArray) : Bool := decide (ws.take x.src.xs.length = x.src.xs)
theorem startB_long {x : Term} {ws : List ByteArray} (h : ws.length < x.src.xs.length) : startB x ws = false := by
  refine decide_eq_false fun e => ?_
  have := congrArg List.length e
  rw [List.length_take] at this
  omega

set_option maxHeartbeats 1000000 in
theorem isAt_any (x : Term) (s : StrS) (i : Nat) (w : World) (hx : x.lies w) (hs : s.lies w) (hi : i ≤ s.xs.length) :
    Calls Tryz.prog 129 #[.agg #[.int .i64 x.no, .int .i64 x.at_, .int .i64 x.known, .int .i64 x.lang, .slice x.src.addr x.src.xs.length x.src.cap, .slice x.tgt.addr x.tgt.xs.length x.tgt.cap, .string x.cat, .bool x.gone], .slice s.addr s.xs.length s.cap, .int .i64 i] w fun e w' => e = .returned (.bool (startB x (s.xs.drop i))) ∧ Below w.heap.size w w' := by
  obtain ⟨w0, hw0⟩ : ∃ w0, w.alloc (.cells #[.int .i64 x.no, .int .i64 x.at_, .int .i64 x.known, .int .i64 x.lang, .slice x.src.addr x.src.xs.length x.src.cap, .slice x.tgt.addr x.tgt.xs.length x.tgt.cap, .string x.cat, .bool x.gone] 66) = w0 := ⟨_, rfl⟩
  have hB0 : Below w.heap.size w w0 := by rw [← hw0]; exact ext_alloc (Below.refl _ _) _
  have hz0 : w.heap.size < w0.heap.size := by rw [← hw0]; simp
  have hx0 : w0.heap[w.heap.size]? = some (.cells #[.int .i64 x.no, .int .i64 x.at_, .int .i64 x.known, .int .i64 x.lang, .slice x.src.addr x.src.xs.length x.src.cap, .slice x.tgt.addr x.tgt.xs.length x.tgt.cap, .string x.cat, .bool x.gone] 66 (0, 0)) := by rw [← hw0]; exact World.alloc_heap_new _ _
  have b4 := gblk hx0 4
  have hcap := hs.cap
  have hmax := hs.max
  have hxm : x.src.xs.length ≤ 9223372036854775807 := Nat.le_trans hx.1.cap hx.1.max
  have w1 : IntKind.i64.wrap ((s.xs.length : Int) - (i : Int)) = (s.xs.length : Int) - (i : Int) := IntWalk.i64_in _ (by omega)
  by_cases hn : i + x.src.xs.length ≤ s.xs.length
  · have hle : (x.src.xs.length : Int) ≤ (s.xs.length : Int) - (i : Int) := by omega
    have w2 : IntKind.i64.wrap ((i : Int) + (x.src.xs.length : Int)) = (i : Int) + (x.src.xs.length : Int) := IntWalk.i64_in _ (by omega)
    have hsub : ∀ W : World, _ := fun W => run_sub s i x.src.xs.length W hn hcap
    have hL := StrS.sub_len hn
    have cS : Hid (∀ p : ExtBy w0, Calls Tryz.prog 170 #[.slice x.src.addr x.src.xs.length x.src.cap, .slice (s.sub i x.src.xs.length).addr x.src.xs.length (s.sub i x.src.xs.length).cap] p.wt fun e w' => e = .returned (.bool (startB x (s.xs.drop i))) ∧ Below p.wt.heap.size p.wt w') := by
      intro p
      have hbb := ext_trans hB0 p.ext
      have h := sameText_at x.src (s.sub i x.src.xs.length) p.wt (hx.1.ext hbb) ((StrS.sub_lies hs hn).ext hbb)
      rw [hL] at h
      refine h.mono ?_
      rintro e w' ⟨rfl, hb⟩
      refine ⟨?_, hb⟩
      congr 2
      unfold startB
      exact decide_eq_decide.2 ⟨Eq.symm, Eq.symm⟩
    have g4 := fun p => cell_ext (w := w0) (a := ⟨w.heap.size, 4, none⟩) hz0 b4 p
    generalize startB x (s.xs.drop i) = r at *
    generalize (s.sub i x.src.xs.length).addr = B at *
    generalize (s.sub i x.src.xs.length).cap = d at *
    clear hL hs hx hx0
    go_enter Tryz.func129, Tryz.ntmps129
    go_wp2_with fail
    refine wp_region_ext (by kernel_rfl) (by kernel_rfl) ?_
    repeat (quiet_step ((go_at_call 170; exact Calls.ext_of (cS.out _))))
    refine wpQuiet_nil ?_
    intro _ hw'
    obtain ⟨p, rfl⟩ := hw'
    go_wp2
    go_ret
    exact ⟨rfl, ext_trans hB0 p.ext⟩
  · have hle : ¬ (x.src.xs.length : Int) ≤ (s.xs.length : Int) - (i : Int) := by omega
    have hle2 : decide ((x.src.xs.length : Int) ≤ (s.xs.length : Int) - (i : Int)) = false := decide_eq_false hle
    rw [startB_long (by simp; omega)]
    clear hs hx hx0
    go_enter Tryz.func129, Tryz.ntmps129
    go_wp2_with fail
    refine wp_region_ext (by kernel_rfl) (by kernel_rfl) ?_
    repeat (quiet_step (fail))
    refine wpQuiet_nil ?_
    intro _ hw'
    obtain ⟨p, rfl⟩ := hw'
    go_wp2
    go_ret
    exact ⟨rfl, ext_trans hB0 p.ext⟩
end Go.Proofs.YthojaplnimoacaaGreatDoor

/- The items that words and terms give, in plain lists. Conditions: none; plain facts. -/
namespace Go.Proofs.YthojaplnimoacaaGreatDoor
open Go.RowKit Go.Han
set_option maxRecDepth 100000

/-- An item, by what it says. -/
structure ItemC where
  cat : Int
  frm : Int
  unt : Int
  cost : Int
  tgt : List ByteArray
  term : Int
  deriving DecidableEq
def ItemG.c (x : ItemG) : ItemC := ⟨x.cat, x.frm, x.unt, x.cost, x.tgt.xs, x.term⟩
def ownWC (i : Nat) (s : ByteArray) : ItemC := ⟨-1, i, i + 1, 0, [s], -1⟩
/-- The term of so many words that is tagged at an index. -/
def pickC (cats : List ByteArray) (S : List Term) (ws : List ByteArray) (i many : Nat) : Option Term :=
  S.find? (fun x => decide (x.src.xs.length = many) && startB x (ws.drop i) && catB cats x.cat)
def termC (cats : List ByteArray) (S : List Term) (ws : List ByteArray) (i many : Nat) : List ItemC :=
  match pickC cats S ws i many with
  | some x => [⟨idxF x.cat cats, i, i + many, 0, x.tgt.xs, x.no⟩]
  | none => []
def entryC (i : Nat) (x : EntryG) : ItemC := ⟨x.no, i, i + 1, x.cost, x.gives.xs, -1⟩
def entriesC (es : List EntryG) (i : Nat) (s : ByteArray) : List ItemC := (es.filter (fun x => decide (x.text = s))).map (entryC i)
def unkC (n i : Nat) (s : ByteArray) : List ItemC := (List.range n).map fun (c : Nat) => ⟨(c : Int), i, i + 1, 100, [s], -1⟩
def singleC (g : Gram) (S : List Term) (ws : List ByteArray) (i : Nat) (s : ByteArray) : List ItemC :=
  if (termC g.cats.xs S ws i 1 ++ entriesC g.entries.xs i s).length = 0 then unkC g.cats.xs.length i s else termC g.cats.xs S ws i 1 ++ entriesC g.entries.xs i s
def wordC (g : Gram) (S : List Term) (ws : List ByteArray) (i : Nat) (s : ByteArray) : List ItemC :=
  singleC g S ws i s ++ termC g.cats.xs S ws i 2 ++ termC g.cats.xs S ws i 3 ++ termC g.cats.xs S ws i 4
/-- The items of the words from i on. -/
def ownsC : Nat → List ByteArray → List ItemC
  | _, [] => []
  | i, s :: l => ownWC i s :: ownsC (i + 1) l
def wordsC (g : Gram) (S : List Term) (ws : List ByteArray) : Nat → List ByteArray → List ItemC
  | _, [] => []
  | i, s :: l => wordC g S ws i s ++ wordsC g S ws (i + 1) l
def tagsC (g : Gram) (S : List Term) (ws : List ByteArray) : List ItemC := ownsC 0 ws ++ wordsC g S ws 0 ws
def tagsE (g : Gram) (l : List Term) (lang : Int) (ws : List ByteArray) (t u : Int) : Int :=
  if checkG g ≠ 0 then checkG g else if standE l lang t u ≠ 0 then standE l lang t u else if 16 < ws.length then 2 else if ws.all wordB = false then 280
  else if 1024 < (tagsC g (standT l lang t u) ws).length then 2 else 0
theorem ownsC_snoc : ∀ (i : Nat) (l : List ByteArray) (s : ByteArray), ownsC i (l ++ [s]) = ownsC i l ++ [ownWC (i + l.length) s]
  | i, [], s => by simp [ownsC]
  | i, x :: l, s => by
    rw [List.cons_append, ownsC, ownsC, ownsC_snoc (i + 1) l s, List.length_cons, List.cons_append]
    rw [show i + 1 + l.length = i + (l.length + 1) by omega]
theorem wordsC_snoc (g : Gram) (S : List Term) (ws : List ByteArray) : ∀ (i : Nat) (l : List ByteArray) (s : ByteArray), wordsC g S ws i (l ++ [s]) = wordsC g S ws i l ++ wordC g S ws (i + l.length) s
  | i, [], s => by simp [wordsC]
  | i, x :: l, s => by
    rw [List.cons_append, wordsC, wordsC, wordsC_snoc g S ws (i + 1) l s, List.length_cons, List.append_assoc]
    rw [show i + 1 + l.length = i + (l.length + 1) by omega]
theorem ownsC_len : ∀ (i : Nat) (l : List ByteArray), (ownsC i l).length = l.length
  | i, [] => rfl
  | i, x :: l => by rw [ownsC, List.length_cons, ownsC_len (i + 1) l, List.length_cons]
theorem termC_len (cats : List ByteArray) (S : List Term) (ws : List ByteArray) (i many : Nat) : (termC cats S ws i many).length ≤ 1 := by
  unfold termC
  split <;> simp

/-! ### joined with spaces -/
theorem runes_sp : ∀ (n : Nat) (l : List UInt8), l.length ≤ n → (runes l).2 = true → (32 : UInt8) ∈ l → 32 ∈ (runes l).1
  | 0, l, hn, _, h => by
    have : l = [] := List.eq_nil_of_length_eq_zero (by omega)
    rw [this] at h; cases h
  | n + 1, l, hn, hr, h => by
    have hne : l ≠ [] := by rintro rfl; cases h
    have hge := dec_ge1 l
    have hlen : 0 < l.length := List.length_pos_iff.2 hne
    cases hb : badB (dec l)
    · rw [runes_good l hne hb] at hr ⊢
      simp only at hr ⊢
      have key : (32 : UInt8) ∈ l.drop (dec l).2 ∨ (dec l).1 = 32 := by
        by_cases h128 : byteAt l 0 < 128
        · rw [dec_low l h128]
          cases l with
          | nil => cases h
          | cons c t =>
            rcases List.mem_cons.1 h with e | h
            · right; subst e; rfl
            · left; exact h
        · left
          have hh := dec_high l (by omega)
          rw [← List.take_append_drop (dec l).2 l] at h
          rcases List.mem_append.1 h with h | h
          · exfalso
            obtain ⟨i, hi, he⟩ := List.getElem_of_mem h
            have hi2 : i < (dec l).2 ∧ i < l.length := by rw [List.length_take] at hi; omega
            have := hh i hi2.1
            unfold byteAt at this
            rw [List.getElem?_eq_getElem hi2.2] at this
            rw [List.getElem_take] at he
            rw [he] at this
            exact absurd this (by decide)
          · exact h
      rcases key with h1 | h1
      · exact List.mem_cons_of_mem _ (runes_sp n _ (by simp; omega) hr h1)
      · rw [h1]; exact List.mem_cons_self ..
    · rw [runes_bad l hne hb] at hr; cases hr
theorem word_sp {s : ByteArray} (h : wordB s = true) : (32 : UInt8) ∉ s.data.toList := by
  unfold wordB at h
  simp only [Bool.and_eq_true, Bool.not_eq_true', decide_eq_true_eq] at h
  intro h10
  have := runes_sp _ _ (Nat.le_refl _) h.1.2 h10
  have h2 := h.2
  rw [List.any_eq_false] at h2
  exact h2 32 this (by decide)
theorem split_sp {a b p q : List UInt8} (ha : (32 : UInt8) ∉ a) (hb : (32 : UInt8) ∉ b) (hp : p = [] ∨ ∃ p', p = 32 :: p') (hq : q = [] ∨ ∃ q', q = 32 :: q') (h : a ++ p = b ++ q) : a = b ∧ p = q := by
  induction a generalizing b with
  | nil =>
    cases b with
    | nil => exact ⟨rfl, h⟩
    | cons y b =>
      simp only [List.nil_append, List.cons_append] at h
      rcases hp with rfl | ⟨p', rfl⟩
      · cases h
      · simp only [List.cons.injEq] at h
        exact absurd (h.1 ▸ List.mem_cons_self ..) hb
  | cons x a ih =>
    cases b with
    | nil =>
      simp only [List.nil_append, List.cons_append] at h
      rcases hq with rfl | ⟨q', rfl⟩
      · cases h
      · simp only [List.cons.injEq] at h
        exact absurd (h.1 ▸ List.mem_cons_self ..) ha
    | cons y b =>
      simp only [List.cons_append, List.cons.injEq] at h
      obtain ⟨h1, h2⟩ := ih (fun h => ha (List.mem_cons_of_mem _ h)) (fun h => hb (List.mem_cons_of_mem _ h)) h.2
      exact ⟨by rw [h.1, h1], h2⟩
theorem tail_sp (r : List (List UInt8)) : Lib.joinTail [32] r = [] ∨ ∃ p', Lib.joinTail [32] r = 32 :: p' := by
  cases r with
  | nil => exact .inl rfl
  | cons x r => exact .inr ⟨_, rfl⟩
theorem tailsp_inj : ∀ (r r' : List (List UInt8)), (∀ x ∈ r, (32 : UInt8) ∉ x) → (∀ x ∈ r', (32 : UInt8) ∉ x) → Lib.joinTail [32] r = Lib.joinTail [32] r' → r = r'
  | [], [], _, _, _ => rfl
  | [], x :: r', _, _, h => by cases h
  | x :: r, [], _, _, h => by cases h
  | x :: r, y :: r', h1, h2, h => by
    have e : x ++ Lib.joinTail [32] r = y ++ Lib.joinTail [32] r' := by
      simpa [Lib.joinTail] using h
    obtain ⟨hx, hr⟩ := split_sp (h1 x (List.mem_cons_self ..)) (h2 y (List.mem_cons_self ..)) (tail_sp r) (tail_sp r') e
    rw [hx, tailsp_inj r r' (fun z hz => h1 z (List.mem_cons_of_mem _ hz)) (fun z hz => h2 z (List.mem_cons_of_mem _ hz)) hr]
theorem joinsp_inj {r r' : List (List UInt8)} (h1 : ∀ x ∈ r, (32 : UInt8) ∉ x) (h2 : ∀ x ∈ r', (32 : UInt8) ∉ x) (n1 : r ≠ []) (n2 : r' ≠ []) (h : Lib.join r [32] = Lib.join r' [32]) : r = r' := by
  cases r with
  | nil => exact absurd rfl n1
  | cons x r =>
    cases r' with
    | nil => exact absurd rfl n2
    | cons y r' =>
      rw [Lib.join_cons, Lib.join_cons] at h
      obtain ⟨hx, hr⟩ := split_sp (h1 x (List.mem_cons_self ..)) (h2 y (List.mem_cons_self ..)) (tail_sp r) (tail_sp r') h
      rw [hx, tailsp_inj r r' (fun z hz => h1 z (List.mem_cons_of_mem _ hz)) (fun z hz => h2 z (List.mem_cons_of_mem _ hz)) hr]
theorem joinsp_length (r : List (List UInt8)) (n : Nat) (h : ∀ x ∈ r, x.length ≤ n) : (Lib.join r [32]).length ≤ r.length * (n + 1) := by
  cases r with
  | nil => simp [Lib.join_nil]
  | cons x r =>
    rw [Lib.join_cons]
    have ht : ∀ q : List (List UInt8), (∀ x ∈ q, x.length ≤ n) → (Lib.joinTail [32] q).length ≤ q.length * (n + 1) := by
      intro q
      induction q with
      | nil => intro _; simp [Lib.joinTail]
      | cons y q ih =>
        intro hq
        have h1 := ih (fun z hz => hq z (List.mem_cons_of_mem _ hz))
        have h2 := hq y (List.mem_cons_self ..)
        have e : Lib.joinTail [32] (y :: q) = 32 :: (y ++ Lib.joinTail [32] q) := by simp [Lib.joinTail]
        rw [e]
        simp only [List.length_cons, List.length_append, Nat.add_mul, Nat.one_mul]
        omega
    have h1 := ht r (fun z hz => h z (List.mem_cons_of_mem _ hz))
    have h2 := h x (List.mem_cons_self ..)
    simp only [List.length_cons, List.length_append, Nat.add_mul, Nat.one_mul]
    omega
def keySp (xs : List ByteArray) : ByteArray := ⟨(Lib.join (xs.map (fun s => s.data.toList)) [32]).toArray⟩
theorem keySp_inj {xs ys : List ByteArray} (h1 : ∀ s ∈ xs, wordB s = true) (h2 : ∀ s ∈ ys, wordB s = true) (n1 : xs ≠ []) (n2 : ys ≠ []) (h : keySp xs = keySp ys) : xs = ys := by
  have h' : Lib.join (xs.map (fun s => s.data.toList)) [32] = Lib.join (ys.map (fun s => s.data.toList)) [32] := by
    have := congrArg (fun s : ByteArray => s.data.toList) h
    simpa [keySp] using this
  refine map_data_inj (joinsp_inj ?_ ?_ ?_ ?_ h')
  · intro x hx
    obtain ⟨s, hs, rfl⟩ := List.mem_map.1 hx
    exact word_sp (h1 s hs)
  · intro x hx
    obtain ⟨s, hs, rfl⟩ := List.mem_map.1 hx
    exact word_sp (h2 s hs)
  · intro h0; exact n1 (List.map_eq_nil_iff.1 h0)
  · intro h0; exact n2 (List.map_eq_nil_iff.1 h0)
theorem keySp_length {xs : List ByteArray} (h : ∀ s ∈ xs, wordB s = true) (h4 : xs.length ≤ 4) : (keySp xs).size ≤ 260 := by
  have := joinsp_length (xs.map (fun s => s.data.toList)) 64 (fun y hy => by
    obtain ⟨s, hs, rfl⟩ := List.mem_map.1 hy
    exact word_size (h s hs))
  have e : (keySp xs).size = (Lib.join (xs.map (fun s => s.data.toList)) [32]).length := by
    unfold keySp; rw [Lib.size_eq]
  rw [e]
  simp at this
  omega

/-! ### the map of the terms by their words -/
/-- What the map holds at a key, behind the terms p: the last one. -/
def termsF (p : List Term) (k : ByteArray) : Option Term := p.foldl (fun o y => if keySp y.src.xs = k then some y else o) none
theorem termsF_snoc (p : List Term) (y : Term) (k : ByteArray) : termsF (p ++ [y]) k = if keySp y.src.xs = k then some y else termsF p k := by
  unfold termsF; rw [List.foldl_append]; rfl
theorem termsF_spec : ∀ (p q : List Term) (k : ByteArray), (∀ x ∈ p ++ q, ∀ y ∈ p ++ q, keySp x.src.xs = keySp y.src.xs → x = y) → termsF p k = p.find? (fun x => decide (keySp x.src.xs = k)) →
    termsF (p ++ q) k = (p ++ q).find? (fun x => decide (keySp x.src.xs = k))
  | p, [], k, _, h => by simpa using h
  | p, y :: q, k, hu, h => by
    have e : p ++ y :: q = (p ++ [y]) ++ q := by simp
    rw [e] at hu ⊢
    refine termsF_spec (p ++ [y]) q k hu ?_
    rw [termsF_snoc, List.find?_append, h]
    by_cases hk : keySp y.src.xs = k
    · rw [if_pos hk]
      cases hf : p.find? (fun x => decide (keySp x.src.xs = k)) with
      | none => simp [hk]
      | some x =>
        have hx := List.find?_some hf
        have hm := List.mem_of_find?_eq_some hf
        simp only [decide_eq_true_eq] at hx
        have := hu x (by simp [hm]) y (by simp) (hx.trans hk.symm)
        subst this; rfl
    · rw [if_neg hk]
      cases hf : p.find? (fun x => decide (keySp x.src.xs = k)) <;> simp [hk]
theorem find_congrT {p q : Term → Bool} : ∀ {l : List Term}, (∀ x ∈ l, p x = q x) → l.find? p = l.find? q
  | [], _ => rfl
  | x :: l, h => by
    rw [List.find?_cons, List.find?_cons, h x (List.mem_cons_self ..), find_congrT fun y hy => h y (List.mem_cons_of_mem _ hy)]
theorem termsF_find {S : List Term} (hu : ∀ x ∈ S, ∀ y ∈ S, x.src.xs = y.src.xs → x = y) (hok : ∀ x ∈ S, x.ok = true) {ws : List ByteArray} (hw : ∀ s ∈ ws, wordB s = true) {i many : Nat} (h0 : 0 < many) (hi : i + many ≤ ws.length) :
    termsF S (keySp ((ws.drop i).take many)) = S.find? (fun x => decide (x.src.xs.length = many) && startB x (ws.drop i)) := by
  have hsl : ((ws.drop i).take many).length = many := by simp; omega
  have hsw : ∀ s ∈ (ws.drop i).take many, wordB s = true := fun s hs => hw s (List.mem_of_mem_drop (List.mem_of_mem_take hs))
  have hsn : (ws.drop i).take many ≠ [] := fun e => by rw [e] at hsl; simp at hsl; omega
  have src : ∀ x ∈ S, (∀ s ∈ x.src.xs, wordB s = true) ∧ x.src.xs ≠ [] := fun x hx => by
    obtain ⟨a1, _, a3⟩ := ok_src (hok x hx)
    exact ⟨a3, fun e => by rw [e] at a1; simp at a1⟩
  have h1 := termsF_spec [] S (keySp ((ws.drop i).take many)) (by
    intro x hx y hy he
    simp only [List.nil_append] at hx hy
    exact hu x hx y hy (keySp_inj (src x hx).1 (src y hy).1 (src x hx).2 (src y hy).2 he)) rfl
  simp only [List.nil_append] at h1
  rw [h1]
  refine find_congrT fun x hx => ?_
  have hxs := src x hx
  rw [Bool.eq_iff_iff]
  simp only [Bool.and_eq_true, decide_eq_true_eq, startB]
  constructor
  · intro he
    have e := keySp_inj hxs.1 hsw hxs.2 hsn he
    rw [e]
    exact ⟨hsl, by rw [hsl]⟩
  · rintro ⟨e1, e2⟩
    rw [e1] at e2
    rw [e2]
/-- Terms that stand in one language differ in their words. -/
theorem standT_src {l : List Term} {lang t u : Int} (hs : l.Pairwise (fun a b => a.no < b.no)) : ∀ x ∈ standT l lang t u, ∀ y ∈ standT l lang t u, x.src.xs = y.src.xs → x = y := by
  intro x hx y hy he
  obtain ⟨x1, x2⟩ := List.mem_filter.1 hx
  obtain ⟨y1, y2⟩ := List.mem_filter.1 hy
  simp only [standsB, Bool.and_eq_true, Bool.not_eq_true', decide_eq_true_eq] at x2 y2
  obtain ⟨xl, ⟨_, xc⟩, xa⟩ := x2
  obtain ⟨yl, ⟨_, yc⟩, ya⟩ := y2
  have a1 : aboutB x y = true := by unfold aboutB; simp [xl, yl, he]
  have a2 : aboutB y x = true := by unfold aboutB; simp [xl, yl, he]
  have h1 : laterB x y = false := by
    rw [List.any_eq_false] at ya
    have := ya x x1
    simpa [a1, xc] using this
  have h2 : laterB y x = false := by
    rw [List.any_eq_false] at xa
    have := xa y y1
    simpa [a2, yc] using this
  refine no_inj hs x1 y1 ?_
  unfold laterB at h1 h2
  simp only [Bool.or_eq_false_iff, Bool.and_eq_false_imp, decide_eq_false_iff_not, decide_eq_true_eq] at h1 h2
  have := h1.1
  have := h2.1
  have e : x.at_ = y.at_ := by omega
  have := h1.2 e
  have := h2.2 e.symm
  omega
/-- The term that the map tells, if its category is known. -/
theorem pickC_map {S : List Term} (hu : ∀ x ∈ S, ∀ y ∈ S, x.src.xs = y.src.xs → x = y) (hok : ∀ x ∈ S, x.ok = true) {ws : List ByteArray} (hw : ∀ s ∈ ws, wordB s = true) (cats : List ByteArray) {i many : Nat} (h0 : 0 < many) (hi : i + many ≤ ws.length) :
    pickC cats S ws i many = (termsF S (keySp ((ws.drop i).take many))).bind fun x => if catB cats x.cat = true then some x else none := by
  rw [termsF_find hu hok hw h0 hi]
  unfold pickC
  have key : ∀ l : List Term, (∀ x ∈ l, ∀ y ∈ l, x.src.xs = y.src.xs → x = y) → l.find? (fun x => decide (x.src.xs.length = many) && startB x (ws.drop i) && catB cats x.cat) = (l.find? (fun x => decide (x.src.xs.length = many) && startB x (ws.drop i))).bind fun x => if catB cats x.cat = true then some x else none := by
    intro l
    induction l with
    | nil => intro _; rfl
    | cons x l ih =>
      intro hu
      rw [List.find?_cons, List.find?_cons]
      cases hp : (decide (x.src.xs.length = many) && startB x (ws.drop i))
      · rw [Bool.false_and]
        exact ih fun a ha b hb => hu a (List.mem_cons_of_mem _ ha) b (List.mem_cons_of_mem _ hb)
      · rw [Bool.true_and]
        cases hc : catB cats x.cat
        · simp only [Option.bind_some, hc]
          rw [if_neg (by decide), List.find?_eq_none]
          · intro y hy hq
            simp only [Bool.and_eq_true, decide_eq_true_eq, startB] at hp hq
            have e : x.src.xs = y.src.xs := by rw [← hp.2, ← hq.1.2, hp.1, hq.1.1]
            have := hu x (List.mem_cons_self ..) y (List.mem_cons_of_mem _ hy) e
            subst this
            rw [hc] at hq; cases hq.2
        · simp [hc]
  exact key S hu
theorem pickC_long (cats : List ByteArray) (S : List Term) {ws : List ByteArray} {i many : Nat} (h0 : 0 < many) (hi : ws.length < i + many) : pickC cats S ws i many = none := by
  unfold pickC
  rw [List.find?_eq_none]
  intro x _ h
  simp only [Bool.and_eq_true, decide_eq_true_eq, startB] at h
  have := congrArg List.length h.1.2
  rw [List.length_take, List.length_drop] at this
  have := h.1.1
  omega
end Go.Proofs.YthojaplnimoacaaGreatDoor

/- slices.Clone at entries, rules and parts. -/
namespace Go.Proofs.YthojaplnimoacaaGreatDoor
open Go.RowKit Go.Han
attribute [local irreducible] wpStill wpQuiet
set_option maxRecDepth 100000

def ClonePostG {α : Type} (f : α → List Value) (E sz : Nat) (l : List α) (w : World) (e : Ending) (w' : World) : Prop := ∃ v', e = .returned v' ∧ OwnL f E sz w' w.heap.size v' l ∧ Below w.heap.size w w'
set_option maxHeartbeats 1000000 in
theorem cloneE_any (A : Option Addr) (c : Nat) (l : List EntryG) (w : World) (hr : Rd w A (l.flatMap EntryG.cells)) (hA : A = none → l = []) (hm : l.length ≤ 1000000) :
    Calls Tryz.prog 160 #[.slice A l.length c] w (ClonePostG EntryG.cells 70 5 l w) := by
  obtain ⟨i0, z, hi0, hz0, hzs, hs0, hb0⟩ := info_of info_ent
  have hfl : (l.flatMap EntryG.cells).length = l.length * 5 := flat_len EntryG.cells 5 EntryG.size_cells l
  have hone : ∀ u ∈ l.flatMap EntryG.cells, u.oneCell' = true := by
    intro u hu
    obtain ⟨x, _, hx⟩ := List.mem_flatMap.1 hu
    exact ent_one x u hx
  have q22 : ∀ (w : World) (a : Option Addr) (n c n' c' : Nat), (binOp .eql 23 (.slice a n c) (.slice none n' c')).run Tryz.prog w = .ok (.bool a.isNone) w := fun w a n c n' c' => Lib.run_eql_slice_nil w _ _ a n c n' c' Tryz.underlying23
  cases A with
  | none =>
    have hl := hA rfl
    subst hl
    go_enter Tryz.func160, Tryz.ntmps160
    go_wp2
    go_ret
    exact ⟨_, rfl, OwnL.nil _ _ _ _ _, Below.refl _ _⟩
  | some a =>
    have hcs : ∀ (j : Nat) (u : Value), (l.flatMap EntryG.cells)[j]? = some u → w.cell? (a.add j) = some u := by
      intro j u hu
      rcases hr with h | ⟨b, off, he, _, hc⟩
      · rw [h] at hu; cases hu
      · cases he
        rw [show (⟨b, off, none⟩ : Addr).add j = ⟨b, off + j, none⟩ from by unfold Addr.add; split <;> simp_all]
        exact hc j u hu
    have Hcs := Lib.hid hcs
    clear hcs hr hA
    go_enter Tryz.func160, Tryz.ntmps160
    go_wp2_with (at_builtin; refine wpList_append_own _ rfl _ _ 23 rfl w.heap.size 70 i0 z 5 72 Tryz.underlying23 hi0 hz0 hs0 hb0 hzs (by decide) _ _ _ rfl (World.ownsRow_made w #[] 0 (Nat.le_refl _) (Nat.zero_le _) rfl) a l.length c (l.flatMap EntryG.cells) rfl hfl (fun j u hu => Lib.cell?_alloc_some _ (Hcs.out j u hu)) hone (by unfold maxLen; omega) (by omega) (by simp) ?_)
    intro v' w1 hown hgrow hnil
    go_wp2
    go_ret
    refine ⟨v', rfl, by simpa [OwnL] using hown, ?_⟩
    exact ((Below.refl _ w).alloc (Nat.le_refl _) _).grown hgrow (by simp) (by intro k hk; simp [Value.ownBlock] at hk; omega)
set_option maxHeartbeats 1000000 in
theorem cloneR_any (A : Option Addr) (c : Nat) (l : List RuleG) (w : World) (hr : Rd w A (l.flatMap RuleG.cells)) (hA : A = none → l = []) (hm : l.length ≤ 1000000) :
    Calls Tryz.prog 161 #[.slice A l.length c] w (ClonePostG RuleG.cells 104 5 l w) := by
  obtain ⟨i0, z, hi0, hz0, hzs, hs0, hb0⟩ := info_of info_rul
  have hfl : (l.flatMap RuleG.cells).length = l.length * 5 := flat_len RuleG.cells 5 RuleG.size_cells l
  have hone : ∀ u ∈ l.flatMap RuleG.cells, u.oneCell' = true := by
    intro u hu
    obtain ⟨x, _, hx⟩ := List.mem_flatMap.1 hu
    exact rul_one x u hx
  have q22 : ∀ (w : World) (a : Option Addr) (n c n' c' : Nat), (binOp .eql 24 (.slice a n c) (.slice none n' c')).run Tryz.prog w = .ok (.bool a.isNone) w := fun w a n c n' c' => Lib.run_eql_slice_nil w _ _ a n c n' c' Tryz.underlying24
  cases A with
  | none =>
    have hl := hA rfl
    subst hl
    go_enter Tryz.func161, Tryz.ntmps161
    go_wp2
    go_ret
    exact ⟨_, rfl, OwnL.nil _ _ _ _ _, Below.refl _ _⟩
  | some a =>
    have hcs : ∀ (j : Nat) (u : Value), (l.flatMap RuleG.cells)[j]? = some u → w.cell? (a.add j) = some u := by
      intro j u hu
      rcases hr with h | ⟨b, off, he, _, hc⟩
      · rw [h] at hu; cases hu
      · cases he
        rw [show (⟨b, off, none⟩ : Addr).add j = ⟨b, off + j, none⟩ from by unfold Addr.add; split <;> simp_all]
        exact hc j u hu
    have Hcs := Lib.hid hcs
    clear hcs hr hA
    go_enter Tryz.func161, Tryz.ntmps161
    go_wp2_with (at_builtin; refine wpList_append_own _ rfl _ _ 24 rfl w.heap.size 104 i0 z 5 80 Tryz.underlying24 hi0 hz0 hs0 hb0 hzs (by decide) _ _ _ rfl (World.ownsRow_made w #[] 0 (Nat.le_refl _) (Nat.zero_le _) rfl) a l.length c (l.flatMap RuleG.cells) rfl hfl (fun j u hu => Lib.cell?_alloc_some _ (Hcs.out j u hu)) hone (by unfold maxLen; omega) (by omega) (by simp) ?_)
    intro v' w1 hown hgrow hnil
    go_wp2
    go_ret
    refine ⟨v', rfl, by simpa [OwnL] using hown, ?_⟩
    exact ((Below.refl _ w).alloc (Nat.le_refl _) _).grown hgrow (by simp) (by intro k hk; simp [Value.ownBlock] at hk; omega)
set_option maxHeartbeats 1000000 in
theorem cloneP_any (A : Option Addr) (c : Nat) (l : List PartG) (w : World) (hr : Rd w A (l.flatMap PartG.cells)) (hA : A = none → l = []) (hm : l.length ≤ 1000000) :
    Calls Tryz.prog 162 #[.slice A l.length c] w (ClonePostG PartG.cells 150 3 l w) := by
  obtain ⟨i0, z, hi0, hz0, hzs, hs0, hb0⟩ := info_of info_prt
  have hfl : (l.flatMap PartG.cells).length = l.length * 3 := flat_len PartG.cells 3 PartG.size_cells l
  have hone : ∀ u ∈ l.flatMap PartG.cells, u.oneCell' = true := by
    intro u hu
    obtain ⟨x, _, hx⟩ := List.mem_flatMap.1 hu
    exact prt_one x u hx
  have q22 : ∀ (w : World) (a : Option Addr) (n c n' c' : Nat), (binOp .eql 101 (.slice a n c) (.slice none n' c')).run Tryz.prog w = .ok (.bool a.isNone) w := fun w a n c n' c' => Lib.run_eql_slice_nil w _ _ a n c n' c' Tryz.underlying101
  cases A with
  | none =>
    have hl := hA rfl
    subst hl
    go_enter Tryz.func162, Tryz.ntmps162
    go_wp2
    go_ret
    exact ⟨_, rfl, OwnL.nil _ _ _ _ _, Below.refl _ _⟩
  | some a =>
    have hcs : ∀ (j : Nat) (u : Value), (l.flatMap PartG.cells)[j]? = some u → w.cell? (a.add j) = some u := by
      intro j u hu
      rcases hr with h | ⟨b, off, he, _, hc⟩
      · rw [h] at hu; cases hu
      · cases he
        rw [show (⟨b, off, none⟩ : Addr).add j = ⟨b, off + j, none⟩ from by unfold Addr.add; split <;> simp_all]
        exact hc j u hu
    have Hcs := Lib.hid hcs
    clear hcs hr hA
    go_enter Tryz.func162, Tryz.ntmps162
    go_wp2_with (at_builtin; refine wpList_append_own _ rfl _ _ 101 rfl w.heap.size 150 i0 z 3 40 Tryz.underlying101 hi0 hz0 hs0 hb0 hzs (by decide) _ _ _ rfl (World.ownsRow_made w #[] 0 (Nat.le_refl _) (Nat.zero_le _) rfl) a l.length c (l.flatMap PartG.cells) rfl hfl (fun j u hu => Lib.cell?_alloc_some _ (Hcs.out j u hu)) hone (by unfold maxLen; omega) (by omega) (by simp) ?_)
    intro v' w1 hown hgrow hnil
    go_wp2
    go_ret
    refine ⟨v', rfl, by simpa [OwnL] using hown, ?_⟩
    exact ((Below.refl _ w).alloc (Nat.le_refl _) _).grown hgrow (by simp) (by intro k hk; simp [Value.ownBlock] at hk; omega)
end Go.Proofs.YthojaplnimoacaaGreatDoor

/- One's own rows: an element's cell is set. Conditions: none; plain facts. -/
namespace Go.Proofs.YthojaplnimoacaaGreatDoor
open Go.RowKit Go.Han
set_option maxRecDepth 100000

theorem own_setG {w : World} {base e size n g j : Nat} {v : Value} {xs : List Value} (h : w.ownsRow base e size v n xs) (hg : v.ownBlock = some g) (u : Value) : (w.setCell ⟨g, j, none⟩ u).ownsRow base e size v n (xs.set j u) := by
  rcases h.2 with ⟨rfl, _⟩ | ⟨g', cap, cur, rfl, hb, hc, hn, hm, hs, ht⟩
  · cases hg
  · obtain rfl : g' = g := by simpa [Value.ownBlock] using hg
    refine ⟨by simp [h.1], .inr ⟨g', cap, cur.setIfInBounds j u, rfl, hb, heap_setCell_same _ _ _ _ _ _ hc, hn, hm, by simp [hs], ?_⟩⟩
    rw [Array.toList_setIfInBounds, List.take_set, ht]
theorem row_set {α : Type} {f : α → List Value} {E sz : Nat} (hf : ∀ x, (f x).length = sz) {w : World} {base : Nat} {g n c : Nat} {P S : List α} {x x' : α} {k j : Nat} {u : Value} (h : OwnL f E sz w base (.slice (some ⟨g, 0, none⟩) n c) (P ++ x :: S)) (hP : P.length = k) (hj : j < sz) (hx : (f x).set j u = f x') :
    OwnL f E sz (w.setCell ⟨g, k * sz + j, none⟩ u) base (.slice (some ⟨g, 0, none⟩) n c) (P ++ x' :: S) := by
  have h2 := own_setG (j := k * sz + j) h rfl u
  unfold OwnL
  have hl : (P ++ x' :: S).length = (P ++ x :: S).length := by simp
  have hfl : (P.flatMap f).length = k * sz := by rw [flat_len f sz hf, hP]
  have he : ((P ++ x :: S).flatMap f).set (k * sz + j) u = (P ++ x' :: S).flatMap f := by
    rw [List.flatMap_append, List.flatMap_append, List.flatMap_cons, List.flatMap_cons, List.set_append, if_neg (by omega), hfl, Nat.add_sub_cancel_left, List.set_append, if_pos (by rw [hf]; exact hj), hx]
  rw [hl, ← he]
  exact h2
/-- Where an element lies. -/
theorem row_at {α : Type} {f : α → List Value} {E sz : Nat} (hf : ∀ x, (f x).length = sz) {w : World} {base : Nat} {A : Option Addr} {n c : Nat} {P S : List α} {x : α} {k : Nat} (h : OwnL f E sz w base (.slice A n c) (P ++ x :: S)) (hP : P.length = k) :
    ∃ g cur, A = some ⟨g, 0, none⟩ ∧ base ≤ g ∧ w.heap[g]? = some (.cells cur E (0, 0)) ∧ ∀ (j : Nat) (u : Value), (f x)[j]? = some u → w.cell? ⟨g, k * sz + j, none⟩ = some u := by
  have hk : k < (P ++ x :: S).length := by simp; omega
  rcases h.2 with ⟨h1, h2⟩ | ⟨g, cap, cur, hv, hb, hk', _, _, _, h4⟩
  · omega
  · cases hv
    refine ⟨g, cur, rfl, hb, hk', fun j u hu => ?_⟩
    have hjl : j < sz := by have := (List.getElem?_eq_some_iff.1 hu).1; rw [hf] at this; exact this
    have hfl : (P.flatMap f).length = k * sz := by rw [flat_len f sz hf, hP]
    have h5 : ((P ++ x :: S).flatMap f)[k * sz + j]? = some u := by
      rw [List.flatMap_append, List.getElem?_append_right (by omega), hfl, Nat.add_sub_cancel_left, List.flatMap_cons, List.getElem?_append_left (by rw [hf]; exact hjl)]
      exact hu
    rw [← h4, List.getElem?_take] at h5
    split at h5
    · simp [World.cell?, hk']; simpa using h5
    · cases h5
theorem OwnL.kind {α : Type} {f : α → List Value} {E sz : Nat} {w : World} {base : Nat} {v : Value} {l : List α} (h : OwnL f E sz w base v l) {g : Nat} (hg : v.ownBlock = some g) : ∃ cur, w.heap[g]? = some (.cells cur E (0, 0)) := by
  rcases h.2 with ⟨rfl, _⟩ | ⟨g', cap, cur, rfl, _, hk, _⟩
  · cases hg
  · cases hg; exact ⟨cur, hk⟩
/-- Rows of different types lie apart. -/
theorem own_apart {α β : Type} {f : α → List Value} {f' : β → List Value} {E E' sz sz' : Nat} {w : World} {base base' : Nat} {v v' : Value} {l : List α} {l' : List β} (h : OwnL f E sz w base v l) (h' : OwnL f' E' sz' w base' v' l') (hE : E ≠ E') {g g' : Nat} (hg : v.ownBlock = some g) (hg' : v'.ownBlock = some g') : g ≠ g' := by
  rintro rfl
  obtain ⟨c1, h1⟩ := OwnL.kind h hg
  obtain ⟨c2, h2⟩ := OwnL.kind h' hg'
  rw [h1] at h2
  cases h2
  exact hE rfl
end Go.Proofs.YthojaplnimoacaaGreatDoor

/- Items as they lie in a call's own row; slices.AppendSeq at items. -/
namespace Go.Proofs.YthojaplnimoacaaGreatDoor
open Go.RowKit Go.Han
attribute [local irreducible] wpStill wpQuiet
attribute [local go_sem] Oper.semAt_some
set_option maxRecDepth 100000

theorem info_item : (Tryz.prog.info? 47).map (fun i => (i.size, i.bytes)) = some (6, 64) := by kernel_rfl
theorem zero_item : ((Tryz.prog.info? 47).bind (fun i => i.zero)).map (fun z => z.cells.size) = some 6 := by kernel_rfl
theorem parts_item : ∃ i z, Tryz.prog.info? 47 = some i ∧ i.zero = some z ∧ i.size = 6 ∧ i.bytes = 64 ∧ z.cells.size = 6 := by
  have h1 := info_item
  have h2 := zero_item
  cases h : Tryz.prog.info? 47 with
  | none => rw [h] at h1; cases h1
  | some i =>
    rw [h] at h1 h2
    cases hz : i.zero with
    | none => simp [hz] at h2
    | some z =>
      simp [hz] at h1 h2
      exact ⟨i, z, rfl, hz, h1.1, h1.2, h2⟩
/-- Texts that lie below B, or in a block of texts. -/
def FarI (B : Nat) (V : World) (t : StrS) : Prop := t.lies V ∧ (t.xs = [] ∨ ∀ p, t.addr = some p → (p.block < B ∨ ∃ cs, V.heap[p.block]? = some (.cells cs 9 (0, 0))))
theorem rd_same {V V' : World} {A : Option Addr} {xs : List Value} (h : Rd V A xs) (hs : V.heap.size ≤ V'.heap.size) (hb : ∀ a, A = some a → V'.heap[a.block]? = V.heap[a.block]?) : Rd V' A xs := by
  rcases h with h | ⟨b, off, rfl, hlt, hc⟩
  · exact .inl h
  · exact .inr ⟨b, off, rfl, Nat.lt_of_lt_of_le hlt hs, fun j u hu => (World.cell?_of_block (w := V) (a := ⟨b, off + j, none⟩) (hb ⟨b, off, none⟩ rfl)).trans (hc j u hu)⟩
theorem FarI.same {B : Nat} {V V' : World} {t : StrS} (h : FarI B V t) (hs : V.heap.size ≤ V'.heap.size) (hb : ∀ k, (k < B ∨ ∃ cs, V.heap[k]? = some (.cells cs 9 (0, 0))) → V'.heap[k]? = V.heap[k]?) : FarI B V' t :=
  ⟨⟨(h.2.elim (fun e => .inl (by rw [e]; rfl)) fun h2 => rd_same h.1.rd hs fun a ha => hb _ (h2 a ha)), h.1.cap, h.1.max, h.1.nil⟩, h.2.imp id fun h2 p hp => (h2 p hp).imp id fun ⟨cs, hc⟩ => ⟨cs, (hb _ (.inr ⟨cs, hc⟩)).trans hc⟩⟩
theorem FarI.ext {B : Nat} {V V' : World} {t : StrS} (h : FarI B V t) (hB : B ≤ V.heap.size) (hb : Below V.heap.size V V') : FarI B V' t :=
  h.same hb.size fun k hk => hb.block k (by rcases hk with h | ⟨cs, h⟩; omega; exact lt_block h)
theorem FarI.grown {B : Nat} {V V' : World} {t : StrS} {v : Value} {L : List ItemG} (h : FarI B V t) (ho : OwnL ItemG.cells 47 6 V B v L) (hB : B ≤ V.heap.size) (hg : V.grownBy V' v.ownBlock) : FarI B V' t :=
  h.same hg.size fun k hk => hg.block k (by rcases hk with h | ⟨cs, h⟩; omega; exact lt_block h) (fun e => by
    rcases hk with h | ⟨cs, h⟩
    · have := (ho.lt k e.symm).1; omega
    · obtain ⟨cur, hc⟩ := OwnL.kind ho e.symm
      rw [h] at hc
      cases hc)
theorem FarI.box {B : Nat} {V : World} {t : StrS} {b T : Nat} {cs : Array Value} {fr : Nat × Nat} (h : FarI B V t) (hb : V.heap[b]? = some (.cells cs T fr)) (hT : T ≠ 9) (hB : B ≤ b) (j : Nat) (v : Value) : FarI B (V.setCell ⟨b, j, none⟩ v) t :=
  h.same (by simp [World.setCell]) fun k hk => Below.heap_setCell _ _ _ _ (by
    rintro rfl
    rcases hk with h | ⟨cs', h⟩
    · omega
    · have h' := hb.symm.trans h
      simp only [Option.some.injEq, Obj.cells.injEq] at h'
      exact hT h'.2.1)
theorem FarI.one {B : Nat} {V V' : World} {t : StrS} {l : Nat} {o : Obj} (h : FarI B V t) (hl : B ≤ l) (ho : V.heap[l]? = some o) (hn : NoCells o) (hs : OneStep l V V') : FarI B V' t :=
  h.same (by rw [hs.size]; exact Nat.le_refl _) fun k hk => hs.block k (by
    rintro rfl
    rcases hk with h | ⟨cs, h⟩
    · omega
    · rw [h] at ho; exact hn _ _ _ (Option.some.inj ho).symm)
theorem FarI.low {V : World} {t : StrS} {w : World} (hw : t.lies w) (hb : ∀ k, k < w.heap.size → V.heap[k]? = w.heap[k]?) (hs : w.heap.size ≤ V.heap.size) : FarI w.heap.size V t := by
  rcases hw.rd with h | ⟨b, off, he, hlt, hc⟩
  · exact ⟨⟨.inl h, hw.cap, hw.max, hw.nil⟩, .inl (by simpa [strs] using h)⟩
  · have ha : ∀ p, t.addr = some p → p.block < w.heap.size := fun p hp => by rw [he] at hp; cases hp; exact hlt
    exact ⟨⟨rd_same hw.rd hs (fun a h => hb _ (ha a h)), hw.cap, hw.max, hw.nil⟩, .inr fun p hp => .inl (ha p hp)⟩
/-- How an item lies when it is yielded. -/
def EncI (B : Nat) (x : ItemC) (vs : Array Value) (V : World) : Prop := ∃ y : ItemG, y.c = x ∧ vs = #[.agg #[.int .i64 y.cat, .int .i64 y.frm, .int .i64 y.unt, .int .i64 y.cost, .slice y.tgt.addr y.tgt.xs.length y.tgt.cap, .int .i64 y.term]] ∧ FarI B V y.tgt
/-- Between two rounds: the box holds the row, with what has come. -/
def SeqI (B n0 : Nat) (v0 : Value) (L : List ItemG) (w : World) (pre : List ItemC) (V : World) : Prop :=
  ∃ v L', Boxed V n0 27 v ∧ OwnL ItemG.cells 47 6 V B v (L ++ L') ∧ L'.map ItemG.c = pre ∧ (∀ x ∈ L ++ L', FarI B V x.tgt) ∧ Only (fun k => v0.ownBlock = some k) w V ∧ (v.ownBlock = v0.ownBlock ∨ ∀ g, v.ownBlock = some g → w.heap.size ≤ g)
theorem seqI_below {B n0 : Nat} {v0 : Value} {L : List ItemG} {w V V' : World} {pre : List ItemC} (hB : B ≤ w.heap.size) (h : SeqI B n0 v0 L w pre V) (hb : Below V.heap.size V V') : SeqI B n0 v0 L w pre V' := by
  obtain ⟨v, L', h1, h2, h3, h4, h5, h6⟩ := h
  have hs := h5.size
  exact ⟨v, L', (hb.block _ h1.lt).trans h1, h2.ext hb, h3, fun x hx => (h4 x hx).ext (by omega) hb, h5.ext hb, h6⟩
theorem seqI_one {B n0 : Nat} {v0 : Value} {L : List ItemG} {w V V' : World} {pre : List ItemC} {l : Nat} {o : Obj} (hB : B ≤ w.heap.size) (h : SeqI B n0 v0 L w pre V) (hl : w.heap.size ≤ l) (ho : V.heap[l]? = some o) (hn : NoCells o) (hs : OneStep l V V') : SeqI B n0 v0 L w pre V' := by
  obtain ⟨v, L', h1, h2, h3, h4, h5, h6⟩ := h
  have hc : ∀ {k T : Nat} {cs : Array Value} {fr : Nat × Nat}, V.heap[k]? = some (Obj.cells cs T fr) → V'.heap[k]? = some (Obj.cells cs T fr) := fun hk => (hs.block _ (by rintro rfl; rw [ho] at hk; exact hn _ _ _ (Option.some.inj hk))).trans hk
  refine ⟨v, L', hc h1, h2.block fun g hg => ?_, h3, fun x hx => (h4 x hx).one (by omega) ho hn hs, ⟨hs.os.trans h5.os, hs.tape.trans h5.tape, hs.output.trans h5.output, by rw [hs.size]; exact h5.size, fun k hk hnk => (hs.block k (by omega)).trans (h5.block k hk hnk)⟩, h6⟩
  obtain ⟨cur, hk⟩ := OwnL.kind h2 hg
  exact (hc hk).trans hk.symm

def AppPost (B : Nat) (v0 : Value) (L : List ItemG) (xs : List ItemC) (w : World) (e : Ending) (V : World) : Prop :=
  ∃ v L', e = .returned v ∧ OwnL ItemG.cells 47 6 V B v (L ++ L') ∧ L'.map ItemG.c = xs ∧ (∀ x ∈ L ++ L', FarI B V x.tgt) ∧ Only (fun k => v0.ownBlock = some k) w V
/-- Behind the assignment: the item is boxed. -/
def SeqA (B n0 : Nat) (v0 : Value) (L : List ItemG) (w : World) (F : Value → Value → Array Value) (x : ItemC) (a' : Act) (pre : List ItemC) (V : World) : Prop :=
  ∃ (y : ItemG) (bx : Nat), y.c = x ∧ a' = { tmps := F (.pointer (some ⟨bx, 0, none⟩)) (.agg #[.int .i64 y.cat, .int .i64 y.frm, .int .i64 y.unt, .int .i64 y.cost, .slice y.tgt.addr y.tgt.xs.length y.tgt.cap, .int .i64 y.term]), defers := [] } ∧ V.heap[bx]? = some (.cells #[.int .i64 y.cat, .int .i64 y.frm, .int .i64 y.unt, .int .i64 y.cost, .slice y.tgt.addr y.tgt.xs.length y.tgt.cap, .int .i64 y.term] 47 (0, 0)) ∧ n0 < bx ∧ FarI B V y.tgt ∧ SeqI B n0 v0 L w pre V
theorem only_grown {M : Nat → Prop} {w V V' : World} {row : Option Nat} (h : Only M w V) (hg : V.grownBy V' row) (hr : ∀ g, row = some g → M g ∨ w.heap.size ≤ g) : Only M w V' :=
  ⟨hg.os.trans h.os, hg.tape.trans h.tape, hg.output.trans h.output, Nat.le_trans h.size hg.size, fun k hk hn => (hg.block k (Nat.lt_of_lt_of_le hk h.size) (fun e => by rcases hr k e.symm with h1 | h1; exact hn h1; omega)).trans (h.block k hk hn)⟩
theorem seq_step {B : Nat} {v0 : Value} {L M : List ItemG} {L' : List ItemG} {w W w1 : World} {v v' : Value} {y : ItemG} {pre : List ItemC} (hM : L ++ L' = M) (hB : B ≤ w.heap.size) 
    (hown : OwnL ItemG.cells 47 6 W B v M) (hmap : L'.map ItemG.c = pre) (hfar : ∀ x ∈ M, FarI B W x.tgt) (hfy : FarI B W y.tgt) (hon : Only (fun k => v0.ownBlock = some k) w W) (hblk : v.ownBlock = v0.ownBlock ∨ ∀ g, v.ownBlock = some g → w.heap.size ≤ g)
    (hgrow : (W.alloc (.cells #[.int .i64 y.cat, .int .i64 y.frm, .int .i64 y.unt, .int .i64 y.cost, .slice y.tgt.addr y.tgt.xs.length y.tgt.cap, .int .i64 y.term] 47)).grownBy w1 v.ownBlock) (hat : v'.ownBlock = v.ownBlock ∨ v'.ownBlock = some (W.alloc (.cells #[.int .i64 y.cat, .int .i64 y.frm, .int .i64 y.unt, .int .i64 y.cost, .slice y.tgt.addr y.tgt.xs.length y.tgt.cap, .int .i64 y.term] 47)).heap.size) (hv1 : Boxed w1 w.heap.size 27 v)
    (hv2 : Boxed (w1.setCell ⟨w.heap.size, 0, none⟩ v') w.heap.size 27 v') (hr2 : (w1.setCell ⟨w.heap.size, 0, none⟩ v').ownsRow B 47 6 v' (M.length + 1) (M.flatMap ItemG.cells ++ [.int .i64 y.cat, .int .i64 y.frm, .int .i64 y.unt, .int .i64 y.cost, .slice y.tgt.addr y.tgt.xs.length y.tgt.cap, .int .i64 y.term])) :
    KeepsX W (w1.setCell ⟨w.heap.size, 0, none⟩ v') ∧ SeqI B w.heap.size v0 L w (pre ++ [y.c]) (w1.setCell ⟨w.heap.size, 0, none⟩ v') := by
  have hba : Below W.heap.size W (W.alloc (.cells #[.int .i64 y.cat, .int .i64 y.frm, .int .i64 y.unt, .int .i64 y.cost, .slice y.tgt.addr y.tgt.xs.length y.tgt.cap, .int .i64 y.term] 47)) := ext_alloc (Below.refl _ _) _
  have hos := hon.size
  have hoa := hown.ext hba
  have hrow : ∀ g, v.ownBlock = some g → v0.ownBlock = some g ∨ w.heap.size ≤ g := fun g hg => by
    rcases hblk with h | h
    · exact .inl (h ▸ hg)
    · exact .inr (h g hg)
  have far : ∀ t : StrS, FarI B W t → FarI B (w1.setCell ⟨w.heap.size, 0, none⟩ v') t := fun t ht =>
    FarI.box ((ht.ext (by omega) hba).grown hoa (by simp; omega) hgrow) hv1 (by decide) hB 0 v'
  refine ⟨((KeepsX.below hba).trans (KeepsX.grown hgrow fun g hg => ?_)).trans (KeepsX.setCell hv1 0 v'), v', L' ++ [y], hv2, ?_, by rw [List.map_append, hmap]; rfl, ?_, ?_, ?_⟩
  · obtain ⟨cur, hc⟩ := OwnL.kind hoa hg
    exact ⟨cur, _, _, hc⟩
  · rw [← List.append_assoc, hM]; exact OwnL.snoc y hr2
  · intro x hx
    rw [← List.append_assoc, hM] at hx
    rcases List.mem_append.1 hx with h | h
    · exact far _ (hfar x h)
    · obtain rfl := List.mem_singleton.1 h
      exact far _ hfy
  · exact (only_grown (hon.ext hba) hgrow hrow).setCell (p := ⟨w.heap.size, 0, none⟩) (.inr (Nat.le_refl _)) _
  · rcases hat with h | h
    · rw [h]; exact hblk
    · right
      intro g hg
      rw [h] at hg
      simp at hg
      omega
set_option maxHeartbeats 4000000 in
theorem appendSeq_item (gf : Nat) (lb : Array Value) (B : Nat) (v0 : Value) (L : List ItemG) (R : Nat → Prop) (xs : List ItemC) (w : World)
    (hit : IterX Tryz.prog gf lb (EncI B) R xs w) (eg : ∀ args w, (callFunc gf args).run Tryz.prog w = .ok (.enter gf args) w) (hB : B ≤ w.heap.size)
    (hR : ∀ k, R k → k < w.heap.size ∧ v0.ownBlock ≠ some k) (hown : OwnL ItemG.cells 47 6 w B v0 L) (hfar : ∀ x ∈ L, FarI B w x.tgt) (hlen : L.length + xs.length ≤ 1000000) :
    Calls Tryz.prog 78 #[v0, .func (.func gf) #[] lb] w (AppPost B v0 L xs w) := by
  obtain ⟨i0, z0, hi0, hz0, hz1, hz2, hzs⟩ := parts_item
  obtain ⟨A, c, rfl, _⟩ := own_room hown
  refine calls_of_wpAt Tryz.func78 rfl ?_
  simp only [Tryz.ntmps78, List.size_toArray, List.length_cons, List.length_nil, Nat.reduceAdd, Nat.reduceSub, Array.replicate_succ, Array.replicate_zero, List.push_toArray, List.append_toArray, List.nil_append, List.cons_append]
  obtain ⟨w1, hw1⟩ : ∃ w1, w.alloc (.cells #[.slice A L.length c] 27) = w1 := ⟨_, rfl⟩
  have hb1 : Below w.heap.size w w1 := by rw [← hw1]; exact ext_alloc (Below.refl _ _) _
  have hz1' : w1.heap.size = w.heap.size + 1 := by rw [← hw1]; simp
  have hx1 : Boxed w1 w.heap.size 27 (.slice A L.length c) := by rw [← hw1]; exact Boxed.new _ _ _
  have hI0 : SeqI B w.heap.size (.slice A L.length c) L w [] w1 := ⟨.slice A L.length c, [], hx1, by rw [List.append_nil]; exact hown.ext hb1, rfl, fun x hx => (hfar x (by simpa using hx)).ext hB hb1, .of_below hb1, .inl rfl⟩
  have HW1 := Lib.hid hw1
  have Hlen := Lib.hid hlen
  have HB := Lib.hid hB
  have HR := Lib.hid hR
  have Hz := Lib.hid hz1'
  have Hi0 := Lib.hid hI0
  have Hit := Lib.hid hit
  clear hw1 hlen hB hR hz1' hI0 hown hfar hit hb1 hx1
  refine wpAt_seq_wp fun K1 hK1 => ?_
  go_wp2
  rw [HW1.out]
  refine wpAt_seq ?_
  refine wpAt_seq_wp fun K2 hK2 => ?_
  go_wp2
  refine wpAt_block ?_
  refine wp_rangeX (xs := xs) (R := R) (w0 := w) Tryz.func78 rfl eg Hit.out (fun x vs W h => by obtain ⟨y, _, rfl, _⟩ := h; rfl)
    (SeqI B w.heap.size (.slice A L.length c) L w) (fun s V h k hk => ?_) (fun s V V' h hb => seqI_below HB.out h hb) (fun s V V' l o h hl ho hn hs => seqI_one HB.out h (by have := Hz.out; omega) ho hn hs) Hi0.out
    (SeqA B w.heap.size (.slice A L.length c) L w (fun px vx => #[.slice A L.length c, .func (.func gf) #[] lb, .pointer (some ⟨w.heap.size, 0, none⟩), undef, .slice none 0 0, px, .func (.func gf) #[] lb, vx, undef, undef, undef, undef, undef]))
    (fun x a' s V V' l o h hl ho hn hs => ?_) ?_ ?_ ?_
  · obtain ⟨_, _, _, _, _, _, h5, _⟩ := h
    obtain ⟨r1, r2⟩ := HR.out k hk
    exact h5.block k r1 r2
  · obtain ⟨y, bx, h1, h2, h3, h4, h5, h6⟩ := h
    refine ⟨y, bx, h1, h2, (hs.block _ ?_).trans h3, h4, h5.one (by have := HB.out; have := Hz.out; omega) ho hn hs, seqI_one HB.out h6 (by have := Hz.out; omega) ho hn hs⟩
    rintro rfl
    rw [ho] at h3; exact hn _ _ _ (Option.some.inj h3)
  · rintro l pre x vs W hi hpre ⟨y, hy, rfl, hfy⟩
    have Hi := Lib.hid hi
    have Hfy := Lib.hid hfy
    have hsW : w.heap.size < W.heap.size := by obtain ⟨_, _, h, _⟩ := hi; exact h.lt
    have HsW := Lib.hid hsW
    clear hi hfy hsW hpre
    refine wpIn_mono (Q := Exit.then (fun a' W' => KeepsX W W' ∧ SeqA B w.heap.size (.slice A L.length c) L w (fun px vx => #[.slice A L.length c, .func (.func gf) #[] lb, .pointer (some ⟨w.heap.size, 0, none⟩), undef, .slice none 0 0, px, .func (.func gf) #[] lb, vx, undef, undef, undef, undef, undef]) x a' pre W') (fun _ _ _ => False)) ?_ (fun e a w h => h)
    gi_wp2
    refine ⟨KeepsX.below (ext_alloc (Below.refl _ _) _), y, W.heap.size, hy, rfl, World.alloc_heap_new _ _, HsW.out, Hfy.out.ext ?_ (ext_alloc (Below.refl _ _) _), seqI_below HB.out Hi.out (ext_alloc (Below.refl _ _) _)⟩
    have := HB.out; have := HsW.out; omega
  · rintro l pre x a' W ⟨y, bx, rfl, rfl, hbx, hnx, hfy, v, L', hv, hown, hmap, hfar, hon, hblk⟩ hpre
    have hlen1 : pre.length < xs.length := by
      obtain ⟨t, ht⟩ := hpre
      rw [← ht]; simp
    have hl3 : (L ++ L').length = L.length + pre.length := by rw [List.length_append, ← hmap, List.length_map]
    have hc := hv.cell
    have hBs := hon.size
    have HBw := HB.out
    have hlen2 : (L ++ L').length < 1000000 := by have := Hlen.out; omega
    have d0 := gblk hbx 0
    have d1 := gblk hbx 1
    have d2 := gblk hbx 2
    have d3 := gblk hbx 3
    have d4 := gblk hbx 4
    have d5 := gblk hbx 5
    obtain ⟨Av, cv, rfl, _⟩ := own_room hown
    have hrow : W.ownsRow B 47 6 (.slice Av (L ++ L').length cv) (L ++ L').length ((L ++ L').flatMap ItemG.cells) := hown
    have Hrow0 := Lib.hid hrow
    have Hon := Lib.hid hon
    have Hblk := Lib.hid hblk
    have Hfar := Lib.hid hfar
    have Hfy := Lib.hid hfy
    have Hmap := Lib.hid hmap
    obtain ⟨M, hM⟩ : ∃ M, L ++ L' = M := ⟨_, rfl⟩
    have HM := Lib.hid hM
    rw [hM] at hown hrow hv hc hlen2 Hfar Hblk
    clear Hlen hl3 hlen1 hM hon hblk hfar hfy hmap
    gi_wp2_with (gi_at_builtin; refine wpListIn_append_at _ rfl _ _ 27 rfl B 47 i0 z0 6 64 Tryz.underlying27 hi0 hz0 hz1 hz2 hzs (by decide) _ _ _ rfl (hrow.alloc _) ⟨W.heap.size, 0, none⟩ 1 1 [.int .i64 y.cat, .int .i64 y.frm, .int .i64 y.unt, .int .i64 y.cost, .slice y.tgt.addr y.tgt.xs.length y.tgt.cap, .int .i64 y.term] rfl rfl (gcells_new W [.int .i64 y.cat, .int .i64 y.frm, .int .i64 y.unt, .int .i64 y.cost, .slice y.tgt.addr y.tgt.xs.length y.tgt.cap, .int .i64 y.term] 47) (by simp [Value.oneCell']) (by unfold maxLen; omega) (by omega) (by simp; omega) ?_; intro v' w1 hown' hgrow hat; obtain ⟨g', cap', rfl⟩ := ownsRow_succ hown'; obtain ⟨hv1, hv2, hr2, hk2, hb2⟩ := hv.appended (by decide) hrow (by omega) HBw hown' hgrow; have hc1 := hv1.cell; have hf1 := hv1.frozen)
    exact seq_step HM.out HBw hown Hmap.out Hfar.out Hfy.out Hon.out Hblk.out hgrow hat hv1 hv2 hr2
  · rintro D W hD ⟨v, L', hv, hown, hmap, hfar, hon, hblk⟩ hdef
    have hc := hv.cell
    obtain ⟨Av, cv, rfl, _⟩ := own_room hown
    have hsD : w.heap.size ≤ D := by have := Hz.out; omega
    have hnD : w.heap.size ≠ D := by have := Hz.out; omega
    refine wpAt_wp ?_
    go_wp2
    have hst := OneStep.put W D (.deferred none)
    refine leavesM_ret hdef (results_tmp rfl _ _ _) ?_
    obtain ⟨v9, L9, g1, g2, g3, g4, g5, g6⟩ := seqI_one HB.out ⟨.slice Av (L ++ L').length cv, L', hv, hown, hmap, hfar, hon, hblk⟩ hsD hdef (noCells_def _) hst
    have e9 : v9 = .slice Av (L ++ L').length cv := by
      have h1 : (W.putObj D (.deferred none)).heap[w.heap.size]? = some (.cells #[.slice Av (L ++ L').length cv] 27 (0, 0)) := (World.putObj_heap_other hnD).trans hv
      have h2 := h1.symm.trans g1
      simp only [Option.some.injEq, Obj.cells.injEq, Array.mk.injEq, List.cons.injEq] at h2
      exact h2.1.1.symm
    refine ⟨v9, L9, by rw [e9, List.length_append]; rfl, g2, g3, g4, g5⟩
end Go.Proofs.YthojaplnimoacaaGreatDoor

/- The reference of the glossary: which terms count, which are later, about the same, equal. -/
namespace Go.Proofs.YthojaplnimoacaaGreatDoor
open Go.RowKit Go.Han
attribute [local irreducible] wpStill wpQuiet
set_option maxRecDepth 100000
theorem counts_any (x : Term) (t u : Int) (w : World) : Calls Tryz.prog 165 #[.agg #[.int .i64 x.no, .int .i64 x.at_, .int .i64 x.known, .int .i64 x.lang, .slice x.src.addr x.src.xs.length x.src.cap, .slice x.tgt.addr x.tgt.xs.length x.tgt.cap, .string x.cat, .bool x.gone], .int .i64 t, .int .i64 u] w fun e w' => e = .returned (.bool (countsB x t u)) ∧ Below w.heap.size w w' := by
  have H : Hid (countsB x t u = (decide (x.at_ ≤ t) && decide (x.known ≤ u))) := rfl
  go_enter Tryz.func165, Tryz.ntmps165
  by_cases h1 : x.at_ ≤ t
  · by_cases h2 : x.known ≤ u
    · have HF : Hid (countsB x t u = true) := by show _ = _; rw [H.out]; simp [h1, h2]
      go_wp2_with fail
      go_ret
      exact ⟨by rw [HF.out]; rfl, ext_alloc (Below.refl _ _) _⟩
    · have HF : Hid (countsB x t u = false) := by show _ = _; rw [H.out]; simp [h2]
      go_wp2_with fail
      go_ret
      exact ⟨by rw [HF.out]; first | rfl | simp [h2], ext_alloc (Below.refl _ _) _⟩
  · have HF : Hid (countsB x t u = false) := by show _ = _; rw [H.out]; simp [h1]
    go_wp2_with fail
    go_ret
    exact ⟨by rw [HF.out]; rfl, ext_alloc (Below.refl _ _) _⟩
set_option maxHeartbeats 1000000 in
theorem later_any (a b : Term) (w : World) : Calls Tryz.prog 167 #[.agg #[.int .i64 a.no, .int .i64 a.at_, .int .i64 a.known, .int .i64 a.lang, .slice a.src.addr a.src.xs.length a.src.cap, .slice a.tgt.addr a.tgt.xs.length a.tgt.cap, .string a.cat, .bool a.gone], .agg #[.int .i64 b.no, .int .i64 b.at_, .int .i64 b.known, .int .i64 b.lang, .slice b.src.addr b.src.xs.length b.src.cap, .slice b.tgt.addr b.tgt.xs.length b.tgt.cap, .string b.cat, .bool b.gone]] w fun e w' => e = .returned (.bool (laterB a b)) ∧ Below w.heap.size w w' := by
  have H : Hid (laterB a b = (decide (b.at_ < a.at_) || (decide (a.at_ = b.at_) && decide (b.no < a.no)))) := rfl
  go_enter Tryz.func167, Tryz.ntmps167
  by_cases h1 : b.at_ < a.at_
  · go_wp2_with fail
    go_ret
    exact ⟨by rw [H.out]; simp [h1], ext_alloc (ext_alloc (Below.refl _ _) _) _⟩
  · by_cases h2 : a.at_ = b.at_
    · have g1 : (a.at_ == b.at_) = true := by simp [h2]
      by_cases h3 : b.no < a.no
      · have HF : Hid (laterB a b = true) := by show _ = _; rw [H.out]; simp [h2, h3]
        clear h2
        go_wp2_with fail
        go_ret
        exact ⟨by rw [HF.out]; rfl, ext_alloc (ext_alloc (Below.refl _ _) _) _⟩
      · have HF : Hid (laterB a b = false) := by show _ = _; rw [H.out]; simp [h2, h3]
        clear h2
        go_wp2_with fail
        go_ret
        exact ⟨by rw [HF.out]; rfl, ext_alloc (ext_alloc (Below.refl _ _) _) _⟩
    · have g1 : (a.at_ == b.at_) = false := by simpa using h2
      have HF : Hid (laterB a b = false) := by show _ = _; rw [H.out]; simp [h1, h2]
      clear h2
      go_wp2_with fail
      go_ret
      exact ⟨by rw [HF.out]; rfl, ext_alloc (ext_alloc (Below.refl _ _) _) _⟩
set_option maxHeartbeats 1000000 in
theorem about_any (a b : Term) (w : World) (ha : a.lies w) (hb : b.lies w) : Calls Tryz.prog 166 #[.agg #[.int .i64 a.no, .int .i64 a.at_, .int .i64 a.known, .int .i64 a.lang, .slice a.src.addr a.src.xs.length a.src.cap, .slice a.tgt.addr a.tgt.xs.length a.tgt.cap, .string a.cat, .bool a.gone], .agg #[.int .i64 b.no, .int .i64 b.at_, .int .i64 b.known, .int .i64 b.lang, .slice b.src.addr b.src.xs.length b.src.cap, .slice b.tgt.addr b.tgt.xs.length b.tgt.cap, .string b.cat, .bool b.gone]] w fun e w' => e = .returned (.bool (aboutB a b)) ∧ Below w.heap.size w w' := by
  have hB0 : Below w.heap.size w ((w.alloc (.cells #[.int .i64 a.no, .int .i64 a.at_, .int .i64 a.known, .int .i64 a.lang, .slice a.src.addr a.src.xs.length a.src.cap, .slice a.tgt.addr a.tgt.xs.length a.tgt.cap, .string a.cat, .bool a.gone] 66)).alloc (.cells #[.int .i64 b.no, .int .i64 b.at_, .int .i64 b.known, .int .i64 b.lang, .slice b.src.addr b.src.xs.length b.src.cap, .slice b.tgt.addr b.tgt.xs.length b.tgt.cap, .string b.cat, .bool b.gone] 66)) := ext_alloc (ext_alloc (Below.refl _ _) _) _
  have cS := Lib.hid (sameText_at a.src b.src _ (ha.1.ext hB0) (hb.1.ext hB0))
  go_enter Tryz.func166, Tryz.ntmps166
  by_cases h2 : a.lang = b.lang
  · have H : Hid (aboutB a b = decide (a.src.xs = b.src.xs)) := by show _ = _; unfold aboutB; simp [h2]
    have g1 : (a.lang == b.lang) = true := by simp [h2]
    generalize decide (a.src.xs = b.src.xs) = q at *
    clear h2
    go_wp2_with fail
    refine cS.out.mono ?_
    rintro e w2 ⟨rfl, hb2⟩
    go_wp2_with fail
    go_ret
    exact ⟨by rw [H.out]; rfl, ext_trans hB0 hb2⟩
  · have H : Hid (aboutB a b = false) := by show _ = _; unfold aboutB; simp [h2]
    have g1 : (a.lang == b.lang) = false := by simpa using h2
    clear h2
    go_wp2_with fail
    go_ret
    exact ⟨by rw [H.out]; rfl, hB0⟩
end Go.Proofs.YthojaplnimoacaaGreatDoor
