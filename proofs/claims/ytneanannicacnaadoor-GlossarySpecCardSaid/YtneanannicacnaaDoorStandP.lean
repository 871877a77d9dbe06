/- Standing terms, in plain lists: words have no line feed; keys; the last terms. No program in sight. -/
import Derived.Test.YtneanannicacnaaDoorAddT
import Derived.Test.YtneanannicacnaaDoorTerm6
import Derived.Lib.Join
namespace Go.Proofs.YtneanannicacnaaDoor
open Go.RowKit Go.Han

/-! ### line feeds -/
theorem dec_low (l : List UInt8) (h : byteAt l 0 < 128) : dec l = (byteAt l 0, 1) := by
  unfold dec Lib.decodeN
  rw [if_pos h]
theorem decN_high (n b0 b1 b2 b3 : Nat) (h : 128 ≤ b0) : (2 ≤ (Lib.decodeN n b0 b1 b2 b3).2 → 128 ≤ b1) ∧ (3 ≤ (Lib.decodeN n b0 b1 b2 b3).2 → 128 ≤ b2) ∧ (4 ≤ (Lib.decodeN n b0 b1 b2 b3).2 → 128 ≤ b3) ∧ (Lib.decodeN n b0 b1 b2 b3).2 ≤ 4 := by
  unfold Lib.decodeN
  rw [if_neg (by omega)]
  repeat' split
  all_goals (refine ⟨?_, ?_, ?_, ?_⟩ <;> simp <;> omega)
theorem dec_high (l : List UInt8) (h : 128 ≤ byteAt l 0) : ∀ i, i < (dec l).2 → 128 ≤ byteAt l i := by
  obtain ⟨h1, h2, h3, h4⟩ := decN_high l.length (byteAt l 0) (byteAt l 1) (byteAt l 2) (byteAt l 3) h
  intro i hi
  change i < (Lib.decodeN l.length (byteAt l 0) (byteAt l 1) (byteAt l 2) (byteAt l 3)).2 at hi
  rcases (show i = 0 ∨ i = 1 ∨ i = 2 ∨ i = 3 by omega) with rfl | rfl | rfl | rfl
  · exact h
  · exact h1 (by omega)
  · exact h2 (by omega)
  · exact h3 (by omega)
theorem runes_lf : ∀ (n : Nat) (l : List UInt8), l.length ≤ n → (runes l).2 = true → (10 : UInt8) ∈ l → 10 ∈ (runes l).1
  | 0, l, hn, _, h => by
    have : l = [] := List.eq_nil_of_length_eq_zero (by omega)
    rw [this] at h; cases h
  | n + 1, l, hn, hr, h => by
    have hne : l ≠ [] := by rintro rfl; cases h
    have hge := dec_ge1 l
    have hlen : 0 < l.length := List.length_pos_iff.2 hne
    cases hb : badB (dec l)
    · rw [runes_good l hne hb] at hr ⊢
      simp only at hr ⊢
      have key : (10 : UInt8) ∈ l.drop (dec l).2 ∨ (dec l).1 = 10 := by
        by_cases h128 : byteAt l 0 < 128
        · rw [dec_low l h128]
          cases l with
          | nil => cases h
          | cons c t =>
            rcases List.mem_cons.1 h with e | h
            · right; subst e; rfl
            · left; exact h
        · left
          have hh := dec_high l (by omega)
          rw [← List.take_append_drop (dec l).2 l] at h
          rcases List.mem_append.1 h with h | h
          · exfalso
            obtain ⟨i, hi, he⟩ := List.getElem_of_mem h
            have hi2 : i < (dec l).2 ∧ i < l.length := by rw [List.length_take] at hi; omega
            have := hh i hi2.1
            unfold byteAt at this
            rw [List.getElem?_eq_getElem hi2.2] at this
            rw [List.getElem_take] at he
            rw [he] at this
            exact absurd this (by decide)
          · exact h
      rcases key with h1 | h1
      · exact List.mem_cons_of_mem _ (runes_lf n _ (by simp; omega) hr h1)
      · rw [h1]; exact List.mem_cons_self ..
    · rw [runes_bad l hne hb] at hr; cases hr
theorem word_lf {s : ByteArray} (h : wordB s = true) : (10 : UInt8) ∉ s.data.toList := by
  unfold wordB at h
  simp only [Bool.and_eq_true, Bool.not_eq_true', decide_eq_true_eq] at h
  intro h10
  have := runes_lf _ _ (Nat.le_refl _) h.1.2 h10
  have h2 := h.2
  rw [List.any_eq_false] at h2
  exact h2 10 this (by decide)
theorem word_size {s : ByteArray} (h : wordB s = true) : s.data.toList.length ≤ 64 := by
  unfold wordB at h
  simp only [Bool.and_eq_true, decide_eq_true_eq] at h
  rw [← Lib.size_eq]; exact h.1.1.1

/-! ### joining with line feeds -/
theorem split_first {a b p q : List UInt8} (ha : (10 : UInt8) ∉ a) (hb : (10 : UInt8) ∉ b) (hp : p = [] ∨ ∃ p', p = 10 :: p') (hq : q = [] ∨ ∃ q', q = 10 :: q') (h : a ++ p = b ++ q) : a = b ∧ p = q := by
  induction a generalizing b with
  | nil =>
    cases b with
    | nil => exact ⟨rfl, h⟩
    | cons y b =>
      simp only [List.nil_append, List.cons_append] at h
      rcases hp with rfl | ⟨p', rfl⟩
      · cases h
      · simp only [List.cons.injEq] at h
        exact absurd (h.1 ▸ List.mem_cons_self ..) hb
  | cons x a ih =>
    cases b with
    | nil =>
      simp only [List.nil_append, List.cons_append] at h
      rcases hq with rfl | ⟨q', rfl⟩
      · cases h
      · simp only [List.cons.injEq] at h
        exact absurd (h.1 ▸ List.mem_cons_self ..) ha
    | cons y b =>
      simp only [List.cons_append, List.cons.injEq] at h
      obtain ⟨h1, h2⟩ := ih (fun h => ha (List.mem_cons_of_mem _ h)) (fun h => hb (List.mem_cons_of_mem _ h)) h.2
      exact ⟨by rw [h.1, h1], h2⟩
theorem tail_form (r : List (List UInt8)) : Lib.joinTail [10] r = [] ∨ ∃ p', Lib.joinTail [10] r = 10 :: p' := by
  cases r with
  | nil => exact .inl rfl
  | cons x r => exact .inr ⟨_, rfl⟩
theorem tail_inj : ∀ (r r' : List (List UInt8)), (∀ x ∈ r, (10 : UInt8) ∉ x) → (∀ x ∈ r', (10 : UInt8) ∉ x) → Lib.joinTail [10] r = Lib.joinTail [10] r' → r = r'
  | [], [], _, _, _ => rfl
  | [], x :: r', _, _, h => by cases h
  | x :: r, [], _, _, h => by cases h
  | x :: r, y :: r', h1, h2, h => by
    have e : x ++ Lib.joinTail [10] r = y ++ Lib.joinTail [10] r' := by
      simpa [Lib.joinTail] using h
    obtain ⟨hx, hr⟩ := split_first (h1 x (List.mem_cons_self ..)) (h2 y (List.mem_cons_self ..)) (tail_form r) (tail_form r') e
    rw [hx, tail_inj r r' (fun z hz => h1 z (List.mem_cons_of_mem _ hz)) (fun z hz => h2 z (List.mem_cons_of_mem _ hz)) hr]
theorem join_inj {r r' : List (List UInt8)} (h1 : ∀ x ∈ r, (10 : UInt8) ∉ x) (h2 : ∀ x ∈ r', (10 : UInt8) ∉ x) (n1 : r ≠ []) (n2 : r' ≠ []) (h : Lib.join r [10] = Lib.join r' [10]) : r = r' := by
  cases r with
  | nil => exact absurd rfl n1
  | cons x r =>
    cases r' with
    | nil => exact absurd rfl n2
    | cons y r' =>
      rw [Lib.join_cons, Lib.join_cons] at h
      obtain ⟨hx, hr⟩ := split_first (h1 x (List.mem_cons_self ..)) (h2 y (List.mem_cons_self ..)) (tail_form r) (tail_form r') h
      rw [hx, tail_inj r r' (fun z hz => h1 z (List.mem_cons_of_mem _ hz)) (fun z hz => h2 z (List.mem_cons_of_mem _ hz)) hr]
theorem join_length (r : List (List UInt8)) (n : Nat) (h : ∀ x ∈ r, x.length ≤ n) : (Lib.join r [10]).length ≤ r.length * (n + 1) := by
  cases r with
  | nil => simp [Lib.join_nil]
  | cons x r =>
    rw [Lib.join_cons]
    have ht : ∀ q : List (List UInt8), (∀ x ∈ q, x.length ≤ n) → (Lib.joinTail [10] q).length ≤ q.length * (n + 1) := by
      intro q
      induction q with
      | nil => intro _; simp [Lib.joinTail]
      | cons y q ih =>
        intro hq
        have h1 := ih (fun z hz => hq z (List.mem_cons_of_mem _ hz))
        have h2 := hq y (List.mem_cons_self ..)
        have e : Lib.joinTail [10] (y :: q) = 10 :: (y ++ Lib.joinTail [10] q) := by simp [Lib.joinTail]
        rw [e]
        simp only [List.length_cons, List.length_append, Nat.add_mul, Nat.one_mul]
        omega
    have h1 := ht r (fun z hz => h z (List.mem_cons_of_mem _ hz))
    have h2 := h x (List.mem_cons_self ..)
    simp only [List.length_cons, List.length_append, Nat.add_mul, Nat.one_mul]
    omega

/-! ### keys -/
structure GKey where
  lang : Int
  src : ByteArray
  deriving DecidableEq
def joined (xs : List ByteArray) : List UInt8 := Lib.join (xs.map (fun s => s.data.toList)) [10]
def aboutK (x : Term) : GKey := ⟨x.lang, ⟨(joined x.src.xs).toArray⟩⟩
theorem ok_src {x : Term} (h : x.ok = true) : 1 ≤ x.src.xs.length ∧ x.src.xs.length ≤ 4 ∧ ∀ s ∈ x.src.xs, wordB s = true := by
  unfold Term.ok phraseB at h
  simp only [Bool.and_eq_true, decide_eq_true_eq, List.all_eq_true] at h
  exact ⟨h.1.2.1.1, h.1.2.1.2, h.1.2.2⟩
theorem map_data_inj : ∀ {xs ys : List ByteArray}, xs.map (fun s => s.data.toList) = ys.map (fun s => s.data.toList) → xs = ys
  | [], [], _ => rfl
  | [], _ :: _, h => by cases h
  | _ :: _, [], h => by cases h
  | x :: xs, y :: ys, h => by
    simp only [List.map_cons, List.cons.injEq] at h
    rw [WideShapes.bytes_inj h.1, map_data_inj h.2]
theorem aboutK_iff {a b : Term} (ha : a.ok = true) (hb : b.ok = true) : aboutK a = aboutK b ↔ aboutB a b = true := by
  obtain ⟨a1, _, a3⟩ := ok_src ha
  obtain ⟨b1, _, b3⟩ := ok_src hb
  unfold aboutB aboutK
  simp only [GKey.mk.injEq, Bool.and_eq_true, decide_eq_true_eq]
  refine and_congr_right fun _ => ⟨fun h => ?_, fun h => by rw [h]⟩
  have h' : joined a.src.xs = joined b.src.xs := by
    have := congrArg (fun s : ByteArray => s.data.toList) h
    simpa using this
  refine map_data_inj (join_inj ?_ ?_ ?_ ?_ h')
  · intro x hx
    obtain ⟨s, hs, rfl⟩ := List.mem_map.1 hx
    exact word_lf (a3 s hs)
  · intro x hx
    obtain ⟨s, hs, rfl⟩ := List.mem_map.1 hx
    exact word_lf (b3 s hs)
  · intro h0; rw [List.map_eq_nil_iff] at h0; rw [h0] at a1; simp at a1
  · intro h0; rw [List.map_eq_nil_iff] at h0; rw [h0] at b1; simp at b1
theorem joined_length {x : Term} (h : x.ok = true) : (joined x.src.xs).length ≤ 260 := by
  obtain ⟨_, h2, h3⟩ := ok_src h
  have := join_length (x.src.xs.map (fun s => s.data.toList)) 64 (fun y hy => by
    obtain ⟨s, hs, rfl⟩ := List.mem_map.1 hy
    exact word_size (h3 s hs))
  unfold joined
  simp at this
  omega

/-! ### the last terms -/
def cntB (lang t u : Int) (x : Term) : Bool := decide (x.lang = lang) && countsB x t u
/-- What the map of the last terms holds at a key, behind the terms p. -/
def lastStep (lang t u : Int) (K : GKey) (o : Option Term) (y : Term) : Option Term :=
  if cntB lang t u y = true ∧ aboutK y = K then (match o with | none => some y | some z => if z.at_ ≤ y.at_ then some y else some z) else o
def lastF (lang t u : Int) (p : List Term) (K : GKey) : Option Term := p.foldl (lastStep lang t u K) none
theorem lastF_snoc (lang t u : Int) (p : List Term) (y : Term) (K : GKey) : lastF lang t u (p ++ [y]) K = lastStep lang t u K (lastF lang t u p K) y := by
  unfold lastF; rw [List.foldl_append]; rfl
theorem lastF_spec (lang t u : Int) (K : GKey) : ∀ (q p : List Term), (p ++ q).Pairwise (fun a b => a.no < b.no) →
    (match lastF lang t u p K with | none => ∀ c ∈ p, ¬ (cntB lang t u c = true ∧ aboutK c = K) | some z => z ∈ p ∧ cntB lang t u z = true ∧ aboutK z = K ∧ ∀ c ∈ p, cntB lang t u c = true → aboutK c = K → laterB c z = false) →
    (match lastF lang t u (p ++ q) K with | none => ∀ c ∈ p ++ q, ¬ (cntB lang t u c = true ∧ aboutK c = K) | some z => z ∈ p ++ q ∧ cntB lang t u z = true ∧ aboutK z = K ∧ ∀ c ∈ p ++ q, cntB lang t u c = true → aboutK c = K → laterB c z = false)
  | [], p, _, h => by simpa using h
  | y :: q, p, hp, h => by
    have e : p ++ y :: q = (p ++ [y]) ++ q := by simp
    rw [e] at hp ⊢
    refine lastF_spec lang t u K q (p ++ [y]) hp ?_
    have hy : ∀ c ∈ p, c.no < y.no := by
      rw [List.append_assoc, List.pairwise_append] at hp
      exact fun c hc => hp.2.2 c hc y (by simp)
    rw [lastF_snoc]
    unfold lastStep
    by_cases hc : cntB lang t u y = true ∧ aboutK y = K
    · rw [if_pos hc]
      cases hl : lastF lang t u p K with
      | none =>
        rw [hl] at h
        refine ⟨by simp, hc.1, hc.2, fun c hcm h1 h2 => ?_⟩
        rcases List.mem_append.1 hcm with hcm | hcm
        · exact absurd ⟨h1, h2⟩ (h c hcm)
        · simp at hcm; subst hcm; simp [laterB]
      | some z =>
        rw [hl] at h
        obtain ⟨z1, z2, z3, z4⟩ := h
        by_cases hz : z.at_ ≤ y.at_
        · simp only [if_pos hz]
          refine ⟨by simp, hc.1, hc.2, fun c hcm h1 h2 => ?_⟩
          rcases List.mem_append.1 hcm with hcm | hcm
          · have h3 := z4 c hcm h1 h2
            have h4 := hy c hcm
            unfold laterB at h3 ⊢
            simp at h3 ⊢
            omega
          · simp at hcm; subst hcm; simp [laterB]
        · simp only [if_neg hz]
          refine ⟨List.mem_append_left _ z1, z2, z3, fun c hcm h1 h2 => ?_⟩
          rcases List.mem_append.1 hcm with hcm | hcm
          · exact z4 c hcm h1 h2
          · simp at hcm; subst hcm
            unfold laterB
            simp; omega
    · rw [if_neg hc]
      cases hl : lastF lang t u p K with
      | none =>
        rw [hl] at h
        intro c hcm
        rcases List.mem_append.1 hcm with hcm | hcm
        · exact h c hcm
        · simp at hcm; subst hcm; exact hc
      | some z =>
        rw [hl] at h
        obtain ⟨z1, z2, z3, z4⟩ := h
        refine ⟨List.mem_append_left _ z1, z2, z3, fun c hcm h1 h2 => ?_⟩
        rcases List.mem_append.1 hcm with hcm | hcm
        · exact z4 c hcm h1 h2
        · simp at hcm; subst hcm; exact absurd ⟨h1, h2⟩ hc
/-- Does a term of l stand? -/
def standsB (l : List Term) (t u : Int) (x : Term) : Bool := !x.gone && countsB x t u && !(l.any fun z => aboutB z x && countsB z t u && laterB z x)
def standT (l : List Term) (lang t u : Int) : List Term := l.filter (fun x => decide (x.lang = lang) && standsB l t u x)
def pickB (lang t u : Int) (l : List Term) (y : Term) : Bool := match lastF lang t u l (aboutK y) with | some z => z.no == y.no && !y.gone | none => false
theorem no_inj {l : List Term} (hs : l.Pairwise (fun a b => a.no < b.no)) {a b : Term} (ha : a ∈ l) (hb : b ∈ l) (h : a.no = b.no) : a = b := by
  obtain ⟨i, hi, rfl⟩ := List.getElem_of_mem ha
  obtain ⟨j, hj, rfl⟩ := List.getElem_of_mem hb
  rw [List.pairwise_iff_getElem] at hs
  rcases Nat.lt_trichotomy i j with h1 | h1 | h1
  · have := hs i j hi hj h1; omega
  · subst h1; rfl
  · have := hs j i hj hi h1; omega
theorem pick_stands {l : List Term} (hs : l.Pairwise (fun a b => a.no < b.no)) (hok : ∀ x ∈ l, x.ok = true) (lang t u : Int) {y : Term} (hy : y ∈ l) : pickB lang t u l y = (decide (y.lang = lang) && standsB l t u y) := by
  have hsp := lastF_spec lang t u (aboutK y) l [] (by simpa using hs) (fun c hc => by cases hc)
  simp only [List.nil_append] at hsp
  unfold pickB standsB
  have lang_of : ∀ c, aboutK c = aboutK y → c.lang = y.lang := fun c h => congrArg GKey.lang h
  cases hl : lastF lang t u l (aboutK y) with
  | none =>
    rw [hl] at hsp
    have h1 := hsp y hy
    simp only [and_true, cntB, Bool.and_eq_true, decide_eq_true_eq, not_and] at h1
    by_cases h2 : y.lang = lang
    · have h3 := h1 h2
      have h4 : countsB y t u = false := by simpa using h3
      simp [h4]
    · simp [h2]
  | some z =>
    rw [hl] at hsp
    obtain ⟨z1, z2, z3, z4⟩ := hsp
    simp only [cntB, Bool.and_eq_true, decide_eq_true_eq] at z2
    by_cases hzy : z.no = y.no
    · have e := no_inj hs z1 hy hzy
      subst e
      have hany : (l.any fun c => aboutB c z && countsB c t u && laterB c z) = false := by
        rw [List.any_eq_false]
        intro c hc
        by_cases h1 : aboutB c z = true
        · by_cases h2 : countsB c t u = true
          · have h3 := (aboutK_iff (hok c hc) (hok z z1)).2 h1
            have h4 := z4 c hc (by simp [cntB, lang_of c h3, z2.1, h2]) h3
            simp [h4]
          · simp [h2]
        · simp [h1]
      simp [z2.1, z2.2, hany]
    · have hb : (z.no == y.no) = false := by simpa using hzy
      show (z.no == y.no && !y.gone) = _
      rw [hb, Bool.false_and]
      symm
      by_cases hyl : y.lang = lang
      · by_cases hyc : countsB y t u = true
        · have h5 := z4 y hy (by simp [cntB, hyl, hyc]) rfl
          have h6 : laterB z y = true := by
            unfold laterB at h5 ⊢
            simp at h5 ⊢
            omega
          have hany : (l.any fun c => aboutB c y && countsB c t u && laterB c y) = true :=
            List.any_eq_true.2 ⟨z, z1, by rw [(aboutK_iff (hok z z1) (hok y hy)).1 z3, z2.2, h6]; rfl⟩
          simp [hany]
        · simp [hyc]
      · simp [hyl]
theorem filter_pick {l : List Term} (hs : l.Pairwise (fun a b => a.no < b.no)) (hok : ∀ x ∈ l, x.ok = true) (lang t u : Int) : l.filter (pickB lang t u l) = standT l lang t u := by
  unfold standT
  exact List.filter_congr fun y hy => pick_stands hs hok lang t u hy
def standE (l : List Term) (lang t u : Int) : Int := if checkT l ≠ 0 then checkT l else if (langB lang && tmB t && tmB u) = false then 1 else 0
end Go.Proofs.YtneanannicacnaaDoor
