/- Releases, plain: a further decision, and spans that say the same. -/
import Derived.Test.YtmindojbkedmlaaM6
namespace Go.Proofs.Ytmindojbkedmlaa
open Go.RowKit Go.Han

theorem spn_ext : ∀ {x y : List Spn} {c : Int}, spnB c x = true → spnB c y = true → (∀ u, c < u → 0 ≤ u → u < 1099511627776 → (inS x u ↔ inS y u)) → x = y
  | [], [], _, _, _, _ => rfl
  | [], q :: s, c, _, hy, h => by
    obtain ⟨h1, h2, h3, h4, h5⟩ := spnB_cons.1 hy
    obtain ⟨p, hp, _⟩ := (h q.frm h1 h2 (by omega)).2 ⟨q, List.mem_cons_self .., Int.le_refl _, h3⟩
    cases hp
  | p :: r, [], c, hx, _, h => by
    obtain ⟨h1, h2, h3, h4, h5⟩ := spnB_cons.1 hx
    obtain ⟨p, hp, _⟩ := (h p.frm h1 h2 (by omega)).1 ⟨p, List.mem_cons_self .., Int.le_refl _, h3⟩
    cases hp
  | p :: r, q :: s, c, hx, hy, h => by
    obtain ⟨x1, x2, x3, x4, x5⟩ := spnB_cons.1 hx
    obtain ⟨y1, y2, y3, y4, y5⟩ := spnB_cons.1 hy
    have lx := fun z hz => spnB_low x5 z hz
    have ly := fun z hz => spnB_low y5 z hz
    have a1 : q.frm ≤ p.frm := by
      obtain ⟨z, hz, z1, z2⟩ := (h p.frm x1 x2 (by omega)).1 ⟨p, List.mem_cons_self .., Int.le_refl _, x3⟩
      rcases List.mem_cons.1 hz with rfl | hz
      · exact z1
      · have := (ly z hz).1; omega
    have a2 : p.frm ≤ q.frm := by
      obtain ⟨z, hz, z1, z2⟩ := (h q.frm y1 y2 (by omega)).2 ⟨q, List.mem_cons_self .., Int.le_refl _, y3⟩
      rcases List.mem_cons.1 hz with rfl | hz
      · exact z1
      · have := (lx z hz).1; omega
    have b1 : ¬ p.until_ < q.until_ := fun hl => by
      obtain ⟨z, hz, z1, z2⟩ := (h p.until_ (by omega) (by omega) (by omega)).2 ⟨q, List.mem_cons_self .., by omega, hl⟩
      rcases List.mem_cons.1 hz with rfl | hz
      · omega
      · have := (lx z hz).1; omega
    have b2 : ¬ q.until_ < p.until_ := fun hl => by
      obtain ⟨z, hz, z1, z2⟩ := (h q.until_ (by omega) (by omega) (by omega)).1 ⟨p, List.mem_cons_self .., by omega, hl⟩
      rcases List.mem_cons.1 hz with rfl | hz
      · omega
      · have := (ly z hz).1; omega
    have e : p = q := by
      obtain ⟨p1, p2⟩ := p
      obtain ⟨q1, q2⟩ := q
      simp only at a1 a2 b1 b2
      rw [show p1 = q1 by omega, show p2 = q2 by omega]
    subst e
    congr 1
    refine spn_ext x5 y5 fun u hu h0 h1 => ?_
    have hh := h u (by omega) h0 h1
    constructor
    · rintro ⟨z, hz, hz2⟩
      obtain ⟨z', hz', hz2'⟩ := hh.1 ⟨z, List.mem_cons_of_mem _ hz, hz2⟩
      rcases List.mem_cons.1 hz' with rfl | hz'
      · omega
      · exact ⟨z', hz', hz2'⟩
    · rintro ⟨z, hz, hz2⟩
      obtain ⟨z', hz', hz2'⟩ := hh.2 ⟨z, List.mem_cons_of_mem _ hz, hz2⟩
      rcases List.mem_cons.1 hz' with rfl | hz'
      · omega
      · exact ⟨z', hz', hz2'⟩

def insH (l : List House) (i : Nat) (x : House) : List House := l.take i ++ x :: l.drop i
theorem filter_skip {l : List House} {i : Nat} {x : House} {p : House → Bool} (h : p x = false) : (insH l i x).filter p = l.filter p := by
  unfold insH
  rw [List.filter_append, List.filter_cons_of_neg (by rw [h]; decide), ← List.filter_append, List.take_append_drop]
theorem mem_insH {l : List House} {i : Nat} {x h : House} : h ∈ insH l i x ↔ h = x ∨ h ∈ l := by
  unfold insH
  constructor
  · intro hm
    rcases List.mem_append.1 hm with hm | hm
    · exact .inr (List.mem_of_mem_take hm)
    · rcases List.mem_cons.1 hm with hm | hm
      · exact .inl hm
      · exact .inr (List.mem_of_mem_drop hm)
  · rintro (rfl | hm)
    · simp
    · rw [← List.take_append_drop i l] at hm
      rcases List.mem_append.1 hm with hm | hm
      · exact List.mem_append_left _ hm
      · exact List.mem_append_right _ (List.mem_cons_of_mem _ hm)
theorem maxNo_lt {n : Int} : ∀ {l : List House} {m : Int}, l.foldl (fun m h => max m h.no) m < n ↔ m < n ∧ ∀ h ∈ l, h.no < n
  | [], m => by simp
  | x :: l, m => by
    rw [List.foldl_cons, maxNo_lt]
    constructor
    · rintro ⟨h1, h2⟩
      exact ⟨by omega, fun h hh => by
        rcases List.mem_cons.1 hh with rfl | hh
        · omega
        · exact h2 h hh⟩
    · rintro ⟨h1, h2⟩
      have := h2 x (List.mem_cons_self ..)
      exact ⟨by omega, fun h hh => h2 h (List.mem_cons_of_mem _ hh)⟩
theorem firstNo_none {l : List House} (h : ∀ x ∈ l, 0 ≤ x.no) : ¬ 0 ≤ firstNo l ↔ l = [] := by
  cases l with
  | nil => simp [firstNo]
  | cons x t => have := h x (List.mem_cons_self ..); simp [firstNo]; omega
theorem shows3_iff {l : List House} {a : Asked} (hok : ∀ h ∈ l, h.Ok) : (verd l a).1 = 0 ↔ ∀ k : Int, k = 1 ∨ k = 2 ∨ k = 3 → holds l k a = [] := by
  have hn : ∀ k, ∀ x ∈ holds l k a, 0 ≤ x.no := fun k x hx => (hok x (List.mem_filter.1 (List.mem_filter.1 hx).1).1).n0
  have f1 := firstNo_none (hn 1)
  have f2 := firstNo_none (hn 2)
  have f3 := firstNo_none (hn 3)
  unfold verd
  constructor
  · intro h
    split at h
    · cases h
    · rename_i h1
      split at h
      · cases h
      · rename_i h2
        split at h
        · cases h
        · rename_i h3
          rintro k (rfl | rfl | rfl)
          · exact f1.1 h1
          · exact f2.1 h2
          · exact f3.1 h3
  · intro h
    rw [if_neg (f1.2 (h 1 (.inl rfl))), if_neg (f2.2 (h 2 (.inr (.inl rfl)))), if_neg (f3.2 (h 3 (.inr (.inr rfl))))]
theorem bind_kind {k : Int} {a : Asked} {h : House} (hb : bindB k a h = true) : h.kind = k := by
  unfold bindB at hb
  simp only [Bool.and_eq_true, decide_eq_true_eq] at hb
  exact hb.1.1
theorem bind_other {k : Int} {a : Asked} {h : House} (hk : h.kind ≠ k) : bindB k a h = false := by
  cases hb : bindB k a h with
  | false => rfl
  | true => exact absurd (bind_kind hb) hk
theorem verd_skip {l : List House} {i : Nat} {x : House} {a : Asked} (h : ∀ k, bindB k a x = false) : verd (insH l i x) a = verd l a := by
  have hb : ∀ k, bound (insH l i x) k a = bound l k a := fun k => filter_skip (h k)
  have hh : ∀ k, holds (insH l i x) k a = holds l k a := fun k => by
    unfold holds
    rw [hb k]
    refine List.filter_congr fun y _ => ?_
    unfold holdB
    rw [hb 5, hb 4]
  unfold verd
  rw [hh 1, hh 2, hh 3]
theorem show_more {l : List House} {i : Nat} {x : House} {a : Asked} (hok : ∀ h ∈ l, h.Ok) (hx : x.Ok) (hk : ¬ (x.kind = 4 ∨ x.kind = 5)) (h : (verd (insH l i x) a).1 = 0) : (verd l a).1 = 0 := by
  have hok' : ∀ h ∈ insH l i x, h.Ok := fun y hy => by
    rcases mem_insH.1 hy with rfl | hy
    · exact hx
    · exact hok y hy
  rw [shows3_iff hok'] at h
  rw [shows3_iff hok]
  intro k hk'
  have h1 := h k hk'
  have b5 : bound (insH l i x) 5 a = bound l 5 a := filter_skip (bind_other (fun e => hk (.inr e)))
  have b4 : bound (insH l i x) 4 a = bound l 4 a := filter_skip (bind_other (fun e => hk (.inl e)))
  unfold holds at h1 ⊢
  rw [List.filter_eq_nil_iff] at h1 ⊢
  intro y hy
  have hy' := List.mem_filter.1 hy
  have := h1 y (List.mem_filter.2 ⟨mem_insH.2 (.inr hy'.1), hy'.2⟩)
  unfold holdB at this ⊢
  rw [b5, b4] at this
  exact this
theorem show_fewer {l : List House} {i : Nat} {x : House} {a : Asked} (hok : ∀ h ∈ l, h.Ok) (hx : x.Ok) (hk : x.kind = 4 ∨ x.kind = 5) (h : (verd l a).1 = 0) : (verd (insH l i x) a).1 = 0 := by
  have hok' : ∀ h ∈ insH l i x, h.Ok := fun y hy => by
    rcases mem_insH.1 hy with rfl | hy
    · exact hx
    · exact hok y hy
  rw [shows3_iff hok] at h
  rw [shows3_iff hok']
  intro k hk'
  have h1 := h k hk'
  have bk : bound (insH l i x) k a = bound l k a := filter_skip (bind_other (by omega))
  have mx : ∀ k n, maxNo (bound (insH l i x) k a) < n → maxNo (bound l k a) < n := fun k n hm => by
    unfold maxNo at hm ⊢
    rw [maxNo_lt] at hm ⊢
    exact ⟨hm.1, fun z hz => by
      have hz' := List.mem_filter.1 hz
      exact hm.2 z (List.mem_filter.2 ⟨mem_insH.2 (.inr hz'.1), hz'.2⟩)⟩
  unfold holds at h1 ⊢
  rw [bk]
  rw [List.filter_eq_nil_iff] at h1 ⊢
  intro y hy hh
  refine h1 y hy ?_
  unfold holdB at hh ⊢
  rcases hk' with rfl | rfl | rfl
  · rw [if_pos rfl] at hh ⊢
    exact decide_eq_true (mx _ _ (of_decide_eq_true hh))
  · rw [if_neg (by decide), if_pos rfl] at hh ⊢
    exact decide_eq_true (mx _ _ (of_decide_eq_true hh))
  · exact hh
/-- A decision that is not about the word, or not known yet. -/
def offB (x : House) (s b g kn : Int) : Bool := decide (kn < x.known) || (decide (0 ≤ x.speaker) && decide (x.speaker ≠ s)) || (decide (0 ≤ x.lang) && decide (x.lang ≠ g)) || decide (b < x.first) || decide (x.last ≤ b)
theorem off_bind {x : House} {s b g kn t k : Int} (hx : x.Ok) (h : offB x s b g kn = true) : bindB k ⟨s, b, g, t, kn⟩ x = false := by
  cases hb : bindB k ⟨s, b, g, t, kn⟩ x with
  | false => rfl
  | true =>
    exfalso
    have := hx.s0
    have := hx.l0
    unfold bindB covB aboutB at hb
    unfold offB at h
    simp only [Bool.and_eq_true, Bool.or_eq_true, decide_eq_true_eq] at hb h
    omega
theorem spnL_off {l : List House} {i : Nat} {x : House} {s b g kn : Int} (hx : x.Ok) (h : offB x s b g kn = true) : spnL (insH l i x) s b g kn = spnL l s b g kn := by
  obtain ⟨h1, h2⟩ := spnL_say (insH l i x) s b g kn
  obtain ⟨h3, h4⟩ := spnL_say l s b g kn
  refine spn_ext h2 h4 fun u _ h0 hu => ?_
  rw [h1 u h0 hu, h3 u h0 hu]
  unfold vAt
  rw [verd_skip fun k => off_bind hx h]
theorem spnL_more {l : List House} {i : Nat} {x : House} {s b g kn : Int} (hok : ∀ h ∈ l, h.Ok) (hx : x.Ok) (hk : ¬ (x.kind = 4 ∨ x.kind = 5)) : ∀ u, inS (spnL (insH l i x) s b g kn) u → inS (spnL l s b g kn) u := by
  obtain ⟨h1, h2⟩ := spnL_say (insH l i x) s b g kn
  obtain ⟨h3, h4⟩ := spnL_say l s b g kn
  intro u hu
  obtain ⟨p, hp, hp1, hp2⟩ := hu
  have := spnB_low h2 p hp
  refine (h3 u (by omega) (by omega)).2 (show_more hok hx hk ((h1 u (by omega) (by omega)).1 ⟨p, hp, hp1, hp2⟩))
theorem spnL_fewer {l : List House} {i : Nat} {x : House} {s b g kn : Int} (hok : ∀ h ∈ l, h.Ok) (hx : x.Ok) (hk : x.kind = 4 ∨ x.kind = 5) : ∀ u, inS (spnL l s b g kn) u → inS (spnL (insH l i x) s b g kn) u := by
  obtain ⟨h1, h2⟩ := spnL_say (insH l i x) s b g kn
  obtain ⟨h3, h4⟩ := spnL_say l s b g kn
  intro u hu
  obtain ⟨p, hp, hp1, hp2⟩ := hu
  have := spnB_low h4 p hp
  refine (h1 u (by omega) (by omega)).2 (show_fewer hok hx hk ((h3 u (by omega) (by omega)).1 ⟨p, hp, hp1, hp2⟩))
end Go.Proofs.Ytmindojbkedmlaa
