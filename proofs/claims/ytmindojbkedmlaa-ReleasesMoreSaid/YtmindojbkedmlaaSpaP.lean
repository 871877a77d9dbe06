/- Spans, plain: borders, the states of two lists, what they say. No program in sight. -/
import Derived.Test.YtmindojbkedmlaaRelM
namespace Go.Proofs.Ytmindojbkedmlaa
open Go.RowKit Go.Han

def bC (p : Spn) : List Int := [p.frm, p.until_]
/-- The borders, in order. -/
def bl (x : List Spn) : List Int := x.flatMap bC
def hdB : List Int → Int
  | [] => 1099511627777
  | v :: _ => v
structure StV where
  frm : Int
  a : Bool
  b : Bool
def stN : Nat → List Int → List Int → Bool → Bool → List StV
  | 0, _, _, _, _ => []
  | n + 1, B, C, pa, pb => if B = [] ∧ C = [] then [] else
    ⟨min (hdB B) (hdB C), decide (hdB B = min (hdB B) (hdB C)) != pa, decide (hdB C = min (hdB B) (hdB C)) != pb⟩ ::
      stN n (if hdB B = min (hdB B) (hdB C) then B.tail else B) (if hdB C = min (hdB B) (hdB C) then C.tail else C) (decide (hdB B = min (hdB B) (hdB C)) != pa) (decide (hdB C = min (hdB B) (hdB C)) != pb)
def stL (B C : List Int) (pa pb : Bool) : List StV := stN (B.length + C.length) B C pa pb
theorem stL_nil (pa pb : Bool) : stL [] [] pa pb = [] := rfl
/-- Borders go up, and none is behind the end. -/
def AscB (B : List Int) : Prop := B.Pairwise (fun a b => a < b) ∧ ∀ v ∈ B, v ≤ 1099511627776
theorem AscB.tail {v : Int} {B : List Int} (h : AscB (v :: B)) : AscB B := ⟨(List.pairwise_cons.1 h.1).2, fun u hu => h.2 u (List.mem_cons_of_mem _ hu)⟩
theorem hdB_le {B : List Int} (h : AscB B) (hn : B ≠ []) : hdB B ≤ 1099511627776 := by
  cases B with
  | nil => exact absurd rfl hn
  | cons v B => exact h.2 v (List.mem_cons_self ..)
theorem min_le {B C : List Int} (hB : AscB B) (hC : AscB C) (hn : ¬ (B = [] ∧ C = [])) : min (hdB B) (hdB C) ≤ 1099511627776 := by
  by_cases h : B = []
  · have := hdB_le hC (fun h' => hn ⟨h, h'⟩); omega
  · have := hdB_le hB h; omega
theorem pop_len {B C : List Int} (hB : AscB B) (hC : AscB C) (hn : ¬ (B = [] ∧ C = [])) :
    (if hdB B = min (hdB B) (hdB C) then B.tail else B).length + (if hdB C = min (hdB B) (hdB C) then C.tail else C).length + 1 ≤ B.length + C.length := by
  have hm := min_le hB hC hn
  generalize ht : min (hdB B) (hdB C) = t at *
  have : hdB B = t ∨ hdB C = t := by omega
  have l1 : (if hdB B = t then B.tail else B).length ≤ B.length := by split <;> simp
  have l2 : (if hdB C = t then C.tail else C).length ≤ C.length := by split <;> simp
  rcases this with h | h
  · have : (if hdB B = t then B.tail else B).length < B.length := by
      rw [if_pos h]
      cases B with
      | nil => simp only [hdB] at h; omega
      | cons v B => simp
    omega
  · have : (if hdB C = t then C.tail else C).length < C.length := by
      rw [if_pos h]
      cases C with
      | nil => simp only [hdB] at h; omega
      | cons v C => simp
    omega
theorem AscB.tl {B : List Int} (h : AscB B) : AscB B.tail := by
  cases B with
  | nil => exact h
  | cons v B => exact h.tail
theorem AscB.ite {B : List Int} {p : Prop} [Decidable p] (h : AscB B) : AscB (if p then B.tail else B) := by
  split
  · exact h.tl
  · exact h
theorem stN_fuel : ∀ (n m : Nat) (B C : List Int) (pa pb : Bool), AscB B → AscB C → B.length + C.length ≤ n → B.length + C.length ≤ m → stN n B C pa pb = stN m B C pa pb
  | 0, 0, _, _, _, _, _, _, _, _ => rfl
  | 0, m + 1, B, C, pa, pb, _, _, h, _ => by
    rw [stN, stN, if_pos ⟨List.eq_nil_of_length_eq_zero (by omega), List.eq_nil_of_length_eq_zero (by omega)⟩]
  | n + 1, 0, B, C, pa, pb, _, _, _, h => by
    rw [stN, stN, if_pos ⟨List.eq_nil_of_length_eq_zero (by omega), List.eq_nil_of_length_eq_zero (by omega)⟩]
  | n + 1, m + 1, B, C, pa, pb, hB, hC, h1, h2 => by
    rw [stN, stN]
    by_cases hn : B = [] ∧ C = []
    · rw [if_pos hn, if_pos hn]
    · rw [if_neg hn, if_neg hn]
      have := pop_len hB hC hn
      rw [stN_fuel n m _ _ _ _ hB.ite hC.ite (by omega) (by omega)]
theorem stL_step {B C : List Int} (pa pb : Bool) (hB : AscB B) (hC : AscB C) (hn : ¬ (B = [] ∧ C = [])) :
    stL B C pa pb = ⟨min (hdB B) (hdB C), decide (hdB B = min (hdB B) (hdB C)) != pa, decide (hdB C = min (hdB B) (hdB C)) != pb⟩ ::
      stL (if hdB B = min (hdB B) (hdB C) then B.tail else B) (if hdB C = min (hdB B) (hdB C) then C.tail else C) (decide (hdB B = min (hdB B) (hdB C)) != pa) (decide (hdB C = min (hdB B) (hdB C)) != pb) := by
  have hp := pop_len hB hC hn
  unfold stL
  obtain ⟨n, hl⟩ : ∃ n, B.length + C.length = n + 1 := ⟨B.length + C.length - 1, by omega⟩
  rw [hl, stN, if_neg hn, stN_fuel n _ _ _ _ _ hB.ite hC.ite (by omega) (Nat.le_refl _)]
/-- How often a state has turned. -/
def par (B : List Int) (pa : Bool) (u : Int) : Bool := B.foldl (fun p v => if v ≤ u then !p else p) pa
theorem par_late {u : Int} : ∀ {B : List Int} {pa : Bool}, (∀ v ∈ B, u < v) → par B pa u = pa
  | [], _, _ => rfl
  | v :: B, pa, h => by
    show par B (if v ≤ u then !pa else pa) u = pa
    rw [if_neg (by have := h v (List.mem_cons_self ..); omega)]
    exact par_late fun w hw => h w (List.mem_cons_of_mem _ hw)
theorem bnot_ne (p : Bool) : (true != p) = !p := by cases p <;> rfl
theorem bid_ne (p : Bool) : (false != p) = p := by cases p <;> rfl
theorem hd_low {B : List Int} (h : AscB B) {t : Int} (ht : t ≤ hdB B) : ∀ v ∈ B, t ≤ v := by
  cases B with
  | nil => intro v hv; cases hv
  | cons w B =>
    intro v hv
    simp only [hdB] at ht
    rcases List.mem_cons.1 hv with rfl | hv
    · exact ht
    · have := (List.pairwise_cons.1 h.1).1 v hv; omega
theorem AscB.pop {B : List Int} {t : Int} (h : AscB B) (ht : t ≤ hdB B) : AscB (if hdB B = t then B.tail else B) ∧ (∀ v ∈ (if hdB B = t then B.tail else B), t < v ∨ ¬ hdB B = t) ∧ ∀ u, t ≤ u → t ≤ 1099511627776 → ∀ pa, par B pa u = par (if hdB B = t then B.tail else B) (decide (hdB B = t) != pa) u := by
  cases B with
  | nil => exact ⟨by simpa using h, by simp, fun u hu hE pa => by rw [decide_eq_false (by simp [hdB]; omega), bid_ne]; simp⟩
  | cons v B =>
    by_cases hv : v = t
    · subst hv
      simp only [show hdB (v :: B) = v from rfl, if_true, decide_true, bnot_ne]
      exact ⟨h.tail, fun w hw => .inl ((List.pairwise_cons.1 h.1).1 w hw), fun u hu _ pa => by show par B (if v ≤ u then !pa else pa) u = _; rw [if_pos hu]; rfl⟩
    · simp only [show hdB (v :: B) = v from rfl, hv, if_false, decide_false, bid_ne]
      exact ⟨h, fun w hw => .inr (by simp), fun u _ _ pa => by simp⟩
/-- Each state is that of its time. -/
theorem stL_say : ∀ (n : Nat) (B C : List Int) (pa pb : Bool), B.length + C.length = n → AscB B → AscB C → ∀ s ∈ stL B C pa pb, (min (hdB B) (hdB C) ≤ s.frm ∧ s.frm ≤ 1099511627776) ∧ s.a = par B pa s.frm ∧ s.b = par C pb s.frm := by
  intro n
  induction n using Nat.strongRecOn with
  | _ n ih =>
    intro B C pa pb hl hB hC s hs
    by_cases hn : B = [] ∧ C = []
    · rw [hn.1, hn.2, stL_nil] at hs; cases hs
    · have hm := min_le hB hC hn
      rw [stL_step pa pb hB hC hn] at hs
      generalize ht : min (hdB B) (hdB C) = t at *
      obtain ⟨a1, a2, a3⟩ := hB.pop (t := t) (by omega)
      obtain ⟨c1, c2, c3⟩ := hC.pop (t := t) (by omega)
      have hlow1 := hd_low hB (t := t) (by omega)
      have hlow2 := hd_low hC (t := t) (by omega)
      rcases List.mem_cons.1 hs with rfl | hs
      · refine ⟨⟨Int.le_refl _, hm⟩, ?_, ?_⟩
        · show _ = par B pa t
          rw [a3 t (Int.le_refl _) hm pa]
          by_cases h : hdB B = t
          · refine (par_late fun v hv => ?_).symm
            rcases a2 v hv with h1 | h1
            · exact h1
            · exact absurd h h1
          · rw [if_neg h]
            refine (par_late fun v hv => ?_).symm
            have := hlow1 v hv
            cases B with
            | nil => cases hv
            | cons w B =>
              have h2 : w ≠ t := h
              rcases List.mem_cons.1 hv with rfl | hv
              · omega
              · have := (List.pairwise_cons.1 hB.1).1 v hv
                have := hlow1 w (List.mem_cons_self ..)
                omega
        · show _ = par C pb t
          rw [c3 t (Int.le_refl _) hm pb]
          by_cases h : hdB C = t
          · refine (par_late fun v hv => ?_).symm
            rcases c2 v hv with h1 | h1
            · exact h1
            · exact absurd h h1
          · rw [if_neg h]
            refine (par_late fun v hv => ?_).symm
            have := hlow2 v hv
            cases C with
            | nil => cases hv
            | cons w C =>
              have h2 : w ≠ t := h
              rcases List.mem_cons.1 hv with rfl | hv
              · omega
              · have := (List.pairwise_cons.1 hC.1).1 v hv
                have := hlow2 w (List.mem_cons_self ..)
                omega
      · have hdec : (if hdB B = t then B.tail else B).length + (if hdB C = t then C.tail else C).length < n := by
          have : hdB B = t ∨ hdB C = t := by omega
          have l1 : (if hdB B = t then B.tail else B).length ≤ B.length := by split <;> simp
          have l2 : (if hdB C = t then C.tail else C).length ≤ C.length := by split <;> simp
          rcases this with h | h
          · have : (if hdB B = t then B.tail else B).length < B.length := by
              rw [if_pos h]
              cases B with
              | nil => simp only [hdB] at h; omega
              | cons v B => simp
            omega
          · have : (if hdB C = t then C.tail else C).length < C.length := by
              rw [if_pos h]
              cases C with
              | nil => simp only [hdB] at h; omega
              | cons v C => simp
            omega
        obtain ⟨⟨i1, i2⟩, i3, i4⟩ := ih _ hdec _ _ _ _ rfl a1 c1 s hs
        have hts : t ≤ s.frm := by
          have h1 : t ≤ hdB (if hdB B = t then B.tail else B) := by
            split
            · cases B with
              | nil => simp [hdB]; omega
              | cons v B => cases B with
                | nil => simp [hdB]; omega
                | cons w B => exact hlow1 w (by simp)
            · omega
          have h2 : t ≤ hdB (if hdB C = t then C.tail else C) := by
            split
            · cases C with
              | nil => simp [hdB]; omega
              | cons v C => cases C with
                | nil => simp [hdB]; omega
                | cons w C => exact hlow2 w (by simp)
            · omega
          omega
        exact ⟨⟨hts, i2⟩, by rw [i3, a3 s.frm hts hm pa], by rw [i4, c3 s.frm hts hm pb]⟩
theorem bl_asc : ∀ {x : List Spn} {a : Int}, spnB a x = true → AscB (bl x) ∧ ∀ v ∈ bl x, a < v
  | [], _, _ => ⟨⟨List.Pairwise.nil, fun v hv => (by cases hv)⟩, fun v hv => (by cases hv)⟩
  | p :: r, a, h => by
    obtain ⟨h1, h2, h3, h4, h5⟩ := spnB_cons.1 h
    obtain ⟨⟨i1, i2⟩, i3⟩ := bl_asc h5
    have e : bl (p :: r) = p.frm :: p.until_ :: bl r := rfl
    rw [e]
    refine ⟨⟨?_, ?_⟩, ?_⟩
    · rw [List.pairwise_cons, List.pairwise_cons]
      refine ⟨fun v hv => ?_, fun v hv => i3 v hv, i1⟩
      rcases List.mem_cons.1 hv with rfl | hv
      · exact h3
      · have := i3 v hv; omega
    · intro v hv
      rcases List.mem_cons.1 hv with rfl | hv
      · omega
      · rcases List.mem_cons.1 hv with rfl | hv
        · exact h4
        · exact i2 v hv
    · intro v hv
      rcases List.mem_cons.1 hv with rfl | hv
      · exact h1
      · rcases List.mem_cons.1 hv with rfl | hv
        · omega
        · have := i3 v hv; omega
theorem par_in : ∀ {x : List Spn} {a u : Int}, spnB a x = true → (par (bl x) false u = true ↔ inS x u)
  | [], _, _, _ => by
    constructor
    · intro h; cases h
    · rintro ⟨p, hp, _⟩; cases hp
  | p :: r, a, u, h => by
    obtain ⟨h1, h2, h3, h4, h5⟩ := spnB_cons.1 h
    have hl := (bl_asc h5).2
    have lo := spnB_low h5
    show par (bl r) (if p.until_ ≤ u then !(if p.frm ≤ u then !false else false) else (if p.frm ≤ u then !false else false)) u = true ↔ _
    by_cases k1 : p.until_ ≤ u
    · rw [if_pos k1, if_pos (by omega)]
      rw [show (!(!false)) = false from rfl, par_in h5]
      constructor
      · rintro ⟨q, hq, h⟩; exact ⟨q, List.mem_cons_of_mem _ hq, h⟩
      · rintro ⟨q, hq, h6, h7⟩
        rcases List.mem_cons.1 hq with rfl | hq
        · omega
        · exact ⟨q, hq, h6, h7⟩
    · rw [if_neg k1, par_late (fun v hv => by have := hl v hv; omega)]
      by_cases k2 : p.frm ≤ u
      · rw [if_pos k2]
        exact ⟨fun _ => ⟨p, List.mem_cons_self .., k2, by omega⟩, fun _ => rfl⟩
      · rw [if_neg k2]
        constructor
        · intro h; cases h
        · rintro ⟨q, hq, h6, h7⟩
          rcases List.mem_cons.1 hq with rfl | hq
          · omega
          · have := (lo q hq).1; omega
/-- A first list within a second one: no state has the first alone. -/
theorem stL_within {x y : List Spn} {a b : Int} (hx : spnB a x = true) (hy : spnB b y = true) (h : ∀ u, inS x u → inS y u) : ∀ s ∈ stL (bl x) (bl y) false false, s.a = true → s.b = true := by
  intro s hs ha
  obtain ⟨_, h1, h2⟩ := stL_say _ (bl x) (bl y) false false rfl (bl_asc hx).1 (bl_asc hy).1 s hs
  rw [h2, par_in hy]
  rw [h1, par_in hx] at ha
  exact h _ ha
/-- What Has makes of the states. -/
def okF (t : Int) : Bool → List StV → Bool
  | o, [] => o
  | o, s :: S => if t < s.frm then o else okF t s.a S
theorem okF_say (t : Int) : ∀ (n : Nat) (B : List Int) (pa : Bool), B.length = n → AscB B → okF t pa (stL B [] pa false) = par B pa t
  | 0, [], pa, _, _ => by rw [stL_nil]; rfl
  | n + 1, v :: B, pa, hl, hB => by
    have hv : v ≤ 1099511627776 := hB.2 v (List.mem_cons_self ..)
    have hnil : AscB [] := ⟨List.Pairwise.nil, fun v hv => (by cases hv)⟩
    have hm : min (hdB (v :: B)) (hdB []) = v := by simp only [hdB]; omega
    have h0 : ¬ hdB [] = v := by simp only [hdB]; omega
    rw [stL_step pa false hB hnil (by simp), hm, show hdB (v :: B) = v from rfl, if_pos rfl, if_neg h0, decide_eq_true rfl, decide_eq_false h0, bnot_ne, bid_ne, okF]
    show (if t < v then pa else okF t (!pa) (stL B [] (!pa) false)) = par B (if v ≤ t then !pa else pa) t
    by_cases h : t < v
    · rw [if_pos h, if_neg (by omega), par_late]
      intro w hw
      have := (List.pairwise_cons.1 hB.1).1 w hw
      omega
    · rw [if_neg h, if_pos (by omega)]
      exact okF_say t n B (!pa) (by simpa using hl) hB.tail
end Go.Proofs.Ytmindojbkedmlaa
