/- Appends of perhaps nothing, as a step of a region that draws its order; pieces of a slice. -/
import Derived.Test.YtneanannicacnaaDoorGen
import Derived.Deep.RegionLaw
import Derived.Deep.DrawnRows
import Derived.Deep.Upon
import Derived.Maps.AppendAt
import Derived.Deep.AppendLies
namespace Go.Han
open Go.RowKit
section
variable {P : Program} {w : World}
theorem src_nil (size c : Nat) (tx : TypeId) {e : TypeId} (ht : P.underlying tx = some (.slice e)) : Src P size tx (.slice none 0 c) 0 [] w := by
  refine ⟨.inl ⟨e, ht⟩, fun w' => ?_, ?_, ?_, by simp, fun u hu => by cases hu⟩
  · rfl
  · rfl
  · rfl
theorem own_room {base e size n : Nat} {v : Value} {xs : List Value} (h : w.ownsRow base e size v n xs) : ∃ A cap, v = .slice A n cap ∧ n ≤ cap := by
  rcases h.2 with ⟨h1, h2⟩ | ⟨g, cap, cur, h1, _, _, h4, _⟩
  · subst h2; exact ⟨none, 0, h1, Nat.le_refl _⟩
  · exact ⟨_, cap, h1, h4⟩
theorem grownBy_same (row : Option Nat) : w.grownBy w row := gbelow_grown (Below.refl _ _) row
theorem run_append_rd (base : Nat) (t ty e : TypeId) (i : TypeInfo) (z : Value) (size bytes : Nat) (ht : P.underlying t = some (.slice e)) (hi : P.info? e = some i) (hz : i.zero = some z)
    (hsize : i.size = size) (hby : i.bytes = bytes) (hzs : z.cells.size = size) (hsz : 0 < size)
    (v : Value) (n : Nat) (xs : List Value) (hown : w.ownsRow base e size v n xs)
    (B : Option Addr) (m c : Nat) (news : List Value) (hl : news.length = m * size) (hr : Rd w B news) (h1 : ∀ u ∈ news, u.oneCell' = true)
    (h63 : n + m ≤ maxLen) (hbytes : (n + m) * bytes ≤ 140737488355328) (hbase : base ≤ w.heap.size) :
    ∃ v' w', (Builtin.append_ #[t, t] ty #[v, .slice B m c]).run P w = .ok v' w' ∧ w'.ownsRow base e size v' (n + m) (xs ++ news) ∧ w.grownBy w' v.ownBlock ∧ (v'.ownBlock = v.ownBlock ∨ v'.ownBlock = some w.heap.size) := by
  cases B with
  | none =>
    have hn : news = [] := by
      rcases hr with h | ⟨b, off, h, _⟩
      · exact h
      · cases h
    subst hn
    have hm : m = 0 := by
      rcases Nat.eq_zero_or_pos m with h | h
      · exact h
      · have := Nat.mul_pos h hsz; simp at hl; omega
    subst hm
    obtain ⟨A, cap, rfl, hle⟩ := own_room hown
    refine ⟨_, _, run_append_nothing w t t ty e i ht hi A n cap hle _ (src_nil i.size c t ht), ?_, grownBy_same _, .inl rfl⟩
    simpa using hown
  | some ad =>
    have hc : ∀ j u, news[j]? = some u → w.cell? (ad.add j) = some u := by
      intro j u hu
      rcases hr with h | ⟨b, off, h, _, hc⟩
      · rw [h] at hu; cases hu
      · cases h
        have := hc j u hu
        rw [show (⟨b, off, none⟩ : Addr).add j = ⟨b, off + j, none⟩ from by unfold Addr.add; split <;> simp_all]
        exact this
    obtain ⟨v', w', hr, h2, h3, _, h5⟩ := run_append_own_at (P := P) w base t ty e i z size bytes ht hi hz hsize hby hzs hsz v n xs hown ad m c news hl hc h1 h63 hbytes hbase
    exact ⟨v', w', hr, h2, h3, h5⟩
theorem step_append_rd {ops : Array Oper} {o : Oper} {a : Act} {K : Act → World → Prop} {Q : Exit → Act → World → Prop} {E : Prop} (hgd : o.guard = none) (s x : Operand) (t : TypeId)
    (ho : o.op = .call { callee := .builtin .append, args := #[s, x], argTypes := #[t, t] })
    (base : Nat) (e : TypeId) (i : TypeInfo) (z : Value) (size bytes : Nat) (ht : P.underlying t = some (.slice e)) (hi : P.info? e = some i) (hz : i.zero = some z)
    (hsize : i.size = size) (hby : i.bytes = bytes) (hzs : z.cells.size = size) (hsz : 0 < size)
    (v : Value) (n : Nat) (xs : List Value) (hs : a.eval s = v) (B : Option Addr) (m c : Nat) (news : List Value) (hx : a.eval x = .slice B m c)
    (hown : w.ownsRow base e size v n xs) (hl : news.length = m * size) (hr : Rd w B news) (h1 : ∀ u ∈ news, u.oneCell' = true)
    (h63 : n + m ≤ maxLen) (hbytes : (n + m) * bytes ≤ 140737488355328) (hbase : base ≤ w.heap.size)
    (h : ∀ v' w', w'.ownsRow base e size v' (n + m) (xs ++ news) → w.grownBy w' v.ownBlock → (v'.ownBlock = v.ownBlock ∨ v'.ownBlock = some w.heap.size) → K (a.put o.dst v') w') :
    if Region.wanted o (yielded ops a.tmps) = true then Oper.wp P o a w K Q else E := by
  have hw : Region.wanted o (yielded ops a.tmps) = true := by simp [Region.wanted, hgd]
  rw [if_pos hw]
  obtain ⟨v', w', hrun, h2, h3, h5⟩ := run_append_rd (P := P) (w := w) base t o.type e i z size bytes ht hi hz hsize hby hzs hsz v n xs hown B m c news hl hr h1 h63 hbytes hbase
  unfold Oper.wp execOp
  simp only [ho, resolve, invoke, builtin, Sem.run_bind, Sem.run_pure, Result.andThen_ok, List.map_toArray, List.map_cons, List.map_nil, hs, hx, hrun]
  exact h v' w' h2 h3 h5
/-- A new slice of no elements. -/
theorem own_empty {base e size b : Nat} (h : w.heap[b]? = some (.cells #[] e (0, 0))) (hb : base ≤ b) : w.ownsRow base e size (.slice (some ⟨b, 0, none⟩) 0 0) 0 [] :=
  ⟨by simp, .inr ⟨b, 0, #[], rfl, hb, h, Nat.le_refl _, Nat.zero_le _, by simp, by simp⟩⟩
/-- Where a piece lies. -/
def subA (A : Option Addr) (cp i s : Nat) : Option Addr := if cp = i then A else A.map (·.add (i * s))
theorem Rd.cut {α : Type} {f : α → List Value} {s : Nat} (hs : 0 < s) (hf : ∀ y, (f y).length = s) {A : Option Addr} {l : List α} (h : Rd w A (l.flatMap f)) {cp i n : Nat} (hin : i + n ≤ l.length) (hcp : l.length ≤ cp) :
    Rd w (subA A cp i s) (((l.drop i).take n).flatMap f) := by
  unfold subA
  by_cases hc : cp = i
  · obtain rfl : n = 0 := by omega
    simp only [List.take_zero]
    exact Rd.nil _ _
  · rw [if_neg hc]
    rcases h with h0 | ⟨b, off, he, hb, hcl⟩
    · have hl : l = [] := by
        cases l with
        | nil => rfl
        | cons x l =>
          have := congrArg List.length h0
          simp [hf] at this
          omega
      rw [hl]; simp only [List.drop_nil, List.take_nil]; exact Rd.nil _ _
    · refine .inr ⟨b, off + i * s, by rw [he]; simp [Addr.add], hb, fun j u hu => ?_⟩
      rw [Nat.add_assoc]
      refine hcl (i * s + j) u ?_
      have h1 : l.flatMap f = (l.take i).flatMap f ++ (((l.drop i).take n).flatMap f ++ ((l.drop i).drop n).flatMap f) := by
        rw [← List.flatMap_append, List.take_append_drop, ← List.flatMap_append, List.take_append_drop]
      have h2 : ((l.take i).flatMap f).length = i * s := by rw [flat_len f s hf, List.length_take, Nat.min_eq_left (by omega)]
      rw [h1, List.getElem?_append_right (by omega), h2, Nat.add_sub_cancel_left, List.getElem?_append_left (List.getElem?_eq_some_iff.1 hu).1]
      exact hu
end
end Go.Han
