/- Small lemmas for walks: what lies below a block number, cells that are read, draws. -/
import Derived.Test.YtneanannicacnaaDoorRange
import Derived.Test.YtneanannicacnaaDoorRows
import Derived.WalkSpells
import Derived.WalkLawsBesides
import Derived.Deep.QuietTactic
import Derived.BigQuiet
import Derived.Lib.Hide
import Derived.Recover
import Derived.Maps.AppendAt
import Derived.RangeFuncBox
import Derived.Shelf.Unicode.DecodeSlow
namespace Go.Han
open Go.RowKit

theorem bcell {W w1 : World} (hb : Below W.heap.size W w1) : (∀ b o, b < W.heap.size → w1.cell? ⟨b, o, none⟩ = W.cell? ⟨b, o, none⟩) ∧ (∀ b o, b < W.heap.size → w1.frozen? ⟨b, o, none⟩ = W.frozen? ⟨b, o, none⟩) :=
  ⟨fun b o h => hb.cell (p := ⟨b, o, none⟩) h, fun b o h => hb.frozen (p := ⟨b, o, none⟩) h⟩

theorem ext_trans {a b c : World} (h : Below a.heap.size a b) (k : Below b.heap.size b c) : Below a.heap.size a c := h.trans (k.mono h.size)
theorem ext_alloc {a b : World} (h : Below a.heap.size a b) (o : Obj) : Below a.heap.size a (b.alloc o) := h.alloc h.size o
theorem ext_set {a b : World} (h : Below a.heap.size a b) {p : Addr} (hp : a.heap.size ≤ p.block) (u : Value) : Below a.heap.size a (b.setCell p u) := h.setCell hp u
theorem ext_drew {a b : World} (h : Below a.heap.size a b) : Below a.heap.size a b.drew := h.drew

/-- A block that is known whole: one cell, not frozen. -/
theorem cell_one {w : World} {b t : Nat} {v : Value} (h : w.heap[b]? = some (.cells #[v] t (0, 0))) : w.cell? ⟨b, 0, none⟩ = some v := by
  simp [World.cell?, h]
theorem frozen_one {w : World} {b t : Nat} {cs : Array Value} (h : w.heap[b]? = some (.cells cs t (0, 0))) (o : Nat) : w.frozen? ⟨b, o, none⟩ = false := by
  simp [World.frozen?, h]
theorem lt_block {w : World} {b : Nat} {o : Obj} (h : w.heap[b]? = some o) : b < w.heap.size := (Array.getElem?_eq_some_iff.1 h).1
theorem lt_cell {w : World} {a : Addr} {v : Value} (h : w.cell? a = some v) : a.block < w.heap.size := by
  unfold World.cell? at h
  rcases Nat.lt_or_ge a.block w.heap.size with h1 | h1
  · exact h1
  · rw [Array.getElem?_eq_none h1] at h; simp at h
theorem set_one {w : World} {b t : Nat} {v : Value} (h : w.heap[b]? = some (.cells #[v] t (0, 0))) (u : Value) : (w.setCell ⟨b, 0, none⟩ u).heap[b]? = some (.cells #[u] t (0, 0)) := by
  simp [World.setCell, Array.getElem?_modify, h]

/-- Frame steps over an iterator's own turns. -/
theorem IterStep.refl (B0 : Nat) (M own : Nat → Prop) (W : World) : IterStep B0 M own W W := ⟨rfl, rfl, rfl, Nat.le_refl _, fun _ _ _ => rfl⟩
theorem IterStep.trans {B0 : Nat} {M own : Nat → Prop} {A B C : World} (h : IterStep B0 M own A B) (k : IterStep B0 M own B C) : IterStep B0 M own A C :=
  ⟨k.os.trans h.os, k.tape.trans h.tape, k.output.trans h.output, Nat.le_trans h.size k.size, fun i hi ho => (k.block i (Nat.lt_of_lt_of_le hi h.size) ho).trans (h.block i hi ho)⟩
theorem IterStep.of_below {B0 : Nat} {M own : Nat → Prop} {A B : World} (h : Below A.heap.size A B) : IterStep B0 M own A B :=
  ⟨h.os, h.tape, h.output, h.size, fun i hi _ => h.block i hi⟩
theorem IterStep.setCell {B0 : Nat} {M own : Nat → Prop} {A B : World} (h : IterStep B0 M own A B) {p : Addr} (hp : B0 ≤ p.block ∨ M p.block) (hn : ¬ own p.block) (u : Value) : IterStep B0 M own A (B.setCell p u) :=
  h.trans ⟨rfl, rfl, rfl, by simp [World.setCell], fun i _ ho => Below.heap_setCell _ _ _ _ (by
    rintro rfl
    rcases ho with ⟨h1, h2⟩ | ho
    · rcases hp with hp | hp
      · omega
      · exact h2 hp
    · exact hn ho)⟩
theorem IterStep.alloc {B0 : Nat} {M own : Nat → Prop} {A B : World} (h : IterStep B0 M own A B) (o : Obj) : IterStep B0 M own A (B.alloc o) :=
  h.trans (IterStep.of_below ((Below.refl _ _).alloc (Nat.le_refl _) o))
theorem IterStep.drew {B0 : Nat} {M own : Nat → Prop} {A B : World} (h : IterStep B0 M own A B) : IterStep B0 M own A B.drew :=
  h.trans (IterStep.of_below (Below.refl _ _).drew)

theorem utf_below {g1 g2 : Nat} {w w' : World} (h : Lib.Utf8Tabs g1 g2 w) (hk : ∀ k, (k = g1 ∨ k = g2) → w'.heap[k]? = w.heap[k]?) : Lib.Utf8Tabs g1 g2 w' := by
  refine ⟨fun c hc => ?_, fun i hi => ⟨?_, ?_⟩⟩
  · rw [World.cell?_of_block (w := w) (hk _ (.inl rfl))]; exact h.1 c hc
  · rw [World.cell?_of_block (w := w) (hk _ (.inr rfl))]; exact (h.2 i hi).1
  · rw [World.cell?_of_block (w := w) (hk _ (.inr rfl))]; exact (h.2 i hi).2
theorem utf_lt {g1 g2 : Nat} {w : World} (h : Lib.Utf8Tabs g1 g2 w) : ∀ k, (k = g1 ∨ k = g2) → k < w.heap.size := by
  rintro k (rfl | rfl)
  · exact lt_cell (h.1 0 (by omega))
  · exact lt_cell (h.2 0 (by omega)).1
theorem utf_ext {g1 g2 : Nat} {w w' : World} (h : Lib.Utf8Tabs g1 g2 w) (hb : Below w.heap.size w w') : Lib.Utf8Tabs g1 g2 w' :=
  utf_below h fun k hk => hb.block k (utf_lt h k hk)

/-- Only the blocks of M, and new ones, have turned. -/
structure Only (M : Nat → Prop) (w w' : World) : Prop where
  os : w'.os = w.os
  tape : w'.tape = w.tape
  output : w'.output = w.output
  size : w.heap.size ≤ w'.heap.size
  block : ∀ k, k < w.heap.size → ¬ M k → w'.heap[k]? = w.heap[k]?
theorem Only.refl (M : Nat → Prop) (w : World) : Only M w w := ⟨rfl, rfl, rfl, Nat.le_refl _, fun _ _ _ => rfl⟩
theorem Only.trans {M : Nat → Prop} {a b c : World} (h : Only M a b) (k : Only M b c) : Only M a c :=
  ⟨k.os.trans h.os, k.tape.trans h.tape, k.output.trans h.output, Nat.le_trans h.size k.size, fun i hi hn => (k.block i (Nat.lt_of_lt_of_le hi h.size) hn).trans (h.block i hi hn)⟩
theorem Only.of_below {M : Nat → Prop} {a b : World} (h : Below a.heap.size a b) : Only M a b := ⟨h.os, h.tape, h.output, h.size, fun i hi _ => h.block i hi⟩
theorem Only.below {M : Nat → Prop} {a b : World} (h : Only M a b) (hM : ∀ k, M k → a.heap.size ≤ k) : Below a.heap.size a b := ⟨h.os, h.tape, h.output, h.size, fun i hi => h.block i hi (fun hm => by have := hM i hm; omega)⟩
theorem Only.alloc {M : Nat → Prop} {a b : World} (h : Only M a b) (o : Obj) : Only M a (b.alloc o) := h.trans (.of_below ((Below.refl _ _).alloc (Nat.le_refl _) o))
theorem Only.drew {M : Nat → Prop} {a b : World} (h : Only M a b) : Only M a b.drew := h.trans (.of_below (Below.refl _ _).drew)
theorem Only.ext {M : Nat → Prop} {a b c : World} (h : Only M a b) (k : Below b.heap.size b c) : Only M a c := h.trans (.of_below k)
theorem Only.setCell {M : Nat → Prop} {a b : World} (h : Only M a b) {p : Addr} (hp : M p.block ∨ a.heap.size ≤ p.block) (u : Value) : Only M a (b.setCell p u) :=
  ⟨h.os, h.tape, h.output, by simpa [World.setCell] using h.size, fun i hi hn => (Below.heap_setCell _ _ _ _ (by rintro rfl; rcases hp with hp | hp; exact hn hp; omega)).trans (h.block i hi hn)⟩
theorem Only.iter {M own : Nat → Prop} {B0 : Nat} {a b c : World} (h : Only M a b) (k : IterStep B0 M own b c) (hB : a.heap.size ≤ B0) : Only M a c :=
  ⟨k.os.trans h.os, k.tape.trans h.tape, k.output.trans h.output, Nat.le_trans h.size k.size, fun i hi hn => (k.block i (Nat.lt_of_lt_of_le hi h.size) (.inl ⟨by omega, hn⟩)).trans (h.block i hi hn)⟩
theorem Only.of_below' {M : Nat → Prop} {a b c : World} {B : Nat} (h : Only M a b) (k : Below B b c) (hB : ∀ i, i < a.heap.size → ¬ M i → i < B) : Only M a c :=
  ⟨k.os.trans h.os, k.tape.trans h.tape, k.output.trans h.output, Nat.le_trans h.size k.size, fun i hi hn => (k.block i (hB i hi hn)).trans (h.block i hi hn)⟩

theorem ownsRow_of_block {w w' : World} {base e size n : Nat} {v : Value} {xs : List Value} (h : w.ownsRow base e size v n xs) (hb : ∀ g, v.ownBlock = some g → w'.heap[g]? = w.heap[g]?) : w'.ownsRow base e size v n xs := by
  refine ⟨h.1, ?_⟩
  rcases h.2 with hn | ⟨g, cap, cur, rfl, hbs, hgg, rest⟩
  · exact .inl hn
  · exact .inr ⟨g, cap, cur, rfl, hbs, (hb g rfl).trans hgg, rest⟩
theorem putObj_below (W : World) {B r : Nat} (o : Obj) (h : B ≤ r) : Below B W (W.putObj r o) :=
  ⟨rfl, rfl, rfl, by simp, fun _ hk => World.putObj_heap_other (by omega)⟩

theorem BodyStep.refl {own : Nat → Prop} {W : World} (h : ∀ k, own k → k < W.heap.size) : BodyStep own own W W := ⟨rfl, rfl, rfl, Nat.le_refl _, fun _ _ _ => rfl, fun _ h => .inl h, h⟩
theorem BodyStep.below {own : Nat → Prop} {W w1 w2 : World} (h : BodyStep own own W w1) (hb : Below w1.heap.size w1 w2) : BodyStep own own W w2 :=
  ⟨hb.os.trans h.os, hb.tape.trans h.tape, hb.output.trans h.output, Nat.le_trans h.size hb.size, fun k hk hn => (hb.block k (Nat.lt_of_lt_of_le hk h.size)).trans (h.block k hk hn), h.owns, fun k hk => Nat.lt_of_lt_of_le (h.live k hk) hb.size⟩
theorem BodyStep.alloc {own : Nat → Prop} {W w1 : World} (h : BodyStep own own W w1) (o : Obj) : BodyStep own own W (w1.alloc o) := h.below ((Below.refl _ _).alloc (Nat.le_refl _) o)
theorem BodyStep.grown {own : Nat → Prop} {W w1 w2 : World} (h : BodyStep own own W w1) {row : Option Nat} (hg : w1.grownBy w2 row) (hr : ∀ k, row = some k → own k ∨ W.heap.size ≤ k) : BodyStep own own W w2 :=
  ⟨hg.os.trans h.os, hg.tape.trans h.tape, hg.output.trans h.output, Nat.le_trans h.size hg.size, fun k hk hn => (hg.block k (Nat.lt_of_lt_of_le hk h.size) (fun e => by
    rcases hr k e.symm with h1 | h1
    · exact hn h1
    · omega)).trans (h.block k hk hn), h.owns, fun k hk => Nat.lt_of_lt_of_le (h.live k hk) hg.size⟩
theorem BodyStep.setCell {own : Nat → Prop} {W w1 : World} (h : BodyStep own own W w1) {p : Addr} (hp : own p.block ∨ W.heap.size ≤ p.block) (u : Value) : BodyStep own own W (w1.setCell p u) :=
  ⟨h.os, h.tape, h.output, by simpa [World.setCell] using h.size, fun k hk hn => (Below.heap_setCell _ _ _ _ (by rintro rfl; rcases hp with hp | hp; exact hn hp; omega)).trans (h.block k hk hn), h.owns, fun k hk => by simpa [World.setCell] using h.live k hk⟩
theorem BodyStep.turn {own own' : Nat → Prop} {W w1 : World} (h : BodyStep own own W w1) (ho : ∀ k, own' k → own k ∨ W.heap.size ≤ k) (hl : ∀ k, own' k → k < w1.heap.size) : BodyStep own own' W w1 :=
  ⟨h.os, h.tape, h.output, h.size, h.block, ho, hl⟩
theorem BodyStep.only {own own' M : Nat → Prop} {W W' w : World} (h : BodyStep own own' W W') (k : Only M w W) (ho : ∀ i, i < w.heap.size → own i → M i) : Only M w W' :=
  ⟨h.os.trans k.os, h.tape.trans k.tape, h.output.trans k.output, Nat.le_trans k.size h.size, fun i hi hn => (h.block i (Nat.lt_of_lt_of_le hi k.size) (fun hx => hn (ho i hi hx))).trans (k.block i hi hn)⟩

/-- append onto a row of the call's own, inside a fence: where the new row lies. -/
theorem wpListIn_append_at {F : Fence} {n : Nat} {P : Program} (w : World) {ops : Array Oper} {rest : List Oper} {o : Oper} {a : Act} {Q : Exit → Act → World → Prop}
    (hg : o.guard = none) (s x : Operand) (t : TypeId) (hop : o.op = Op.call { callee := Callee.builtin Builtin.append, args := #[s, x], argTypes := #[t, t] })
    (base : Nat) (e : TypeId) (i : TypeInfo) (z : Value) (size bytes : Nat) (h1 : P.underlying t = some (.slice e)) (h2 : P.info? e = some i) (h3 : i.zero = some z) (h4 : i.size = size) (h5 : i.bytes = bytes) (h6 : z.cells.size = size) (h7 : 0 < size)
    (v : Value) (k : Nat) (xs : List Value) (hs : a.eval s = v) (hown : w.ownsRow base e size v k xs) (ad : Addr) (m c : Nat) (news : List Value) (hx : a.eval x = .slice (some ad) m c) (hn : news.length = m * size)
    (hc : ∀ j u, news[j]? = some u → w.cell? (ad.add j) = some u) (h1c : ∀ u ∈ news, u.oneCell' = true) (b1 : k + m ≤ maxLen) (b2 : (k + m) * bytes ≤ 140737488355328) (b3 : base ≤ w.heap.size)
    (hK : ∀ v' w', w'.ownsRow base e size v' (k + m) (xs ++ news) → w.grownBy w' v.ownBlock → (v'.ownBlock = v.ownBlock ∨ v'.ownBlock = some w.heap.size) → wpListIn F n P ops Q rest (a.put o.dst v') w') :
    wpListIn F n P ops Q (o :: rest) a w := by
  refine wpListIn_plain hg fun K hK' => ?_
  obtain ⟨v', w', hrun, r1, r2, _, r3⟩ := run_append_own_at (P := P) w base t o.type e i z size bytes h1 h2 h3 h4 h5 h6 h7 v k xs hown ad m c news hn hc h1c b1 b2 b3
  unfold Oper.wpIn
  refine ⟨?_, ?_⟩
  · simp [Oper.about, hop, resolve, Target.leads, Sem.run_pure]
  · rw [Oper.semAt_plain F _ _ (by rw [hop]; intro c hc'; cases hc')]
    simp [execOp, hop, resolve, invoke, builtin, hs, hx, hrun, Result.andThen]
    exact hK' _ _ (hK v' w' r1 r2 r3)

/-- A slice at A holds the cells xs. -/
def Rd (w : World) (A : Option Addr) (xs : List Value) : Prop :=
  xs = [] ∨ ∃ b off, A = some ⟨b, off, none⟩ ∧ b < w.heap.size ∧ ∀ (j : Nat) (u : Value), xs[j]? = some u → w.cell? ⟨b, off + j, none⟩ = some u
theorem Rd.nil (w : World) (A : Option Addr) : Rd w A [] := .inl rfl
theorem Rd.ext {w w' : World} {A : Option Addr} {xs : List Value} (h : Rd w A xs) (hb : Below w.heap.size w w') : Rd w' A xs := by
  rcases h with h | ⟨b, off, rfl, hlt, hc⟩
  · exact .inl h
  · exact .inr ⟨b, off, rfl, Nat.lt_of_lt_of_le hlt hb.size, fun j u hu => (hb.cell (p := ⟨b, off + j, none⟩) hlt).trans (hc j u hu)⟩
theorem Rd.block {w w' : World} {A : Option Addr} {xs : List Value} (h : Rd w A xs) (hs : w.heap.size ≤ w'.heap.size) (hb : ∀ a, A = some a → w'.heap[a.block]? = w.heap[a.block]?) : Rd w' A xs := by
  rcases h with h | ⟨b, off, rfl, hlt, hc⟩
  · exact .inl h
  · exact .inr ⟨b, off, rfl, Nat.lt_of_lt_of_le hlt hs, fun j u hu => (World.cell?_of_block (w := w) (a := ⟨b, off + j, none⟩) (hb ⟨b, off, none⟩ rfl)).trans (hc j u hu)⟩
theorem Rd.at_ {w : World} {A : Option Addr} {xs : List Value} (h : Rd w A xs) {k : Nat} (hk : k < xs.length) : ∃ b off, A = some ⟨b, off, none⟩ ∧ b < w.heap.size ∧ ∀ (j : Nat) (u : Value), xs[j]? = some u → w.cell? ⟨b, off + j, none⟩ = some u := by
  rcases h with rfl | h
  · simp at hk
  · exact h
/-- A slice value that reads as xs, elements of 'size' cells. -/
def SlOf (w : World) (size : Nat) (v : Value) (n : Nat) (xs : List Value) : Prop :=
  ∃ A c, v = .slice A n c ∧ n ≤ c ∧ c ≤ maxLen ∧ xs.length = n * size ∧ Rd w A xs
theorem SlOf.ext {w w' : World} {size n : Nat} {v : Value} {xs : List Value} (h : SlOf w size v n xs) (hb : Below w.heap.size w w') : SlOf w' size v n xs := by
  obtain ⟨A, c, rfl, h1, h2, h3, h4⟩ := h
  exact ⟨A, c, rfl, h1, h2, h3, h4.ext hb⟩
theorem SlOf.nil (w : World) (size : Nat) : SlOf w size (.slice none 0 0) 0 [] := ⟨none, 0, rfl, Nat.le_refl _, by unfold maxLen; omega, by simp, .inl rfl⟩
theorem SlOf.of_own {w : World} {base e size n : Nat} {v : Value} {xs : List Value} (h : w.ownsRow base e size v n xs) : SlOf w size v n xs := by
  rcases h.2 with ⟨rfl, rfl⟩ | ⟨g, cap, cur, rfl, hb, hg, hn, hm, hs, ht⟩
  · have : xs = [] := List.eq_nil_of_length_eq_zero (by simpa using h.1)
    subst this
    exact SlOf.nil w size
  · refine ⟨some ⟨g, 0, none⟩, cap, rfl, hn, hm, h.1, .inr ⟨g, 0, rfl, lt_block hg, fun j u hu => ?_⟩⟩
    have := h.cells (g := g) rfl j u hu
    rwa [show (⟨g, 0, none⟩ : Addr).add j = ⟨g, 0 + j, none⟩ from by unfold Addr.add; split <;> simp_all] at this

theorem flat_get {α β : Type} (f : α → List β) (s : Nat) (hs : ∀ x, (f x).length = s) : ∀ (l : List α) (k j : Nat) (hk : k < l.length), j < s → (l.flatMap f)[k * s + j]? = (f l[k])[j]?
  | [], k, _, hk, _ => absurd hk (by simp)
  | x :: l, 0, j, _, hj => by
    simp only [List.flatMap_cons, Nat.zero_mul, Nat.zero_add, List.getElem_cons_zero]
    exact List.getElem?_append_left (by rw [hs]; exact hj)
  | x :: l, k + 1, j, hk, hj => by
    simp only [List.flatMap_cons, List.getElem_cons_succ]
    rw [List.getElem?_append_right (by rw [hs]; rw [Nat.succ_mul]; omega), hs, show (k + 1) * s + j - s = k * s + j by rw [Nat.succ_mul]; omega]
    exact flat_get f s hs l k j (by simpa using hk) hj
theorem flat_len {α β : Type} (f : α → List β) (s : Nat) (hs : ∀ x, (f x).length = s) (l : List α) : (l.flatMap f).length = l.length * s := by
  induction l with
  | nil => simp
  | cons x l ih => simp only [List.flatMap_cons, List.length_append, hs, ih, List.length_cons, Nat.succ_mul]; omega
/-- A slice of structs of s cells is read at element k. -/
theorem Rd.elem {α : Type} {w : World} {A : Option Addr} {f : α → List Value} {s : Nat} {l : List α} (h : Rd w A (l.flatMap f)) (hs : ∀ x, (f x).length = s) (hs0 : 0 < s) {k : Nat} (hk : k < l.length) :
    ∃ b off, A = some ⟨b, off, none⟩ ∧ b < w.heap.size ∧ ∀ (j : Nat) (u : Value), (f l[k])[j]? = some u → w.cell? ⟨b, off + k * s + j, none⟩ = some u := by
  have hlen : 0 < (l.flatMap f).length := by rw [flat_len f s hs]; exact Nat.mul_pos (by omega) hs0
  obtain ⟨b, off, rfl, hb, hc⟩ := h.at_ hlen
  refine ⟨b, off, rfl, hb, fun j u hu => ?_⟩
  have hj : j < s := by rw [← hs l[k]]; exact (List.getElem?_eq_some_iff.1 hu).1
  rw [Nat.add_assoc]
  exact hc _ u ((flat_get f s hs l k j hk hj).trans hu)

/-! ### Maps with integer keys, by their entries -/
section
variable {P : Program}
theorem run_checkKey_int' {kt : TypeId} {kk : IntKind} (hk : P.underlying kt = some (.int kk)) (e : Bool) (d : Nat) (n : Int) (w : World) : (Instr.checkKey e (d + 1) kt (.int kk n)).run P w = .ok () w := by
  unfold Instr.checkKey
  simp [run_underlying hk]
theorem run_findKey_now {kt : TypeId} {k : Value} {es : List MapEntry} {d : TypeDesc} {r : Option (Nat × Value)} (hk : P.underlying kt = some d) (hf : Instr.findNow d k es 0 = some r) (w : World) : (Instr.findKey kt k es).run P w = .ok r w := by
  simp [Instr.findKey, run_underlying hk, hf]
theorem run_mapUpdate_new {w : World} {r clock : Nat} {es : Array MapEntry} {t kt et : TypeId} {kk : IntKind} (n : Int) (v : Value) (ht : P.underlying t = some (.map kt et)) (hk : P.underlying kt = some (.int kk))
    (h : w.heap[r]? = some (.map es clock)) (hf : Instr.findNow (.int kk) (.int kk n) es.toList 0 = some none) :
    (Instr.mapUpdate t (.map (some r)) (.int kk n) v).run P w = .ok () (w.putObj r (.map (es.push { key := .int kk n, val := v, born := clock }) (clock + 1))) := by
  unfold Instr.mapUpdate
  simp only [Sem.run_bind, run_underlying ht, Result.andThen_ok, getObj, Sem.run, h, run_checkKey_int' hk false 9999, run_findKey_now hk hf, setObj]
  rfl
theorem run_lookup_int {w : World} {r clock : Nat} {es : Array MapEntry} {t kt et : TypeId} {kk : IntKind} (n : Int) (ht : P.underlying t = some (.map kt et)) (hk : P.underlying kt = some (.int kk))
    (h : w.heap[r]? = some (.map es clock)) {i : Nat} {v : Value} (hf : Instr.findNow (.int kk) (.int kk n) es.toList 0 = some (some (i, v))) (ok : Bool) :
    (Instr.lookup t (.map (some r)) (.int kk n) ok).run P w = .ok (if ok then .tuple #[v, .bool true] else v) w := by
  unfold Instr.lookup
  simp only [Sem.run_bind, run_underlying ht, Result.andThen_ok, getObj, Sem.run, h, Sem.run_pure, run_checkKey_int' hk _ 9999, run_findKey_now hk hf]
theorem run_lookup_none {w : World} {r clock : Nat} {es : Array MapEntry} {t kt et : TypeId} {kk : IntKind} (n : Int) (z : Value) (ht : P.underlying t = some (.map kt et)) (hk : P.underlying kt = some (.int kk)) (hz : ∀ w, (zeroValue et).run P w = .ok z w)
    (h : w.heap[r]? = some (.map es clock)) (hf : Instr.findNow (.int kk) (.int kk n) es.toList 0 = some none) (ok : Bool) :
    (Instr.lookup t (.map (some r)) (.int kk n) ok).run P w = .ok (if ok then .tuple #[z, .bool false] else z) w := by
  unfold Instr.lookup
  simp only [Sem.run_bind, run_underlying ht, Result.andThen_ok, getObj, Sem.run, h, Sem.run_pure, run_checkKey_int' hk _ 9999, run_findKey_now hk hf, hz]
end
theorem set_push {α : Type} (a : Array α) (x y : α) : (a.push x).setIfInBounds a.size y = a.push y := by
  apply Array.ext_getElem?
  intro i
  rw [Array.getElem?_setIfInBounds, Array.getElem?_push, Array.getElem?_push]
  by_cases h : a.size = i
  · subst h; simp
  · rw [if_neg h, if_neg (Ne.symm h), if_neg (Ne.symm h)]
theorem putObj_alloc (w : World) (o o' : Obj) : (w.alloc o).putObj w.heap.size o' = w.alloc o' := by
  show ({ w with heap := (w.heap.push o).setIfInBounds w.heap.size o' } : World) = { w with heap := w.heap.push o' }
  rw [set_push]
end Go.Han
