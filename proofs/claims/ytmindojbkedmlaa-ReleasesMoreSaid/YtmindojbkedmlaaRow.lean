/- Rows of cells: copy, append of zero values, clear, at elements of any number of cells. No program in sight. -/
import Derived.Test.YtmindojbkedmlaaM1
import Derived.Laws.CopyOwn
import Derived.Laws.CopyRow
import Derived.Deep.AppendLies
import Derived.Lib.AppendZerosOnto
import Derived.Lib.Overlaps
import Derived.StillTailTactics
namespace Go.Han
open Go.RowKit

/-- Block g is a row that holds the cells cur, none frozen. -/
def Row (w : World) (g t : Nat) (cur : List Value) : Prop := w.heap[g]? = some (.cells cur.toArray t (0, 0))
theorem Row.lt {w : World} {g t : Nat} {cur : List Value} (h : Row w g t cur) : g < w.heap.size := lt_block h
theorem Row.cell {w : World} {g t : Nat} {cur : List Value} (h : Row w g t cur) (j : Nat) : w.cell? ⟨g, j, none⟩ = cur[j]? := by
  unfold Row at h
  simp [World.cell?, h]
theorem Row.frozen {w : World} {g t : Nat} {cur : List Value} (h : Row w g t cur) (j : Nat) : w.frozen? ⟨g, j, none⟩ = false := by
  unfold Row at h
  simp [World.frozen?, h]
theorem Row.ext {w w' : World} {g t : Nat} {cur : List Value} (h : Row w g t cur) (hb : Below w.heap.size w w') : Row w' g t cur := (hb.block g h.lt).trans h
theorem Row.far {w w' : World} {g t : Nat} {cur : List Value} (h : Row w g t cur) {row : Option Nat} (hg : w.grownBy w' row) (hne : some g ≠ row) : Row w' g t cur := (hg.block g h.lt hne).trans h
theorem Row.drew {w : World} {g t : Nat} {cur : List Value} (h : Row w g t cur) : Row w.drew g t cur := h
theorem Row.rd {w : World} {g t : Nat} {cur : List Value} (h : Row w g t cur) (off : Nat) {xs : List Value} (hx : ∀ (j : Nat) (u : Value), xs[j]? = some u → cur[off + j]? = some u) : Rd w (some ⟨g, off, none⟩) xs :=
  .inr ⟨g, off, rfl, h.lt, fun j u hu => (h.cell _).trans (hx j u hu)⟩

section
variable {P : Program} (w : World)

theorem add_none (g o j : Nat) : (⟨g, o, none⟩ : Addr).add j = ⟨g, o + j, none⟩ := by unfold Addr.add; split <;> simp_all

theorem setRow_row {g t : Nat} {cur : List Value} (h : Row w g t cur) (cur' : List Value) : Row (w.setRow g cur'.toArray) g t cur' ∧ w.grownBy (w.setRow g cur'.toArray) (some g) ∧ (w.setRow g cur'.toArray).heap.size = w.heap.size := by
  refine ⟨setRow_heap w g _ _ t _ h, ?_, by simp [World.setRow]⟩
  exact ⟨rfl, rfl, rfl, by simp [World.setRow], fun k _ hne => by simp [World.setRow, Array.getElem?_modify]; intro e; exact absurd (by rw [e]) hne⟩

/-- copy, into a row; the source read first. -/
theorem run_copy_rows (dT sT ty elem size : Nat) (hu : P.underlying dT = some (.slice elem)) {i : TypeInfo} (hi : P.info? elem = some i) (hs : i.size = size) (g o dLen dCap : Nat) (A : Option Addr) (sLen sCap t : Nat) (cur cs : List Value)
    (hg : Row w g t cur) (hn : cs.length = Nat.min sLen dLen * size) (hsrc : Rd w A cs) (hfit : o + cs.length ≤ cur.length) (h1 : ∀ v ∈ cs, v.oneCell' = true) :
    (Builtin.copy_ #[dT, sT] ty #[.slice (some ⟨g, o, none⟩) dLen dCap, .slice A sLen sCap]).run P w = .ok (goInt (Nat.min sLen dLen)) (w.setRow g (splice cur o cs).toArray) := by
  have hfc : (Builtin.firstCells size (Nat.min sLen dLen) (.slice A sLen sCap)).run P w = .ok cs.toArray w := by
    rcases hsrc with rfl | ⟨b, off, rfl, _, hc⟩
    · cases A with
      | none => exact run_firstCells_none w _ _ _ _
      | some a => exact run_firstCells_some w size _ a sLen sCap [] (by simpa using hn) (by simp)
    · exact run_firstCells_some w size _ ⟨b, off, none⟩ sLen sCap cs hn (fun j v hv => by rw [add_none]; exact hc j v hv)
  have hst := run_storeCells_at (P := P) g o t cs 0 cur.toArray w hg (by simpa using hfit) h1
  simp only [Nat.add_zero] at hst
  subst hs
  have hsz : ∀ w, (Go.sizeOf elem).run P w = .ok i.size w := fun w => by simp [Go.sizeOf, typeInfo, hi]
  simp only [Builtin.copy_, Builtin.lenOf, Sem.run_bind, Sem.run_pure, Result.andThen_ok, run_underlying hu, hsz, hfc, List.getElem?_toArray, List.getElem?_cons_zero, List.getElem?_cons_succ]
  simp only [hst, Result.andThen_ok, splice, List.append_assoc]

theorem wp_copy_rows {o : Oper} {a : Act} {K : Act → World → Prop} {Q : Exit → Act → World → Prop} (d s : Operand) (dT sT : TypeId) (ho : o.op = .call { callee := .builtin .copy, args := #[d, s], argTypes := #[dT, sT] })
    (elem size : Nat) (hu : P.underlying dT = some (.slice elem)) {i : TypeInfo} (hi : P.info? elem = some i) (hs : i.size = size) (g off dLen dCap : Nat) (A : Option Addr) (sLen sCap t : Nat) (cur cs : List Value)
    (hd : a.eval d = .slice (some ⟨g, off, none⟩) dLen dCap) (hx : a.eval s = .slice A sLen sCap)
    (hg : Row w g t cur) (hn : cs.length = Nat.min sLen dLen * size) (hsrc : Rd w A cs) (hfit : off + cs.length ≤ cur.length) (h1 : ∀ v ∈ cs, v.oneCell' = true)
    (h : ∀ w', Row w' g t (splice cur off cs) → w.grownBy w' (some g) → w'.heap.size = w.heap.size → K (a.put o.dst (goInt (Nat.min sLen dLen))) w') : o.wp P a w K Q := by
  have hr := run_copy_rows (P := P) w dT sT o.type elem size hu hi hs g off dLen dCap A sLen sCap t cur cs hg hn hsrc hfit h1
  obtain ⟨r1, r2, r3⟩ := setRow_row w hg (splice cur off cs)
  unfold Oper.wp execOp
  simp only [ho, resolve, invoke, builtin, Sem.run_bind, Sem.run_pure, Result.andThen_ok, List.map_toArray, List.map_cons, List.map_nil, hd, hx, hr]
  exact h _ r1 r2 r3
theorem wpList_copy_rows {ops : Array Oper} {rest : List Oper} {o : Oper} {a : Act} {Q : Exit → Act → World → Prop} (hgd : o.guard = none) (d s : Operand) (dT sT : TypeId) (ho : o.op = .call { callee := .builtin .copy, args := #[d, s], argTypes := #[dT, sT] })
    (elem size : Nat) (hu : P.underlying dT = some (.slice elem)) {i : TypeInfo} (hi : P.info? elem = some i) (hs : i.size = size) (g off dLen dCap : Nat) (A : Option Addr) (sLen sCap t : Nat) (cur cs : List Value)
    (hd : a.eval d = .slice (some ⟨g, off, none⟩) dLen dCap) (hx : a.eval s = .slice A sLen sCap)
    (hg : Row w g t cur) (hn : cs.length = Nat.min sLen dLen * size) (hsrc : Rd w A cs) (hfit : off + cs.length ≤ cur.length) (h1 : ∀ v ∈ cs, v.oneCell' = true)
    (h : ∀ w', Row w' g t (splice cur off cs) → w.grownBy w' (some g) → w'.heap.size = w.heap.size → wpList P ops Q rest (a.put o.dst (goInt (Nat.min sLen dLen))) w') : wpList P ops Q (o :: rest) a w :=
  wpList_plain hgd fun _ hK => wp_copy_rows w d s dT sT ho elem size hu hi hs g off dLen dCap A sLen sCap t cur cs hd hx hg hn hsrc hfit h1 fun w' h2 h3 h4 => hK _ _ (h w' h2 h3 h4)

/-- append(s[:i], make([]T, k)...) where there is no room: a new row. -/
theorem wpList_append_zeros {ops : Array Oper} {rest : List Oper} {o : Oper} {a : Act} {Q : Exit → Act → World → Prop} (hgd : o.guard = none) (s x : Operand) (t tn : TypeId) (ho : o.op = .call { callee := .builtin .append, args := #[s, x], argTypes := #[t, tn] })
    (e : TypeId) (i : TypeInfo) (z : Value) (size bytes : Nat) (kq kn : IntKind) (ht : P.underlying t = some (.slice e)) (htn : P.underlying tn = some (.int kn)) (hi : P.info? e = some i) (hz : i.zero = some z) (hsize : i.size = size) (hby : i.bytes = bytes) (hzs : z.cells.size = size) (hsz : 0 < size)
    (A : Option Addr) (sLen sCap k : Nat) (olds : List Value) (hs : a.eval s = .slice A sLen sCap) (hx : a.eval x = .int kq k) (hl : olds.length = sLen * size) (hold : Rd w A olds)
    (h0 : 0 < k) (hg : sCap < sLen + k) (h63 : sLen + k ≤ maxLen) (hbytes : (sLen + k) * bytes ≤ 140737488355328)
    (h : ∀ cap w' R, Row w' w.heap.size e (olds ++ R) → (olds ++ R).length = cap * size → sLen + k ≤ cap → cap ≤ maxLen → Below w.heap.size w w' → w'.heap.size = w.heap.size + 1 → wpList P ops Q rest (a.put o.dst (.slice (some ⟨w.heap.size, 0, none⟩) (sLen + k) cap)) w') :
    wpList P ops Q (o :: rest) a w := by
  refine wpList_plain hgd fun K hK => ?_
  subst hsize; subst hby
  have hsmall : sLen + k ≤ 9223372036854775807 := by simp only [maxLen] at h63; omega
  have hfc : (Builtin.firstCells i.size sLen (.slice A sLen sCap)).run P w.drew = .ok olds.toArray w.drew := by
    rcases hold with rfl | ⟨b, off, rfl, _, hc⟩
    · cases A with
      | none => exact run_firstCells_none w.drew _ _ _ _
      | some a => exact run_firstCells_some w.drew _ _ a sLen sCap [] (by simpa using hl) (by simp)
    · exact run_firstCells_some w.drew _ _ ⟨b, off, none⟩ sLen sCap olds hl (fun j v hv => by rw [add_none]; exact hc j v hv)
  have hr := Lib.run_append_grow_zeros (P := P) w t tn o.type e i z kq kn ht htn hi hz A sLen sCap olds hfc k h0 hsz hg (by omega) (by have := Nat.mul_le_mul_right i.bytes (show k ≤ sLen + k by omega); omega) (growslice_fits (by omega) hbytes)
  have hge := grownCap_ge w (sLen + k) sCap e
  have hcm := grownCap_le_maxLen w (sLen + k) sCap e h63
  unfold Oper.wp execOp
  simp only [ho, resolve, invoke, builtin, Sem.run_bind, Sem.run_pure, Result.andThen_ok, List.map_toArray, List.map_cons, List.map_nil, hs, hx, hr]
  refine hK _ _ (h (grownCap w (sLen + k) sCap e) _ ((Builtin.zeroCells z.cells k).toList ++ (Builtin.zeroCells z.cells (grownCap w (sLen + k) sCap e - (sLen + k))).toList) ?_ ?_ hge hcm ?_ (by simp))
  · unfold Row
    rw [show w.heap.size = w.drew.heap.size from rfl, World.alloc_heap_new]
    congr 2
    apply Array.ext'
    simp
  · simp only [List.length_append, hl, Array.length_toList, size_zeroCells, hzs, ← Nat.add_mul]
    congr 1
    omega
  · exact (Below.refl _ _).drew.alloc (Nat.le_refl _) _

theorem splice_at {α : Type} (X Z C : List α) (p : Nat) (hp : X.length = p) : splice (X ++ Z) p C = X ++ (C ++ Z.drop C.length) := by
  subst hp
  unfold splice
  rw [List.take_left, List.drop_append, List.drop_of_length_le (by omega), List.nil_append, Nat.add_sub_cancel_left]
end

/-- The cells xs with ys put in at p. -/
def putIn {α : Type} (xs : List α) (p : Nat) (ys : List α) : List α := xs.take p ++ (ys ++ xs.drop p)
theorem putIn_length {α : Type} (xs ys : List α) (p : Nat) (hp : p ≤ xs.length) : (putIn xs p ys).length = xs.length + ys.length := by
  simp [putIn]; omega
/-- Into a row that begins with xs and has room: what is behind p moves on, then ys goes in. -/
theorem splice_room {α : Type} (xs R ys : List α) (p : Nat) (hp : p ≤ xs.length) (hr : ys.length ≤ R.length) :
    splice (splice (xs ++ R) (p + ys.length) (xs.drop p)) p ys = putIn xs p ys ++ R.drop ys.length := by
  have hl : ((xs.drop p ++ R).take ys.length).length = ys.length := by simp; omega
  have h1 : xs ++ R = (xs.take p ++ ((xs.drop p ++ R).take ys.length)) ++ (xs.drop p ++ R).drop ys.length := by
    rw [List.append_assoc, List.take_append_drop, ← List.append_assoc, List.take_append_drop]
  have hlen : (xs.take p ++ ((xs.drop p ++ R).take ys.length)).length = p + ys.length := by
    rw [List.length_append, hl, List.length_take, Nat.min_eq_left hp]
  rw [h1, splice_at _ _ _ (p + ys.length) hlen, List.append_assoc, splice_at _ _ _ p (by simp; omega)]
  unfold putIn
  rw [List.append_assoc, List.append_assoc]
  congr 2
  have e1 : (((xs.drop p ++ R).take ys.length) ++ (xs.drop p ++ ((xs.drop p ++ R).drop ys.length).drop (xs.drop p).length)).drop ys.length = xs.drop p ++ ((xs.drop p ++ R).drop ys.length).drop (xs.drop p).length := by
    rw [List.drop_append, hl, Nat.sub_self, List.drop_zero, List.drop_of_length_le (by rw [hl]; exact Nat.le_refl _), List.nil_append]
  have e2 : ((xs.drop p ++ R).drop ys.length).drop (xs.drop p).length = R.drop ys.length := by
    rw [List.drop_drop, Nat.add_comm, ← List.drop_drop, List.drop_left]
  rw [e2] at e1 ⊢
  exact e1
theorem splice_fresh {α : Type} (xs R ys : List α) (p : Nat) (hp : p ≤ xs.length) :
    splice (splice (xs.take p ++ R) p ys) (p + ys.length) (xs.drop p) = putIn xs p ys ++ R.drop (ys.length + (xs.length - p)) := by
  have hl : (xs.take p ++ ys).length = p + ys.length := by rw [List.length_append, List.length_take, Nat.min_eq_left hp]
  rw [splice_at _ _ _ p (by simp; omega), ← List.append_assoc, splice_at _ _ _ (p + ys.length) hl]
  unfold putIn
  rw [List.append_assoc, List.append_assoc, List.append_assoc, List.drop_drop, List.length_drop]
end Go.Han
