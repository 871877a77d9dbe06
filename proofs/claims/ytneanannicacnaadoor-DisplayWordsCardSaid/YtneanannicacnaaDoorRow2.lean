/- Rows of cells: append where there is room (any source, overlapping too), clear. No program in sight. -/
import Derived.Test.YtneanannicacnaaDoorRow
import Derived.Laws.AppendOwn
import Derived.Lib.SliceRun
namespace Go.Han
open Go.RowKit
section
variable {P : Program} (w : World)

theorem run_append_rows (t ty elem size : Nat) (ht : P.underlying t = some (.slice elem)) {i : TypeInfo} (hi : P.info? elem = some i) (hs : i.size = size) (g sLen sCap : Nat) (A : Option Addr) (m mCap : Nat) (cur cs : List Value)
    (hg : Row w g elem cur) (hn : cs.length = m * size) (hsrc : Rd w A cs) (hroom : sLen + m ≤ sCap) (hfit : sLen * size + cs.length ≤ cur.length) (h1 : ∀ v ∈ cs, v.oneCell' = true) :
    (Builtin.append_ #[t, t] ty #[.slice (some ⟨g, 0, none⟩) sLen sCap, .slice A m mCap]).run P w = .ok (.slice (some ⟨g, 0, none⟩) (sLen + m) sCap) (w.setRow g (splice cur (sLen * size) cs).toArray) := by
  subst hs
  have hfc : (Builtin.firstCells i.size m (.slice A m mCap)).run P w = .ok cs.toArray w := by
    rcases hsrc with rfl | ⟨b, off, rfl, _, hc⟩
    · cases A with
      | none => exact run_firstCells_none w _ _ _ _
      | some a => exact run_firstCells_some w _ _ a m mCap [] (by simpa using hn) (by simp)
    · exact run_firstCells_some w _ _ ⟨b, off, none⟩ m mCap cs hn (fun j v hv => by rw [add_none]; exact hc j v hv)
  have hst := run_storeCells_at (P := P) g (sLen * i.size) elem cs 0 cur.toArray w hg (by simpa using hfit) h1
  simp only [Nat.add_zero] at hst
  simp [Builtin.append_, run_underlying ht, sizeOf, typeInfo, hi, Builtin.lenOf, hroom, hfc, Addr.add_lit, hst, splice, List.append_assoc]

theorem wpList_append_rows {ops : Array Oper} {rest : List Oper} {o : Oper} {a : Act} {Q : Exit → Act → World → Prop} (hgd : o.guard = none) (s x : Operand) (t : TypeId) (ho : o.op = .call { callee := .builtin .append, args := #[s, x], argTypes := #[t, t] })
    (elem size : Nat) (ht : P.underlying t = some (.slice elem)) {i : TypeInfo} (hi : P.info? elem = some i) (hs : i.size = size) (g sLen sCap : Nat) (A : Option Addr) (m mCap : Nat) (cur cs : List Value)
    (hd : a.eval s = .slice (some ⟨g, 0, none⟩) sLen sCap) (hx : a.eval x = .slice A m mCap)
    (hg : Row w g elem cur) (hn : cs.length = m * size) (hsrc : Rd w A cs) (hroom : sLen + m ≤ sCap) (hfit : sLen * size + cs.length ≤ cur.length) (h1 : ∀ v ∈ cs, v.oneCell' = true)
    (h : ∀ w', Row w' g elem (splice cur (sLen * size) cs) → w.grownBy w' (some g) → w'.heap.size = w.heap.size → wpList P ops Q rest (a.put o.dst (.slice (some ⟨g, 0, none⟩) (sLen + m) sCap)) w') : wpList P ops Q (o :: rest) a w := by
  refine wpList_plain hgd fun K hK => ?_
  have hr := run_append_rows (P := P) w t o.type elem size ht hi hs g sLen sCap A m mCap cur cs hg hn hsrc hroom hfit h1
  obtain ⟨r1, r2, r3⟩ := setRow_row w hg (splice cur (sLen * size) cs)
  unfold Oper.wp execOp
  simp only [ho, resolve, invoke, builtin, Sem.run_bind, Sem.run_pure, Result.andThen_ok, List.map_toArray, List.map_cons, List.map_nil, hd, hx, hr]
  exact hK _ _ (h _ r1 r2 r3)

theorem run_clear_rows (t ty elem size : Nat) (ht : P.underlying t = some (.slice elem)) {i : TypeInfo} (hi : P.info? elem = some i) {z : Value} (hz : i.zero = some z) (hzs : z.cells.size = size) (g off n c : Nat) (hn : 0 < n) (cur : List Value)
    (hg : Row w g elem cur) (hfit : off + n * size ≤ cur.length) (h1 : ∀ v ∈ (Builtin.zeroCells z.cells n).toList, v.oneCell' = true) :
    (Builtin.clear_ #[t] ty #[.slice (some ⟨g, off, none⟩) n c]).run P w = .ok (.tuple #[]) (w.setRow g (splice cur off (Builtin.zeroCells z.cells n).toList).toArray) := by
  have hv : ∀ w, (zeroValue elem).run P w = .ok z w := fun w => by simp [zeroValue, typeInfo, hi, hz]
  have hst := run_storeCells_at (P := P) g off elem (Builtin.zeroCells z.cells n).toList 0 cur.toArray w hg (by simp [size_zeroCells, hzs]; omega) h1
  simp only [Nat.add_zero] at hst
  obtain ⟨m, rfl⟩ : ∃ m, n = m + 1 := ⟨n - 1, by omega⟩
  simp [Builtin.clear_, run_underlying ht, hv, hst, splice, List.append_assoc]

theorem wpList_clear_rows {ops : Array Oper} {rest : List Oper} {o : Oper} {a : Act} {Q : Exit → Act → World → Prop} (hgd : o.guard = none) (s : Operand) (t : TypeId) (ho : o.op = .call { callee := .builtin .clear, args := #[s], argTypes := #[t] })
    (elem size : Nat) (ht : P.underlying t = some (.slice elem)) {i : TypeInfo} (hi : P.info? elem = some i) {z : Value} (hz : i.zero = some z) (hzs : z.cells.size = size) (g off n c : Nat) (hn : 0 < n) (cur : List Value)
    (hd : a.eval s = .slice (some ⟨g, off, none⟩) n c) (hg : Row w g elem cur) (hfit : off + n * size ≤ cur.length) (h1 : ∀ v ∈ (Builtin.zeroCells z.cells n).toList, v.oneCell' = true)
    (h : ∀ w' zs, Row w' g elem (splice cur off zs) → zs.length = n * size → w.grownBy w' (some g) → w'.heap.size = w.heap.size → wpList P ops Q rest (a.put o.dst (.tuple #[])) w') : wpList P ops Q (o :: rest) a w := by
  refine wpList_plain hgd fun K hK => ?_
  have hr := run_clear_rows (P := P) w t o.type elem size ht hi hz hzs g off n c hn cur hg hfit h1
  obtain ⟨r1, r2, r3⟩ := setRow_row w hg (splice cur off (Builtin.zeroCells z.cells n).toList)
  unfold Oper.wp execOp
  simp only [ho, resolve, invoke, builtin, Sem.run_bind, Sem.run_pure, Result.andThen_ok, List.map_toArray, List.map_cons, List.map_nil, hd, hr]
  exact hK _ _ (h _ _ r1 (by simp [size_zeroCells, hzs]) r2 r3)

theorem run_storeAt_rows (ty elem size : Nat) {i : TypeInfo} (hi : P.info? ty = some i) (hs : i.size = size) (g off : Nat) (cells : Array Value) (cur : List Value)
    (hg : Row w g elem cur) (hn : cells.size = size) (hfit : off + size ≤ cur.length) (h1 : ∀ v ∈ cells.toList, v.oneCell' = true) :
    (Instr.storeAt ty (.pointer (some ⟨g, off, none⟩)) (.agg cells)).run P w = .ok () (w.setRow g (splice cur off cells.toList).toArray) := by
  have hst := run_storeCells_at (P := P) g off elem cells.toList 0 cur.toArray w hg (by simp [hn]; omega) h1
  simp only [Nat.add_zero] at hst
  have hsz : ∀ w, (Go.sizeOf ty).run P w = .ok cells.size w := fun w => by simp [Go.sizeOf, typeInfo, hi, hs, hn]
  simp [Instr.storeAt, storeVar, Instr.sureAddr, Value.cells, hsz, hst, splice, List.append_assoc]

theorem wpList_store_rows {ops : Array Oper} {rest : List Oper} {o : Oper} {a : Act} {Q : Exit → Act → World → Prop} (hgd : o.guard = none) (p x : Operand) (ty : TypeId) (ho : o.op = .store ty p x)
    (elem size : Nat) {i : TypeInfo} (hi : P.info? ty = some i) (hs : i.size = size) (g off : Nat) (cells : Array Value) (cur : List Value)
    (hd : a.eval p = .pointer (some ⟨g, off, none⟩)) (hx : a.eval x = .agg cells) (hg : Row w g elem cur) (hn : cells.size = size) (hfit : off + size ≤ cur.length) (h1 : ∀ v ∈ cells.toList, v.oneCell' = true)
    (h : ∀ w', Row w' g elem (splice cur off cells.toList) → w.grownBy w' (some g) → w'.heap.size = w.heap.size → wpList P ops Q rest (a.put o.dst undef) w') : wpList P ops Q (o :: rest) a w := by
  refine wpList_plain hgd fun K hK => ?_
  have hr := run_storeAt_rows (P := P) w ty elem size hi hs g off cells cur hg hn hfit h1
  obtain ⟨r1, r2, r3⟩ := setRow_row w hg (splice cur off cells.toList)
  unfold Oper.wp execOp
  simp only [ho, Sem.run_bind, Sem.run_pure, Result.andThen_ok, hd, hx, hr]
  exact hK _ _ (h _ r1 r2 r3)
end
end Go.Han
