/- Texts of this claim, one after the other: ChaT, ChaU, ChaE, R29a, SrchT, Row, InsTerm, AddT. -/
import Derived.Test.YthojaplnimoacaaGreatDoorM9
import Derived.Test.YthojaplnimoacaaGreatDoorM2
import Derived.Test.YthojaplnimoacaaGreatDoorM4
import Derived.Test.YthojaplnimoacaaGreatDoorM3
import Derived.Test.YthojaplnimoacaaGreatDoorShelf
import Derived.Test.YthojaplnimoacaaGreatDoorM1
import Derived.Deep.LoopGhost
import Derived.Laws.CopyOwn
import Derived.Laws.CopyRow
import Derived.Deep.AppendLies
import Derived.Lib.AppendZerosOnto
import Derived.Lib.Overlaps
import Derived.StillTailTactics
import Derived.Lib.SliceRun
import Derived.Deep.RegionWith
/- Trees, their order, and the order of the derivations. Conditions: none; plain facts. -/
namespace Go.Proofs.YthojaplnimoacaaGreatDoor
open Go.RowKit Go.Han
set_option maxRecDepth 100000

/-! ### trees -/
@[simp] def TreeV.rule : TreeV → Int | .node r _ _ _ _ => r
@[simp] def TreeV.item : TreeV → Int | .node _ j _ _ _ => j
@[simp] def TreeV.frm : TreeV → Int | .node _ _ i _ _ => i
@[simp] def TreeV.unt : TreeV → Int | .node _ _ _ k _ => k
@[simp] def TreeV.kids : TreeV → List TreeV | .node _ _ _ _ l => l
/-! ### the order of the derivations -/
end Go.Proofs.YthojaplnimoacaaGreatDoor

/- Trees that are derivations; how great and how dear derivations are. Conditions: none; plain facts. -/
namespace Go.Proofs.YthojaplnimoacaaGreatDoor
open Go.RowKit Go.Han
set_option maxRecDepth 100000

/-! ### trees that are derivations -/
section
variable {g : Gram} {items : List ItemG}
/-! ### how great, how dear -/
end
end Go.Proofs.YthojaplnimoacaaGreatDoor

/- Arguments of a chart that are right, what is answered, and what follows of it. Conditions: none; plain facts. -/
namespace Go.Proofs.YthojaplnimoacaaGreatDoor
open Go.RowKit Go.Han
set_option maxRecDepth 100000

/-! ### arguments that are right -/
/-! ### what is answered -/
section
variable {g : Gram} {items : List ItemG} {n : Int}
end
end Go.Proofs.YthojaplnimoacaaGreatDoor

/- Reference 29: Stands, few, times, Right, Error. -/
namespace Go.Proofs.YthojaplnimoacaaGreatDoor
open Go.RowKit Go.Han
attribute [local irreducible] wpStill wpQuiet
set_option maxRecDepth 100000

theorem ItemG.size_cells (x : ItemG) : x.cells.length = 6 := rfl
/-- Items as they lie. -/
structure ItemsAt (w : World) (its : SlS ItemG) : Prop where
  lies : its.lies ItemG.cells w
  tgt : ∀ x ∈ its.xs, x.tgt.lies w
theorem ItemsAt.ext {w w' : World} {its : SlS ItemG} (h : ItemsAt w its) (hb : Below w.heap.size w w') : ItemsAt w' its := ⟨h.lies.ext hb, fun x hx => StrS.lies.ext (h.tgt x hx) hb⟩
end Go.Proofs.YthojaplnimoacaaGreatDoor

/- slices.BinarySearchFunc at hansard/api.Term, by the number. -/
namespace Go.Proofs.YthojaplnimoacaaGreatDoor
open Go.RowKit Go.Han
attribute [local irreducible] wpStill wpQuiet

def numFnT : Value := .func (.func 94) #[] #[]
theorem compareT_any (n : Int) (x : Term) (w : World) : Calls Tryz.prog 94 #[x.val, .int .i64 n] w fun e w' => e = .returned (.int .i64 (Lib.compareInt x.no n)) ∧ Below w.heap.size w w' := by
  have hv : x.val = .agg #[.int .i64 x.no, .int .i64 x.at_, .int .i64 x.known, .int .i64 x.lang, .slice x.src.addr x.src.xs.length x.src.cap, .slice x.tgt.addr x.tgt.xs.length x.tgt.cap, .string x.cat, .bool x.gone] := rfl
  have hc := fun W => Tryz.cmp_Compare_int x.no n W
  rw [hv]
  generalize Lib.compareInt x.no n = r at *
  clear hv
  go_enter Tryz.func94, Tryz.ntmps94
  go_wp2_with fail
  refine (hc _).mono ?_
  rintro e w' ⟨rfl, rfl⟩
  go_wp2
  go_ret
  exact ⟨rfl, ext_alloc (Below.refl _ _) _⟩

/-- How many spots of l lie ahead of n: all that do are at the front. -/
structure CutT (n : Int) (l : List Term) (k : Nat) : Prop where
  le : k ≤ l.length
  lo : ∀ (t : Nat) (h : t < l.length), t < k → l[t].no < n
  hi : ∀ (t : Nat) (h : t < l.length), k ≤ t → n ≤ l[t].no
def headT (n : Int) (l : List Term) (k : Nat) : Bool := match l[k]? with | some x => x.no == n | none => false
def AscT (l : List Term) : Prop := ∀ (a b : Nat) (ha : a < l.length) (hb : b < l.length), a < b → l[a].no < l[b].no

def SearchPostT (n : Int) (l : List Term) (w : World) (e : Ending) (w' : World) : Prop :=
  Below w.heap.size w w' ∧ ∃ k, CutT n l k ∧ e = .returned (.tuple #[.int .i64 k, .bool (headT n l k)])

set_option maxRecDepth 100000 in
set_option maxHeartbeats 1000000 in
theorem searchT_any (n : Int) (A : Option Addr) (c : Nat) (l : List Term) (w : World) (hr : Rd w A (tflat l)) (hm : l.length < 4611686018427387904) (hs : AscT l) :
    Calls Tryz.prog 93 #[.slice A l.length c, .int .i64 n, numFnT] w (SearchPostT n l w) := by
  have eg : ∀ args w, (callFunc 94 args).run Tryz.prog w = .ok (.enter 94 args) w := enters_of Tryz.func94 (by kernel_rfl) rfl
  have Hs := Lib.hid hs
  clear hs
  unfold numFnT
  go_enter Tryz.func93, Tryz.ntmps93
  go_wp2
  go_loopg [9, 10] l.length (fun kx s9 s10 wr => ∃ lo hi : Nat, s9 = .int .i64 lo ∧ s10 = .int .i64 hi ∧ lo ≤ hi ∧ hi ≤ l.length ∧ hi - lo ≤ kx ∧ Below w.heap.size w wr ∧
    Hid ((∀ (t : Nat) (h : t < l.length), t < lo → l[t].no < n) ∧ (∀ (t : Nat) (h : t < l.length), hi ≤ t → n ≤ l[t].no)))
  case atStart => exact ⟨0, l.length, rfl, rfl, Nat.zero_le _, Nat.le_refl _, by omega, Below.refl _ _, ⟨fun t h ht => absurd ht (Nat.not_lt_zero _), fun t h1 h2 => by omega⟩⟩
  case round =>
    obtain ⟨lo, hi, rfl, rfl, hlh, hin, hg, hB, I⟩ := hrel
    have hz := hB.size
    by_cases hlt : lo < hi
    · obtain ⟨md, hmd⟩ : ∃ md, (lo + hi) / 2 = md := ⟨_, rfl⟩
      have hmd1 : lo ≤ md := by omega
      have hmd2 : md < hi := by omega
      have hmid : md < l.length := by omega
      have h0m : ((lo : Int) + (hi : Int)) / 2 = (md : Int) := by omega
      obtain ⟨b, off, rfl, hb, hc⟩ := hr.elem Term.size_cells (by omega) hmid
      have h1 := (hB.cell (p := ⟨b, off + md * 8 + 0, none⟩) hb).trans (hc 0 _ rfl)
      have h2 := (hB.cell (p := ⟨b, off + md * 8 + 1, none⟩) hb).trans (hc 1 _ rfl)
      have h3 := (hB.cell (p := ⟨b, off + md * 8 + 2, none⟩) hb).trans (hc 2 _ rfl)
      have h4 := (hB.cell (p := ⟨b, off + md * 8 + 3, none⟩) hb).trans (hc 3 _ rfl)
      have h5 := (hB.cell (p := ⟨b, off + md * 8 + 4, none⟩) hb).trans (hc 4 _ rfl)
      have h6 := (hB.cell (p := ⟨b, off + md * 8 + 5, none⟩) hb).trans (hc 5 _ rfl)
      have h7 := (hB.cell (p := ⟨b, off + md * 8 + 6, none⟩) hb).trans (hc 6 _ rfl)
      have h8 := (hB.cell (p := ⟨b, off + md * 8 + 7, none⟩) hb).trans (hc 7 _ rfl)
      clear hc hr
      simp only [Nat.add_zero] at h1
      have hbx : b < wr.heap.size := by omega
      have hcmp : Hid (∀ W, Calls _ _ _ W fun e w' => e = .returned (.int .i64 (Lib.compareInt l[md].no n)) ∧ Below W.heap.size W w') := fun W => compareT_any n l[md] W
      obtain ⟨r, hr⟩ : ∃ r, Lib.compareInt l[md].no n = r := ⟨_, rfl⟩
      rw [hr] at hcmp
      obtain ⟨x, hx⟩ : ∃ x, l[md] = x := ⟨_, rfl⟩
      rw [hx] at h1 h2 h3 h4 h5 h6 h7 h8 hcmp hr
      have Hr := Lib.hid hr
      clear hr
      have Hx := Lib.hid hx
      clear hx
      have hBd := hB
      by_cases hrn : r < 0
      · have hxn : Hid (x.no < n) := by
          have hx5 := Hr.out
          unfold Lib.compareInt at hx5
          show x.no < n
          split at hx5
          · assumption
          · split at hx5 <;> omega
        go_wp2_with fail
        refine (hcmp.out _).mono ?_
        rintro e w1 ⟨rfl, hb1⟩
        have hB1 := hBd.trans (hb1.mono hBd.size)
        go_wp2
        go_roundg (hi - (md + 1))
        case measure => omega
        case rel =>
          refine ⟨md + 1, hi, by go_num, rfl, by omega, hin, Nat.le_refl _, hB1, ⟨fun t h ht => ?_, I.out.2⟩⟩
          by_cases he : t = md
          · subst he; rw [Hx.out]; exact hxn.out
          · have := Hs.out t md h hmid (by omega)
            rw [Hx.out] at this
            have := hxn.out
            omega
      · have hxn : Hid (n ≤ x.no) := by
          have hx5 := Hr.out
          unfold Lib.compareInt at hx5
          show n ≤ x.no
          split at hx5
          · omega
          · omega
        go_wp2_with fail
        refine (hcmp.out _).mono ?_
        rintro e w1 ⟨rfl, hb1⟩
        have hB1 := hBd.trans (hb1.mono hBd.size)
        go_wp2
        go_roundg (md - lo)
        case measure => omega
        case rel =>
          refine ⟨lo, md, rfl, rfl, by omega, by omega, Nat.le_refl _, hB1, ⟨I.out.1, fun t h ht => ?_⟩⟩
          by_cases he : t = md
          · subst he; rw [Hx.out]; exact hxn.out
          · have := Hs.out md t hmid h (by omega)
            rw [Hx.out] at this
            have := hxn.out
            omega
    · obtain rfl : hi = lo := by omega
      have HC : Hid (CutT n l hi) := ⟨hin, I.out.1, I.out.2⟩
      by_cases hlt2 : hi < l.length
      · obtain ⟨b, off, rfl, hb, hc⟩ := hr.elem Term.size_cells (by omega) hlt2
        have h1 := (hB.cell (p := ⟨b, off + hi * 8 + 0, none⟩) hb).trans (hc 0 _ rfl)
        have h2 := (hB.cell (p := ⟨b, off + hi * 8 + 1, none⟩) hb).trans (hc 1 _ rfl)
        have h3 := (hB.cell (p := ⟨b, off + hi * 8 + 2, none⟩) hb).trans (hc 2 _ rfl)
        have h4 := (hB.cell (p := ⟨b, off + hi * 8 + 3, none⟩) hb).trans (hc 3 _ rfl)
        have h5 := (hB.cell (p := ⟨b, off + hi * 8 + 4, none⟩) hb).trans (hc 4 _ rfl)
        have h6 := (hB.cell (p := ⟨b, off + hi * 8 + 5, none⟩) hb).trans (hc 5 _ rfl)
        have h7 := (hB.cell (p := ⟨b, off + hi * 8 + 6, none⟩) hb).trans (hc 6 _ rfl)
        have h8 := (hB.cell (p := ⟨b, off + hi * 8 + 7, none⟩) hb).trans (hc 7 _ rfl)
        clear hc hr
        simp only [Nat.add_zero] at h1
        have hbx : b < wr.heap.size := by omega
        have hcmp : Hid (∀ W, Calls _ _ _ W fun e w' => e = .returned (.int .i64 (Lib.compareInt l[hi].no n)) ∧ Below W.heap.size W w') := fun W => compareT_any n l[hi] W
        have hhd : Hid (headT n l hi = decide (Lib.compareInt l[hi].no n = 0)) := by
          show headT n l hi = _
          unfold headT Lib.compareInt
          rw [List.getElem?_eq_getElem hlt2]
          simp only
          split
          · simp; omega
          · split
            · simp; omega
            · simp; omega
        obtain ⟨x, hx⟩ : ∃ x, l[hi] = x := ⟨_, rfl⟩
        rw [hx] at h1 h2 h3 h4 h5 h6 h7 h8 hcmp hhd
        clear hx
        by_cases hr0 : Lib.compareInt x.no n = 0
        · have g1 : (Lib.compareInt x.no n == 0) = true := by simpa using hr0
          have HT : Hid (headT n l hi = true) := by show _ = _; rw [hhd.out, decide_eq_true hr0]
          generalize Lib.compareInt x.no n = r at *
          clear hr0
          go_wp2_with fail
          refine (hcmp.out _).mono ?_
          rintro e w1 ⟨rfl, hb1⟩
          go_wp2
          go_ret2
          exact ⟨hB.trans (hb1.mono hz), hi, HC.out, by rw [HT.out]; rfl⟩
        · have g1 : (Lib.compareInt x.no n == 0) = false := by simpa using hr0
          have HT : Hid (headT n l hi = false) := by show _ = _; rw [hhd.out, decide_eq_false hr0]
          generalize Lib.compareInt x.no n = r at *
          clear hr0
          go_wp2_with fail
          refine (hcmp.out _).mono ?_
          rintro e w1 ⟨rfl, hb1⟩
          go_wp2
          go_ret2
          exact ⟨hB.trans (hb1.mono hz), hi, HC.out, by rw [HT.out]; rfl⟩
      · have HT : Hid (headT n l hi = false) := by
          show _ = _
          unfold headT
          rw [List.getElem?_eq_none (by omega)]
        clear Hs I hlh hg hlt eg
        go_wp2_with fail
        go_ret2
        exact ⟨hB, hi, HC.out, by rw [HT.out]; rfl⟩
end Go.Proofs.YthojaplnimoacaaGreatDoor

/- Rows of cells: copy, append of zero values, clear, at elements of any number of cells. No program in sight. -/
namespace Go.Han
open Go.RowKit

/-- Block g is a row that holds the cells cur, none frozen. -/
def Row (w : World) (g t : Nat) (cur : List Value) : Prop := w.heap[g]? = some (.cells cur.toArray t (0, 0))
theorem Row.lt {w : World} {g t : Nat} {cur : List Value} (h : Row w g t cur) : g < w.heap.size := lt_block h
theorem Row.cell {w : World} {g t : Nat} {cur : List Value} (h : Row w g t cur) (j : Nat) : w.cell? ⟨g, j, none⟩ = cur[j]? := by
  unfold Row at h
  simp [World.cell?, h]
theorem Row.frozen {w : World} {g t : Nat} {cur : List Value} (h : Row w g t cur) (j : Nat) : w.frozen? ⟨g, j, none⟩ = false := by
  unfold Row at h
  simp [World.frozen?, h]
theorem Row.ext {w w' : World} {g t : Nat} {cur : List Value} (h : Row w g t cur) (hb : Below w.heap.size w w') : Row w' g t cur := (hb.block g h.lt).trans h
theorem Row.far {w w' : World} {g t : Nat} {cur : List Value} (h : Row w g t cur) {row : Option Nat} (hg : w.grownBy w' row) (hne : some g ≠ row) : Row w' g t cur := (hg.block g h.lt hne).trans h
theorem Row.drew {w : World} {g t : Nat} {cur : List Value} (h : Row w g t cur) : Row w.drew g t cur := h
theorem Row.rd {w : World} {g t : Nat} {cur : List Value} (h : Row w g t cur) (off : Nat) {xs : List Value} (hx : ∀ (j : Nat) (u : Value), xs[j]? = some u → cur[off + j]? = some u) : Rd w (some ⟨g, off, none⟩) xs :=
  .inr ⟨g, off, rfl, h.lt, fun j u hu => (h.cell _).trans (hx j u hu)⟩

section
variable {P : Program} (w : World)

theorem add_none (g o j : Nat) : (⟨g, o, none⟩ : Addr).add j = ⟨g, o + j, none⟩ := by unfold Addr.add; split <;> simp_all

theorem setRow_row {g t : Nat} {cur : List Value} (h : Row w g t cur) (cur' : List Value) : Row (w.setRow g cur'.toArray) g t cur' ∧ w.grownBy (w.setRow g cur'.toArray) (some g) ∧ (w.setRow g cur'.toArray).heap.size = w.heap.size := by
  refine ⟨setRow_heap w g _ _ t _ h, ?_, by simp [World.setRow]⟩
  exact ⟨rfl, rfl, rfl, by simp [World.setRow], fun k _ hne => by simp [World.setRow, Array.getElem?_modify]; intro e; exact absurd (by rw [e]) hne⟩

/-- copy, into a row; the source read first. -/
theorem run_copy_rows (dT sT ty elem size : Nat) (hu : P.underlying dT = some (.slice elem)) {i : TypeInfo} (hi : P.info? elem = some i) (hs : i.size = size) (g o dLen dCap : Nat) (A : Option Addr) (sLen sCap t : Nat) (cur cs : List Value)
    (hg : Row w g t cur) (hn : cs.length = Nat.min sLen dLen * size) (hsrc : Rd w A cs) (hfit : o + cs.length ≤ cur.length) (h1 : ∀ v ∈ cs, v.oneCell' = true) :
    (Builtin.copy_ #[dT, sT] ty #[.slice (some ⟨g, o, none⟩) dLen dCap, .slice A sLen sCap]).run P w = .ok (goInt (Nat.min sLen dLen)) (w.setRow g (splice cur o cs).toArray) := by
  have hfc : (Builtin.firstCells size (Nat.min sLen dLen) (.slice A sLen sCap)).run P w = .ok cs.toArray w := by
    rcases hsrc with rfl | ⟨b, off, rfl, _, hc⟩
    · cases A with
      | none => exact run_firstCells_none w _ _ _ _
      | some a => exact run_firstCells_some w size _ a sLen sCap [] (by simpa using hn) (by simp)
    · exact run_firstCells_some w size _ ⟨b, off, none⟩ sLen sCap cs hn (fun j v hv => by rw [add_none]; exact hc j v hv)
  have hst := run_storeCells_at (P := P) g o t cs 0 cur.toArray w hg (by simpa using hfit) h1
  simp only [Nat.add_zero] at hst
  subst hs
  have hsz : ∀ w, (Go.sizeOf elem).run P w = .ok i.size w := fun w => by simp [Go.sizeOf, typeInfo, hi]
  simp only [Builtin.copy_, Builtin.lenOf, Sem.run_bind, Sem.run_pure, Result.andThen_ok, run_underlying hu, hsz, hfc, List.getElem?_toArray, List.getElem?_cons_zero, List.getElem?_cons_succ]
  simp only [hst, Result.andThen_ok, splice, List.append_assoc]

theorem wp_copy_rows {o : Oper} {a : Act} {K : Act → World → Prop} {Q : Exit → Act → World → Prop} (d s : Operand) (dT sT : TypeId) (ho : o.op = .call { callee := .builtin .copy, args := #[d, s], argTypes := #[dT, sT] })
    (elem size : Nat) (hu : P.underlying dT = some (.slice elem)) {i : TypeInfo} (hi : P.info? elem = some i) (hs : i.size = size) (g off dLen dCap : Nat) (A : Option Addr) (sLen sCap t : Nat) (cur cs : List Value)
    (hd : a.eval d = .slice (some ⟨g, off, none⟩) dLen dCap) (hx : a.eval s = .slice A sLen sCap)
    (hg : Row w g t cur) (hn : cs.length = Nat.min sLen dLen * size) (hsrc : Rd w A cs) (hfit : off + cs.length ≤ cur.length) (h1 : ∀ v ∈ cs, v.oneCell' = true)
    (h : ∀ w', Row w' g t (splice cur off cs) → w.grownBy w' (some g) → w'.heap.size = w.heap.size → K (a.put o.dst (goInt (Nat.min sLen dLen))) w') : o.wp P a w K Q := by
  have hr := run_copy_rows (P := P) w dT sT o.type elem size hu hi hs g off dLen dCap A sLen sCap t cur cs hg hn hsrc hfit h1
  obtain ⟨r1, r2, r3⟩ := setRow_row w hg (splice cur off cs)
  unfold Oper.wp execOp
  simp only [ho, resolve, invoke, builtin, Sem.run_bind, Sem.run_pure, Result.andThen_ok, List.map_toArray, List.map_cons, List.map_nil, hd, hx, hr]
  exact h _ r1 r2 r3
theorem wpList_copy_rows {ops : Array Oper} {rest : List Oper} {o : Oper} {a : Act} {Q : Exit → Act → World → Prop} (hgd : o.guard = none) (d s : Operand) (dT sT : TypeId) (ho : o.op = .call { callee := .builtin .copy, args := #[d, s], argTypes := #[dT, sT] })
    (elem size : Nat) (hu : P.underlying dT = some (.slice elem)) {i : TypeInfo} (hi : P.info? elem = some i) (hs : i.size = size) (g off dLen dCap : Nat) (A : Option Addr) (sLen sCap t : Nat) (cur cs : List Value)
    (hd : a.eval d = .slice (some ⟨g, off, none⟩) dLen dCap) (hx : a.eval s = .slice A sLen sCap)
    (hg : Row w g t cur) (hn : cs.length = Nat.min sLen dLen * size) (hsrc : Rd w A cs) (hfit : off + cs.length ≤ cur.length) (h1 : ∀ v ∈ cs, v.oneCell' = true)
    (h : ∀ w', Row w' g t (splice cur off cs) → w.grownBy w' (some g) → w'.heap.size = w.heap.size → wpList P ops Q rest (a.put o.dst (goInt (Nat.min sLen dLen))) w') : wpList P ops Q (o :: rest) a w :=
  wpList_plain hgd fun _ hK => wp_copy_rows w d s dT sT ho elem size hu hi hs g off dLen dCap A sLen sCap t cur cs hd hx hg hn hsrc hfit h1 fun w' h2 h3 h4 => hK _ _ (h w' h2 h3 h4)

/-- append(s[:i], make([]T, k)...) where there is no room: a new row. -/
theorem wpList_append_zeros {ops : Array Oper} {rest : List Oper} {o : Oper} {a : Act} {Q : Exit → Act → World → Prop} (hgd : o.guard = none) (s x : Operand) (t tn : TypeId) (ho : o.op = .call { callee := .builtin .append, args := #[s, x], argTypes := #[t, tn] })
    (e : TypeId) (i : TypeInfo) (z : Value) (size bytes : Nat) (kq kn : IntKind) (ht : P.underlying t = some (.slice e)) (htn : P.underlying tn = some (.int kn)) (hi : P.info? e = some i) (hz : i.zero = some z) (hsize : i.size = size) (hby : i.bytes = bytes) (hzs : z.cells.size = size) (hsz : 0 < size)
    (A : Option Addr) (sLen sCap k : Nat) (olds : List Value) (hs : a.eval s = .slice A sLen sCap) (hx : a.eval x = .int kq k) (hl : olds.length = sLen * size) (hold : Rd w A olds)
    (h0 : 0 < k) (hg : sCap < sLen + k) (h63 : sLen + k ≤ maxLen) (hbytes : (sLen + k) * bytes ≤ 140737488355328)
    (h : ∀ cap w' R, Row w' w.heap.size e (olds ++ R) → (olds ++ R).length = cap * size → sLen + k ≤ cap → cap ≤ maxLen → Below w.heap.size w w' → w'.heap.size = w.heap.size + 1 → wpList P ops Q rest (a.put o.dst (.slice (some ⟨w.heap.size, 0, none⟩) (sLen + k) cap)) w') :
    wpList P ops Q (o :: rest) a w := by
  refine wpList_plain hgd fun K hK => ?_
  subst hsize; subst hby
  have hsmall : sLen + k ≤ 9223372036854775807 := by simp only [maxLen] at h63; omega
  have hfc : (Builtin.firstCells i.size sLen (.slice A sLen sCap)).run P w.drew = .ok olds.toArray w.drew := by
    rcases hold with rfl | ⟨b, off, rfl, _, hc⟩
    · cases A with
      | none => exact run_firstCells_none w.drew _ _ _ _
      | some a => exact run_firstCells_some w.drew _ _ a sLen sCap [] (by simpa using hl) (by simp)
    · exact run_firstCells_some w.drew _ _ ⟨b, off, none⟩ sLen sCap olds hl (fun j v hv => by rw [add_none]; exact hc j v hv)
  have hr := Lib.run_append_grow_zeros (P := P) w t tn o.type e i z kq kn ht htn hi hz A sLen sCap olds hfc k h0 hsz hg (by omega) (by have := Nat.mul_le_mul_right i.bytes (show k ≤ sLen + k by omega); omega) (growslice_fits (by omega) hbytes)
  have hge := grownCap_ge w (sLen + k) sCap e
  have hcm := grownCap_le_maxLen w (sLen + k) sCap e h63
  unfold Oper.wp execOp
  simp only [ho, resolve, invoke, builtin, Sem.run_bind, Sem.run_pure, Result.andThen_ok, List.map_toArray, List.map_cons, List.map_nil, hs, hx, hr]
  refine hK _ _ (h (grownCap w (sLen + k) sCap e) _ ((Builtin.zeroCells z.cells k).toList ++ (Builtin.zeroCells z.cells (grownCap w (sLen + k) sCap e - (sLen + k))).toList) ?_ ?_ hge hcm ?_ (by simp))
  · unfold Row
    rw [show w.heap.size = w.drew.heap.size from rfl, World.alloc_heap_new]
    congr 2
    apply Array.ext'
    simp
  · simp only [List.length_append, hl, Array.length_toList, size_zeroCells, hzs, ← Nat.add_mul]
    congr 1
    omega
  · exact (Below.refl _ _).drew.alloc (Nat.le_refl _) _

theorem splice_at {α : Type} (X Z C : List α) (p : Nat) (hp : X.length = p) : splice (X ++ Z) p C = X ++ (C ++ Z.drop C.length) := by
  subst hp
  unfold splice
  rw [List.take_left, List.drop_append, List.drop_of_length_le (by omega), List.nil_append, Nat.add_sub_cancel_left]
end

/-- The cells xs with ys put in at p. -/
def putIn {α : Type} (xs : List α) (p : Nat) (ys : List α) : List α := xs.take p ++ (ys ++ xs.drop p)
theorem putIn_length {α : Type} (xs ys : List α) (p : Nat) (hp : p ≤ xs.length) : (putIn xs p ys).length = xs.length + ys.length := by
  simp [putIn]; omega
/-- Into a row that begins with xs and has room: what is behind p moves on, then ys goes in. -/
theorem splice_room {α : Type} (xs R ys : List α) (p : Nat) (hp : p ≤ xs.length) (hr : ys.length ≤ R.length) :
    splice (splice (xs ++ R) (p + ys.length) (xs.drop p)) p ys = putIn xs p ys ++ R.drop ys.length := by
  have hl : ((xs.drop p ++ R).take ys.length).length = ys.length := by simp; omega
  have h1 : xs ++ R = (xs.take p ++ ((xs.drop p ++ R).take ys.length)) ++ (xs.drop p ++ R).drop ys.length := by
    rw [List.append_assoc, List.take_append_drop, ← List.append_assoc, List.take_append_drop]
  have hlen : (xs.take p ++ ((xs.drop p ++ R).take ys.length)).length = p + ys.length := by
    rw [List.length_append, hl, List.length_take, Nat.min_eq_left hp]
  rw [h1, splice_at _ _ _ (p + ys.length) hlen, List.append_assoc, splice_at _ _ _ p (by simp; omega)]
  unfold putIn
  rw [List.append_assoc, List.append_assoc]
  congr 2
  have e1 : (((xs.drop p ++ R).take ys.length) ++ (xs.drop p ++ ((xs.drop p ++ R).drop ys.length).drop (xs.drop p).length)).drop ys.length = xs.drop p ++ ((xs.drop p ++ R).drop ys.length).drop (xs.drop p).length := by
    rw [List.drop_append, hl, Nat.sub_self, List.drop_zero, List.drop_of_length_le (by rw [hl]; exact Nat.le_refl _), List.nil_append]
  have e2 : ((xs.drop p ++ R).drop ys.length).drop (xs.drop p).length = R.drop ys.length := by
    rw [List.drop_drop, Nat.add_comm, ← List.drop_drop, List.drop_left]
  rw [e2] at e1 ⊢
  exact e1
theorem splice_fresh {α : Type} (xs R ys : List α) (p : Nat) (hp : p ≤ xs.length) :
    splice (splice (xs.take p ++ R) p ys) (p + ys.length) (xs.drop p) = putIn xs p ys ++ R.drop (ys.length + (xs.length - p)) := by
  have hl : (xs.take p ++ ys).length = p + ys.length := by rw [List.length_append, List.length_take, Nat.min_eq_left hp]
  rw [splice_at _ _ _ p (by simp; omega), ← List.append_assoc, splice_at _ _ _ (p + ys.length) hl]
  unfold putIn
  rw [List.append_assoc, List.append_assoc, List.append_assoc, List.drop_drop, List.length_drop]
end Go.Han

/- slices.Insert of one element at hansard/api.Term: into a slice of one's own. -/
namespace Go.Proofs.YthojaplnimoacaaGreatDoor
open Go.RowKit Go.Han

theorem info_term : (Tryz.prog.info? 66).map (fun i => (i.size, i.bytes)) = some (8, 104) := by kernel_rfl
theorem infoz_term : ((Tryz.prog.info? 66).bind (·.zero)).map (·.cells.size) = some 8 := by kernel_rfl
theorem parts_term : ∃ i z, Tryz.prog.info? 66 = some i ∧ i.zero = some z ∧ i.size = 8 ∧ i.bytes = 104 ∧ z.cells.size = 8 := by
  have h1 := info_term
  have h2 := infoz_term
  cases hi : Tryz.prog.info? 66 with
  | none => rw [hi] at h1; cases h1
  | some i =>
    rw [hi] at h1 h2
    simp only [Option.map_some, Option.some.injEq, Prod.mk.injEq, Option.bind_some] at h1 h2
    cases hz : i.zero with
    | none => rw [hz] at h2; cases h2
    | some z =>
      rw [hz] at h2
      exact ⟨i, z, rfl, hz, h1.1, h1.2, by simpa using h2⟩

def InsPost_term (base n : Nat) (v : Value) (zs : List Value) (w : World) (e : Ending) (w' : World) : Prop :=
  ∃ v', e = .returned v' ∧ w'.ownsRow base 66 8 v' n zs ∧ w.grownBy w' v.ownBlock ∧ (v'.ownBlock = v.ownBlock ∨ ∃ k, v'.ownBlock = some k ∧ w.heap.size ≤ k)

set_option maxRecDepth 100000 in
set_option maxHeartbeats 1000000 in
theorem insert_term (base n i vb : Nat) (v : Value) (xs ys : List Value) (w : World) (hown : w.ownsRow base 66 8 v n xs) (hin : i ≤ n) (hv : Row w vb 66 ys) (hys : ys.length = 8)
    (hy1 : ∀ u ∈ ys, u.oneCell' = true) (hx1 : ∀ u ∈ xs, u.oneCell' = true) (hne : v.ownBlock ≠ some vb) (hn : n ≤ 1000000) (hbase : base ≤ w.heap.size) :
    Calls Tryz.prog 96 #[v, .int .i64 i, .slice (some ⟨vb, 0, none⟩) 1 1] w (InsPost_term base (n + 1) v (putIn xs (i * 8) ys) w) := by
  obtain ⟨i0, z, hi0, hz0, hs0, hb0, hzs⟩ := parts_term
  have hxl := hown.1
  have hrdv : Rd w (some ⟨vb, 0, none⟩) ys := hv.rd 0 (fun j u h => by simpa using h)
  by_cases hlast : i = n
  · -- at the end: append
    have hput : putIn xs (i * 8) ys = xs ++ ys := by
      unfold putIn
      rw [hlast, ← hxl, List.take_of_length_le (Nat.le_refl _), List.drop_of_length_le (Nat.le_refl _), List.append_nil]
    rw [hput]
    clear hput
    subst hlast
    obtain ⟨A, c, rfl, hnc, hcm⟩ : ∃ A c, v = .slice A i c ∧ i ≤ c ∧ c ≤ maxLen := by
      rcases hown.2 with ⟨rfl, rfl⟩ | ⟨g, cap, cur, rfl, _, _, h1, h2, _⟩
      · exact ⟨none, 0, rfl, Nat.le_refl _, by unfold maxLen; omega⟩
      · exact ⟨_, _, rfl, h1, h2⟩
    unfold maxLen at hcm
    go_enter Tryz.func96, Tryz.ntmps96
    go_wp2_with (at_builtin; go_loud (refine wpList_append_lies _ rfl (.tmp 23) (.tmp 24) 53 rfl base 66 i0 z 8 104 Tryz.underlying53 hi0 hz0 hs0 hb0 hzs (by decide) (.slice A i c) i xs rfl hown ⟨vb, 0, none⟩ 1 1 ys rfl (by rw [hys]) (fun j u hu => by rw [add_none, Nat.zero_add]; exact (hv.cell j).trans hu) hy1 (by decide) (by unfold maxLen; omega) (by omega) hbase _ rfl ?_); intro g' c' w1 hown1 hgr hat hlt)
    all_goals
      go_ret
      cases A
      all_goals
        refine ⟨_, rfl, hown1, hgr, ?_⟩
        rcases hat with h | h
        · exact .inl h.symm
        · exact .inr ⟨g', rfl, by omega⟩
  · -- before the end
    have hlt : i < n := by omega
    obtain ⟨g, c, cur, rfl, hbg, hrow, hnc, hcm, hcs, htk⟩ : ∃ g cap cur, v = .slice (some ⟨g, 0, none⟩) n cap ∧ base ≤ g ∧ w.heap[g]? = some (.cells cur 66 (0, 0)) ∧ n ≤ cap ∧ cap ≤ maxLen ∧ cur.size = cap * 8 ∧ cur.toList.take (n * 8) = xs := by
      rcases hown.2 with ⟨_, h0⟩ | h
      · omega
      · exact h
    have hne' : g ≠ vb := fun e => hne (by rw [e]; rfl)
    have hR : Row w g 66 (xs ++ cur.toList.drop (n * 8)) := by
      unfold Row
      rw [← htk, List.take_append_drop]
      exact hrow
    have hRl : (xs ++ cur.toList.drop (n * 8)).length = c * 8 := by
      rw [← htk, List.take_append_drop, Array.length_toList]; exact hcs
    generalize cur.toList.drop (n * 8) = R at *
    clear hrow hcs htk cur hown
    have hnci : (n : Int) ≤ (c : Int) := by omega
    by_cases hroom : n + 1 ≤ c
    · have g1 : ¬ ((c : Int) < (n : Int) + 1) := by omega
      have hov : ∀ (o lb cb : Nat), (callFunc 143 #[.slice (some ⟨vb, 0, none⟩) 1 1, .slice (some ⟨g, o, none⟩) lb cb]).run Tryz.prog w = .ok (.value (.bool false)) w := by
        intro o lb cb
        have hsz : ∀ w, (Go.sizeOf 66).run Tryz.prog w = .ok 8 w := fun w => by simp [Go.sizeOf, typeInfo, hi0, hs0]
        rw [run_callFunc_extern Tryz.func143 (by kernel_rfl) (by kernel_rfl) (by kernel_rfl) (e := Extern.SlicesOverlaps.overlaps #[53, 53] #[4]) (by kernel_rfl),
          Lib.run_overlaps_apart w 53 4 66 Tryz.underlying53 8 hsz ⟨vb, 0, none⟩ ⟨g, o, none⟩ 1 1 lb cb (Ne.symm hne') 66 66 8 (c * 8) (by unfold Row at hv; simp [World.shape?, hv, hys]) (by unfold Row at hR; simp [World.shape?, hR]; simpa using hRl) (by omega) (hv.frozen 0) (hv.frozen _)]
        rfl
      have hw1 : IntKind.i64.wrap ((i : Int) + 1) = (i : Int) + 1 := by rw [IntKind.wrap_i64]; omega
      have hw2 : ((i : Int) + 1).toNat = i + 1 := by omega
      unfold maxLen at hcm
      have Hcm := Lib.hid hcm
      go_enter Tryz.func96, Tryz.ntmps96
      go_wp2_with fail
      have hz1 : (0 : Int) ≤ (i : Int) + 1 := by omega
      have hci : ¬ c = i + 1 := by omega
      have hci2 : ¬ c = i := by omega
      have hin2 : (i : Int) ≤ (n : Int) + 1 := by omega
      go_still_tail 8, (by kernel_rfl)
      change wpList _ _ _ _ _ w.drew
      generalize hwd : w.drew = w2
      have hR2 : Row w2 g 66 (xs ++ R) := by rw [← hwd]; exact hR
      have hv2 : Row w2 vb 66 ys := by rw [← hwd]; exact hv
      have hbd : w.grownBy w2 (some g) := by rw [← hwd]; exact ⟨rfl, rfl, rfl, Nat.le_refl _, fun _ _ _ => rfl⟩
      clear hwd hR hv hrdv hov
      have hxd : (xs.drop (i * 8)).length = (n - i) * 8 := by rw [List.length_drop, hxl, Nat.sub_mul]
      have hmin : Nat.min (n + 1 - i) (n - i) = n - i := Nat.min_eq_right (by omega)
      have hcl : (n + 1) * 8 ≤ c * 8 := Nat.mul_le_mul_right _ hroom
      have hRl2 : xs.length + R.length = c * 8 := by rw [← List.length_append]; exact hRl
      refine wpList_copy_rows w2 rfl (.tmp 73) (.tmp 76) 53 53 rfl 66 8 Tryz.underlying53 hi0 hs0 g ((i + 1) * 8) (n - i) (c - (i + 1)) (some ⟨g, i * 8, none⟩) (n + 1 - i) (c - i) 66 (xs ++ R) (xs.drop (i * 8)) rfl rfl hR2 (by rw [hmin]; exact hxd)
        (hR2.rd _ fun j u hu => ?_) (by rw [hxd, List.length_append]; omega) (fun u hu => hx1 u (List.mem_of_mem_drop hu)) fun w3 hR3 hg3 hz3 => ?_
      · rw [List.getElem?_drop] at hu
        rw [List.getElem?_append_left (List.getElem?_eq_some_iff.1 hu).1]
        exact hu
      have hv3 : Row w3 vb 66 ys := hv2.far hg3 (by simpa using Ne.symm hne')
      rw [hmin]
      clear hR2 hv2
      have hmul : (i + 1) * 8 = i * 8 + ys.length := by rw [Nat.succ_mul, hys]
      have hile : i * 8 ≤ n * 8 := Nat.mul_le_mul_right _ hin
      have hcn : n * 8 + 8 ≤ c * 8 := by rw [Nat.succ_mul] at hcl; exact hcl
      have hsr : splice (splice (xs ++ R) ((i + 1) * 8) (xs.drop (i * 8))) (i * 8) ys = putIn xs (i * 8) ys ++ R.drop ys.length := by
        rw [hmul]; exact splice_room xs R ys _ (by omega) (by omega)
      have hslen : (splice (xs ++ R) ((i + 1) * 8) (xs.drop (i * 8))).length = c * 8 := by
        unfold splice
        simp only [List.length_append, List.length_take, List.length_drop]
        omega
      go_wp2_with (with_reducible (refine wpList_copy_rows w3 rfl (.tmp 80) (.tmp 81) 53 53 rfl 66 8 Tryz.underlying53 hi0 hs0 g (i * 8) (n + 1 - i) (c - i) (some ⟨vb, 0, none⟩) 1 1 66 _ ys ?_ ?_ hR3 ?_ ?_ ?_ hy1 fun w4 hR4 hg4 hz4 => ?_))
      · rfl
      · rfl
      · rw [hys, show Nat.min 1 (n + 1 - i) = 1 from Nat.min_eq_left (by omega)]
      · exact hv3.rd 0 (fun j u h => by simpa using h)
      · rw [hslen]; omega
      go_ret
      rw [hsr] at hR4
      have hpl : (putIn xs (i * 8) ys).length = (n + 1) * 8 := by rw [putIn_length _ _ _ (by omega), hys, hxl, Nat.succ_mul]
      refine ⟨_, rfl, ⟨hpl, .inr ⟨g, c, _, rfl, hbg, hR4, hroom, by unfold maxLen; exact Hcm.out, ?_, ?_⟩⟩, (hbd.trans hg3).trans hg4, .inl rfl⟩
      · rw [List.size_toArray, List.length_append, hpl, List.length_drop, hys, Nat.succ_mul]; omega
      · exact List.take_left' hpl
    · have hcn : c = n := by omega
      subst hcn
      have g1 : (c : Int) < (c : Int) + 1 := by omega
      have hw1 : IntKind.i64.wrap ((i : Int) + 1) = (i : Int) + 1 := by rw [IntKind.wrap_i64]; omega
      have hw2 : ((i : Int) + 1).toNat = i + 1 := by omega
      have hR0 : R = [] := List.eq_nil_of_length_eq_zero (by rw [List.length_append, hxl] at hRl; omega)
      subst hR0
      rw [List.append_nil] at hR
      unfold maxLen at hcm
      have hk : ((c : Int) + 1 - (i : Int)) = ((c + 1 - i : Nat) : Int) := by omega
      have hxt : (xs.take (i * 8)).length = i * 8 := by
        rw [List.length_take, Nat.min_eq_left]
        rw [hxl]; exact Nat.mul_le_mul_right _ hin
      have hadd : i + (c + 1 - i) = c + 1 := by omega
      go_enter Tryz.func96, Tryz.ntmps96
      go_wp2_with (at_builtin; go_loud (refine wpList_append_zeros w rfl (.tmp 34) (.tmp 39) 53 3 rfl 66 i0 z 8 104 .i64 .i64 Tryz.underlying53 Tryz.underlying3 hi0 hz0 hs0 hb0 hzs (by decide) (some ⟨g, 0, none⟩) i c (c + 1 - i) (xs.take (i * 8)) rfl ?hx1 hxt (hR.rd 0 ?hx2) (by omega) (by omega) (by unfold maxLen; omega) (by omega) ?hx3))
      case hx1 => rfl
      case hx2 =>
        intro j u hu
        rw [Nat.zero_add]
        rw [List.getElem?_take] at hu
        split at hu
        · exact hu
        · cases hu
      case hx3 =>
        intro cap w1 R1 hR1 hl1 hc1 hm1 hb1 hz1
        have hv1 := hv.ext hb1
        have hgw : g < w.heap.size := hR.lt
        have hvw : vb < w.heap.size := hv.lt
        have hR01 := hR.ext hb1
        have hg1 : w.grownBy w1 (some w.heap.size) := ⟨hb1.os, hb1.tape, hb1.output, hb1.size, fun k hk _ => hb1.block k hk⟩
        have hci : ¬ cap = i := by omega
        have hci1 : ¬ cap = i + 1 := by omega
        have hi1 : (i : Int) ≤ (c : Int) + 1 := by omega
        have hi0' : (i : Int) + 1 ≤ (c : Int) + 1 := by omega
        have hz1' : (0 : Int) ≤ (i : Int) + 1 := by omega
        have hcm1 : cap ≤ 9223372036854775807 := by unfold maxLen at hm1; omega
        clear hv hR hm1
        go_wp2_with (with_reducible (refine wpList_copy_rows w1 rfl (.tmp 43) (.tmp 44) 53 53 rfl 66 8 Tryz.underlying53 hi0 hs0 w.heap.size (i * 8) (c + 1 - i) (cap - i) (some ⟨vb, 0, none⟩) 1 1 66 _ ys ?_ ?_ hR1 ?_ ?_ ?_ hy1 fun w2 hR2 hg2 hz2 => ?_))
        · rfl
        · rfl
        · rw [hys, show Nat.min 1 (c + 1 - i) = 1 from Nat.min_eq_left (by omega)]
        · exact hv1.rd 0 (fun j u h => by simpa using h)
        · rw [List.length_append, hxt, hys]
          have : i * 8 + 8 ≤ cap * 8 := by rw [← Nat.succ_mul]; exact Nat.mul_le_mul_right _ (by omega)
          omega
        have hR02 := hR01.far hg2 (by intro e; simp at e; omega)
        clear hR1 hv1 hR01
        go_still_tail 8, (by kernel_rfl)
        change wpList _ _ _ _ _ w2.drew
        generalize hwd : w2.drew = w3
        have hR3 : Row w3 w.heap.size 66 (splice (xs.take (i * 8) ++ R1) (i * 8) ys) := by rw [← hwd]; exact hR2
        have hR03 : Row w3 g 66 xs := by rw [← hwd]; exact hR02
        have hg3 : w2.grownBy w3 (some w.heap.size) := by rw [← hwd]; exact ⟨rfl, rfl, rfl, Nat.le_refl _, fun _ _ _ => rfl⟩
        clear hwd hR2 hR02
        have hxd : (xs.drop (i * 8)).length = (c - i) * 8 := by rw [List.length_drop, hxl, Nat.sub_mul]
        have hmin : Nat.min (c - i) (c - i) = c - i := Nat.min_eq_left (Nat.le_refl _)
        have hci2 : ¬ c = i := by omega
        have hslen : (splice (xs.take (i * 8) ++ R1) (i * 8) ys).length = cap * 8 := by
          unfold splice
          simp only [List.length_append, List.length_take, List.length_drop, hxl] at hl1 ⊢
          omega
        have hile : i * 8 ≤ c * 8 := Nat.mul_le_mul_right _ hin
        have hmul : (i + 1) * 8 = i * 8 + ys.length := by rw [Nat.succ_mul, hys]
        have hcs : (c + 1) * 8 ≤ cap * 8 := Nat.mul_le_mul_right _ (by omega)
        have hcs' : (c + 1) * 8 = c * 8 + 8 := Nat.succ_mul _ _
        have hcis : (c - i) * 8 = c * 8 - i * 8 := Nat.sub_mul _ _ _
        have hl3 : i * 8 + R1.length = cap * 8 := hl1
        refine wpList_copy_rows w3 rfl (.tmp 50) (.tmp 53) 53 53 rfl 66 8 Tryz.underlying53 hi0 hs0 w.heap.size ((i + 1) * 8) (c - i) (cap - (i + 1)) (some ⟨g, i * 8, none⟩) (c - i) (c - i) 66 (splice (xs.take (i * 8) ++ R1) (i * 8) ys) (xs.drop (i * 8)) rfl (by simp only [Act.eval, Array.getD_eq_getD_getElem?, List.getElem?_toArray, List.getElem?_cons_succ, List.getElem?_cons_zero, Option.getD_some, hci2, if_false]) hR3 (by rw [hmin]; exact hxd)
          (hR03.rd _ fun j u hu => by rw [List.getElem?_drop] at hu; exact hu) (by rw [hxd, hslen]; omega) (fun u hu => hx1 u (List.mem_of_mem_drop hu)) fun w4 hR4 hg4 hz4 => ?_
        rw [hmin]
        go_wp2
        go_ret
        have hsr : splice (splice (xs.take (i * 8) ++ R1) (i * 8) ys) ((i + 1) * 8) (xs.drop (i * 8)) = putIn xs (i * 8) ys ++ R1.drop (ys.length + (xs.length - i * 8)) := by
          rw [hmul]; exact splice_fresh xs R1 ys _ (by omega)
        rw [hsr] at hR4
        have hpl : (putIn xs (i * 8) ys).length = (c + 1) * 8 := by rw [putIn_length _ _ _ (by omega), hys, hxl, Nat.succ_mul]
        have hge := ((hg1.trans hg2).trans hg3).trans hg4
        refine ⟨_, rfl, ⟨hpl, .inr ⟨_, cap, _, rfl, hbase, hR4, by omega, by unfold maxLen; omega, ?_, ?_⟩⟩, ⟨hge.os, hge.tape, hge.output, hge.size, fun k hk _ => hge.block k hk (by intro e; simp at e; omega)⟩, .inr ⟨_, rfl, Nat.le_refl _⟩⟩
        · rw [List.size_toArray, List.length_append, hpl, List.length_drop, hys]; omega
        · exact List.take_left' hpl
end Go.Proofs.YthojaplnimoacaaGreatDoor

/- Package glossary: Add. -/
namespace Go.Proofs.YthojaplnimoacaaGreatDoor
open Go.RowKit Go.Han
attribute [local irreducible] wpStill wpQuiet
set_option maxRecDepth 100000

theorem tflat_length (l : List Term) : (tflat l).length = l.length * 8 := flat_len Term.cells 8 Term.size_cells l
theorem term_one (x : Term) : ∀ u ∈ x.cells, u.oneCell' = true := by
  intro u hu
  simp [Term.cells, StrS.val] at hu
  rcases hu with rfl | rfl | rfl | rfl | rfl | rfl | rfl | rfl <;> rfl
theorem tflat_one (l : List Term) : ∀ u ∈ tflat l, u.oneCell' = true := by
  intro u hu
  obtain ⟨x, _, hx⟩ := List.mem_flatMap.1 hu
  exact term_one x u hx
def OwnT (w : World) (base : Nat) (v : Value) (l : List Term) : Prop := OwnL Term.cells 66 8 w base v l
def ClonePostT (l : List Term) (w : World) (e : Ending) (w' : World) : Prop := ∃ v', e = .returned v' ∧ OwnT w' w.heap.size v' l ∧ Below w.heap.size w w'
set_option maxHeartbeats 1000000 in
theorem cloneT_any (A : Option Addr) (c : Nat) (l : List Term) (w : World) (hr : Rd w A (tflat l)) (hA : A = none → l = []) (hm : l.length ≤ 1000000) :
    Calls Tryz.prog 97 #[.slice A l.length c] w (ClonePostT l w) := by
  obtain ⟨i0, z, hi0, hz0, hs0, hb0, hzs⟩ := parts_term
  have q22 : ∀ (w : World) (a : Option Addr) (n c n' c' : Nat), (binOp .eql 53 (.slice a n c) (.slice none n' c')).run Tryz.prog w = .ok (.bool a.isNone) w := fun w a n c n' c' => Lib.run_eql_slice_nil w _ _ a n c n' c' Tryz.underlying53
  cases A with
  | none =>
    have hl := hA rfl
    subst hl
    go_enter Tryz.func97, Tryz.ntmps97
    go_wp2
    go_ret
    exact ⟨_, rfl, OwnL.nil _ _ _ _ _, Below.refl _ _⟩
  | some a =>
    have hcs : ∀ (j : Nat) (u : Value), (tflat l)[j]? = some u → w.cell? (a.add j) = some u := by
      intro j u hu
      rcases hr with h | ⟨b, off, he, _, hc⟩
      · rw [h] at hu; cases hu
      · cases he
        rw [add_none]; exact hc j u hu
    have Hcs := Lib.hid hcs
    clear hcs hr hA
    go_enter Tryz.func97, Tryz.ntmps97
    go_wp2_with (at_builtin; refine wpList_append_own _ rfl _ _ 53 rfl w.heap.size 66 i0 z 8 104 Tryz.underlying53 hi0 hz0 hs0 hb0 hzs (by decide) _ _ _ rfl (World.ownsRow_made w #[] 0 (Nat.le_refl _) (Nat.zero_le _) rfl) a l.length c (tflat l) rfl (tflat_length l) (fun j u hu => Lib.cell?_alloc_some _ (Hcs.out j u hu)) (tflat_one l) (by unfold maxLen; omega) (by omega) (by simp) ?_)
    intro v' w1 hown hgrow hnil
    go_wp2
    go_ret
    refine ⟨v', rfl, by simpa [OwnT, OwnL, tflat] using hown, ?_⟩
    exact ((Below.refl _ w).alloc (Nat.le_refl _) _).grown hgrow (by simp) (by intro k hk; simp [Value.ownBlock] at hk; omega)

theorem tflat_put (l : List Term) (k : Nat) (x : Term) (hk : k ≤ l.length) : putIn (tflat l) (k * 8) x.cells = tflat (l.take k ++ x :: l.drop k) := by
  have h1 : tflat l = tflat (l.take k) ++ tflat (l.drop k) := by
    unfold tflat; rw [← List.flatMap_append, List.take_append_drop]
  have hl : (tflat (l.take k)).length = k * 8 := by rw [tflat_length, List.length_take, Nat.min_eq_left hk]
  unfold putIn
  rw [h1, List.take_left' hl, List.drop_left' hl]
  unfold tflat
  rw [List.flatMap_append, List.flatMap_cons]
def InsPostT (base : Nat) (v : Value) (l' : List Term) (w : World) (e : Ending) (w' : World) : Prop := ∃ v', e = .returned v' ∧ OwnT w' base v' l' ∧ w.grownBy w' v.ownBlock
theorem insT_any (base vb k : Nat) (v : Value) (l : List Term) (x : Term) (w : World) (hown : OwnT w base v l) (hk : k ≤ l.length) (hv : w.heap[vb]? = some (.cells x.cells.toArray 66 (0, 0))) (hne : v.ownBlock ≠ some vb) (hn : l.length ≤ 1000000) (hbase : base ≤ w.heap.size) :
    Calls Tryz.prog 96 #[v, .int .i64 k, .slice (some ⟨vb, 0, none⟩) 1 1] w (InsPostT base v (l.take k ++ x :: l.drop k) w) := by
  refine (insert_term base l.length k vb v (tflat l) x.cells w hown hk hv rfl (term_one x) (tflat_one l) hne hn hbase).mono ?_
  rintro e w2 ⟨v', rfl, hown2, hg2, _⟩
  rw [tflat_put l k x hk] at hown2
  refine ⟨v', rfl, ?_, hg2⟩
  unfold OwnT OwnL
  rw [show (l.take k ++ x :: l.drop k).length = l.length + 1 by simp; omega]
  exact hown2

/-! ### plain -/
theorem ascT_of : ∀ (last : Int) (l : List Term), chkT last l = true → (∀ x ∈ l, last < x.no) ∧ l.Pairwise (fun x y => x.no < y.no)
  | _, [], _ => ⟨by simp, List.Pairwise.nil⟩
  | last, x :: l, h => by
    unfold chkT at h
    simp only [Bool.and_eq_true, decide_eq_true_eq] at h
    obtain ⟨h1, h2⟩ := ascT_of x.no l h.2
    exact ⟨fun y hy => by
      rcases List.mem_cons.1 hy with rfl | hy
      · exact h.1.2
      · have := h1 y hy; omega, List.pairwise_cons.2 ⟨h1, h2⟩⟩
theorem chkT_ok : ∀ (last : Int) (l : List Term), chkT last l = true → ∀ x ∈ l, x.ok = true
  | _, [], _ => by simp
  | last, x :: l, h => by
    unfold chkT at h
    simp only [Bool.and_eq_true, decide_eq_true_eq] at h
    intro y hy
    rcases List.mem_cons.1 hy with rfl | hy
    · exact h.1.1
    · exact chkT_ok x.no l h.2 y hy
theorem checkT_zero {l : List Term} (h : checkT l = 0) : l.length ≤ 1024 ∧ (∀ x ∈ l, x.ok = true) ∧ l.Pairwise (fun x y => x.no < y.no) := by
  unfold checkT at h
  split at h
  · cases h
  · split at h
    · rename_i h1 h2
      exact ⟨by omega, chkT_ok _ l h2, (ascT_of _ l h2).2⟩
    · cases h
theorem ascT_iff (l : List Term) : AscT l ↔ l.Pairwise (fun x y => x.no < y.no) := by
  rw [List.pairwise_iff_getElem]; exact Iff.rfl
def posT (n : Int) (l : List Term) : Nat := (l.takeWhile (fun x => decide (x.no < n))).length
def hasT (n : Int) (l : List Term) : Bool := l.any (fun x => x.no == n)
theorem cutT_pos {n : Int} {l : List Term} {k : Nat} (h : CutT n l k) : k = posT n l := by
  have h1 : l = l.take k ++ l.drop k := (List.take_append_drop k l).symm
  unfold posT
  rw [h1, List.takeWhile_append_of_pos]
  · cases hd : l.drop k with
    | nil => simp; have := congrArg List.length hd; simp at this; have := h.le; omega
    | cons y q =>
      have hk : k < l.length := by
        have := congrArg List.length hd; simp at this; omega
      have hy : l[k] = y := by
        have := List.drop_eq_getElem_cons hk
        rw [hd] at this
        exact (List.cons.inj this).1.symm
      have := h.hi k hk (Nat.le_refl _)
      rw [List.takeWhile_cons_of_neg (by rw [← hy]; simp; omega)]
      simp; omega
  · intro x hx
    obtain ⟨i, hi, rfl⟩ := List.getElem_of_mem hx
    simp at hi
    rw [List.getElem_take]
    have := h.lo i (by omega) (by omega)
    simpa using this
theorem headT_has {n : Int} {l : List Term} {k : Nat} (h : CutT n l k) (hs : AscT l) : headT n l k = hasT n l := by
  unfold headT hasT
  by_cases hk : k < l.length
  · rw [List.getElem?_eq_getElem hk]
    show (l[k].no == n) = _
    by_cases e : l[k].no = n
    · rw [List.any_eq_true.2 ⟨l[k], List.getElem_mem hk, by simpa using e⟩]; simpa using e
    · rw [List.any_eq_false.2]
      · simpa using e
      · intro x hx
        obtain ⟨i, hi, rfl⟩ := List.getElem_of_mem hx
        rcases Nat.lt_trichotomy i k with h1 | h1 | h1
        · have := h.lo i hi h1; simp; omega
        · subst h1; simpa using e
        · have := hs k i hk hi h1
          have := h.hi k hk (Nat.le_refl _)
          simp; omega
  · rw [List.getElem?_eq_none (by omega)]
    show false = _
    rw [List.any_eq_false.2]
    intro x hx
    obtain ⟨i, hi, rfl⟩ := List.getElem_of_mem hx
    have := h.lo i hi (by omega)
    simp; omega
def addL (l : List Term) (x : Term) : List Term := l.take (posT x.no l) ++ x :: l.drop (posT x.no l)
def addE (l : List Term) (x : Term) : Int := if checkT l ≠ 0 then checkT l else if x.ok = false then 270 else if hasT x.no l = true then 181 else if l.length = 1024 then 2 else 0
/-- What adding a term gives. -/
def AddPost (l : List Term) (x : Term) (w : World) (e : Ending) (w' : World) : Prop :=
  Below w.heap.size w w' ∧ ((addE l x ≠ 0 ∧ e = .returned (.tuple #[.slice none 0 0, .int .i64 (addE l x)])) ∨ (addE l x = 0 ∧ ∃ A c, e = .returned (.tuple #[.slice A (addL l x).length c, .int .i64 0]) ∧ TermsAt w' A (addL l x) ∧ (A = none → addL l x = [])))
theorem addL_mem {l : List Term} {x y : Term} (h : y ∈ addL l x) : y = x ∨ y ∈ l := by
  unfold addL at h
  rcases List.mem_append.1 h with h | h
  · exact .inr (List.mem_of_mem_take h)
  · rcases List.mem_cons.1 h with h | h
    · exact .inl h
    · exact .inr (List.mem_of_mem_drop h)
theorem addL_length (l : List Term) (x : Term) : (addL l x).length = l.length + 1 := by
  unfold addL
  have : posT x.no l ≤ l.length := (List.takeWhile_prefix _).length_le
  simp; omega
end Go.Proofs.YthojaplnimoacaaGreatDoor
