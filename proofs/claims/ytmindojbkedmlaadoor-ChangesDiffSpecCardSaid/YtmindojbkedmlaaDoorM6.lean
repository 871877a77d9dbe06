/- Texts of this claim, one after the other: SrchT, Row, InsTerm, AddT, AddT2, TouD, TouE, AddP. -/
import Derived.Test.YtmindojbkedmlaaDoorM5
import Derived.Test.YtmindojbkedmlaaDoorShelf
import Derived.Test.YtmindojbkedmlaaDoorM1
import Derived.Test.YtmindojbkedmlaaDoorM2
import Derived.Deep.LoopGhost
import Derived.Laws.CopyOwn
import Derived.Laws.CopyRow
import Derived.Deep.AppendLies
import Derived.Lib.AppendZerosOnto
import Derived.Lib.Overlaps
import Derived.StillTailTactics
import Derived.Lib.SliceRun
import Derived.Deep.RegionWith
/- slices.BinarySearchFunc at hansard/api.Term, by the number. -/
namespace Go.Proofs.YtmindojbkedmlaaDoor
open Go.RowKit Go.Han
attribute [local irreducible] wpStill wpQuiet

def numFnT : Value := .func (.func 39) #[] #[]
theorem compareT_any (n : Int) (x : Term) (w : World) : Calls Tryd.prog 39 #[x.val, .int .i64 n] w fun e w' => e = .returned (.int .i64 (Lib.compareInt x.no n)) ∧ Below w.heap.size w w' := by
  have hv : x.val = .agg #[.int .i64 x.no, .int .i64 x.at_, .int .i64 x.known, .int .i64 x.lang, .slice x.src.addr x.src.xs.length x.src.cap, .slice x.tgt.addr x.tgt.xs.length x.tgt.cap, .string x.cat, .bool x.gone] := rfl
  have hc := fun W => Tryd.cmp_Compare_int x.no n W
  rw [hv]
  generalize Lib.compareInt x.no n = r at *
  clear hv
  go_enter Tryd.func39, Tryd.ntmps39
  go_wp2_with fail
  refine (hc _).mono ?_
  rintro e w' ⟨rfl, rfl⟩
  go_wp2
  go_ret
  exact ⟨rfl, ext_alloc (Below.refl _ _) _⟩

/-- How many spots of l lie ahead of n: all that do are at the front. -/
structure CutT (n : Int) (l : List Term) (k : Nat) : Prop where
  le : k ≤ l.length
  lo : ∀ (t : Nat) (h : t < l.length), t < k → l[t].no < n
  hi : ∀ (t : Nat) (h : t < l.length), k ≤ t → n ≤ l[t].no
def headT (n : Int) (l : List Term) (k : Nat) : Bool := match l[k]? with | some x => x.no == n | none => false
def AscT (l : List Term) : Prop := ∀ (a b : Nat) (ha : a < l.length) (hb : b < l.length), a < b → l[a].no < l[b].no

def SearchPostT (n : Int) (l : List Term) (w : World) (e : Ending) (w' : World) : Prop :=
  Below w.heap.size w w' ∧ ∃ k, CutT n l k ∧ e = .returned (.tuple #[.int .i64 k, .bool (headT n l k)])

set_option maxRecDepth 100000 in
set_option maxHeartbeats 1000000 in
theorem searchT_any (n : Int) (A : Option Addr) (c : Nat) (l : List Term) (w : World) (hr : Rd w A (tflat l)) (hm : l.length < 4611686018427387904) (hs : AscT l) :
    Calls Tryd.prog 38 #[.slice A l.length c, .int .i64 n, numFnT] w (SearchPostT n l w) := by
  have eg : ∀ args w, (callFunc 39 args).run Tryd.prog w = .ok (.enter 39 args) w := enters_of Tryd.func39 (by kernel_rfl) rfl
  have Hs := Lib.hid hs
  clear hs
  unfold numFnT
  go_enter Tryd.func38, Tryd.ntmps38
  go_wp2
  go_loopg [9, 10] l.length (fun kx s9 s10 wr => ∃ lo hi : Nat, s9 = .int .i64 lo ∧ s10 = .int .i64 hi ∧ lo ≤ hi ∧ hi ≤ l.length ∧ hi - lo ≤ kx ∧ Below w.heap.size w wr ∧
    Hid ((∀ (t : Nat) (h : t < l.length), t < lo → l[t].no < n) ∧ (∀ (t : Nat) (h : t < l.length), hi ≤ t → n ≤ l[t].no)))
  case atStart => exact ⟨0, l.length, rfl, rfl, Nat.zero_le _, Nat.le_refl _, by omega, Below.refl _ _, ⟨fun t h ht => absurd ht (Nat.not_lt_zero _), fun t h1 h2 => by omega⟩⟩
  case round =>
    obtain ⟨lo, hi, rfl, rfl, hlh, hin, hg, hB, I⟩ := hrel
    have hz := hB.size
    by_cases hlt : lo < hi
    · obtain ⟨md, hmd⟩ : ∃ md, (lo + hi) / 2 = md := ⟨_, rfl⟩
      have hmd1 : lo ≤ md := by omega
      have hmd2 : md < hi := by omega
      have hmid : md < l.length := by omega
      have h0m : ((lo : Int) + (hi : Int)) / 2 = (md : Int) := by omega
      obtain ⟨b, off, rfl, hb, hc⟩ := hr.elem Term.size_cells (by omega) hmid
      have h1 := (hB.cell (p := ⟨b, off + md * 8 + 0, none⟩) hb).trans (hc 0 _ rfl)
      have h2 := (hB.cell (p := ⟨b, off + md * 8 + 1, none⟩) hb).trans (hc 1 _ rfl)
      have h3 := (hB.cell (p := ⟨b, off + md * 8 + 2, none⟩) hb).trans (hc 2 _ rfl)
      have h4 := (hB.cell (p := ⟨b, off + md * 8 + 3, none⟩) hb).trans (hc 3 _ rfl)
      have h5 := (hB.cell (p := ⟨b, off + md * 8 + 4, none⟩) hb).trans (hc 4 _ rfl)
      have h6 := (hB.cell (p := ⟨b, off + md * 8 + 5, none⟩) hb).trans (hc 5 _ rfl)
      have h7 := (hB.cell (p := ⟨b, off + md * 8 + 6, none⟩) hb).trans (hc 6 _ rfl)
      have h8 := (hB.cell (p := ⟨b, off + md * 8 + 7, none⟩) hb).trans (hc 7 _ rfl)
      clear hc hr
      simp only [Nat.add_zero] at h1
      have hbx : b < wr.heap.size := by omega
      have hcmp : Hid (∀ W, Calls _ _ _ W fun e w' => e = .returned (.int .i64 (Lib.compareInt l[md].no n)) ∧ Below W.heap.size W w') := fun W => compareT_any n l[md] W
      obtain ⟨r, hr⟩ : ∃ r, Lib.compareInt l[md].no n = r := ⟨_, rfl⟩
      rw [hr] at hcmp
      obtain ⟨x, hx⟩ : ∃ x, l[md] = x := ⟨_, rfl⟩
      rw [hx] at h1 h2 h3 h4 h5 h6 h7 h8 hcmp hr
      have Hr := Lib.hid hr
      clear hr
      have Hx := Lib.hid hx
      clear hx
      have hBd := hB
      by_cases hrn : r < 0
      · have hxn : Hid (x.no < n) := by
          have hx5 := Hr.out
          unfold Lib.compareInt at hx5
          show x.no < n
          split at hx5
          · assumption
          · split at hx5 <;> omega
        go_wp2_with fail
        refine (hcmp.out _).mono ?_
        rintro e w1 ⟨rfl, hb1⟩
        have hB1 := hBd.trans (hb1.mono hBd.size)
        go_wp2
        go_roundg (hi - (md + 1))
        case measure => omega
        case rel =>
          refine ⟨md + 1, hi, by go_num, rfl, by omega, hin, Nat.le_refl _, hB1, ⟨fun t h ht => ?_, I.out.2⟩⟩
          by_cases he : t = md
          · subst he; rw [Hx.out]; exact hxn.out
          · have := Hs.out t md h hmid (by omega)
            rw [Hx.out] at this
            have := hxn.out
            omega
      · have hxn : Hid (n ≤ x.no) := by
          have hx5 := Hr.out
          unfold Lib.compareInt at hx5
          show n ≤ x.no
          split at hx5
          · omega
          · omega
        go_wp2_with fail
        refine (hcmp.out _).mono ?_
        rintro e w1 ⟨rfl, hb1⟩
        have hB1 := hBd.trans (hb1.mono hBd.size)
        go_wp2
        go_roundg (md - lo)
        case measure => omega
        case rel =>
          refine ⟨lo, md, rfl, rfl, by omega, by omega, Nat.le_refl _, hB1, ⟨I.out.1, fun t h ht => ?_⟩⟩
          by_cases he : t = md
          · subst he; rw [Hx.out]; exact hxn.out
          · have := Hs.out md t hmid h (by omega)
            rw [Hx.out] at this
            have := hxn.out
            omega
    · obtain rfl : hi = lo := by omega
      have HC : Hid (CutT n l hi) := ⟨hin, I.out.1, I.out.2⟩
      by_cases hlt2 : hi < l.length
      · obtain ⟨b, off, rfl, hb, hc⟩ := hr.elem Term.size_cells (by omega) hlt2
        have h1 := (hB.cell (p := ⟨b, off + hi * 8 + 0, none⟩) hb).trans (hc 0 _ rfl)
        have h2 := (hB.cell (p := ⟨b, off + hi * 8 + 1, none⟩) hb).trans (hc 1 _ rfl)
        have h3 := (hB.cell (p := ⟨b, off + hi * 8 + 2, none⟩) hb).trans (hc 2 _ rfl)
        have h4 := (hB.cell (p := ⟨b, off + hi * 8 + 3, none⟩) hb).trans (hc 3 _ rfl)
        have h5 := (hB.cell (p := ⟨b, off + hi * 8 + 4, none⟩) hb).trans (hc 4 _ rfl)
        have h6 := (hB.cell (p := ⟨b, off + hi * 8 + 5, none⟩) hb).trans (hc 5 _ rfl)
        have h7 := (hB.cell (p := ⟨b, off + hi * 8 + 6, none⟩) hb).trans (hc 6 _ rfl)
        have h8 := (hB.cell (p := ⟨b, off + hi * 8 + 7, none⟩) hb).trans (hc 7 _ rfl)
        clear hc hr
        simp only [Nat.add_zero] at h1
        have hbx : b < wr.heap.size := by omega
        have hcmp : Hid (∀ W, Calls _ _ _ W fun e w' => e = .returned (.int .i64 (Lib.compareInt l[hi].no n)) ∧ Below W.heap.size W w') := fun W => compareT_any n l[hi] W
        have hhd : Hid (headT n l hi = decide (Lib.compareInt l[hi].no n = 0)) := by
          show headT n l hi = _
          unfold headT Lib.compareInt
          rw [List.getElem?_eq_getElem hlt2]
          simp only
          split
          · simp; omega
          · split
            · simp; omega
            · simp; omega
        obtain ⟨x, hx⟩ : ∃ x, l[hi] = x := ⟨_, rfl⟩
        rw [hx] at h1 h2 h3 h4 h5 h6 h7 h8 hcmp hhd
        clear hx
        by_cases hr0 : Lib.compareInt x.no n = 0
        · have g1 : (Lib.compareInt x.no n == 0) = true := by simpa using hr0
          have HT : Hid (headT n l hi = true) := by show _ = _; rw [hhd.out, decide_eq_true hr0]
          generalize Lib.compareInt x.no n = r at *
          clear hr0
          go_wp2_with fail
          refine (hcmp.out _).mono ?_
          rintro e w1 ⟨rfl, hb1⟩
          go_wp2
          go_ret2
          exact ⟨hB.trans (hb1.mono hz), hi, HC.out, by rw [HT.out]; rfl⟩
        · have g1 : (Lib.compareInt x.no n == 0) = false := by simpa using hr0
          have HT : Hid (headT n l hi = false) := by show _ = _; rw [hhd.out, decide_eq_false hr0]
          generalize Lib.compareInt x.no n = r at *
          clear hr0
          go_wp2_with fail
          refine (hcmp.out _).mono ?_
          rintro e w1 ⟨rfl, hb1⟩
          go_wp2
          go_ret2
          exact ⟨hB.trans (hb1.mono hz), hi, HC.out, by rw [HT.out]; rfl⟩
      · have HT : Hid (headT n l hi = false) := by
          show _ = _
          unfold headT
          rw [List.getElem?_eq_none (by omega)]
        clear Hs I hlh hg hlt eg
        go_wp2_with fail
        go_ret2
        exact ⟨hB, hi, HC.out, by rw [HT.out]; rfl⟩
end Go.Proofs.YtmindojbkedmlaaDoor

/- Rows of cells: copy, append of zero values, clear, at elements of any number of cells. No program in sight. -/
namespace Go.Han
open Go.RowKit

/-- Block g is a row that holds the cells cur, none frozen. -/
def Row (w : World) (g t : Nat) (cur : List Value) : Prop := w.heap[g]? = some (.cells cur.toArray t (0, 0))
theorem Row.lt {w : World} {g t : Nat} {cur : List Value} (h : Row w g t cur) : g < w.heap.size := lt_block h
theorem Row.cell {w : World} {g t : Nat} {cur : List Value} (h : Row w g t cur) (j : Nat) : w.cell? ⟨g, j, none⟩ = cur[j]? := by
  unfold Row at h
  simp [World.cell?, h]
theorem Row.frozen {w : World} {g t : Nat} {cur : List Value} (h : Row w g t cur) (j : Nat) : w.frozen? ⟨g, j, none⟩ = false := by
  unfold Row at h
  simp [World.frozen?, h]
theorem Row.ext {w w' : World} {g t : Nat} {cur : List Value} (h : Row w g t cur) (hb : Below w.heap.size w w') : Row w' g t cur := (hb.block g h.lt).trans h
theorem Row.far {w w' : World} {g t : Nat} {cur : List Value} (h : Row w g t cur) {row : Option Nat} (hg : w.grownBy w' row) (hne : some g ≠ row) : Row w' g t cur := (hg.block g h.lt hne).trans h
theorem Row.drew {w : World} {g t : Nat} {cur : List Value} (h : Row w g t cur) : Row w.drew g t cur := h
theorem Row.rd {w : World} {g t : Nat} {cur : List Value} (h : Row w g t cur) (off : Nat) {xs : List Value} (hx : ∀ (j : Nat) (u : Value), xs[j]? = some u → cur[off + j]? = some u) : Rd w (some ⟨g, off, none⟩) xs :=
  .inr ⟨g, off, rfl, h.lt, fun j u hu => (h.cell _).trans (hx j u hu)⟩

section
variable {P : Program} (w : World)

theorem add_none (g o j : Nat) : (⟨g, o, none⟩ : Addr).add j = ⟨g, o + j, none⟩ := by unfold Addr.add; split <;> simp_all

theorem setRow_row {g t : Nat} {cur : List Value} (h : Row w g t cur) (cur' : List Value) : Row (w.setRow g cur'.toArray) g t cur' ∧ w.grownBy (w.setRow g cur'.toArray) (some g) ∧ (w.setRow g cur'.toArray).heap.size = w.heap.size := by
  refine ⟨setRow_heap w g _ _ t _ h, ?_, by simp [World.setRow]⟩
  exact ⟨rfl, rfl, rfl, by simp [World.setRow], fun k _ hne => by simp [World.setRow, Array.getElem?_modify]; intro e; exact absurd (by rw [e]) hne⟩

/-- copy, into a row; the source read first. -/
theorem run_copy_rows (dT sT ty elem size : Nat) (hu : P.underlying dT = some (.slice elem)) {i : TypeInfo} (hi : P.info? elem = some i) (hs : i.size = size) (g o dLen dCap : Nat) (A : Option Addr) (sLen sCap t : Nat) (cur cs : List Value)
    (hg : Row w g t cur) (hn : cs.length = Nat.min sLen dLen * size) (hsrc : Rd w A cs) (hfit : o + cs.length ≤ cur.length) (h1 : ∀ v ∈ cs, v.oneCell' = true) :
    (Builtin.copy_ #[dT, sT] ty #[.slice (some ⟨g, o, none⟩) dLen dCap, .slice A sLen sCap]).run P w = .ok (goInt (Nat.min sLen dLen)) (w.setRow g (splice cur o cs).toArray) := by
  have hfc : (Builtin.firstCells size (Nat.min sLen dLen) (.slice A sLen sCap)).run P w = .ok cs.toArray w := by
    rcases hsrc with rfl | ⟨b, off, rfl, _, hc⟩
    · cases A with
      | none => exact run_firstCells_none w _ _ _ _
      | some a => exact run_firstCells_some w size _ a sLen sCap [] (by simpa using hn) (by simp)
    · exact run_firstCells_some w size _ ⟨b, off, none⟩ sLen sCap cs hn (fun j v hv => by rw [add_none]; exact hc j v hv)
  have hst := run_storeCells_at (P := P) g o t cs 0 cur.toArray w hg (by simpa using hfit) h1
  simp only [Nat.add_zero] at hst
  subst hs
  have hsz : ∀ w, (Go.sizeOf elem).run P w = .ok i.size w := fun w => by simp [Go.sizeOf, typeInfo, hi]
  simp only [Builtin.copy_, Builtin.lenOf, Sem.run_bind, Sem.run_pure, Result.andThen_ok, run_underlying hu, hsz, hfc, List.getElem?_toArray, List.getElem?_cons_zero, List.getElem?_cons_succ]
  simp only [hst, Result.andThen_ok, splice, List.append_assoc]

theorem wp_copy_rows {o : Oper} {a : Act} {K : Act → World → Prop} {Q : Exit → Act → World → Prop} (d s : Operand) (dT sT : TypeId) (ho : o.op = .call { callee := .builtin .copy, args := #[d, s], argTypes := #[dT, sT] })
    (elem size : Nat) (hu : P.underlying dT = some (.slice elem)) {i : TypeInfo} (hi : P.info? elem = some i) (hs : i.size = size) (g off dLen dCap : Nat) (A : Option Addr) (sLen sCap t : Nat) (cur cs : List Value)
    (hd : a.eval d = .slice (some ⟨g, off, none⟩) dLen dCap) (hx : a.eval s = .slice A sLen sCap)
    (hg : Row w g t cur) (hn : cs.length = Nat.min sLen dLen * size) (hsrc : Rd w A cs) (hfit : off + cs.length ≤ cur.length) (h1 : ∀ v ∈ cs, v.oneCell' = true)
    (h : ∀ w', Row w' g t (splice cur off cs) → w.grownBy w' (some g) → w'.heap.size = w.heap.size → K (a.put o.dst (goInt (Nat.min sLen dLen))) w') : o.wp P a w K Q := by
  have hr := run_copy_rows (P := P) w dT sT o.type elem size hu hi hs g off dLen dCap A sLen sCap t cur cs hg hn hsrc hfit h1
  obtain ⟨r1, r2, r3⟩ := setRow_row w hg (splice cur off cs)
  unfold Oper.wp execOp
  simp only [ho, resolve, invoke, builtin, Sem.run_bind, Sem.run_pure, Result.andThen_ok, List.map_toArray, List.map_cons, List.map_nil, hd, hx, hr]
  exact h _ r1 r2 r3
theorem wpList_copy_rows {ops : Array Oper} {rest : List Oper} {o : Oper} {a : Act} {Q : Exit → Act → World → Prop} (hgd : o.guard = none) (d s : Operand) (dT sT : TypeId) (ho : o.op = .call { callee := .builtin .copy, args := #[d, s], argTypes := #[dT, sT] })
    (elem size : Nat) (hu : P.underlying dT = some (.slice elem)) {i : TypeInfo} (hi : P.info? elem = some i) (hs : i.size = size) (g off dLen dCap : Nat) (A : Option Addr) (sLen sCap t : Nat) (cur cs : List Value)
    (hd : a.eval d = .slice (some ⟨g, off, none⟩) dLen dCap) (hx : a.eval s = .slice A sLen sCap)
    (hg : Row w g t cur) (hn : cs.length = Nat.min sLen dLen * size) (hsrc : Rd w A cs) (hfit : off + cs.length ≤ cur.length) (h1 : ∀ v ∈ cs, v.oneCell' = true)
    (h : ∀ w', Row w' g t (splice cur off cs) → w.grownBy w' (some g) → w'.heap.size = w.heap.size → wpList P ops Q rest (a.put o.dst (goInt (Nat.min sLen dLen))) w') : wpList P ops Q (o :: rest) a w :=
  wpList_plain hgd fun _ hK => wp_copy_rows w d s dT sT ho elem size hu hi hs g off dLen dCap A sLen sCap t cur cs hd hx hg hn hsrc hfit h1 fun w' h2 h3 h4 => hK _ _ (h w' h2 h3 h4)

/-- append(s[:i], make([]T, k)...) where there is no room: a new row. -/
theorem wpList_append_zeros {ops : Array Oper} {rest : List Oper} {o : Oper} {a : Act} {Q : Exit → Act → World → Prop} (hgd : o.guard = none) (s x : Operand) (t tn : TypeId) (ho : o.op = .call { callee := .builtin .append, args := #[s, x], argTypes := #[t, tn] })
    (e : TypeId) (i : TypeInfo) (z : Value) (size bytes : Nat) (kq kn : IntKind) (ht : P.underlying t = some (.slice e)) (htn : P.underlying tn = some (.int kn)) (hi : P.info? e = some i) (hz : i.zero = some z) (hsize : i.size = size) (hby : i.bytes = bytes) (hzs : z.cells.size = size) (hsz : 0 < size)
    (A : Option Addr) (sLen sCap k : Nat) (olds : List Value) (hs : a.eval s = .slice A sLen sCap) (hx : a.eval x = .int kq k) (hl : olds.length = sLen * size) (hold : Rd w A olds)
    (h0 : 0 < k) (hg : sCap < sLen + k) (h63 : sLen + k ≤ maxLen) (hbytes : (sLen + k) * bytes ≤ 140737488355328)
    (h : ∀ cap w' R, Row w' w.heap.size e (olds ++ R) → (olds ++ R).length = cap * size → sLen + k ≤ cap → cap ≤ maxLen → Below w.heap.size w w' → w'.heap.size = w.heap.size + 1 → wpList P ops Q rest (a.put o.dst (.slice (some ⟨w.heap.size, 0, none⟩) (sLen + k) cap)) w') :
    wpList P ops Q (o :: rest) a w := by
  refine wpList_plain hgd fun K hK => ?_
  subst hsize; subst hby
  have hsmall : sLen + k ≤ 9223372036854775807 := by simp only [maxLen] at h63; omega
  have hfc : (Builtin.firstCells i.size sLen (.slice A sLen sCap)).run P w.drew = .ok olds.toArray w.drew := by
    rcases hold with rfl | ⟨b, off, rfl, _, hc⟩
    · cases A with
      | none => exact run_firstCells_none w.drew _ _ _ _
      | some a => exact run_firstCells_some w.drew _ _ a sLen sCap [] (by simpa using hl) (by simp)
    · exact run_firstCells_some w.drew _ _ ⟨b, off, none⟩ sLen sCap olds hl (fun j v hv => by rw [add_none]; exact hc j v hv)
  have hr := Lib.run_append_grow_zeros (P := P) w t tn o.type e i z kq kn ht htn hi hz A sLen sCap olds hfc k h0 hsz hg (by omega) (by have := Nat.mul_le_mul_right i.bytes (show k ≤ sLen + k by omega); omega) (growslice_fits (by omega) hbytes)
  have hge := grownCap_ge w (sLen + k) sCap e
  have hcm := grownCap_le_maxLen w (sLen + k) sCap e h63
  unfold Oper.wp execOp
  simp only [ho, resolve, invoke, builtin, Sem.run_bind, Sem.run_pure, Result.andThen_ok, List.map_toArray, List.map_cons, List.map_nil, hs, hx, hr]
  refine hK _ _ (h (grownCap w (sLen + k) sCap e) _ ((Builtin.zeroCells z.cells k).toList ++ (Builtin.zeroCells z.cells (grownCap w (sLen + k) sCap e - (sLen + k))).toList) ?_ ?_ hge hcm ?_ (by simp))
  · unfold Row
    rw [show w.heap.size = w.drew.heap.size from rfl, World.alloc_heap_new]
    congr 2
    apply Array.ext'
    simp
  · simp only [List.length_append, hl, Array.length_toList, size_zeroCells, hzs, ← Nat.add_mul]
    congr 1
    omega
  · exact (Below.refl _ _).drew.alloc (Nat.le_refl _) _

theorem splice_at {α : Type} (X Z C : List α) (p : Nat) (hp : X.length = p) : splice (X ++ Z) p C = X ++ (C ++ Z.drop C.length) := by
  subst hp
  unfold splice
  rw [List.take_left, List.drop_append, List.drop_of_length_le (by omega), List.nil_append, Nat.add_sub_cancel_left]
end

/-- The cells xs with ys put in at p. -/
def putIn {α : Type} (xs : List α) (p : Nat) (ys : List α) : List α := xs.take p ++ (ys ++ xs.drop p)
theorem putIn_length {α : Type} (xs ys : List α) (p : Nat) (hp : p ≤ xs.length) : (putIn xs p ys).length = xs.length + ys.length := by
  simp [putIn]; omega
/-- Into a row that begins with xs and has room: what is behind p moves on, then ys goes in. -/
theorem splice_room {α : Type} (xs R ys : List α) (p : Nat) (hp : p ≤ xs.length) (hr : ys.length ≤ R.length) :
    splice (splice (xs ++ R) (p + ys.length) (xs.drop p)) p ys = putIn xs p ys ++ R.drop ys.length := by
  have hl : ((xs.drop p ++ R).take ys.length).length = ys.length := by simp; omega
  have h1 : xs ++ R = (xs.take p ++ ((xs.drop p ++ R).take ys.length)) ++ (xs.drop p ++ R).drop ys.length := by
    rw [List.append_assoc, List.take_append_drop, ← List.append_assoc, List.take_append_drop]
  have hlen : (xs.take p ++ ((xs.drop p ++ R).take ys.length)).length = p + ys.length := by
    rw [List.length_append, hl, List.length_take, Nat.min_eq_left hp]
  rw [h1, splice_at _ _ _ (p + ys.length) hlen, List.append_assoc, splice_at _ _ _ p (by simp; omega)]
  unfold putIn
  rw [List.append_assoc, List.append_assoc]
  congr 2
  have e1 : (((xs.drop p ++ R).take ys.length) ++ (xs.drop p ++ ((xs.drop p ++ R).drop ys.length).drop (xs.drop p).length)).drop ys.length = xs.drop p ++ ((xs.drop p ++ R).drop ys.length).drop (xs.drop p).length := by
    rw [List.drop_append, hl, Nat.sub_self, List.drop_zero, List.drop_of_length_le (by rw [hl]; exact Nat.le_refl _), List.nil_append]
  have e2 : ((xs.drop p ++ R).drop ys.length).drop (xs.drop p).length = R.drop ys.length := by
    rw [List.drop_drop, Nat.add_comm, ← List.drop_drop, List.drop_left]
  rw [e2] at e1 ⊢
  exact e1
theorem splice_fresh {α : Type} (xs R ys : List α) (p : Nat) (hp : p ≤ xs.length) :
    splice (splice (xs.take p ++ R) p ys) (p + ys.length) (xs.drop p) = putIn xs p ys ++ R.drop (ys.length + (xs.length - p)) := by
  have hl : (xs.take p ++ ys).length = p + ys.length := by rw [List.length_append, List.length_take, Nat.min_eq_left hp]
  rw [splice_at _ _ _ p (by simp; omega), ← List.append_assoc, splice_at _ _ _ (p + ys.length) hl]
  unfold putIn
  rw [List.append_assoc, List.append_assoc, List.append_assoc, List.drop_drop, List.length_drop]
end Go.Han

/- slices.Insert of one element at hansard/api.Term: into a slice of one's own. -/
namespace Go.Proofs.YtmindojbkedmlaaDoor
open Go.RowKit Go.Han

theorem info_term : (Tryd.prog.info? 25).map (fun i => (i.size, i.bytes)) = some (8, 104) := by kernel_rfl
theorem infoz_term : ((Tryd.prog.info? 25).bind (·.zero)).map (·.cells.size) = some 8 := by kernel_rfl
theorem parts_term : ∃ i z, Tryd.prog.info? 25 = some i ∧ i.zero = some z ∧ i.size = 8 ∧ i.bytes = 104 ∧ z.cells.size = 8 := by
  have h1 := info_term
  have h2 := infoz_term
  cases hi : Tryd.prog.info? 25 with
  | none => rw [hi] at h1; cases h1
  | some i =>
    rw [hi] at h1 h2
    simp only [Option.map_some, Option.some.injEq, Prod.mk.injEq, Option.bind_some] at h1 h2
    cases hz : i.zero with
    | none => rw [hz] at h2; cases h2
    | some z =>
      rw [hz] at h2
      exact ⟨i, z, rfl, hz, h1.1, h1.2, by simpa using h2⟩

def InsPost_term (base n : Nat) (v : Value) (zs : List Value) (w : World) (e : Ending) (w' : World) : Prop :=
  ∃ v', e = .returned v' ∧ w'.ownsRow base 25 8 v' n zs ∧ w.grownBy w' v.ownBlock ∧ (v'.ownBlock = v.ownBlock ∨ ∃ k, v'.ownBlock = some k ∧ w.heap.size ≤ k)

set_option maxRecDepth 100000 in
set_option maxHeartbeats 1000000 in
theorem insert_term (base n i vb : Nat) (v : Value) (xs ys : List Value) (w : World) (hown : w.ownsRow base 25 8 v n xs) (hin : i ≤ n) (hv : Row w vb 25 ys) (hys : ys.length = 8)
    (hy1 : ∀ u ∈ ys, u.oneCell' = true) (hx1 : ∀ u ∈ xs, u.oneCell' = true) (hne : v.ownBlock ≠ some vb) (hn : n ≤ 1000000) (hbase : base ≤ w.heap.size) :
    Calls Tryd.prog 41 #[v, .int .i64 i, .slice (some ⟨vb, 0, none⟩) 1 1] w (InsPost_term base (n + 1) v (putIn xs (i * 8) ys) w) := by
  obtain ⟨i0, z, hi0, hz0, hs0, hb0, hzs⟩ := parts_term
  have hxl := hown.1
  have hrdv : Rd w (some ⟨vb, 0, none⟩) ys := hv.rd 0 (fun j u h => by simpa using h)
  by_cases hlast : i = n
  · -- at the end: append
    have hput : putIn xs (i * 8) ys = xs ++ ys := by
      unfold putIn
      rw [hlast, ← hxl, List.take_of_length_le (Nat.le_refl _), List.drop_of_length_le (Nat.le_refl _), List.append_nil]
    rw [hput]
    clear hput
    subst hlast
    obtain ⟨A, c, rfl, hnc, hcm⟩ : ∃ A c, v = .slice A i c ∧ i ≤ c ∧ c ≤ maxLen := by
      rcases hown.2 with ⟨rfl, rfl⟩ | ⟨g, cap, cur, rfl, _, _, h1, h2, _⟩
      · exact ⟨none, 0, rfl, Nat.le_refl _, by unfold maxLen; omega⟩
      · exact ⟨_, _, rfl, h1, h2⟩
    unfold maxLen at hcm
    go_enter Tryd.func41, Tryd.ntmps41
    go_wp2_with (at_builtin; go_loud (refine wpList_append_lies _ rfl (.tmp 23) (.tmp 24) 22 rfl base 25 i0 z 8 104 Tryd.underlying22 hi0 hz0 hs0 hb0 hzs (by decide) (.slice A i c) i xs rfl hown ⟨vb, 0, none⟩ 1 1 ys rfl (by rw [hys]) (fun j u hu => by rw [add_none, Nat.zero_add]; exact (hv.cell j).trans hu) hy1 (by decide) (by unfold maxLen; omega) (by omega) hbase _ rfl ?_); intro g' c' w1 hown1 hgr hat hlt)
    all_goals
      go_ret
      cases A
      all_goals
        refine ⟨_, rfl, hown1, hgr, ?_⟩
        rcases hat with h | h
        · exact .inl h.symm
        · exact .inr ⟨g', rfl, by omega⟩
  · -- before the end
    have hlt : i < n := by omega
    obtain ⟨g, c, cur, rfl, hbg, hrow, hnc, hcm, hcs, htk⟩ : ∃ g cap cur, v = .slice (some ⟨g, 0, none⟩) n cap ∧ base ≤ g ∧ w.heap[g]? = some (.cells cur 25 (0, 0)) ∧ n ≤ cap ∧ cap ≤ maxLen ∧ cur.size = cap * 8 ∧ cur.toList.take (n * 8) = xs := by
      rcases hown.2 with ⟨_, h0⟩ | h
      · omega
      · exact h
    have hne' : g ≠ vb := fun e => hne (by rw [e]; rfl)
    have hR : Row w g 25 (xs ++ cur.toList.drop (n * 8)) := by
      unfold Row
      rw [← htk, List.take_append_drop]
      exact hrow
    have hRl : (xs ++ cur.toList.drop (n * 8)).length = c * 8 := by
      rw [← htk, List.take_append_drop, Array.length_toList]; exact hcs
    generalize cur.toList.drop (n * 8) = R at *
    clear hrow hcs htk cur hown
    have hnci : (n : Int) ≤ (c : Int) := by omega
    by_cases hroom : n + 1 ≤ c
    · have g1 : ¬ ((c : Int) < (n : Int) + 1) := by omega
      have hov : ∀ (o lb cb : Nat), (callFunc 66 #[.slice (some ⟨vb, 0, none⟩) 1 1, .slice (some ⟨g, o, none⟩) lb cb]).run Tryd.prog w = .ok (.value (.bool false)) w := by
        intro o lb cb
        have hsz : ∀ w, (Go.sizeOf 25).run Tryd.prog w = .ok 8 w := fun w => by simp [Go.sizeOf, typeInfo, hi0, hs0]
        rw [run_callFunc_extern Tryd.func66 (by kernel_rfl) (by kernel_rfl) (by kernel_rfl) (e := Extern.SlicesOverlaps.overlaps #[22, 22] #[4]) (by kernel_rfl),
          Lib.run_overlaps_apart w 22 4 25 Tryd.underlying22 8 hsz ⟨vb, 0, none⟩ ⟨g, o, none⟩ 1 1 lb cb (Ne.symm hne') 25 25 8 (c * 8) (by unfold Row at hv; simp [World.shape?, hv, hys]) (by unfold Row at hR; simp [World.shape?, hR]; simpa using hRl) (by omega) (hv.frozen 0) (hv.frozen _)]
        rfl
      have hw1 : IntKind.i64.wrap ((i : Int) + 1) = (i : Int) + 1 := by rw [IntKind.wrap_i64]; omega
      have hw2 : ((i : Int) + 1).toNat = i + 1 := by omega
      unfold maxLen at hcm
      have Hcm := Lib.hid hcm
      go_enter Tryd.func41, Tryd.ntmps41
      go_wp2_with fail
      have hz1 : (0 : Int) ≤ (i : Int) + 1 := by omega
      have hci : ¬ c = i + 1 := by omega
      have hci2 : ¬ c = i := by omega
      have hin2 : (i : Int) ≤ (n : Int) + 1 := by omega
      go_still_tail 8, (by kernel_rfl)
      change wpList _ _ _ _ _ w.drew
      generalize hwd : w.drew = w2
      have hR2 : Row w2 g 25 (xs ++ R) := by rw [← hwd]; exact hR
      have hv2 : Row w2 vb 25 ys := by rw [← hwd]; exact hv
      have hbd : w.grownBy w2 (some g) := by rw [← hwd]; exact ⟨rfl, rfl, rfl, Nat.le_refl _, fun _ _ _ => rfl⟩
      clear hwd hR hv hrdv hov
      have hxd : (xs.drop (i * 8)).length = (n - i) * 8 := by rw [List.length_drop, hxl, Nat.sub_mul]
      have hmin : Nat.min (n + 1 - i) (n - i) = n - i := Nat.min_eq_right (by omega)
      have hcl : (n + 1) * 8 ≤ c * 8 := Nat.mul_le_mul_right _ hroom
      have hRl2 : xs.length + R.length = c * 8 := by rw [← List.length_append]; exact hRl
      refine wpList_copy_rows w2 rfl (.tmp 73) (.tmp 76) 22 22 rfl 25 8 Tryd.underlying22 hi0 hs0 g ((i + 1) * 8) (n - i) (c - (i + 1)) (some ⟨g, i * 8, none⟩) (n + 1 - i) (c - i) 25 (xs ++ R) (xs.drop (i * 8)) rfl rfl hR2 (by rw [hmin]; exact hxd)
        (hR2.rd _ fun j u hu => ?_) (by rw [hxd, List.length_append]; omega) (fun u hu => hx1 u (List.mem_of_mem_drop hu)) fun w3 hR3 hg3 hz3 => ?_
      · rw [List.getElem?_drop] at hu
        rw [List.getElem?_append_left (List.getElem?_eq_some_iff.1 hu).1]
        exact hu
      have hv3 : Row w3 vb 25 ys := hv2.far hg3 (by simpa using Ne.symm hne')
      rw [hmin]
      clear hR2 hv2
      have hmul : (i + 1) * 8 = i * 8 + ys.length := by rw [Nat.succ_mul, hys]
      have hile : i * 8 ≤ n * 8 := Nat.mul_le_mul_right _ hin
      have hcn : n * 8 + 8 ≤ c * 8 := by rw [Nat.succ_mul] at hcl; exact hcl
      have hsr : splice (splice (xs ++ R) ((i + 1) * 8) (xs.drop (i * 8))) (i * 8) ys = putIn xs (i * 8) ys ++ R.drop ys.length := by
        rw [hmul]; exact splice_room xs R ys _ (by omega) (by omega)
      have hslen : (splice (xs ++ R) ((i + 1) * 8) (xs.drop (i * 8))).length = c * 8 := by
        unfold splice
        simp only [List.length_append, List.length_take, List.length_drop]
        omega
      go_wp2_with (with_reducible (refine wpList_copy_rows w3 rfl (.tmp 80) (.tmp 81) 22 22 rfl 25 8 Tryd.underlying22 hi0 hs0 g (i * 8) (n + 1 - i) (c - i) (some ⟨vb, 0, none⟩) 1 1 25 _ ys ?_ ?_ hR3 ?_ ?_ ?_ hy1 fun w4 hR4 hg4 hz4 => ?_))
      · rfl
      · rfl
      · rw [hys, show Nat.min 1 (n + 1 - i) = 1 from Nat.min_eq_left (by omega)]
      · exact hv3.rd 0 (fun j u h => by simpa using h)
      · rw [hslen]; omega
      go_ret
      rw [hsr] at hR4
      have hpl : (putIn xs (i * 8) ys).length = (n + 1) * 8 := by rw [putIn_length _ _ _ (by omega), hys, hxl, Nat.succ_mul]
      refine ⟨_, rfl, ⟨hpl, .inr ⟨g, c, _, rfl, hbg, hR4, hroom, by unfold maxLen; exact Hcm.out, ?_, ?_⟩⟩, (hbd.trans hg3).trans hg4, .inl rfl⟩
      · rw [List.size_toArray, List.length_append, hpl, List.length_drop, hys, Nat.succ_mul]; omega
      · exact List.take_left' hpl
    · have hcn : c = n := by omega
      subst hcn
      have g1 : (c : Int) < (c : Int) + 1 := by omega
      have hw1 : IntKind.i64.wrap ((i : Int) + 1) = (i : Int) + 1 := by rw [IntKind.wrap_i64]; omega
      have hw2 : ((i : Int) + 1).toNat = i + 1 := by omega
      have hR0 : R = [] := List.eq_nil_of_length_eq_zero (by rw [List.length_append, hxl] at hRl; omega)
      subst hR0
      rw [List.append_nil] at hR
      unfold maxLen at hcm
      have hk : ((c : Int) + 1 - (i : Int)) = ((c + 1 - i : Nat) : Int) := by omega
      have hxt : (xs.take (i * 8)).length = i * 8 := by
        rw [List.length_take, Nat.min_eq_left]
        rw [hxl]; exact Nat.mul_le_mul_right _ hin
      have hadd : i + (c + 1 - i) = c + 1 := by omega
      go_enter Tryd.func41, Tryd.ntmps41
      go_wp2_with (at_builtin; go_loud (refine wpList_append_zeros w rfl (.tmp 34) (.tmp 39) 22 3 rfl 25 i0 z 8 104 .i64 .i64 Tryd.underlying22 Tryd.underlying3 hi0 hz0 hs0 hb0 hzs (by decide) (some ⟨g, 0, none⟩) i c (c + 1 - i) (xs.take (i * 8)) rfl ?hx1 hxt (hR.rd 0 ?hx2) (by omega) (by omega) (by unfold maxLen; omega) (by omega) ?hx3))
      case hx1 => rfl
      case hx2 =>
        intro j u hu
        rw [Nat.zero_add]
        rw [List.getElem?_take] at hu
        split at hu
        · exact hu
        · cases hu
      case hx3 =>
        intro cap w1 R1 hR1 hl1 hc1 hm1 hb1 hz1
        have hv1 := hv.ext hb1
        have hgw : g < w.heap.size := hR.lt
        have hvw : vb < w.heap.size := hv.lt
        have hR01 := hR.ext hb1
        have hg1 : w.grownBy w1 (some w.heap.size) := ⟨hb1.os, hb1.tape, hb1.output, hb1.size, fun k hk _ => hb1.block k hk⟩
        have hci : ¬ cap = i := by omega
        have hci1 : ¬ cap = i + 1 := by omega
        have hi1 : (i : Int) ≤ (c : Int) + 1 := by omega
        have hi0' : (i : Int) + 1 ≤ (c : Int) + 1 := by omega
        have hz1' : (0 : Int) ≤ (i : Int) + 1 := by omega
        have hcm1 : cap ≤ 9223372036854775807 := by unfold maxLen at hm1; omega
        clear hv hR hm1
        go_wp2_with (with_reducible (refine wpList_copy_rows w1 rfl (.tmp 43) (.tmp 44) 22 22 rfl 25 8 Tryd.underlying22 hi0 hs0 w.heap.size (i * 8) (c + 1 - i) (cap - i) (some ⟨vb, 0, none⟩) 1 1 25 _ ys ?_ ?_ hR1 ?_ ?_ ?_ hy1 fun w2 hR2 hg2 hz2 => ?_))
        · rfl
        · rfl
        · rw [hys, show Nat.min 1 (c + 1 - i) = 1 from Nat.min_eq_left (by omega)]
        · exact hv1.rd 0 (fun j u h => by simpa using h)
        · rw [List.length_append, hxt, hys]
          have : i * 8 + 8 ≤ cap * 8 := by rw [← Nat.succ_mul]; exact Nat.mul_le_mul_right _ (by omega)
          omega
        have hR02 := hR01.far hg2 (by intro e; simp at e; omega)
        clear hR1 hv1 hR01
        go_still_tail 8, (by kernel_rfl)
        change wpList _ _ _ _ _ w2.drew
        generalize hwd : w2.drew = w3
        have hR3 : Row w3 w.heap.size 25 (splice (xs.take (i * 8) ++ R1) (i * 8) ys) := by rw [← hwd]; exact hR2
        have hR03 : Row w3 g 25 xs := by rw [← hwd]; exact hR02
        have hg3 : w2.grownBy w3 (some w.heap.size) := by rw [← hwd]; exact ⟨rfl, rfl, rfl, Nat.le_refl _, fun _ _ _ => rfl⟩
        clear hwd hR2 hR02
        have hxd : (xs.drop (i * 8)).length = (c - i) * 8 := by rw [List.length_drop, hxl, Nat.sub_mul]
        have hmin : Nat.min (c - i) (c - i) = c - i := Nat.min_eq_left (Nat.le_refl _)
        have hci2 : ¬ c = i := by omega
        have hslen : (splice (xs.take (i * 8) ++ R1) (i * 8) ys).length = cap * 8 := by
          unfold splice
          simp only [List.length_append, List.length_take, List.length_drop, hxl] at hl1 ⊢
          omega
        have hile : i * 8 ≤ c * 8 := Nat.mul_le_mul_right _ hin
        have hmul : (i + 1) * 8 = i * 8 + ys.length := by rw [Nat.succ_mul, hys]
        have hcs : (c + 1) * 8 ≤ cap * 8 := Nat.mul_le_mul_right _ (by omega)
        have hcs' : (c + 1) * 8 = c * 8 + 8 := Nat.succ_mul _ _
        have hcis : (c - i) * 8 = c * 8 - i * 8 := Nat.sub_mul _ _ _
        have hl3 : i * 8 + R1.length = cap * 8 := hl1
        refine wpList_copy_rows w3 rfl (.tmp 50) (.tmp 53) 22 22 rfl 25 8 Tryd.underlying22 hi0 hs0 w.heap.size ((i + 1) * 8) (c - i) (cap - (i + 1)) (some ⟨g, i * 8, none⟩) (c - i) (c - i) 25 (splice (xs.take (i * 8) ++ R1) (i * 8) ys) (xs.drop (i * 8)) rfl (by simp only [Act.eval, Array.getD_eq_getD_getElem?, List.getElem?_toArray, List.getElem?_cons_succ, List.getElem?_cons_zero, Option.getD_some, hci2, if_false]) hR3 (by rw [hmin]; exact hxd)
          (hR03.rd _ fun j u hu => by rw [List.getElem?_drop] at hu; exact hu) (by rw [hxd, hslen]; omega) (fun u hu => hx1 u (List.mem_of_mem_drop hu)) fun w4 hR4 hg4 hz4 => ?_
        rw [hmin]
        go_wp2
        go_ret
        have hsr : splice (splice (xs.take (i * 8) ++ R1) (i * 8) ys) ((i + 1) * 8) (xs.drop (i * 8)) = putIn xs (i * 8) ys ++ R1.drop (ys.length + (xs.length - i * 8)) := by
          rw [hmul]; exact splice_fresh xs R1 ys _ (by omega)
        rw [hsr] at hR4
        have hpl : (putIn xs (i * 8) ys).length = (c + 1) * 8 := by rw [putIn_length _ _ _ (by omega), hys, hxl, Nat.succ_mul]
        have hge := ((hg1.trans hg2).trans hg3).trans hg4
        refine ⟨_, rfl, ⟨hpl, .inr ⟨_, cap, _, rfl, hbase, hR4, by omega, by unfold maxLen; omega, ?_, ?_⟩⟩, ⟨hge.os, hge.tape, hge.output, hge.size, fun k hk _ => hge.block k hk (by intro e; simp at e; omega)⟩, .inr ⟨_, rfl, Nat.le_refl _⟩⟩
        · rw [List.size_toArray, List.length_append, hpl, List.length_drop, hys]; omega
        · exact List.take_left' hpl
end Go.Proofs.YtmindojbkedmlaaDoor

/- Package glossary: Add. -/
namespace Go.Proofs.YtmindojbkedmlaaDoor
open Go.RowKit Go.Han
attribute [local irreducible] wpStill wpQuiet
set_option maxRecDepth 100000

theorem tflat_length (l : List Term) : (tflat l).length = l.length * 8 := flat_len Term.cells 8 Term.size_cells l
theorem term_one (x : Term) : ∀ u ∈ x.cells, u.oneCell' = true := by
  intro u hu
  simp [Term.cells, StrS.val] at hu
  rcases hu with rfl | rfl | rfl | rfl | rfl | rfl | rfl | rfl <;> rfl
theorem tflat_one (l : List Term) : ∀ u ∈ tflat l, u.oneCell' = true := by
  intro u hu
  obtain ⟨x, _, hx⟩ := List.mem_flatMap.1 hu
  exact term_one x u hx
def OwnT (w : World) (base : Nat) (v : Value) (l : List Term) : Prop := OwnL Term.cells 25 8 w base v l
def ClonePostT (l : List Term) (w : World) (e : Ending) (w' : World) : Prop := ∃ v', e = .returned v' ∧ OwnT w' w.heap.size v' l ∧ Below w.heap.size w w'
set_option maxHeartbeats 1000000 in
theorem cloneT_any (A : Option Addr) (c : Nat) (l : List Term) (w : World) (hr : Rd w A (tflat l)) (hA : A = none → l = []) (hm : l.length ≤ 1000000) :
    Calls Tryd.prog 42 #[.slice A l.length c] w (ClonePostT l w) := by
  obtain ⟨i0, z, hi0, hz0, hs0, hb0, hzs⟩ := parts_term
  have q22 : ∀ (w : World) (a : Option Addr) (n c n' c' : Nat), (binOp .eql 22 (.slice a n c) (.slice none n' c')).run Tryd.prog w = .ok (.bool a.isNone) w := fun w a n c n' c' => Lib.run_eql_slice_nil w _ _ a n c n' c' Tryd.underlying22
  cases A with
  | none =>
    have hl := hA rfl
    subst hl
    go_enter Tryd.func42, Tryd.ntmps42
    go_wp2
    go_ret
    exact ⟨_, rfl, OwnL.nil _ _ _ _ _, Below.refl _ _⟩
  | some a =>
    have hcs : ∀ (j : Nat) (u : Value), (tflat l)[j]? = some u → w.cell? (a.add j) = some u := by
      intro j u hu
      rcases hr with h | ⟨b, off, he, _, hc⟩
      · rw [h] at hu; cases hu
      · cases he
        rw [add_none]; exact hc j u hu
    have Hcs := Lib.hid hcs
    clear hcs hr hA
    go_enter Tryd.func42, Tryd.ntmps42
    go_wp2_with (at_builtin; refine wpList_append_own _ rfl _ _ 22 rfl w.heap.size 25 i0 z 8 104 Tryd.underlying22 hi0 hz0 hs0 hb0 hzs (by decide) _ _ _ rfl (World.ownsRow_made w #[] 0 (Nat.le_refl _) (Nat.zero_le _) rfl) a l.length c (tflat l) rfl (tflat_length l) (fun j u hu => Lib.cell?_alloc_some _ (Hcs.out j u hu)) (tflat_one l) (by unfold maxLen; omega) (by omega) (by simp) ?_)
    intro v' w1 hown hgrow hnil
    go_wp2
    go_ret
    refine ⟨v', rfl, by simpa [OwnT, OwnL, tflat] using hown, ?_⟩
    exact ((Below.refl _ w).alloc (Nat.le_refl _) _).grown hgrow (by simp) (by intro k hk; simp [Value.ownBlock] at hk; omega)

theorem tflat_put (l : List Term) (k : Nat) (x : Term) (hk : k ≤ l.length) : putIn (tflat l) (k * 8) x.cells = tflat (l.take k ++ x :: l.drop k) := by
  have h1 : tflat l = tflat (l.take k) ++ tflat (l.drop k) := by
    unfold tflat; rw [← List.flatMap_append, List.take_append_drop]
  have hl : (tflat (l.take k)).length = k * 8 := by rw [tflat_length, List.length_take, Nat.min_eq_left hk]
  unfold putIn
  rw [h1, List.take_left' hl, List.drop_left' hl]
  unfold tflat
  rw [List.flatMap_append, List.flatMap_cons]
def InsPostT (base : Nat) (v : Value) (l' : List Term) (w : World) (e : Ending) (w' : World) : Prop := ∃ v', e = .returned v' ∧ OwnT w' base v' l' ∧ w.grownBy w' v.ownBlock
theorem insT_any (base vb k : Nat) (v : Value) (l : List Term) (x : Term) (w : World) (hown : OwnT w base v l) (hk : k ≤ l.length) (hv : w.heap[vb]? = some (.cells x.cells.toArray 25 (0, 0))) (hne : v.ownBlock ≠ some vb) (hn : l.length ≤ 1000000) (hbase : base ≤ w.heap.size) :
    Calls Tryd.prog 41 #[v, .int .i64 k, .slice (some ⟨vb, 0, none⟩) 1 1] w (InsPostT base v (l.take k ++ x :: l.drop k) w) := by
  refine (insert_term base l.length k vb v (tflat l) x.cells w hown hk hv rfl (term_one x) (tflat_one l) hne hn hbase).mono ?_
  rintro e w2 ⟨v', rfl, hown2, hg2, _⟩
  rw [tflat_put l k x hk] at hown2
  refine ⟨v', rfl, ?_, hg2⟩
  unfold OwnT OwnL
  rw [show (l.take k ++ x :: l.drop k).length = l.length + 1 by simp; omega]
  exact hown2

/-! ### plain -/
theorem ascT_of : ∀ (last : Int) (l : List Term), chkT last l = true → (∀ x ∈ l, last < x.no) ∧ l.Pairwise (fun x y => x.no < y.no)
  | _, [], _ => ⟨by simp, List.Pairwise.nil⟩
  | last, x :: l, h => by
    unfold chkT at h
    simp only [Bool.and_eq_true, decide_eq_true_eq] at h
    obtain ⟨h1, h2⟩ := ascT_of x.no l h.2
    exact ⟨fun y hy => by
      rcases List.mem_cons.1 hy with rfl | hy
      · exact h.1.2
      · have := h1 y hy; omega, List.pairwise_cons.2 ⟨h1, h2⟩⟩
theorem chkT_ok : ∀ (last : Int) (l : List Term), chkT last l = true → ∀ x ∈ l, x.ok = true
  | _, [], _ => by simp
  | last, x :: l, h => by
    unfold chkT at h
    simp only [Bool.and_eq_true, decide_eq_true_eq] at h
    intro y hy
    rcases List.mem_cons.1 hy with rfl | hy
    · exact h.1.1
    · exact chkT_ok x.no l h.2 y hy
theorem checkT_zero {l : List Term} (h : checkT l = 0) : l.length ≤ 1024 ∧ (∀ x ∈ l, x.ok = true) ∧ l.Pairwise (fun x y => x.no < y.no) := by
  unfold checkT at h
  split at h
  · cases h
  · split at h
    · rename_i h1 h2
      exact ⟨by omega, chkT_ok _ l h2, (ascT_of _ l h2).2⟩
    · cases h
theorem ascT_iff (l : List Term) : AscT l ↔ l.Pairwise (fun x y => x.no < y.no) := by
  rw [List.pairwise_iff_getElem]; exact Iff.rfl
def posT (n : Int) (l : List Term) : Nat := (l.takeWhile (fun x => decide (x.no < n))).length
def hasT (n : Int) (l : List Term) : Bool := l.any (fun x => x.no == n)
theorem cutT_pos {n : Int} {l : List Term} {k : Nat} (h : CutT n l k) : k = posT n l := by
  have h1 : l = l.take k ++ l.drop k := (List.take_append_drop k l).symm
  unfold posT
  rw [h1, List.takeWhile_append_of_pos]
  · cases hd : l.drop k with
    | nil => simp; have := congrArg List.length hd; simp at this; have := h.le; omega
    | cons y q =>
      have hk : k < l.length := by
        have := congrArg List.length hd; simp at this; omega
      have hy : l[k] = y := by
        have := List.drop_eq_getElem_cons hk
        rw [hd] at this
        exact (List.cons.inj this).1.symm
      have := h.hi k hk (Nat.le_refl _)
      rw [List.takeWhile_cons_of_neg (by rw [← hy]; simp; omega)]
      simp; omega
  · intro x hx
    obtain ⟨i, hi, rfl⟩ := List.getElem_of_mem hx
    simp at hi
    rw [List.getElem_take]
    have := h.lo i (by omega) (by omega)
    simpa using this
theorem headT_has {n : Int} {l : List Term} {k : Nat} (h : CutT n l k) (hs : AscT l) : headT n l k = hasT n l := by
  unfold headT hasT
  by_cases hk : k < l.length
  · rw [List.getElem?_eq_getElem hk]
    show (l[k].no == n) = _
    by_cases e : l[k].no = n
    · rw [List.any_eq_true.2 ⟨l[k], List.getElem_mem hk, by simpa using e⟩]; simpa using e
    · rw [List.any_eq_false.2]
      · simpa using e
      · intro x hx
        obtain ⟨i, hi, rfl⟩ := List.getElem_of_mem hx
        rcases Nat.lt_trichotomy i k with h1 | h1 | h1
        · have := h.lo i hi h1; simp; omega
        · subst h1; simpa using e
        · have := hs k i hk hi h1
          have := h.hi k hk (Nat.le_refl _)
          simp; omega
  · rw [List.getElem?_eq_none (by omega)]
    show false = _
    rw [List.any_eq_false.2]
    intro x hx
    obtain ⟨i, hi, rfl⟩ := List.getElem_of_mem hx
    have := h.lo i hi (by omega)
    simp; omega
def addL (l : List Term) (x : Term) : List Term := l.take (posT x.no l) ++ x :: l.drop (posT x.no l)
def addE (l : List Term) (x : Term) : Int := if checkT l ≠ 0 then checkT l else if x.ok = false then 270 else if hasT x.no l = true then 181 else if l.length = 1024 then 2 else 0
/-- What adding a term gives. -/
def AddPost (l : List Term) (x : Term) (w : World) (e : Ending) (w' : World) : Prop :=
  Below w.heap.size w w' ∧ ((addE l x ≠ 0 ∧ e = .returned (.tuple #[.slice none 0 0, .int .i64 (addE l x)])) ∨ (addE l x = 0 ∧ ∃ A c, e = .returned (.tuple #[.slice A (addL l x).length c, .int .i64 0]) ∧ TermsAt w' A (addL l x) ∧ (A = none → addL l x = [])))
theorem addL_mem {l : List Term} {x y : Term} (h : y ∈ addL l x) : y = x ∨ y ∈ l := by
  unfold addL at h
  rcases List.mem_append.1 h with h | h
  · exact .inr (List.mem_of_mem_take h)
  · rcases List.mem_cons.1 h with h | h
    · exact .inl h
    · exact .inr (List.mem_of_mem_drop h)
theorem addL_length (l : List Term) (x : Term) : (addL l x).length = l.length + 1 := by
  unfold addL
  have : posT x.no l ≤ l.length := (List.takeWhile_prefix _).length_le
  simp; omega
end Go.Proofs.YtmindojbkedmlaaDoor

/- Package glossary: Add, walked. -/
namespace Go.Proofs.YtmindojbkedmlaaDoor
open Go.RowKit Go.Han
attribute [local irreducible] wpStill wpQuiet
set_option maxRecDepth 100000

theorem ins_ne {w : World} {base vb : Nat} {v : Value} {l : List Term} (h : OwnT w base v l) (hv : vb = w.heap.size ∨ vb < base) : v.ownBlock ≠ some vb := by
  intro e
  have := h.lt vb e
  omega
/-- Clone, in the midst of a region: the box of x is where it was. -/
def CloneIn (l : List Term) (x : Term) (b : Nat) (w3 W : World) (e : Ending) (w' : World) : Prop := ∃ v', e = .returned v' ∧ OwnT w' W.heap.size v' l ∧ Below W.heap.size W w' ∧ Below w3.heap.size w3 w' ∧ w'.cell? ⟨b, 0, none⟩ = some (.int .i64 x.no) ∧ w'.cell? ⟨b, 1, none⟩ = some (.int .i64 x.at_) ∧ w'.cell? ⟨b, 2, none⟩ = some (.int .i64 x.known) ∧ w'.cell? ⟨b, 3, none⟩ = some (.int .i64 x.lang) ∧ w'.cell? ⟨b, 4, none⟩ = some (.slice x.src.addr x.src.xs.length x.src.cap) ∧ w'.cell? ⟨b, 5, none⟩ = some (.slice x.tgt.addr x.tgt.xs.length x.tgt.cap) ∧ w'.cell? ⟨b, 6, none⟩ = some (.string x.cat) ∧ w'.cell? ⟨b, 7, none⟩ = some (.bool x.gone)
set_option maxHeartbeats 4000000 in
theorem AddT_any (A : Option Addr) (cp : Nat) (l : List Term) (x : Term) (w : World) (hT : Tabs w) (hr : TermsAt w A l) (hx : x.lies w) (hA : A = none → l = []) (hm : l.length ≤ 9223372036854775807) :
    Calls Tryd.prog 17 #[.slice A l.length cp, .agg #[.int .i64 x.no, .int .i64 x.at_, .int .i64 x.known, .int .i64 x.lang, .slice x.src.addr x.src.xs.length x.src.cap, .slice x.tgt.addr x.tgt.xs.length x.tgt.cap, .string x.cat, .bool x.gone]] w (AddPost l x w) := by
  obtain ⟨W0, hW0⟩ : ∃ W0, w.alloc (.cells #[.int .i64 x.no, .int .i64 x.at_, .int .i64 x.known, .int .i64 x.lang, .slice x.src.addr x.src.xs.length x.src.cap, .slice x.tgt.addr x.tgt.xs.length x.tgt.cap, .string x.cat, .bool x.gone] 25) = W0 := ⟨_, rfl⟩
  have hB0 : Below w.heap.size w W0 := by rw [← hW0]; exact ext_alloc (Below.refl _ _) _
  have hz0 : W0.heap.size = w.heap.size + 1 := by rw [← hW0]; simp
  have hk : Hid (∀ W, Below W0.heap.size W0 W → W.cell? ⟨w.heap.size, 0, none⟩ = some (.int .i64 x.no) ∧ W.cell? ⟨w.heap.size, 1, none⟩ = some (.int .i64 x.at_) ∧ W.cell? ⟨w.heap.size, 2, none⟩ = some (.int .i64 x.known) ∧ W.cell? ⟨w.heap.size, 3, none⟩ = some (.int .i64 x.lang) ∧ W.cell? ⟨w.heap.size, 4, none⟩ = some (.slice x.src.addr x.src.xs.length x.src.cap) ∧ W.cell? ⟨w.heap.size, 5, none⟩ = some (.slice x.tgt.addr x.tgt.xs.length x.tgt.cap) ∧ W.cell? ⟨w.heap.size, 6, none⟩ = some (.string x.cat) ∧ W.cell? ⟨w.heap.size, 7, none⟩ = some (.bool x.gone)) := by
    intro W hb
    have h0 : W0.heap[w.heap.size]? = some (.cells #[.int .i64 x.no, .int .i64 x.at_, .int .i64 x.known, .int .i64 x.lang, .slice x.src.addr x.src.xs.length x.src.cap, .slice x.tgt.addr x.tgt.xs.length x.tgt.cap, .string x.cat, .bool x.gone] 25 (0, 0)) := by rw [← hW0]; exact World.alloc_heap_new _ _
    have h1 := (hb.block _ (by omega)).trans h0
    exact ⟨gblk h1 0, gblk h1 1, gblk h1 2, gblk h1 3, gblk h1 4, gblk h1 5, gblk h1 6, gblk h1 7⟩
  have cC := Lib.hid (fun W (hb : Below w.heap.size w W) => CheckT_any A cp l W (utf_ext hT hb) (hr.ext hb) hm)
  have cR := Lib.hid (fun W (hb : Below w.heap.size w W) => rightT_at x W (utf_ext hT hb) (hx.ext hb))
  have Hr := Lib.hid hr
  have Hx := Lib.hid hx
  have HA := Lib.hid hA
  have HE : Hid (addE l x = if checkT l ≠ 0 then checkT l else if x.ok = false then 270 else if hasT x.no l = true then 181 else if l.length = 1024 then 2 else 0) := rfl
  clear hr hx hA
  go_enter Tryd.func17, Tryd.ntmps17
  go_wp2_with fail
  refine (cC.out W0 hB0).mono ?_
  rintro e w1 ⟨rfl, hb1⟩
  have hB1 := ext_trans hB0 hb1
  by_cases hc : checkT l = 0
  · have HC := Lib.hid hc
    obtain ⟨hl, hoks, hpw⟩ := checkT_zero hc
    have hasc : AscT l := (ascT_iff l).2 hpw
    rw [hc]
    clear hc hoks hpw
    obtain ⟨d0, d1, d2, d3, d4, d5, d6, d7⟩ := hk.out w1 hb1
    go_wp2_with fail
    refine (cR.out w1 hB1).mono ?_
    rintro e w2 ⟨rfl, hb2⟩
    have hB2 := ext_trans hB1 hb2
    have hb02 := ext_trans hb1 hb2
    clear d0 d1 d2 d3 d4 d5 d6 d7
    obtain ⟨d0, d1, d2, d3, d4, d5, d6, d7⟩ := hk.out w2 hb02
    cases hok : x.ok
    · have HF : Hid (addE l x = 270) := by show _ = _; rw [HE.out, HC.out, hok]; rfl
      clear hok
      go_wp2_with fail
      go_ret2
      exact ⟨hB2, .inl ⟨by rw [HF.out]; decide, by rw [HF.out]; rfl⟩⟩
    · have Hok := Lib.hid hok
      have cS := searchT_any x.no A cp l w2 (Hr.out.ext hB2).rd (by omega) hasc
      unfold numFnT at cS
      have CS := Lib.hid cS
      have Hasc := Lib.hid hasc
      clear hok cS hasc
      go_wp2_with fail
      refine CS.out.mono ?_
      rintro e w3 ⟨hb3, k, hcut, rfl⟩
      have hB3 := ext_trans hB2 hb3
      have hb03 := ext_trans hb02 hb3
      have hkp := cutT_pos hcut
      have hkl := hcut.le
      rw [headT_has hcut Hasc.out]
      clear d0 d1 d2 d3 d4 d5 d6 d7 hcut
      obtain ⟨d0, d1, d2, d3, d4, d5, d6, d7⟩ := hk.out w3 hb03
      cases hh : hasT x.no l
      · by_cases h1024 : l.length = 1024
        · have HF : Hid (addE l x = 2) := by show _ = _; rw [HE.out, HC.out, Hok.out, hh, if_pos h1024]; rfl
          have g1 : ((l.length : Int) == 1024) = true := by simp [h1024]
          clear hh hkp hkl h1024 hl
          go_wp2_with fail
          go_ret2
          exact ⟨hB3, .inl ⟨by rw [HF.out]; decide, by rw [HF.out]; rfl⟩⟩
        · have HF : Hid (addE l x = 0) := by show _ = _; rw [HE.out, HC.out, Hok.out, hh, if_neg h1024]; rfl
          have g1 : ((l.length : Int) == 1024) = false := beq_eq_false_iff_ne.2 (by omega)
          have cK : Hid (∀ W, Below w3.heap.size w3 W → Calls Tryd.prog 42 #[.slice A l.length cp] W (CloneIn l x w.heap.size w3 W)) := by
            intro W hb
            refine (cloneT_any A cp l W (Hr.out.ext (ext_trans hB3 hb)).rd HA.out (by omega)).mono ?_
            rintro e w4 ⟨v4, rfl, hown4, hb4⟩
            obtain ⟨h0, h1, h2, h3, h4, h5, h6, h7⟩ := hk.out w4 (ext_trans hb03 (ext_trans hb hb4))
            exact ⟨v4, rfl, hown4, hb4, ext_trans hb hb4, h0, h1, h2, h3, h4, h5, h6, h7⟩
          have Hkp := Lib.hid hkp
          clear hh hkp
          go_wp2_with fail
          have hl6 : l.length ≤ 1000000 := by omega
          go_region_with (first | (go_at_call 42; refine (cK.out _ ?_).mono ?_; (repeat (first | exact Below.refl _ _ | refine ext_drew ?_ | refine ext_alloc ?_ _)); rintro e w4 ⟨v4, rfl, hown4, hb4, hb34, q0, q1, q2, q3, q4, q5, q6, q7⟩) | (go_at_call 41; refine (insT_any _ _ k v4 l x _ (OwnL.ext hown4 ?_) hkl ?_ (ins_ne hown4 ?_) hl6 ?_).mono ?_; (repeat (first | (with_reducible exact Below.refl _ _) | (with_reducible refine ext_drew ?_) | (with_reducible refine ext_alloc ?_ _))); (first | exact World.alloc_heap_new _ _ | exact (hb4.block _ (by simp)).trans (World.alloc_heap_new _ _)); (first | exact .inl rfl | exact .inr (by simp)); (first | exact hb4.size | exact Nat.le_trans hb4.size (by simp)); rintro e w5 ⟨v5, rfl, hown5, hg5⟩))
          all_goals
            have hal : l.take k ++ x :: l.drop k = addL l x := by rw [Hkp.out]; rfl
            rw [hal] at hown5
            have hB35 : Below w3.heap.size w3 w5 := by
              refine Below.grown ?_ hg5 ?_ (fun j hj => by have h1 := (hown4.lt j hj).1; simp at h1; omega)
              · repeat (first | (with_reducible exact hb34) | (with_reducible refine ext_drew ?_) | (with_reducible refine ext_alloc ?_ _))
              · first | exact hb34.size | exact Nat.le_trans hb34.size (by simp)
            have hB5 := ext_trans hB3 hB35
            obtain ⟨A5, c5, rfl, hrd5, hn5⟩ := OwnL.form (by omega) hown5
            have hfin : Hid (AddPost l x w (.returned (.tuple #[.slice A5 (addL l x).length c5, .int .i64 0])) w5) := by
              refine ⟨hB5, .inr ⟨HF.out, A5, c5, rfl, ⟨hrd5, fun y hy => ?_⟩, hn5⟩⟩
              rcases addL_mem hy with rfl | hy
              · exact Hx.out.ext hB5
              · exact (Hr.out.lie y hy).ext hB5
            clear hown5 hg5 hown4 hb4 hb34 hrd5 hn5 q0 q1 q2 q3 q4 q5 q6 q7
            go_wp2
            go_ret2
            exact hfin.out
      · have HF : Hid (addE l x = 181) := by show _ = _; rw [HE.out, HC.out, Hok.out, hh]; rfl
        clear hh hkp hkl
        go_wp2_with fail
        go_ret2
        exact ⟨hB3, .inl ⟨by rw [HF.out]; decide, by rw [HF.out]; rfl⟩⟩
  · have HF : Hid (addE l x = checkT l) := by show _ = _; rw [HE.out, if_pos hc]
    have n1 : (checkT l == 0) = false := by simpa using hc
    have n2 : (checkT l != 0) = true := by simpa using hc
    have Hc := Lib.hid hc
    clear hc
    go_wp2_with fail
    go_ret2
    exact ⟨hB1, .inl ⟨by rw [HF.out]; exact Hc.out, by rw [HF.out]; rfl⟩⟩
end Go.Proofs.YtmindojbkedmlaaDoor

/- Package changes: Touched. -/
namespace Go.Proofs.YtmindojbkedmlaaDoor
open Go.RowKit Go.Han
attribute [local irreducible] wpStill wpQuiet
set_option maxRecDepth 100000

def longS (S : List StrS) : Bool := S.any (fun s => decide (16 < s.xs.length))
def wrongS (S : List StrS) : Bool := S.any (fun s => s.xs.any (fun y => !wordB y))
def touchE (l : List Term) (x : Term) (S : List StrS) : Int := if addE l x ≠ 0 then addE l x else if 4096 < S.length then 2 else if longS S = true then 2 else if wrongS S = true then 280 else 0
def touchL (x : Term) (S : List StrS) : List Nat := idxT S (fun s => touchB x s.xs) S.length
def touchO (l : List Term) (x : Term) (S : List StrS) : List Nat := if touchE l x S = 0 then touchL x S else []
def nats (l : List Nat) : List Value := l.map (fun i : Nat => Value.int .i64 (i : Int))
def TouPost (l : List Term) (x : Term) (S : List StrS) (w : World) (e : Ending) (w' : World) : Prop :=
  Below w.heap.size w w' ∧ ∃ A c, e = .returned (.tuple #[.slice A (touchO l x S).length c, .int .i64 (touchE l x S)]) ∧ Rd w' A (nats (touchO l x S))
theorem touO_err {l : List Term} {x : Term} {S : List StrS} {k : Int} (h : touchE l x S = k) (hk : k ≠ 0) : touchO l x S = [] := by unfold touchO; rw [if_neg (by rw [h]; exact hk)]
theorem tou_err {l : List Term} {x : Term} {S : List StrS} {w w' : World} {k : Int} (hb : Below w.heap.size w w') (h : touchE l x S = k) (hk : k ≠ 0) : TouPost l x S w (.returned (.tuple #[.slice none 0 0, .int .i64 k])) w' := by
  refine ⟨hb, none, 0, ?_, ?_⟩
  · rw [touO_err h hk, h]; rfl
  · rw [touO_err h hk]; exact Rd.nil _ _
theorem touE1 {l : List Term} {x : Term} {S : List StrS} (h : addE l x ≠ 0) : touchE l x S = addE l x := by unfold touchE; rw [if_pos h]
theorem touE2 {l : List Term} {x : Term} {S : List StrS} (h : addE l x = 0) (h2 : 4096 < S.length) : touchE l x S = 2 := by unfold touchE; rw [if_neg (by simpa using h), if_pos h2]
theorem touE3 {l : List Term} {x : Term} {S : List StrS} (h : addE l x = 0) (h2 : ¬ 4096 < S.length) (h3 : longS S = true) : touchE l x S = 2 := by unfold touchE; rw [if_neg (by simpa using h), if_neg h2, if_pos h3]
theorem touE4 {l : List Term} {x : Term} {S : List StrS} (h : addE l x = 0) (h2 : ¬ 4096 < S.length) (h3 : longS S = false) (h4 : wrongS S = true) : touchE l x S = 280 := by unfold touchE; rw [if_neg (by simpa using h), if_neg h2, if_neg (by rw [h3]; simp), if_pos h4]
theorem touE0 {l : List Term} {x : Term} {S : List StrS} (h : addE l x = 0) (h2 : ¬ 4096 < S.length) (h3 : longS S = false) (h4 : wrongS S = false) : touchE l x S = 0 := by unfold touchE; rw [if_neg (by simpa using h), if_neg h2, if_neg (by rw [h3]; simp), if_neg (by rw [h4]; simp)]
theorem add_ok {l : List Term} {x : Term} (h : addE l x = 0) : x.ok = true := by
  unfold addE at h
  by_cases h1 : checkT l = 0
  · rw [if_neg (by simpa using h1)] at h
    cases hx : x.ok
    · rw [hx, if_pos rfl] at h; cases h
    · rfl
  · rw [if_pos h1] at h; exact absurd h h1
theorem ok_src {x : Term} (h : x.ok = true) : 1 ≤ x.src.xs.length ∧ x.src.xs.length ≤ 4 := by
  unfold Term.ok at h
  simp only [Bool.and_eq_true] at h
  have := h.1.2
  unfold phraseB at this
  simp only [Bool.and_eq_true, decide_eq_true_eq] at this
  exact this.1
theorem same_size {W Wc : World} (h : ∀ k, k < Wc.heap.size → W.heap[k]? = Wc.heap[k]?) : Wc.heap.size ≤ W.heap.size := by
  refine Nat.le_of_not_lt fun hlt => ?_
  have := h W.heap.size hlt
  rw [Array.getElem?_eq_none (Nat.le_refl _)] at this
  have h2 := Array.getElem?_eq_none_iff.1 this.symm
  omega
theorem rd_same {W Wc : World} {A : Option Addr} {xs : List Value} (hW : ∀ k, k < Wc.heap.size → W.heap[k]? = Wc.heap[k]?) (h : Rd Wc A xs) : Rd W A xs := by
  rcases h with h | ⟨b, off, he, hb, hc⟩
  · exact .inl h
  · exact .inr ⟨b, off, he, Nat.lt_of_lt_of_le hb (same_size hW), fun j u hu => (World.cell?_of_block (w := Wc) (a := ⟨b, off + j, none⟩) (hW b hb)).trans (hc j u hu)⟩
theorem lies_same {W Wc : World} {s : StrS} (hW : ∀ k, k < Wc.heap.size → W.heap[k]? = Wc.heap[k]?) (h : s.lies Wc) : s.lies W := ⟨rd_same hW h.rd, h.cap, h.max, h.nil⟩
theorem long_at {S : List StrS} (h : longS S = false) {s : StrS} (hs : s ∈ S) : s.xs.length ≤ 16 := by
  unfold longS at h
  rw [List.any_eq_false] at h
  have := h s hs
  simp at this
  exact this
set_option maxHeartbeats 2000000 in
theorem Touched_any (A : Option Addr) (cp : Nat) (l : List Term) (x : Term) (B : Option Addr) (cq : Nat) (S : List StrS) (w : World) (hT : Tabs w) (hr : TermsAt w A l) (hx : x.lies w) (hA : A = none → l = []) (hm : l.length ≤ 9223372036854775807) (hS : SentsAt w B S) (hm' : S.length ≤ 9223372036854775807) :
    Calls Tryd.prog 10 #[.slice A l.length cp, .agg #[.int .i64 x.no, .int .i64 x.at_, .int .i64 x.known, .int .i64 x.lang, .slice x.src.addr x.src.xs.length x.src.cap, .slice x.tgt.addr x.tgt.xs.length x.tgt.cap, .string x.cat, .bool x.gone], .slice B S.length cq] w (TouPost l x S w) := by
  obtain ⟨W0, hW0⟩ : ∃ W0, w.alloc (.cells #[.int .i64 x.no, .int .i64 x.at_, .int .i64 x.known, .int .i64 x.lang, .slice x.src.addr x.src.xs.length x.src.cap, .slice x.tgt.addr x.tgt.xs.length x.tgt.cap, .string x.cat, .bool x.gone] 25) = W0 := ⟨_, rfl⟩
  have hB0 : Below w.heap.size w W0 := by rw [← hW0]; exact ext_alloc (Below.refl _ _) _
  have hx0 : W0.heap[w.heap.size]? = some (.cells #[.int .i64 x.no, .int .i64 x.at_, .int .i64 x.known, .int .i64 x.lang, .slice x.src.addr x.src.xs.length x.src.cap, .slice x.tgt.addr x.tgt.xs.length x.tgt.cap, .string x.cat, .bool x.gone] 25 (0, 0)) := by rw [← hW0]; exact World.alloc_heap_new _ _
  have hz0 : w.heap.size < W0.heap.size := lt_block hx0
  have cA := Lib.hid (AddT_any A cp l x W0 (utf_ext hT hB0) ⟨hr.rd.ext hB0, fun y hy => ⟨(hr.lie y hy).1.ext hB0, (hr.lie y hy).2.ext hB0⟩⟩ ⟨hx.1.ext hB0, hx.2.ext hB0⟩ hA hm)
  have cL := Lib.hid (fun W (h : Below w.heap.size w W) => containsFuncS_any B cq S 18 (fun s => decide (16 < s.xs.length)) W (hS.ext h) hm' (enters_of Tryd.func18 (by kernel_rfl) rfl) (fun W' _ s _ => long34_any s W'))
  have cW := Lib.hid (fun W (h : Below w.heap.size w W) => containsFuncS_any B cq S 20 (fun s => s.xs.any (fun y => !wordB y)) W (hS.ext h) hm' (enters_of Tryd.func20 (by kernel_rfl) rfl) (fun W' h' s hs => wrong34_any s W' (utf_ext hT (ext_trans h h')) ((hS.lie s hs).ext (ext_trans h h'))))
  have HS := Lib.hid hS
  have HX := Lib.hid hx
  have k0 := gblk hx0 0
  have k1 := gblk hx0 1
  have k2 := gblk hx0 2
  have k3 := gblk hx0 3
  have k4 := gblk hx0 4
  have k5 := gblk hx0 5
  have k6 := gblk hx0 6
  have k7 := gblk hx0 7
  have HX0 := Lib.hid hx0
  clear hS hx hr hx0
  go_enter Tryd.func10, Tryd.ntmps10
  go_wp2_with fail
  refine cA.out.mono ?_
  rintro e w1 ⟨hb1, h1⟩
  have hB1 := ext_trans hB0 hb1
  clear k0 k1 k2 k3 k4 k5 k6 k7 hW0 cA
  rcases h1 with ⟨hn, rfl⟩ | ⟨hn, A1, c1, rfl, _, _⟩
  · have n1 : (addE l x == 0) = false := by simpa using hn
    have hf := Lib.hid (tou_err (S := S) hB1 (touE1 hn) hn)
    clear hn
    go_wp2_with fail
    go_ret2
    exact hf.out
  have hsrc := ok_src (add_ok hn)
  have Hn := Lib.hid hn
  clear hn
  by_cases hl : 4096 < S.length
  · have g1 : (4096 : Int) < S.length := by omega
    have hf := Lib.hid (tou_err hB1 (touE2 Hn.out hl) (by decide))
    clear hl
    go_wp2_with fail
    go_ret2
    exact hf.out
  have g1 : ¬ (4096 : Int) < S.length := by omega
  have Hl := Lib.hid hl
  clear hl
  go_wp2_with fail
  refine (cL.out w1 hB1).mono ?_
  rintro e w2 ⟨rfl, hb2⟩
  have hB2 := ext_trans hB1 hb2
  cases hlong : S.any (fun s => decide (16 < s.xs.length))
  rotate_left
  · have hf := Lib.hid (tou_err hB2 (touE3 Hn.out Hl.out hlong) (by decide))
    clear hlong
    go_wp2_with fail
    go_ret2
    exact hf.out
  have Hlong : Hid (longS S = false) := hlong
  clear hlong cL
  go_wp2_with fail
  refine (cW.out w2 hB2).mono ?_
  rintro e w3 ⟨rfl, hb3⟩
  have hB3 := ext_trans hB2 hb3
  cases hw : S.any (fun s => s.xs.any (fun y => !wordB y))
  rotate_left
  · have hf := Lib.hid (tou_err hB3 (touE4 Hn.out Hl.out Hlong.out hw) (by decide))
    clear hw
    go_wp2_with fail
    go_ret2
    exact hf.out
  have HE := Lib.hid (touE0 Hn.out Hl.out Hlong.out hw)
  clear hw cW
  have hB03 := ext_trans hb1 (ext_trans hb2 hb3)
  have hx3 := (hB03.block _ hz0).trans HX0.out
  have k4 := gblk hx3 4
  have hz3 : w.heap.size < w3.heap.size := lt_block hx3
  have hmf : ∀ (fn : Fn) (first cap : Array Value) (w : World), (Instr.makeFunc fn first cap).run Tryd.prog w = .ok (.func fn first cap) w := fun _ _ _ _ => rfl
  go_wp2_with fail
  obtain ⟨W4, hW4⟩ : ∃ W4, w3.alloc (.cells #[.int .i64 (x.src.xs.length : Int)] 3) = W4 := ⟨_, rfl⟩
  have hb4 : Below w3.heap.size w3 W4 := by rw [← hW4]; exact ext_alloc (Below.refl _ _) _
  have hn4 : W4.heap[w3.heap.size]? = some (.cells #[.int .i64 (x.src.xs.length : Int)] 3 (0, 0)) := by rw [← hW4]; exact World.alloc_heap_new _ _
  rw [hW4]
  refine (where34_any B S.length cq w3.heap.size w.heap.size W4).mono ?_
  rintro e W5 ⟨rfl, hW5⟩
  have hb5 : Below W4.heap.size W4 W5 := by rw [← hW5]; exact ext_alloc (ext_alloc (Below.refl _ _) _) _
  have hp1 : W5.heap[W4.heap.size]? = some (.cells #[.slice B S.length cq] 26 (0, 0)) := by rw [← hW5]; exact (Below.heap_alloc _ _ _ (by simp)).trans (galloc_at _ _ _ rfl)
  have hp2 : W5.heap[W4.heap.size + 1]? = some (.cells #[.func (.func 23) #[] #[.pointer (some ⟨w3.heap.size, 0, none⟩), .pointer (some ⟨w.heap.size, 0, none⟩)]] 48 (0, 0)) := by rw [← hW5]; exact galloc_at _ _ _ (by simp)
  have hB5 := ext_trans hB3 (ext_trans hb4 hb5)
  have hn5 := (hb5.block _ (lt_block hn4)).trans hn4
  have hx5 := ((ext_trans hb4 hb5).block _ hz3).trans hx3
  clear hW4 hW5 hmf k4
  have hit := where34_1 W4.heap.size (W4.heap.size + 1) w3.heap.size w.heap.size B cq S (fun s => touchB x s.xs) (fun k => k < W5.heap.size) W5 (fun W hW =>
    ⟨(hW _ (lt_block hp1)).trans hp1, (hW _ (lt_block hp2)).trans hp2, ⟨rd_same hW (HS.out.ext hB5).rd, fun s hs => lies_same hW ((HS.out.ext hB5).lie s hs)⟩,
     fun s hs => touches34_any x s w3.heap.size w.heap.size W ((hW _ (lt_block hn5)).trans hn5) ((hW _ (lt_block hx5)).trans hx5) (lies_same hW ((HS.out.ext hB5).lie s hs)) ⟨lies_same hW (HX.out.1.ext hB5), lies_same hW (HX.out.2.ext hB5)⟩ hsrc.1 (by have := hsrc.2; omega) (long_at Hlong.out hs)⟩) (by have := Hl.out; omega)
  have hll : (idxT S (fun s => touchB x s.xs) S.length).length ≤ 1000000 := by
    unfold idxT
    refine Nat.le_trans (List.length_filter_le _ _) ?_
    rw [List.length_range]; have := Hl.out; omega
  have cC := Lib.hid (collect_int 47 _ (fun i : Nat => (i : Int)) _ _ _ none W5 W5 hit (enters_of Tryd.func47 (by kernel_rfl) rfl) (fun k hk => ⟨hk, rfl⟩) hll)
  clear hit hp1 hp2 hn5 hx5
  go_wp2_with fail
  refine cC.out.mono ?_
  rintro e w6 ⟨hon, ⟨_, v, rfl, hrow⟩ | ⟨ch, hc, _⟩⟩
  · have hb6 := hon.below (fun k hk => hk.elim)
    have hown : OwnL (fun i : Nat => [Value.int .i64 (i : Int)]) 3 1 w6 W5.heap.size v (touchL x S) := by
      unfold OwnL
      have e1 : (touchL x S).flatMap (fun i : Nat => [Value.int .i64 (i : Int)]) = (touchL x S).map (fun i => .int .i64 (i : Int)) := by
        generalize touchL x S = L
        induction L with
        | nil => rfl
        | cons a L ih => rw [List.flatMap_cons, List.map_cons, ih]; rfl
      rw [e1]
      unfold touchL
      simpa using hrow
    obtain ⟨A6, c6, rfl, hr6, _⟩ := hown.form (by decide)
    have HO : Hid (touchO l x S = touchL x S) := by show _ = _; unfold touchO; rw [if_pos HE.out]
    have hr6' : Hid (Rd w6 A6 (nats (touchL x S))) := by
      show Rd _ _ _
      have e1 : (touchL x S).flatMap (fun i : Nat => [Value.int .i64 (i : Int)]) = nats (touchL x S) := by
        unfold nats
        generalize touchL x S = L
        induction L with
        | nil => rfl
        | cons a L ih => rw [List.flatMap_cons, List.map_cons, ih]; rfl
      rw [← e1]; exact hr6
    clear hr6 hown hrow cC hon
    generalize touchL x S = L at *
    go_wp2_with fail
    go_ret2
    exact ⟨ext_trans hB5 hb6, A6, c6, by rw [HO.out, HE.out]; rfl, by rw [HO.out]; exact hr6'.out⟩
  · cases hc
end Go.Proofs.YtmindojbkedmlaaDoor

/- The reference's package of changes: SameInts, Few, touches. -/
namespace Go.Proofs.YtmindojbkedmlaaDoor
open Go.RowKit Go.Han
attribute [local irreducible] wpStill wpQuiet
set_option maxRecDepth 100000

theorem nats_get {l : List Nat} {k : Nat} (h : k < l.length) : (nats l)[k]? = some (.int .i64 (l[k] : Int)) := by unfold nats; simp [h]
theorem rd_nat {w : World} {A : Option Addr} {l : List Nat} (h : Rd w A (nats l)) {k : Nat} (hk : k < l.length) : ∃ b off, A = some ⟨b, off, none⟩ ∧ b < w.heap.size ∧ w.cell? ⟨b, off + k, none⟩ = some (.int .i64 (l[k] : Int)) := by
  obtain ⟨b, off, h1, h2, h3⟩ := h.at_ (k := k) (by unfold nats; simpa using hk)
  exact ⟨b, off, h1, h2, h3 k _ (nats_get hk)⟩
set_option maxHeartbeats 1000000 in
theorem sameNats_any (A B : Option Addr) (c d : Nat) (l l' : List Nat) (w : World) (hr : Rd w A (nats l)) (hr' : Rd w B (nats l')) (hm : l.length ≤ 9223372036854775807) :
    Calls Tryd.prog 12 #[.slice A l.length c, .slice B l'.length d] w fun e w' => e = .returned (.bool (decide (l = l'))) ∧ Below w.heap.size w w' := by
  by_cases hl : l.length = l'.length
  · have hne : ((l.length : Int) != (l'.length : Int)) = false := by simp [hl]
    have Hl := Lib.hid hl
    clear hl
    go_enter Tryd.func12, Tryd.ntmps12
    go_wp2_with fail
    go_loopw [5] (fun i wr => ∃ k : Nat, k ≤ l.length ∧ i = .int .i64 k ∧ Below w.heap.size w wr ∧ Hid (l.take k = l'.take k)) (fun i _ => l.length - (intOf i).toNat)
    case atStart => exact ⟨0, Nat.zero_le _, rfl, Below.refl _ _, rfl⟩
    case round =>
      obtain ⟨k, hk, rfl, hB, HR⟩ := hrel
      by_cases hlt : k < l.length
      · have hlt' : k < l'.length := by have := Hl.out; omega
        obtain ⟨b, off, rfl, hb, hc⟩ := rd_nat hr hlt
        obtain ⟨b', off', rfl, hb', hc'⟩ := rd_nat hr' hlt'
        have h1 := (hB.cell (p := ⟨b, off + k, none⟩) hb).trans hc
        have h1' := (hB.cell (p := ⟨b', off' + k, none⟩) hb').trans hc'
        have Htk := Lib.hid (List.take_succ_eq_append_getElem hlt)
        have Htk' := Lib.hid (List.take_succ_eq_append_getElem hlt')
        have hf : Hid (l = l' → l[k] = l'[k]) := by rintro rfl; rfl
        clear hc hr hc' hr'
        generalize l[k] = x at *
        generalize l'[k] = y at *
        by_cases hxy : x = y
        · subst hxy
          clear hf
          go_wp2_with fail
          go_still (by kernel_rfl)
          go_wp2
          go_roundw
          case rel => exact ⟨k + 1, by omega, by go_num, hB.drew, by show _ = _; rw [Htk.out, Htk'.out, HR.out]⟩
          case measure => simp [intOf]; omega
        · have HF : Hid (decide (l = l') = false) := decide_eq_false (fun h => hxy (hf.out h))
          have g1 : (x == y) = false := by simpa using hxy
          have g2 : ((x : Int) == (y : Int)) = false := by simp; omega
          clear hxy hf
          go_wp2_with fail
          go_still (by kernel_rfl)
          go_wp2
          go_ret
          exact ⟨by rw [HF.out]; rfl, hB.drew⟩
      · have HF : Hid (decide (l = l') = true) := by
          refine decide_eq_true ?_
          obtain rfl : k = l.length := by omega
          have h := HR.out
          rw [List.take_length, List.take_of_length_le (by have := Hl.out; omega)] at h
          exact h
        clear HR
        go_wp2_with fail
        go_ret
        exact ⟨by rw [HF.out]; rfl, hB⟩
  · have hne : ((l.length : Int) != (l'.length : Int)) = true := by simp; omega
    have HF : Hid (decide (l = l') = false) := decide_eq_false (fun h => hl (by rw [h]))
    clear hl
    go_enter Tryd.func12, Tryd.ntmps12
    go_wp2_with fail
    go_ret
    exact ⟨by rw [HF.out]; rfl, Below.refl _ _⟩

def fewS (S : List StrS) : Bool := !((decide (60 < S.length) && decide (S.length ≤ 4096)) || decide (4200 < S.length)) && S.all (fun s => decide (s.xs.length ≤ 40))
theorem all_take {α : Type} {l : List α} {P : α → Bool} {k : Nat} (h : k < l.length) : (l.take (k + 1)).all P = ((l.take k).all P && P l[k]) := by
  rw [List.take_succ_eq_append_getElem h, List.all_append]; simp
set_option maxHeartbeats 1000000 in
theorem few34_any (A : Option Addr) (cp : Nat) (S : List StrS) (w : World) (hS : SentsAt w A S) (hm : S.length ≤ 9223372036854775807) :
    Calls Tryd.prog 9 #[.slice A S.length cp] w fun e w' => e = .returned (.bool (fewS S)) ∧ w = w' := by
  have HS := Lib.hid hS
  obtain ⟨n, hn⟩ : ∃ n, S.length = n := ⟨_, rfl⟩
  have H : Hid (fewS S = (!((decide (60 < n) && decide (n ≤ 4096)) || decide (4200 < n)) && S.all (fun s => decide (s.xs.length ≤ 40)))) := by show _ = _; rw [← hn]; rfl
  have Hn := Lib.hid hn
  rw [hn] at hm ⊢
  clear hS hn
  have bad : ((60 < n ∧ n ≤ 4096) ∨ 4200 < n) → Calls Tryd.prog 9 #[.slice A n cp] w fun e w' => e = .returned (.bool (fewS S)) ∧ w = w' := by
    intro h
    have HF : Hid (fewS S = false) := by
      show _ = _
      rw [H.out]
      rcases h with ⟨h1, h2⟩ | h1
      · simp [h1, h2]
      · simp [h1]
    go_enter Tryd.func9, Tryd.ntmps9
    rcases h with ⟨h1, h2⟩ | h1
    · have g1 : (60 : Int) < n := by omega
      have g2 : (n : Int) ≤ 4096 := by omega
      go_wp2_with fail
      go_ret
      exact ⟨by rw [HF.out]; rfl, rfl⟩
    · have g1 : (60 : Int) < n := by omega
      have g2 : ¬ (n : Int) ≤ 4096 := by omega
      have g3 : (4200 : Int) < n := by omega
      go_wp2_with fail
      go_ret
      exact ⟨by rw [HF.out]; rfl, rfl⟩
  by_cases hb : (60 < n ∧ n ≤ 4096) ∨ 4200 < n
  · exact bad hb
  clear bad
  have H2 : Hid (fewS S = S.all (fun s => decide (s.xs.length ≤ 40))) := by
    show _ = _
    rw [H.out]
    have : ((decide (60 < n) && decide (n ≤ 4096)) || decide (4200 < n)) = false := by
      rw [Bool.or_eq_false_iff, Bool.and_eq_false_iff]
      simp only [decide_eq_false_iff_not]
      omega
    rw [this]; rfl
  clear H
  have walk : ∀ (t : Bool), (decide ((60 : Int) < n) = t) → Calls Tryd.prog 9 #[.slice A n cp] w fun e w' => e = .returned (.bool (fewS S)) ∧ w = w' := by
    intro t ht
    have g3 : ¬ (4200 : Int) < n := by omega
    have g2 : t = true → ¬ (n : Int) ≤ 4096 := by intro h; rw [h] at ht; have := of_decide_eq_true ht; omega
    go_enter Tryd.func9, Tryd.ntmps9
    cases t
    · have g1 : ¬ (60 : Int) < n := of_decide_eq_false ht
      clear g2 ht hb
      go_wp2_with fail
      go_loop [3] (fun i => ∃ k : Nat, k ≤ n ∧ i = .int .i64 k ∧ Hid ((S.take k).all (fun s => decide (s.xs.length ≤ 40)) = true)) (fun i => n - (intOf i).toNat)
      case atStart => exact ⟨0, Nat.zero_le _, rfl, rfl⟩
      case round =>
        obtain ⟨k, hk, rfl, HR⟩ := hrel
        by_cases hlt : k < n
        · have hlt2 : k < S.length := by rw [Hn.out]; exact hlt
          obtain ⟨b, off, rfl, hb, hc⟩ := HS.out.at_ hlt2
          have d0 := hc k hlt2 w (Below.refl _ _)
          have Htk := Lib.hid (all_take (P := fun s : StrS => decide (s.xs.length ≤ 40)) hlt2)
          have hmem := Lib.hid (List.getElem_mem hlt2)
          clear hc
          generalize S[k] = s at *
          clear hlt2
          by_cases h40 : s.xs.length ≤ 40
          · have hg : ¬ (40 : Int) < s.xs.length := by omega
            have HN : Hid ((S.take (k + 1)).all (fun s => decide (s.xs.length ≤ 40)) = true) := by show _ = _; rw [Htk.out, HR.out, decide_eq_true h40]; rfl
            clear h40
            go_wp2_with fail
            go_round
            case rel => exact ⟨k + 1, by omega, by go_num, HN⟩
            case measure => simp [intOf]; omega
          · have hg : (40 : Int) < s.xs.length := by omega
            have HN : Hid (fewS S = false) := by
              show _ = _
              rw [H2.out, List.all_eq_false]
              exact ⟨s, hmem.out, by simp; omega⟩
            clear h40
            go_wp2_with fail
            go_ret
            exact ⟨by rw [HN.out]; rfl, rfl⟩
        · have HN : Hid (fewS S = true) := by
            show _ = _
            have h := HR.out
            rw [List.take_of_length_le (by rw [Hn.out]; omega)] at h
            rw [H2.out, h]
          go_wp2_with fail
          go_ret
          exact ⟨by rw [HN.out]; rfl, rfl⟩
    · have g1 : (60 : Int) < n := of_decide_eq_true ht
      have g2 := g2 rfl
      clear ht hb
      go_wp2_with fail
      go_loop [3] (fun i => ∃ k : Nat, k ≤ n ∧ i = .int .i64 k ∧ Hid ((S.take k).all (fun s => decide (s.xs.length ≤ 40)) = true)) (fun i => n - (intOf i).toNat)
      case atStart => exact ⟨0, Nat.zero_le _, rfl, rfl⟩
      case round =>
        obtain ⟨k, hk, rfl, HR⟩ := hrel
        by_cases hlt : k < n
        · have hlt2 : k < S.length := by rw [Hn.out]; exact hlt
          obtain ⟨b, off, rfl, hb, hc⟩ := HS.out.at_ hlt2
          have d0 := hc k hlt2 w (Below.refl _ _)
          have Htk := Lib.hid (all_take (P := fun s : StrS => decide (s.xs.length ≤ 40)) hlt2)
          have hmem := Lib.hid (List.getElem_mem hlt2)
          clear hc
          generalize S[k] = s at *
          clear hlt2
          by_cases h40 : s.xs.length ≤ 40
          · have hg : ¬ (40 : Int) < s.xs.length := by omega
            have HN : Hid ((S.take (k + 1)).all (fun s => decide (s.xs.length ≤ 40)) = true) := by show _ = _; rw [Htk.out, HR.out, decide_eq_true h40]; rfl
            clear h40
            go_wp2_with fail
            go_round
            case rel => exact ⟨k + 1, by omega, by go_num, HN⟩
            case measure => simp [intOf]; omega
          · have hg : (40 : Int) < s.xs.length := by omega
            have HN : Hid (fewS S = false) := by
              show _ = _
              rw [H2.out, List.all_eq_false]
              exact ⟨s, hmem.out, by simp; omega⟩
            clear h40
            go_wp2_with fail
            go_ret
            exact ⟨by rw [HN.out]; rfl, rfl⟩
        · have HN : Hid (fewS S = true) := by
            show _ = _
            have h := HR.out
            rw [List.take_of_length_le (by rw [Hn.out]; omega)] at h
            rw [H2.out, h]
          go_wp2_with fail
          go_ret
          exact ⟨by rw [HN.out]; rfl, rfl⟩
  exact walk _ rfl

/-! ### touches -/
set_option maxHeartbeats 1000000 in
theorem rtouches_any (x : Term) (s : StrS) (w : World) (hx : x.lies w) (hs : s.lies w) (h16 : s.xs.length ≤ 9223372036854775807) : Calls Tryd.prog 29 #[.agg #[.int .i64 x.no, .int .i64 x.at_, .int .i64 x.known, .int .i64 x.lang, .slice x.src.addr x.src.xs.length x.src.cap, .slice x.tgt.addr x.tgt.xs.length x.tgt.cap, .string x.cat, .bool x.gone], .slice s.addr s.xs.length s.cap] w fun e w' => e = .returned (.bool (touchB x s.xs)) ∧ Below w.heap.size w w' := by
  obtain ⟨W0, hW0⟩ : ∃ W0, w.alloc (.cells #[.int .i64 x.no, .int .i64 x.at_, .int .i64 x.known, .int .i64 x.lang, .slice x.src.addr x.src.xs.length x.src.cap, .slice x.tgt.addr x.tgt.xs.length x.tgt.cap, .string x.cat, .bool x.gone] 25) = W0 := ⟨_, rfl⟩
  have hB0 : Below w.heap.size w W0 := by rw [← hW0]; exact ext_alloc (Below.refl _ _) _
  have hx0 : W0.heap[w.heap.size]? = some (.cells #[.int .i64 x.no, .int .i64 x.at_, .int .i64 x.known, .int .i64 x.lang, .slice x.src.addr x.src.xs.length x.src.cap, .slice x.tgt.addr x.tgt.xs.length x.tgt.cap, .string x.cat, .bool x.gone] 25 (0, 0)) := by rw [← hW0]; exact World.alloc_heap_new _ _
  have hz0 : w.heap.size < W0.heap.size := lt_block hx0
  have cI := Lib.hid (fun W (h : Below w.heap.size w W) (i : Nat) (hi : i ≤ s.xs.length) => isAt_any x s i W ⟨hx.1.ext h, hx.2.ext h⟩ (hs.ext h) hi)
  have HX0 := Lib.hid hx0
  have hend : Hid (∀ k, (∀ j, j < k → startB x (s.xs.drop j) = false) → s.xs.length ≤ k → touchB x s.xs = false) := by
    intro k h hk
    unfold touchB
    rw [List.any_eq_false]
    intro j hj
    have hj := List.mem_range.1 hj
    rw [h j (by omega)]; simp
  clear hx hs hx0
  go_enter Tryd.func29, Tryd.ntmps29
  go_wp2_with fail
  clear hW0
  go_loopw [5] (fun i wr => ∃ k : Nat, k ≤ s.xs.length ∧ i = .int .i64 k ∧ Below W0.heap.size W0 wr ∧ Hid (∀ j, j < k → startB x (s.xs.drop j) = false)) (fun i _ => s.xs.length - (intOf i).toNat)
  case atStart => exact ⟨0, Nat.zero_le _, rfl, Below.refl _ _, fun j hj => by omega⟩
  case round =>
    obtain ⟨k, hk, rfl, hB, HR⟩ := hrel
    have hBw := ext_trans hB0 hB
    by_cases hlt : k < s.xs.length
    · have hxr := (hB.block _ hz0).trans HX0.out
      have k0 := gblk hxr 0
      have k1 := gblk hxr 1
      have k2 := gblk hxr 2
      have k3 := gblk hxr 3
      have k4 := gblk hxr 4
      have k5 := gblk hxr 5
      have k6 := gblk hxr 6
      have k7 := gblk hxr 7
      have cK := Lib.hid (cI.out wr hBw k hk)
      have HT := Lib.hid (touchB_true (x := x) hlt)
      obtain ⟨r, hr⟩ : ∃ r, startB x (s.xs.drop k) = r := ⟨_, rfl⟩
      rw [hr] at cK HT
      have Hr := Lib.hid hr
      clear hr hxr
      go_wp2_with fail
      refine cK.out.mono ?_
      rintro e w1 ⟨rfl, hb1⟩
      have hB1 := ext_trans hB hb1
      clear k0 k1 k2 k3 k4 k5 k6 k7
      cases r
      · go_wp2_with fail
        go_roundw
        case rel =>
          refine ⟨k + 1, by omega, by go_num, hB1, fun j hj => ?_⟩
          rcases Nat.lt_or_ge j k with h | h
          · exact HR.out j h
          · obtain rfl : j = k := by omega
            exact Hr.out
        case measure => simp [intOf]; omega
      · go_wp2_with fail
        go_ret
        have ht : touchB x s.xs = true := by first | exact HT.out rfl | exact HT.out trivial
        exact ⟨by rw [ht]; rfl, ext_trans hB0 hB1⟩
    · have HN := Lib.hid (hend.out k HR.out (by omega))
      go_wp2_with fail
      go_ret
      exact ⟨by rw [HN.out]; rfl, hBw⟩
end Go.Proofs.YtmindojbkedmlaaDoor

/- Terms that are added, in plain lists: what Add gives. No program in sight. -/
namespace Go.Proofs.YtmindojbkedmlaaDoor
open Go.RowKit Go.Han
theorem chkT_mk : ∀ (last : Int) (l : List Term), (∀ x ∈ l, x.ok = true) → (∀ x ∈ l, last < x.no) → l.Pairwise (fun x y => x.no < y.no) → chkT last l = true
  | _, [], _, _, _ => rfl
  | last, x :: l, h1, h2, h3 => by
    unfold chkT
    rw [h1 x (by simp), decide_eq_true (h2 x (by simp)), chkT_mk x.no l (fun y hy => h1 y (by simp [hy])) (fun y hy => (List.pairwise_cons.1 h3).1 y hy) (List.pairwise_cons.1 h3).2]
    rfl
theorem checkT_mk {l : List Term} (h0 : l.length ≤ 1024) (h1 : ∀ x ∈ l, x.ok = true) (h3 : l.Pairwise (fun x y => x.no < y.no)) : checkT l = 0 := by
  unfold checkT
  rw [if_neg (by omega), if_pos (chkT_mk _ l h1 (fun x hx => by have := (ok_no (h1 x hx)).1; omega) h3)]
theorem checkT_filter {l : List Term} (p : Term → Bool) (h : checkT l = 0) : checkT (l.filter p) = 0 := by
  obtain ⟨h1, h2, h3⟩ := checkT_zero h
  exact checkT_mk (Nat.le_trans (List.length_filter_le _ _) h1) (fun x hx => h2 x (List.mem_filter.1 hx).1) (h3.filter _)
theorem aboutB_symm (a b : Term) : aboutB a b = aboutB b a := by
  unfold aboutB
  rw [decide_eq_decide.2 (eq_comm (a := a.lang) (b := b.lang)), decide_eq_decide.2 (eq_comm (a := a.src.xs) (b := b.src.xs))]
theorem posT_cons (n : Int) (y : Term) (l : List Term) : posT n (y :: l) = if y.no < n then posT n l + 1 else 0 := by
  unfold posT
  rw [List.takeWhile_cons]
  by_cases h : y.no < n <;> simp [h]
theorem addL_nil (a : Term) : addL [] a = [a] := rfl
theorem addL_cons (y : Term) (l : List Term) (a : Term) : addL (y :: l) a = if y.no < a.no then y :: addL l a else a :: y :: l := by
  unfold addL
  rw [posT_cons]
  by_cases h : y.no < a.no <;> simp [h]
theorem addL_comm (a b : Term) (h : a.no ≠ b.no) : ∀ l : List Term, addL (addL l a) b = addL (addL l b) a
  | [] => by
    rw [addL_nil, addL_nil, addL_cons, addL_cons, addL_nil, addL_nil]
    by_cases h1 : a.no < b.no
    · rw [if_pos h1, if_neg (by omega)]
    · rw [if_neg h1, if_pos (by omega)]
  | y :: l => by
    rw [addL_cons y l a, addL_cons y l b]
    by_cases h1 : y.no < a.no <;> by_cases h2 : y.no < b.no
    · rw [if_pos h1, if_pos h2, addL_cons, addL_cons, if_pos h1, if_pos h2, addL_comm a b h l]
    · rw [if_pos h1, if_neg h2, addL_cons, if_neg h2, addL_cons b, if_pos (by omega), addL_cons, if_pos h1]
    · rw [if_neg h1, if_pos h2, addL_cons a, if_pos (by omega), addL_cons, if_pos h2, addL_cons, if_neg h1]
    · rw [if_neg h1, if_neg h2, addL_cons a, addL_cons b]
      by_cases h3 : a.no < b.no
      · rw [if_pos h3, addL_cons, if_neg h2, if_neg (by omega)]
      · rw [if_neg h3, if_pos (by omega), addL_cons, if_neg h1]
theorem addL_filter (p : Term → Bool) (l : List Term) (a : Term) (h : p a = false) : (addL l a).filter p = l.filter p := by
  unfold addL
  rw [List.filter_append, List.filter_cons, if_neg (by simp [h]), ← List.filter_append, List.take_append_drop]
theorem addL_any (p : Term → Bool) (l : List Term) (a : Term) : (addL l a).any p = (l.any p || p a) := by
  unfold addL
  rw [List.any_append, List.any_cons]
  conv => rhs; rw [← List.take_append_drop (posT a.no l) l, List.any_append]
  cases p a <;> simp
theorem mem_addL {l : List Term} {a y : Term} : y ∈ addL l a ↔ y = a ∨ y ∈ l := by
  refine ⟨addL_mem, fun h => ?_⟩
  unfold addL
  rcases h with rfl | h
  · simp
  · rw [← List.take_append_drop (posT a.no l) l] at h
    rcases List.mem_append.1 h with h | h
    · exact List.mem_append_left _ h
    · exact List.mem_append_right _ (List.mem_cons_of_mem _ h)
theorem hasT_addL (n : Int) (l : List Term) (a : Term) : hasT n (addL l a) = (hasT n l || a.no == n) := addL_any _ l a
theorem addL_pairwise (a : Term) : ∀ l : List Term, l.Pairwise (fun x y => x.no < y.no) → hasT a.no l = false → (addL l a).Pairwise (fun x y => x.no < y.no)
  | [], _, _ => by rw [addL_nil]; simp
  | y :: l, h, hh => by
    have hh2 : y.no ≠ a.no ∧ hasT a.no l = false := by
      unfold hasT at hh ⊢
      simpa using hh
    rw [addL_cons]
    obtain ⟨h1, h2⟩ := List.pairwise_cons.1 h
    by_cases hy : y.no < a.no
    · rw [if_pos hy]
      refine List.pairwise_cons.2 ⟨fun z hz => ?_, addL_pairwise a l h2 hh2.2⟩
      rcases mem_addL.1 hz with rfl | hz
      · exact hy
      · exact h1 z hz
    · rw [if_neg hy]
      refine List.pairwise_cons.2 ⟨fun z hz => ?_, h⟩
      rcases List.mem_cons.1 hz with rfl | hz
      · omega
      · have := h1 z hz; omega
theorem addE_zero {l : List Term} {x : Term} (h : addE l x = 0) : checkT l = 0 ∧ x.ok = true ∧ hasT x.no l = false ∧ l.length ≠ 1024 := by
  unfold addE at h
  by_cases h1 : checkT l = 0
  · rw [if_neg (by simpa using h1)] at h
    cases h2 : x.ok
    · rw [h2, if_pos rfl] at h; cases h
    · rw [h2, if_neg (by simp)] at h
      cases h3 : hasT x.no l
      · rw [h3, if_neg (by simp)] at h
        by_cases h4 : l.length = 1024
        · rw [if_pos h4] at h; cases h
        · exact ⟨h1, rfl, rfl, h4⟩
      · rw [h3, if_pos rfl] at h; cases h
  · rw [if_pos h1] at h; exact absurd h h1
theorem addE_mk {l : List Term} {x : Term} (h1 : checkT l = 0) (h2 : x.ok = true) (h3 : hasT x.no l = false) (h4 : l.length ≠ 1024) : addE l x = 0 := by
  unfold addE
  rw [if_neg (by simpa using h1), h2, if_neg (by simp), h3, if_neg (by simp), if_neg h4]
theorem addL_check {l : List Term} {x : Term} (h : addE l x = 0) : checkT (addL l x) = 0 := by
  obtain ⟨h1, h2, h3, h4⟩ := addE_zero h
  obtain ⟨c1, c2, c3⟩ := checkT_zero h1
  refine checkT_mk (by rw [addL_length]; omega) (fun y hy => ?_) (addL_pairwise x l c3 h3)
  rcases mem_addL.1 hy with rfl | hy
  · exact h2
  · exact c2 y hy
theorem added_two {l : List Term} {a b : Term} (hl : l.length ≤ 30) (ha : addE l a = 0) (hb : addE (addL l a) b ≠ 0) (hz : addE l b = 0) : a.no = b.no := by
  obtain ⟨h1, h2, h3, h4⟩ := addE_zero hz
  refine Decidable.byContradiction fun hne => hb (addE_mk (addL_check ha) h2 ?_ (by rw [addL_length]; omega))
  rw [hasT_addL, h3, Bool.false_or]
  simpa using hne
theorem added_both {l : List Term} {a b : Term} (ha : addE l a = 0) (hb : addE (addL l a) b = 0) : addE l b = 0 ∧ addE (addL l b) a = 0 ∧ addL (addL l b) a = addL (addL l a) b := by
  obtain ⟨h1, h2, h3, h4⟩ := addE_zero ha
  obtain ⟨g1, g2, g3, g4⟩ := addE_zero hb
  rw [hasT_addL, Bool.or_eq_false_iff] at g3
  have hne : a.no ≠ b.no := by simpa using g3.2
  have hlb : addE l b = 0 := addE_mk h1 g2 g3.1 h4
  refine ⟨hlb, addE_mk (addL_check hlb) h2 ?_ ?_, (addL_comm a b hne l).symm⟩
  · rw [hasT_addL, h3, Bool.false_or]
    simpa using hne.symm
  · rw [addL_length] at g4 ⊢; exact g4
def addOut (l : List Term) (x : Term) : List Term := if addE l x = 0 then addL l x else []
theorem addPost_out {l : List Term} {x : Term} {w w' : World} {e : Ending} (h : AddPost l x w e w') :
    Below w.heap.size w w' ∧ ∃ A c, e = .returned (.tuple #[.slice A (addOut l x).length c, .int .i64 (addE l x)]) ∧ TermsAt w' A (addOut l x) ∧ (A = none → addOut l x = []) := by
  rcases h with ⟨hb, ⟨hne, rfl⟩ | ⟨hz, A, c, rfl, hT, hN⟩⟩
  · refine ⟨hb, none, 0, ?_, ?_, fun _ => ?_⟩
    · unfold addOut; rw [if_neg hne]; rfl
    · unfold addOut; rw [if_neg hne]; exact TermsAt.nil _ _
    · unfold addOut; rw [if_neg hne]
  · refine ⟨hb, A, c, ?_, ?_, fun h => ?_⟩
    · unfold addOut; rw [if_pos hz, hz]
    · unfold addOut; rw [if_pos hz]; exact hT
    · unfold addOut; rw [if_pos hz]; exact hN h
end Go.Proofs.YtmindojbkedmlaaDoor
