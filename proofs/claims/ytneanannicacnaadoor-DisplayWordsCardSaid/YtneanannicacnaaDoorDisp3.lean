/- Package display: the search. -/
import Derived.Test.YtneanannicacnaaDoorDisp2
import Derived.Test.YtneanannicacnaaDoorInsSpot
import Derived.Deep.LoopGhost
import Derived.Deep.Draws
import Derived.StillTailTactics
import Derived.Shelf.SlSortCmp.QuietGrown
namespace Go.Proofs.YtneanannicacnaaDoor
open Go.RowKit Go.Han
attribute [local irreducible] wpStill wpQuiet

def numFn (n : Int) : Value := .func (.func 89) #[.int .i64 n] #[]
theorem compare_any (n : Int) (x : Spot) (w : World) : Calls Tryd.prog 89 #[.int .i64 n, x.val, .agg #[]] w fun e w' => e = .returned (.int .i64 (Lib.compareInt x.id n)) ∧ Below w.heap.size w w' := by
  obtain ⟨i, v, s⟩ := x
  unfold Spot.val
  simp only
  have hc := fun W => Tryd.cmp_Compare_int i n W
  generalize Lib.compareInt i n = r at *
  go_enter Tryd.func89, Tryd.ntmps89
  go_wp2_with fail
  refine (hc _).mono ?_
  rintro e w' ⟨rfl, rfl⟩
  go_wp2
  go_ret
  exact ⟨rfl, ((Below.refl _ _).alloc (Nat.le_refl _) _).alloc (by simp) _⟩

theorem below_grow (B : Nat) (w : World) (q : Nat) (os : Array Obj) (hB : B ≤ w.heap.size) : Below B w (Sort.grow (w.drewN q) os) :=
  ⟨rfl, rfl, rfl, by first | (simp [Sort.grow]; done) | (simp [Sort.grow]; omega), fun i hi => by
    show ((w.drewN q).heap ++ os)[i]? = _
    rw [Array.getElem?_append_left (by show i < w.heap.size; omega)]
    rfl⟩
theorem decide_beq (a b : Int) : decide (a = b) = (a == b) := by
  by_cases h : a = b <;> simp [h]
open Go.Sort in
theorem compare_grown (n : Int) (x : Spot) (w : World) : Calls Tryd.prog 89 #[.int .i64 n, x.val, .agg #[]] w fun e w' => e = .returned (.int .i64 (Lib.compareInt x.id n)) ∧ ∃ q os, w' = grow (w.drewN q) os := by
  obtain ⟨i, v, s⟩ := x
  unfold Spot.val
  simp only
  have hc := fun W => Tryd.cmp_Compare_int i n W
  generalize Lib.compareInt i n = r at *
  go_enter Tryd.func89, Tryd.ntmps89
  go_wp2_with fail
  refine (hc _).mono ?_
  rintro e w' ⟨rfl, rfl⟩
  go_wp2
  go_ret
  exact ⟨rfl, 0, _, by rw [alloc_eq_grow, alloc_eq_grow]; show grow (grow w _) _ = _; rw [grow_grow]; rfl⟩
/-- How many spots of l lie ahead of n: all that do are at the front. -/
structure Cut (n : Int) (l : List Spot) (k : Nat) : Prop where
  le : k ≤ l.length
  lo : ∀ (t : Nat) (h : t < l.length), t < k → l[t].id < n
  hi : ∀ (t : Nat) (h : t < l.length), k ≤ t → n ≤ l[t].id
def headB (n : Int) (l : List Spot) (k : Nat) : Bool := match l[k]? with | some x => x.id == n | none => false
def Asc (l : List Spot) : Prop := ∀ (a b : Nat) (ha : a < l.length) (hb : b < l.length), a < b → l[a].id < l[b].id

def SearchPost (n : Int) (l : List Spot) (w : World) (e : Ending) (w' : World) : Prop :=
  Below w.heap.size w w' ∧ ∃ k, Cut n l k ∧ e = .returned (.tuple #[.int .i64 k, .bool (headB n l k)])

set_option maxRecDepth 100000 in
set_option maxHeartbeats 1000000 in
theorem search_any (n : Int) (A : Option Addr) (c : Nat) (l : List Spot) (w : World) (hr : Rd w A (l.flatMap Spot.cells)) (hm : l.length < 4611686018427387904) (hs : Asc l) :
    Calls Tryd.prog 88 #[.slice A l.length c, .agg #[], numFn n] w (SearchPost n l w) := by
  have eg : ∀ args w, (callFunc 89 args).run Tryd.prog w = .ok (.enter 89 args) w := enters_of Tryd.func89 (by kernel_rfl) rfl
  have Hs := Lib.hid hs
  clear hs
  unfold numFn
  go_enter Tryd.func88, Tryd.ntmps88
  go_wp2
  go_loopg [9, 10] l.length (fun kx s9 s10 wr => ∃ lo hi : Nat, s9 = .int .i64 lo ∧ s10 = .int .i64 hi ∧ lo ≤ hi ∧ hi ≤ l.length ∧ hi - lo ≤ kx ∧ Below w.heap.size w wr ∧
    Hid ((∀ (t : Nat) (h : t < l.length), t < lo → l[t].id < n) ∧ (∀ (t : Nat) (h : t < l.length), hi ≤ t → n ≤ l[t].id)))
  case atStart => exact ⟨0, l.length, rfl, rfl, Nat.zero_le _, Nat.le_refl _, by omega, (Below.refl _ _).alloc (Nat.le_refl _) _, ⟨fun t h ht => absurd ht (Nat.not_lt_zero _), fun t h1 h2 => by omega⟩⟩
  case round =>
    obtain ⟨lo, hi, rfl, rfl, hlh, hin, hg, hB, I⟩ := hrel
    have hz := hB.size
    by_cases hlt : lo < hi
    · obtain ⟨md, hmd⟩ : ∃ md, (lo + hi) / 2 = md := ⟨_, rfl⟩
      have hmd1 : lo ≤ md := by omega
      have hmd2 : md < hi := by omega
      have hmid : md < l.length := by omega
      have h0m : ((lo : Int) + (hi : Int)) / 2 = (md : Int) := by omega
      obtain ⟨b, off, rfl, hb, hc⟩ := hr.elem Spot.size_cells (by omega) hmid
      have h1 := (hB.cell (p := ⟨b, off + md * 3 + 0, none⟩) hb).trans (hc 0 _ rfl)
      have h2 := (hB.cell (p := ⟨b, off + md * 3 + 1, none⟩) hb).trans (hc 1 _ rfl)
      have h3 := (hB.cell (p := ⟨b, off + md * 3 + 2, none⟩) hb).trans (hc 2 _ rfl)
      clear hc hr
      simp only [Nat.add_zero] at h1
      have hbx : b < wr.heap.size := by omega
      have hcmp : Hid (∀ W, Calls _ _ _ W fun e w' => e = .returned (.int .i64 (Lib.compareInt l[md].id n)) ∧ Below W.heap.size W w') := fun W => compare_any n l[md] W
      obtain ⟨r, hr⟩ : ∃ r, Lib.compareInt l[md].id n = r := ⟨_, rfl⟩
      rw [hr] at hcmp
      obtain ⟨x, hx⟩ : ∃ x, l[md] = x := ⟨_, rfl⟩
      rw [hx] at h1 h2 h3 hcmp hr
      have Hr := Lib.hid hr
      clear hr
      have Hx := Lib.hid hx
      clear hx
      go_wp2_with fail
      go_still_tail 6, (by kernel_rfl)
      change wpList _ _ _ _ _ wr.drew
      have hBd : Below w.heap.size w wr.drew := hB.drew
      generalize wr.drew = wd at *
      clear h1 h2 h3
      by_cases hrn : r < 0
      · have hxn : Hid (x.id < n) := by
          have h5 := Hr.out
          unfold Lib.compareInt at h5
          show x.id < n
          split at h5
          · assumption
          · split at h5 <;> omega
        go_wp2_with fail
        refine (hcmp.out _).mono ?_
        rintro e w1 ⟨rfl, hb1⟩
        have hB1 := hBd.trans (hb1.mono hBd.size)
        go_wp2
        go_roundg (hi - (md + 1))
        case measure => omega
        case rel =>
          refine ⟨md + 1, hi, by go_num, rfl, by omega, hin, Nat.le_refl _, hB1, ⟨fun t h ht => ?_, I.out.2⟩⟩
          by_cases he : t = md
          · subst he; rw [Hx.out]; exact hxn.out
          · have := Hs.out t md h hmid (by omega)
            rw [Hx.out] at this
            have := hxn.out
            omega
      · have hxn : Hid (n ≤ x.id) := by
          have h5 := Hr.out
          unfold Lib.compareInt at h5
          show n ≤ x.id
          split at h5
          · omega
          · omega
        go_wp2_with fail
        refine (hcmp.out _).mono ?_
        rintro e w1 ⟨rfl, hb1⟩
        have hB1 := hBd.trans (hb1.mono hBd.size)
        go_wp2
        go_roundg (md - lo)
        case measure => omega
        case rel =>
          refine ⟨lo, md, rfl, rfl, by omega, by omega, Nat.le_refl _, hB1, ⟨I.out.1, fun t h ht => ?_⟩⟩
          by_cases he : t = md
          · subst he; rw [Hx.out]; exact hxn.out
          · have := Hs.out md t hmid h (by omega)
            rw [Hx.out] at this
            have := hxn.out
            omega
    · obtain rfl : hi = lo := by omega
      have HC : Hid (Cut n l hi) := ⟨hin, I.out.1, I.out.2⟩
      by_cases hlt2 : hi < l.length
      · obtain ⟨b, off, rfl, hb, hc⟩ := hr.elem Spot.size_cells (by omega) hlt2
        have h1 := (hB.cell (p := ⟨b, off + hi * 3 + 0, none⟩) hb).trans (hc 0 _ rfl)
        have h2 := (hB.cell (p := ⟨b, off + hi * 3 + 1, none⟩) hb).trans (hc 1 _ rfl)
        have h3 := (hB.cell (p := ⟨b, off + hi * 3 + 2, none⟩) hb).trans (hc 2 _ rfl)
        clear hc hr
        simp only [Nat.add_zero] at h1
        have hbx : b < wr.heap.size := by omega
        have hcmp : Hid (∀ W, Calls _ _ _ W fun e w' => e = .returned (.int .i64 (Lib.compareInt l[hi].id n)) ∧ Below W.heap.size W w') := fun W => compare_any n l[hi] W
        have hhd : Hid (headB n l hi = decide (Lib.compareInt l[hi].id n = 0)) := by
          show headB n l hi = _
          unfold headB Lib.compareInt
          rw [List.getElem?_eq_getElem hlt2]
          simp only
          split
          · simp; omega
          · split
            · simp; omega
            · simp; omega
        obtain ⟨x, hx⟩ : ∃ x, l[hi] = x := ⟨_, rfl⟩
        rw [hx] at h1 h2 h3 hcmp hhd
        clear hx
        have mixed : Tryd.prog.follows .mixedOrders = true := by kernel_rfl
        have g1 : ∀ (q : Nat) (os : Array Obj), (Sort.grow (wr.drewN q) os).cell? ⟨b, off + hi * 3, none⟩ = some (.int .i64 x.id) := fun q os => cell_grown (by exact hbx) h1 q os
        have g2 : ∀ (q : Nat) (os : Array Obj), (Sort.grow (wr.drewN q) os).cell? ⟨b, off + hi * 3 + 1, none⟩ = some (.int .i64 x.ver) := fun q os => cell_grown (by exact hbx) h2 q os
        have g3 : ∀ (q : Nat) (os : Array Obj), (Sort.grow (wr.drewN q) os).cell? ⟨b, off + hi * 3 + 2, none⟩ = some (.string x.text) := fun q os => cell_grown (by exact hbx) h3 q os
        clear hcmp
        have hcmp := Lib.hid (fun W => compare_grown n x W)
        go_wp2_with fail
        go_quiet_grown (refine Calls.grown_of (hcmp.out _))
        go_wp2
        go_ret2
        refine ⟨hB.trans (below_grow _ _ _ _ hz), hi, HC.out, ?_⟩
        rw [hhd.out, decide_beq]
        rfl
      · have mixed : Tryd.prog.follows .mixedOrders = true := by kernel_rfl
        clear hr Hs I hlh hg hlt eg
        go_wp2_with fail
        go_still (by kernel_rfl)
        change Exit.then _ _ _ _ wr.drew
        have hBd := hB.drew
        generalize wr.drew = wd at *
        go_wp2
        go_ret2
        refine ⟨hBd, hi, HC.out, ?_⟩
        unfold headB
        rw [List.getElem?_eq_none (by omega)]
        rfl
end Go.Proofs.YtneanannicacnaaDoor
