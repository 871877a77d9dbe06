/- slices.BinarySearchFunc at hansard/api.Term, by the number. -/
import Derived.Test.YtneanannicacnaaDoorTerm5
import Derived.Test.YtneanannicacnaaDoorShelf
import Derived.Deep.LoopGhost
namespace Go.Proofs.YtneanannicacnaaDoor
open Go.RowKit Go.Han
attribute [local irreducible] wpStill wpQuiet

def numFnT : Value := .func (.func 64) #[] #[]
theorem compareT_any (n : Int) (x : Term) (w : World) : Calls Tryd.prog 64 #[x.val, .int .i64 n] w fun e w' => e = .returned (.int .i64 (Lib.compareInt x.no n)) ∧ Below w.heap.size w w' := by
  have hv : x.val = .agg #[.int .i64 x.no, .int .i64 x.at_, .int .i64 x.known, .int .i64 x.lang, .slice x.src.addr x.src.xs.length x.src.cap, .slice x.tgt.addr x.tgt.xs.length x.tgt.cap, .string x.cat, .bool x.gone] := rfl
  have hc := fun W => Tryd.cmp_Compare_int x.no n W
  rw [hv]
  generalize Lib.compareInt x.no n = r at *
  clear hv
  go_enter Tryd.func64, Tryd.ntmps64
  go_wp2_with fail
  refine (hc _).mono ?_
  rintro e w' ⟨rfl, rfl⟩
  go_wp2
  go_ret
  exact ⟨rfl, ext_alloc (Below.refl _ _) _⟩

/-- How many spots of l lie ahead of n: all that do are at the front. -/
structure CutT (n : Int) (l : List Term) (k : Nat) : Prop where
  le : k ≤ l.length
  lo : ∀ (t : Nat) (h : t < l.length), t < k → l[t].no < n
  hi : ∀ (t : Nat) (h : t < l.length), k ≤ t → n ≤ l[t].no
def headT (n : Int) (l : List Term) (k : Nat) : Bool := match l[k]? with | some x => x.no == n | none => false
def AscT (l : List Term) : Prop := ∀ (a b : Nat) (ha : a < l.length) (hb : b < l.length), a < b → l[a].no < l[b].no

def SearchPostT (n : Int) (l : List Term) (w : World) (e : Ending) (w' : World) : Prop :=
  Below w.heap.size w w' ∧ ∃ k, CutT n l k ∧ e = .returned (.tuple #[.int .i64 k, .bool (headT n l k)])

set_option maxRecDepth 100000 in
set_option maxHeartbeats 1000000 in
theorem searchT_any (n : Int) (A : Option Addr) (c : Nat) (l : List Term) (w : World) (hr : Rd w A (tflat l)) (hm : l.length < 4611686018427387904) (hs : AscT l) :
    Calls Tryd.prog 63 #[.slice A l.length c, .int .i64 n, numFnT] w (SearchPostT n l w) := by
  have eg : ∀ args w, (callFunc 64 args).run Tryd.prog w = .ok (.enter 64 args) w := enters_of Tryd.func64 (by kernel_rfl) rfl
  have Hs := Lib.hid hs
  clear hs
  unfold numFnT
  go_enter Tryd.func63, Tryd.ntmps63
  go_wp2
  go_loopg [9, 10] l.length (fun kx s9 s10 wr => ∃ lo hi : Nat, s9 = .int .i64 lo ∧ s10 = .int .i64 hi ∧ lo ≤ hi ∧ hi ≤ l.length ∧ hi - lo ≤ kx ∧ Below w.heap.size w wr ∧
    Hid ((∀ (t : Nat) (h : t < l.length), t < lo → l[t].no < n) ∧ (∀ (t : Nat) (h : t < l.length), hi ≤ t → n ≤ l[t].no)))
  case atStart => exact ⟨0, l.length, rfl, rfl, Nat.zero_le _, Nat.le_refl _, by omega, Below.refl _ _, ⟨fun t h ht => absurd ht (Nat.not_lt_zero _), fun t h1 h2 => by omega⟩⟩
  case round =>
    obtain ⟨lo, hi, rfl, rfl, hlh, hin, hg, hB, I⟩ := hrel
    have hz := hB.size
    by_cases hlt : lo < hi
    · obtain ⟨md, hmd⟩ : ∃ md, (lo + hi) / 2 = md := ⟨_, rfl⟩
      have hmd1 : lo ≤ md := by omega
      have hmd2 : md < hi := by omega
      have hmid : md < l.length := by omega
      have h0m : ((lo : Int) + (hi : Int)) / 2 = (md : Int) := by omega
      obtain ⟨b, off, rfl, hb, hc⟩ := hr.elem Term.size_cells (by omega) hmid
      have h1 := (hB.cell (p := ⟨b, off + md * 8 + 0, none⟩) hb).trans (hc 0 _ rfl)
      have h2 := (hB.cell (p := ⟨b, off + md * 8 + 1, none⟩) hb).trans (hc 1 _ rfl)
      have h3 := (hB.cell (p := ⟨b, off + md * 8 + 2, none⟩) hb).trans (hc 2 _ rfl)
      have h4 := (hB.cell (p := ⟨b, off + md * 8 + 3, none⟩) hb).trans (hc 3 _ rfl)
      have h5 := (hB.cell (p := ⟨b, off + md * 8 + 4, none⟩) hb).trans (hc 4 _ rfl)
      have h6 := (hB.cell (p := ⟨b, off + md * 8 + 5, none⟩) hb).trans (hc 5 _ rfl)
      have h7 := (hB.cell (p := ⟨b, off + md * 8 + 6, none⟩) hb).trans (hc 6 _ rfl)
      have h8 := (hB.cell (p := ⟨b, off + md * 8 + 7, none⟩) hb).trans (hc 7 _ rfl)
      clear hc hr
      simp only [Nat.add_zero] at h1
      have hbx : b < wr.heap.size := by omega
      have hcmp : Hid (∀ W, Calls _ _ _ W fun e w' => e = .returned (.int .i64 (Lib.compareInt l[md].no n)) ∧ Below W.heap.size W w') := fun W => compareT_any n l[md] W
      obtain ⟨r, hr⟩ : ∃ r, Lib.compareInt l[md].no n = r := ⟨_, rfl⟩
      rw [hr] at hcmp
      obtain ⟨x, hx⟩ : ∃ x, l[md] = x := ⟨_, rfl⟩
      rw [hx] at h1 h2 h3 h4 h5 h6 h7 h8 hcmp hr
      have Hr := Lib.hid hr
      clear hr
      have Hx := Lib.hid hx
      clear hx
      have hBd := hB
      by_cases hrn : r < 0
      · have hxn : Hid (x.no < n) := by
          have hx5 := Hr.out
          unfold Lib.compareInt at hx5
          show x.no < n
          split at hx5
          · assumption
          · split at hx5 <;> omega
        go_wp2_with fail
        refine (hcmp.out _).mono ?_
        rintro e w1 ⟨rfl, hb1⟩
        have hB1 := hBd.trans (hb1.mono hBd.size)
        go_wp2
        go_roundg (hi - (md + 1))
        case measure => omega
        case rel =>
          refine ⟨md + 1, hi, by go_num, rfl, by omega, hin, Nat.le_refl _, hB1, ⟨fun t h ht => ?_, I.out.2⟩⟩
          by_cases he : t = md
          · subst he; rw [Hx.out]; exact hxn.out
          · have := Hs.out t md h hmid (by omega)
            rw [Hx.out] at this
            have := hxn.out
            omega
      · have hxn : Hid (n ≤ x.no) := by
          have hx5 := Hr.out
          unfold Lib.compareInt at hx5
          show n ≤ x.no
          split at hx5
          · omega
          · omega
        go_wp2_with fail
        refine (hcmp.out _).mono ?_
        rintro e w1 ⟨rfl, hb1⟩
        have hB1 := hBd.trans (hb1.mono hBd.size)
        go_wp2
        go_roundg (md - lo)
        case measure => omega
        case rel =>
          refine ⟨lo, md, rfl, rfl, by omega, by omega, Nat.le_refl _, hB1, ⟨I.out.1, fun t h ht => ?_⟩⟩
          by_cases he : t = md
          · subst he; rw [Hx.out]; exact hxn.out
          · have := Hs.out md t hmid h (by omega)
            rw [Hx.out] at this
            have := hxn.out
            omega
    · obtain rfl : hi = lo := by omega
      have HC : Hid (CutT n l hi) := ⟨hin, I.out.1, I.out.2⟩
      by_cases hlt2 : hi < l.length
      · obtain ⟨b, off, rfl, hb, hc⟩ := hr.elem Term.size_cells (by omega) hlt2
        have h1 := (hB.cell (p := ⟨b, off + hi * 8 + 0, none⟩) hb).trans (hc 0 _ rfl)
        have h2 := (hB.cell (p := ⟨b, off + hi * 8 + 1, none⟩) hb).trans (hc 1 _ rfl)
        have h3 := (hB.cell (p := ⟨b, off + hi * 8 + 2, none⟩) hb).trans (hc 2 _ rfl)
        have h4 := (hB.cell (p := ⟨b, off + hi * 8 + 3, none⟩) hb).trans (hc 3 _ rfl)
        have h5 := (hB.cell (p := ⟨b, off + hi * 8 + 4, none⟩) hb).trans (hc 4 _ rfl)
        have h6 := (hB.cell (p := ⟨b, off + hi * 8 + 5, none⟩) hb).trans (hc 5 _ rfl)
        have h7 := (hB.cell (p := ⟨b, off + hi * 8 + 6, none⟩) hb).trans (hc 6 _ rfl)
        have h8 := (hB.cell (p := ⟨b, off + hi * 8 + 7, none⟩) hb).trans (hc 7 _ rfl)
        clear hc hr
        simp only [Nat.add_zero] at h1
        have hbx : b < wr.heap.size := by omega
        have hcmp : Hid (∀ W, Calls _ _ _ W fun e w' => e = .returned (.int .i64 (Lib.compareInt l[hi].no n)) ∧ Below W.heap.size W w') := fun W => compareT_any n l[hi] W
        have hhd : Hid (headT n l hi = decide (Lib.compareInt l[hi].no n = 0)) := by
          show headT n l hi = _
          unfold headT Lib.compareInt
          rw [List.getElem?_eq_getElem hlt2]
          simp only
          split
          · simp; omega
          · split
            · simp; omega
            · simp; omega
        obtain ⟨x, hx⟩ : ∃ x, l[hi] = x := ⟨_, rfl⟩
        rw [hx] at h1 h2 h3 h4 h5 h6 h7 h8 hcmp hhd
        clear hx
        by_cases hr0 : Lib.compareInt x.no n = 0
        · have g1 : (Lib.compareInt x.no n == 0) = true := by simpa using hr0
          have HT : Hid (headT n l hi = true) := by show _ = _; rw [hhd.out, decide_eq_true hr0]
          generalize Lib.compareInt x.no n = r at *
          clear hr0
          go_wp2_with fail
          refine (hcmp.out _).mono ?_
          rintro e w1 ⟨rfl, hb1⟩
          go_wp2
          go_ret2
          exact ⟨hB.trans (hb1.mono hz), hi, HC.out, by rw [HT.out]; rfl⟩
        · have g1 : (Lib.compareInt x.no n == 0) = false := by simpa using hr0
          have HT : Hid (headT n l hi = false) := by show _ = _; rw [hhd.out, decide_eq_false hr0]
          generalize Lib.compareInt x.no n = r at *
          clear hr0
          go_wp2_with fail
          refine (hcmp.out _).mono ?_
          rintro e w1 ⟨rfl, hb1⟩
          go_wp2
          go_ret2
          exact ⟨hB.trans (hb1.mono hz), hi, HC.out, by rw [HT.out]; rfl⟩
      · have HT : Hid (headT n l hi = false) := by
          show _ = _
          unfold headT
          rw [List.getElem?_eq_none (by omega)]
        clear Hs I hlh hg hlt eg
        go_wp2_with fail
        go_ret2
        exact ⟨hB, hi, HC.out, by rw [HT.out]; rfl⟩
end Go.Proofs.YtneanannicacnaaDoor
