/- slices.BinarySearchFunc at hansard/api.House, by the number. -/
import Derived.Test.YtmindojbkedmlaaM2
import Derived.Test.YtmindojbkedmlaaShelf
import Derived.Deep.LoopGhost
namespace Go.Proofs.Ytmindojbkedmlaa
open Go.RowKit Go.Han
attribute [local irreducible] wpStill wpQuiet

def numFnH : Value := .func (.func 65) #[] #[]
theorem compareH_any (n : Int) (x : House) (w : World) : Calls Try.prog 65 #[x.val, .int .i64 n] w fun e w' => e = .returned (.int .i64 (Lib.compareInt x.no n)) ∧ Below w.heap.size w w' := by
  have hv : x.val = .agg #[.int .i64 x.no, .int .i64 x.kind, .int .i64 x.speaker, .int .i64 x.first, .int .i64 x.last, .int .i64 x.lang, .int .i64 x.frm, .int .i64 x.until_, .int .i64 x.known, .int .i64 x.ms] := rfl
  have hc := fun W => Try.cmp_Compare_int x.no n W
  rw [hv]
  generalize Lib.compareInt x.no n = r at *
  clear hv
  go_enter Try.func65, Try.ntmps65
  go_wp2_with fail
  refine (hc _).mono ?_
  rintro e w' ⟨rfl, rfl⟩
  go_wp2
  go_ret
  exact ⟨rfl, ext_alloc (Below.refl _ _) _⟩

/-- How many spots of l lie ahead of n: all that do are at the front. -/
structure CutH (n : Int) (l : List House) (k : Nat) : Prop where
  le : k ≤ l.length
  lo : ∀ (t : Nat) (h : t < l.length), t < k → l[t].no < n
  hi : ∀ (t : Nat) (h : t < l.length), k ≤ t → n ≤ l[t].no
def headH (n : Int) (l : List House) (k : Nat) : Bool := match l[k]? with | some x => x.no == n | none => false
def AscH (l : List House) : Prop := ∀ (a b : Nat) (ha : a < l.length) (hb : b < l.length), a < b → l[a].no < l[b].no

def SearchPostH (n : Int) (l : List House) (w : World) (e : Ending) (w' : World) : Prop :=
  Below w.heap.size w w' ∧ ∃ k, CutH n l k ∧ e = .returned (.tuple #[.int .i64 k, .bool (headH n l k)])

set_option maxRecDepth 100000 in
set_option maxHeartbeats 1000000 in
theorem searchH_any (n : Int) (A : Option Addr) (c : Nat) (l : List House) (w : World) (hr : Rd w A (hflat l)) (hm : l.length < 4611686018427387904) (hs : AscH l) :
    Calls Try.prog 64 #[.slice A l.length c, .int .i64 n, numFnH] w (SearchPostH n l w) := by
  have eg : ∀ args w, (callFunc 65 args).run Try.prog w = .ok (.enter 65 args) w := enters_of Try.func65 (by kernel_rfl) rfl
  have Hs := Lib.hid hs
  clear hs
  unfold numFnH
  go_enter Try.func64, Try.ntmps64
  go_wp2
  go_loopg [9, 10] l.length (fun kx s9 s10 wr => ∃ lo hi : Nat, s9 = .int .i64 lo ∧ s10 = .int .i64 hi ∧ lo ≤ hi ∧ hi ≤ l.length ∧ hi - lo ≤ kx ∧ Below w.heap.size w wr ∧
    Hid ((∀ (t : Nat) (h : t < l.length), t < lo → l[t].no < n) ∧ (∀ (t : Nat) (h : t < l.length), hi ≤ t → n ≤ l[t].no)))
  case atStart => exact ⟨0, l.length, rfl, rfl, Nat.zero_le _, Nat.le_refl _, by omega, Below.refl _ _, ⟨fun t h ht => absurd ht (Nat.not_lt_zero _), fun t h1 h2 => by omega⟩⟩
  case round =>
    obtain ⟨lo, hi, rfl, rfl, hlh, hin, hg, hB, I⟩ := hrel
    have hz := hB.size
    by_cases hlt : lo < hi
    · obtain ⟨md, hmd⟩ : ∃ md, (lo + hi) / 2 = md := ⟨_, rfl⟩
      have hmd1 : lo ≤ md := by omega
      have hmd2 : md < hi := by omega
      have hmid : md < l.length := by omega
      have h0m : ((lo : Int) + (hi : Int)) / 2 = (md : Int) := by omega
      obtain ⟨b, off, rfl, hb, hc⟩ := hr.elem House.size_cells (by omega) hmid
      have h1 := (hB.cell (p := ⟨b, off + md * 10 + 0, none⟩) hb).trans (hc 0 _ rfl)
      have h2 := (hB.cell (p := ⟨b, off + md * 10 + 1, none⟩) hb).trans (hc 1 _ rfl)
      have h3 := (hB.cell (p := ⟨b, off + md * 10 + 2, none⟩) hb).trans (hc 2 _ rfl)
      have h4 := (hB.cell (p := ⟨b, off + md * 10 + 3, none⟩) hb).trans (hc 3 _ rfl)
      have h5 := (hB.cell (p := ⟨b, off + md * 10 + 4, none⟩) hb).trans (hc 4 _ rfl)
      have h6 := (hB.cell (p := ⟨b, off + md * 10 + 5, none⟩) hb).trans (hc 5 _ rfl)
      have h7 := (hB.cell (p := ⟨b, off + md * 10 + 6, none⟩) hb).trans (hc 6 _ rfl)
      have h8 := (hB.cell (p := ⟨b, off + md * 10 + 7, none⟩) hb).trans (hc 7 _ rfl)
      have h9 := (hB.cell (p := ⟨b, off + md * 10 + 8, none⟩) hb).trans (hc 8 _ rfl)
      have h10 := (hB.cell (p := ⟨b, off + md * 10 + 9, none⟩) hb).trans (hc 9 _ rfl)
      clear hc hr
      simp only [Nat.add_zero] at h1
      have hbx : b < wr.heap.size := by omega
      have hcmp : Hid (∀ W, Calls _ _ _ W fun e w' => e = .returned (.int .i64 (Lib.compareInt l[md].no n)) ∧ Below W.heap.size W w') := fun W => compareH_any n l[md] W
      obtain ⟨r, hr⟩ : ∃ r, Lib.compareInt l[md].no n = r := ⟨_, rfl⟩
      rw [hr] at hcmp
      obtain ⟨x, hx⟩ : ∃ x, l[md] = x := ⟨_, rfl⟩
      rw [hx] at h1 h2 h3 h4 h5 h6 h7 h8 h9 h10 hcmp hr
      have Hr := Lib.hid hr
      clear hr
      have Hx := Lib.hid hx
      clear hx
      have hBd := hB
      by_cases hrn : r < 0
      · have hxn : Hid (x.no < n) := by
          have hx5 := Hr.out
          unfold Lib.compareInt at hx5
          show x.no < n
          split at hx5
          · assumption
          · split at hx5 <;> omega
        go_wp2_with fail
        refine (hcmp.out _).mono ?_
        rintro e w1 ⟨rfl, hb1⟩
        have hB1 := hBd.trans (hb1.mono hBd.size)
        go_wp2
        go_roundg (hi - (md + 1))
        case measure => omega
        case rel =>
          refine ⟨md + 1, hi, by go_num, rfl, by omega, hin, Nat.le_refl _, hB1, ⟨fun t h ht => ?_, I.out.2⟩⟩
          by_cases he : t = md
          · subst he; rw [Hx.out]; exact hxn.out
          · have := Hs.out t md h hmid (by omega)
            rw [Hx.out] at this
            have := hxn.out
            omega
      · have hxn : Hid (n ≤ x.no) := by
          have hx5 := Hr.out
          unfold Lib.compareInt at hx5
          show n ≤ x.no
          split at hx5
          · omega
          · omega
        go_wp2_with fail
        refine (hcmp.out _).mono ?_
        rintro e w1 ⟨rfl, hb1⟩
        have hB1 := hBd.trans (hb1.mono hBd.size)
        go_wp2
        go_roundg (md - lo)
        case measure => omega
        case rel =>
          refine ⟨lo, md, rfl, rfl, by omega, by omega, Nat.le_refl _, hB1, ⟨I.out.1, fun t h ht => ?_⟩⟩
          by_cases he : t = md
          · subst he; rw [Hx.out]; exact hxn.out
          · have := Hs.out md t hmid h (by omega)
            rw [Hx.out] at this
            have := hxn.out
            omega
    · obtain rfl : hi = lo := by omega
      have HC : Hid (CutH n l hi) := ⟨hin, I.out.1, I.out.2⟩
      by_cases hlt2 : hi < l.length
      · obtain ⟨b, off, rfl, hb, hc⟩ := hr.elem House.size_cells (by omega) hlt2
        have h1 := (hB.cell (p := ⟨b, off + hi * 10 + 0, none⟩) hb).trans (hc 0 _ rfl)
        have h2 := (hB.cell (p := ⟨b, off + hi * 10 + 1, none⟩) hb).trans (hc 1 _ rfl)
        have h3 := (hB.cell (p := ⟨b, off + hi * 10 + 2, none⟩) hb).trans (hc 2 _ rfl)
        have h4 := (hB.cell (p := ⟨b, off + hi * 10 + 3, none⟩) hb).trans (hc 3 _ rfl)
        have h5 := (hB.cell (p := ⟨b, off + hi * 10 + 4, none⟩) hb).trans (hc 4 _ rfl)
        have h6 := (hB.cell (p := ⟨b, off + hi * 10 + 5, none⟩) hb).trans (hc 5 _ rfl)
        have h7 := (hB.cell (p := ⟨b, off + hi * 10 + 6, none⟩) hb).trans (hc 6 _ rfl)
        have h8 := (hB.cell (p := ⟨b, off + hi * 10 + 7, none⟩) hb).trans (hc 7 _ rfl)
        have h9 := (hB.cell (p := ⟨b, off + hi * 10 + 8, none⟩) hb).trans (hc 8 _ rfl)
        have h10 := (hB.cell (p := ⟨b, off + hi * 10 + 9, none⟩) hb).trans (hc 9 _ rfl)
        clear hc hr
        simp only [Nat.add_zero] at h1
        have hbx : b < wr.heap.size := by omega
        have hcmp : Hid (∀ W, Calls _ _ _ W fun e w' => e = .returned (.int .i64 (Lib.compareInt l[hi].no n)) ∧ Below W.heap.size W w') := fun W => compareH_any n l[hi] W
        have hhd : Hid (headH n l hi = decide (Lib.compareInt l[hi].no n = 0)) := by
          show headH n l hi = _
          unfold headH Lib.compareInt
          rw [List.getElem?_eq_getElem hlt2]
          simp only
          split
          · simp; omega
          · split
            · simp; omega
            · simp; omega
        obtain ⟨x, hx⟩ : ∃ x, l[hi] = x := ⟨_, rfl⟩
        rw [hx] at h1 h2 h3 h4 h5 h6 h7 h8 h9 h10 hcmp hhd
        clear hx
        by_cases hr0 : Lib.compareInt x.no n = 0
        · have g1 : (Lib.compareInt x.no n == 0) = true := by simpa using hr0
          have HT : Hid (headH n l hi = true) := by show _ = _; rw [hhd.out, decide_eq_true hr0]
          generalize Lib.compareInt x.no n = r at *
          clear hr0
          go_wp2_with fail
          refine (hcmp.out _).mono ?_
          rintro e w1 ⟨rfl, hb1⟩
          go_wp2
          go_ret2
          exact ⟨hB.trans (hb1.mono hz), hi, HC.out, by rw [HT.out]; rfl⟩
        · have g1 : (Lib.compareInt x.no n == 0) = false := by simpa using hr0
          have HT : Hid (headH n l hi = false) := by show _ = _; rw [hhd.out, decide_eq_false hr0]
          generalize Lib.compareInt x.no n = r at *
          clear hr0
          go_wp2_with fail
          refine (hcmp.out _).mono ?_
          rintro e w1 ⟨rfl, hb1⟩
          go_wp2
          go_ret2
          exact ⟨hB.trans (hb1.mono hz), hi, HC.out, by rw [HT.out]; rfl⟩
      · have HT : Hid (headH n l hi = false) := by
          show _ = _
          unfold headH
          rw [List.getElem?_eq_none (by omega)]
        clear Hs I hlh hg hlt eg
        go_wp2_with fail
        go_ret2
        exact ⟨hB, hi, HC.out, by rw [HT.out]; rfl⟩
end Go.Proofs.Ytmindojbkedmlaa
