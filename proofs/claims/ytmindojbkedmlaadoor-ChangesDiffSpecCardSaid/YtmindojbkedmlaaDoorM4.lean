/- Texts of this claim, one after the other: AliD, Grid, AliE, QTail, Round, AliF, Step, IntL, Meet. -/
import Derived.Test.YtmindojbkedmlaaDoorM3
import Derived.Test.YtmindojbkedmlaaDoorM1
import Derived.Test.YtmindojbkedmlaaDoorM2
import Derived.Stop.RegionWithIn
import Derived.Deep.OwnRows
import Derived.StillTail
import Derived.OrdersIn
import Derived.RangeFuncCalls
import Derived.RegionCalls
import Derived.Laws.EntriesVeiled
import Derived.Deep.RegionLaw
import Derived.Deep.DrawnRows
import Derived.Deep.Upon
import Derived.Maps.AppendAt
import Derived.Deep.AppendLies
import Derived.Control
/- Package align: places, the iterator. -/
namespace Go.Proofs.YtmindojbkedmlaaDoor
open Go.RowKit Go.Han
attribute [local irreducible] wpStill wpQuiet
attribute [local go_sem] Oper.semAt_some
set_option maxRecDepth 100000

theorem places21_any (a b : StrS) (w : World) : Calls Tryd.prog 82 #[.agg (pairA a b)] w fun e w' => e = .returned (.func (.func 100) #[] #[.pointer (some ⟨w.heap.size, 0, none⟩)]) ∧ w.alloc (.cells (pairA a b) 79) = w' := by
  have hmf : ∀ (fn : Fn) (first cap : Array Value) (w : World), (Instr.makeFunc fn first cap).run Tryd.prog w = .ok (.func fn first cap) w := fun _ _ _ _ => rfl
  unfold pairA
  go_enter Tryd.func82, Tryd.ntmps82
  go_wp2
  go_ret
  exact ⟨rfl, rfl⟩
def encX (x : Nat × Nat) : Array Value := #[.agg (placeA x.1 x.2)]
/-- Between two rounds of the iterator. -/
def PlInv (B0 bp : Nat) (w0 : World) (J : (Nat → Prop) → List (Nat × Nat) → World → Prop) (pre : List (Nat × Nat)) (wr : World) : Prop :=
  ∃ own : Nat → Prop, J own pre wr ∧ wr.heap[bp]? = w0.heap[bp]? ∧ (∀ j, own j → j ≠ bp) ∧ (∀ j, own j → j < wr.heap.size) ∧ B0 ≤ wr.heap.size
set_option maxHeartbeats 2000000 in
theorem places1 (bp : Nat) (a b : StrS) (w0 : World) (hp : w0.heap[bp]? = some (.cells (pairA a b) 79 (0, 0))) (h1 : a.xs.length ≤ 64) (h2 : b.xs.length ≤ 64) :
    IterC Tryd.prog 100 #[.pointer (some ⟨bp, 0, none⟩)] encX (fun k => k = bp) (fun _ => False) (allP a.xs.length b.xs.length) none w0 := by
  intro l' B0 J Jx Jp own₀ W hR hown hB0 hlive hJ hJx hY h0
  refine (callsIn_wide (n := 0)).1 ?_
  refine callsIn_of_wp Tryd.func100 rfl trivial ?_
  simp only [Tryd.ntmps100, List.size_toArray, List.length_cons, List.length_nil, Nat.reduceAdd, Nat.reduceSub, Array.replicate_succ, Array.replicate_zero, List.push_toArray, List.append_toArray, List.nil_append, List.cons_append]
  obtain ⟨hbl, hbe⟩ := hR bp rfl
  have x0 : W.cell? ⟨bp, 0, none⟩ = some (.slice a.addr a.xs.length a.cap) := gblk (hbe.trans hp) 0
  have H0 : PlInv B0 bp w0 J (doneP a.xs.length b.xs.length 0 0) W := ⟨own₀, by simpa [doneP, rowP] using h0, hbe, fun j hj e => hown j hj e, hlive, hB0⟩
  have HY := Lib.hid hY
  have HP := Lib.hid hp
  clear hR hY hJ hJx hp h0 hbe hown hlive
  gi_wp2
  clear x0
  gi_loopw [3] (fun i wr => ∃ z : Int, -1 ≤ z ∧ z ≤ a.xs.length ∧ i = .int .i64 z ∧ PlInv B0 bp w0 J (doneP a.xs.length b.xs.length ((a.xs.length : Int) - z).toNat 0) wr) (fun i _ => (intOf i + 1).toNat)
  case atStart => exact ⟨a.xs.length, by omega, by omega, rfl, by simpa using H0⟩
  case round =>
    obtain ⟨z, hz1, hz2, rfl, hI⟩ := hrel
    by_cases hz : 0 ≤ z
    · obtain ⟨i, rfl⟩ := Int.eq_ofNat_of_zero_le hz
      have x1 : wr.cell? ⟨bp, 1, none⟩ = some (.slice b.addr b.xs.length b.cap) := by
        obtain ⟨_, _, he, _⟩ := hI
        exact gblk (he.trans HP.out) 1
      have e1 : ((a.xs.length : Int) - (i : Int)).toNat = a.xs.length - i := by omega
      rw [e1] at hI
      have HI := Lib.hid hI
      clear hI e1
      gi_wp2
      obtain ⟨wo, rfl⟩ : ∃ wo : World, wo = wr := ⟨_, rfl⟩
      gi_loopw [4] (fun k wr => ∃ y : Int, -1 ≤ y ∧ y ≤ b.xs.length ∧ k = .int .i64 y ∧ PlInv B0 bp w0 J (doneP a.xs.length b.xs.length (a.xs.length - i) ((b.xs.length : Int) - y).toNat) wr) (fun k _ => (intOf k + 1).toNat)
      case atStart => exact ⟨b.xs.length, by omega, by omega, rfl, by simpa using HI.out⟩
      case round =>
        obtain ⟨y, hy1, hy2, rfl, hI⟩ := hrel
        by_cases hy : 0 ≤ y
        · obtain ⟨k, rfl⟩ := Int.eq_ofNat_of_zero_le hy
          obtain ⟨own, hj, hkeep, hdis, hliv, hBs⟩ := hI
          have e2 : ((b.xs.length : Int) - (k : Int)).toNat = b.xs.length - k := by omega
          rw [e2] at hj
          have hnext := doneP_succ a.xs.length b.xs.length (a.xs.length - i) (b.xs.length - k)
          rw [show a.xs.length - (a.xs.length - i) = i by omega, show b.xs.length - (b.xs.length - k) = k by omega] at hnext
          have hpf : doneP a.xs.length b.xs.length (a.xs.length - i) (b.xs.length - k) ++ [(i, k)] <+: allP a.xs.length b.xs.length := by
            rw [← hnext]; exact doneP_pre (by omega) (by omega)
          obtain ⟨fn, tmps, assign, body, hyy, hRd⟩ := HY.out own _ (i, k) wr hj hpf (fun j hj e => hdis j hj e) hliv
          change (Instr.yield l' #[.agg #[.int .i64 (i : Int), .int .i64 (k : Int)]]).run _ _ = _ at hyy
          have Hn := Lib.hid hnext
          have Hpf := Lib.hid hpf
          have Hkeep := Lib.hid hkeep
          have Hdis := Lib.hid hdis
          have Hbl : Hid (bp < wr.heap.size) := by
            have := hkeep.trans HP.out
            exact lt_block this
          clear hnext hpf hkeep hdis hj e2
          gi_wp2_with fail
          refine ⟨rfl, hRd.mono ?_⟩
          rintro e W3 (⟨own', hbs, (⟨rfl, hj3⟩ | ⟨rfl, hjx⟩)⟩ | ⟨ch, rfl, hjp⟩)
          · have hsz3 := hbs.size
            have hI3 : PlInv B0 bp w0 J (doneP a.xs.length b.xs.length (a.xs.length - i) (b.xs.length - k + 1)) W3 := by
              rw [Hn.out]
              refine ⟨own', hj3, (hbs.block bp Hbl.out (fun h => Hdis.out _ h rfl)).trans Hkeep.out, fun j hjo e => ?_, fun j hjo => hbs.live j hjo, by omega⟩
              rcases hbs.owns j hjo with h | h
              · exact Hdis.out j h e
              · have := Hbl.out; omega
            have HI3 := Lib.hid hI3
            clear hyy hRd hI3
            gi_wp2_with fail
            go_roundw
            case rel => exact ⟨(k : Int) - 1, by omega, by omega, rfl, by rw [show ((b.xs.length : Int) - ((k : Int) - 1)).toNat = b.xs.length - k + 1 by omega]; exact HI3.out⟩
            case measure => simp [intOf]; try omega
          · gi_wp2_with fail
            refine bodyPost_ret (results_none rfl _ _ _) rfl ?_
            exact .inr (.inl ⟨⟨_, rfl⟩, own', _, Hpf.out, hjx⟩)
          · exact ⟨rfl, .inr (.inr (.inl ⟨ch, rfl, hjp⟩))⟩
        · obtain rfl : y = -1 := by omega
          have hI3 : PlInv B0 bp w0 J (doneP a.xs.length b.xs.length (a.xs.length - i + 1) 0) wr := by
            rw [doneP_row]
            rw [show ((b.xs.length : Int) - -1).toNat = b.xs.length + 1 by omega] at hI
            exact hI
          have HI3 := Lib.hid hI3
          clear hI hI3
          gi_wp2_with fail
          go_roundw
          case rel => exact ⟨(i : Int) - 1, by omega, by omega, rfl, by rw [show ((a.xs.length : Int) - ((i : Int) - 1)).toNat = a.xs.length - i + 1 by omega]; exact HI3.out⟩
          case measure => simp [intOf]; try omega
    · obtain rfl : z = -1 := by omega
      gi_wp2_with fail
      go_end0
      obtain ⟨own, hj, _⟩ := hI
      rw [show ((a.xs.length : Int) - -1).toNat = a.xs.length + 1 by omega, doneP_end] at hj
      exact .inl ⟨rfl, ⟨_, rfl⟩, own, hj⟩
end Go.Proofs.YtmindojbkedmlaaDoor

/- A table: rows of numbers, each in a block of its own, and a block of their slices. No program in sight. -/
namespace Go.Han
open Go.RowKit

theorem blk_set {w : World} {b t : Nat} {cs : Array Value} (h : w.heap[b]? = some (.cells cs t (0, 0))) (o : Nat) (u : Value) : (w.setCell ⟨b, o, none⟩ u).heap[b]? = some (.cells (cs.setIfInBounds o u) t (0, 0)) := by
  simp [World.setCell, Array.getElem?_modify, h]
/-- The rows of M are made: row i lies in block rb i, and its number k is f i k. -/
structure Grid (W : World) (H la lb : Nat) (M : Nat → Prop) (rb : Nat → Nat) (f : Nat → Nat → Nat) : Prop where
  hd : ∃ (cs : Array Value) (T : Nat), W.heap[H]? = some (.cells cs T (0, 0)) ∧ cs.size = la + 1 ∧ ∀ i, M i → cs[i]? = some (.slice (some ⟨rb i, 0, none⟩) (lb + 1) (lb + 1))
  row : ∀ i, M i → ∃ (cs : Array Value) (T : Nat), W.heap[rb i]? = some (.cells cs T (0, 0)) ∧ cs.size = lb + 1 ∧ ∀ k, k ≤ lb → cs[k]? = some (.int .i64 (f i k : Nat))
  inj : ∀ i j, M i → M j → rb i = rb j → i = j
  ne : ∀ i, M i → rb i ≠ H
namespace Grid
variable {W : World} {H la lb : Nat} {M : Nat → Prop} {rb : Nat → Nat} {f : Nat → Nat → Nat}
/-- The blocks of a table. -/
def own (H : Nat) (M : Nat → Prop) (rb : Nat → Nat) (k : Nat) : Prop := k = H ∨ ∃ i, M i ∧ k = rb i
theorem lt (h : Grid W H la lb M rb f) : H < W.heap.size := by
  obtain ⟨cs, T, h1, _⟩ := h.hd
  exact lt_block h1
theorem rlt (h : Grid W H la lb M rb f) {i : Nat} (hi : M i) : rb i < W.heap.size := by
  obtain ⟨cs, T, h1, _⟩ := h.row i hi
  exact lt_block h1
theorem olt (h : Grid W H la lb M rb f) {k : Nat} (hk : own H M rb k) : k < W.heap.size := by
  rcases hk with rfl | ⟨i, hi, rfl⟩
  · exact h.lt
  · exact h.rlt hi
theorem of_blocks {W' : World} (h : Grid W H la lb M rb f) (hb : ∀ k, own H M rb k → W'.heap[k]? = W.heap[k]?) : Grid W' H la lb M rb f := by
  refine ⟨?_, fun i hi => ?_, h.inj, h.ne⟩
  · obtain ⟨cs, T, h1, h2⟩ := h.hd
    exact ⟨cs, T, (hb _ (.inl rfl)).trans h1, h2⟩
  · obtain ⟨cs, T, h1, h2⟩ := h.row i hi
    exact ⟨cs, T, (hb _ (.inr ⟨i, hi, rfl⟩)).trans h1, h2⟩
theorem ext {W' : World} (h : Grid W H la lb M rb f) (hb : Below W.heap.size W W') : Grid W' H la lb M rb f :=
  h.of_blocks fun k hk => hb.block k (h.olt hk)
theorem topc (h : Grid W H la lb M rb f) {i : Nat} (hi : M i) : W.cell? ⟨H, i, none⟩ = some (.slice (some ⟨rb i, 0, none⟩) (lb + 1) (lb + 1)) := by
  obtain ⟨cs, T, h1, _, h2⟩ := h.hd
  rw [gblk h1]; exact h2 i hi
theorem topw (h : Grid W H la lb M rb f) {i : Nat} (hi : i ≤ la) : ∃ v, W.cell? ⟨H, i, none⟩ = some v := by
  obtain ⟨cs, T, h1, h2, _⟩ := h.hd
  rw [gblk h1]; exact ⟨cs[i], Array.getElem?_eq_getElem (by omega)⟩
theorem topz (h : Grid W H la lb M rb f) (i : Nat) : W.frozen? ⟨H, i, none⟩ = false := by
  obtain ⟨cs, T, h1, _⟩ := h.hd
  exact frozen_one h1 i
theorem cell (h : Grid W H la lb M rb f) {i k : Nat} (hi : M i) (hk : k ≤ lb) : W.cell? ⟨rb i, k, none⟩ = some (.int .i64 (f i k : Nat)) := by
  obtain ⟨cs, T, h1, _, h2⟩ := h.row i hi
  rw [gblk h1]; exact h2 k hk
theorem free (h : Grid W H la lb M rb f) {i : Nat} (hi : M i) (k : Nat) : W.frozen? ⟨rb i, k, none⟩ = false := by
  obtain ⟨cs, T, h1, _⟩ := h.row i hi
  exact frozen_one h1 k
def upd (f : Nat → Nat → Nat) (i k v : Nat) : Nat → Nat → Nat := fun j m => if j = i ∧ m = k then v else f j m
theorem upd_same (f : Nat → Nat → Nat) (i k v : Nat) : upd f i k v i k = v := by unfold upd; rw [if_pos ⟨rfl, rfl⟩]
theorem upd_other {f : Nat → Nat → Nat} {i k v j m : Nat} (h : ¬ (j = i ∧ m = k)) : upd f i k v j m = f j m := by unfold upd; rw [if_neg h]
theorem store (h : Grid W H la lb M rb f) {i k : Nat} (hi : M i) (hk : k ≤ lb) (v : Nat) : Grid (W.setCell ⟨rb i, k, none⟩ (.int .i64 (v : Nat))) H la lb M rb (upd f i k v) := by
  refine ⟨?_, fun j hj => ?_, h.inj, h.ne⟩
  · obtain ⟨cs, T, h1, h2⟩ := h.hd
    exact ⟨cs, T, (Below.heap_setCell _ _ _ _ (Ne.symm (h.ne i hi))).trans h1, h2⟩
  · obtain ⟨cs, T, h1, h2, h3⟩ := h.row j hj
    by_cases hji : j = i
    · subst hji
      refine ⟨_, T, blk_set h1 k _, by simpa using h2, fun m hm => ?_⟩
      by_cases hmk : m = k
      · subst hmk
        rw [upd_same]
        exact Array.getElem?_setIfInBounds_self_of_lt (by omega)
      · rw [upd_other (by rintro ⟨_, h⟩; exact hmk h)]
        rw [Array.getElem?_setIfInBounds_ne (Ne.symm hmk)]
        exact h3 m hm
    · refine ⟨cs, T, (Below.heap_setCell _ _ _ _ (fun e => hji (h.inj _ _ hj hi e))).trans h1, h2, fun m hm => ?_⟩
      rw [upd_other (by rintro ⟨h, _⟩; exact hji h)]
      exact h3 m hm
/-- A row more: its block is r, all its numbers z. -/
theorem add (h : Grid W H la lb M rb f) {i r T z : Nat} (hi : i ≤ la) (hM : ¬ M i) (hr : W.heap[r]? = some (.cells (Array.replicate (lb + 1) (.int .i64 (z : Nat))) T (0, 0))) (hnr : ∀ k, own H M rb k → k ≠ r) :
    Grid (W.setCell ⟨H, i, none⟩ (.slice (some ⟨r, 0, none⟩) (lb + 1) (lb + 1))) H la lb (fun j => j = i ∨ M j) (fun j => if j = i then r else rb j) (fun j k => if j = i then z else f j k) := by
  refine ⟨?_, ?_, ?_, ?_⟩
  · obtain ⟨cs, T', h1, h2, h3⟩ := h.hd
    refine ⟨_, T', blk_set h1 i _, by simpa using h2, fun j hj => ?_⟩
    by_cases hji : j = i
    · subst hji
      rw [if_pos rfl]
      exact Array.getElem?_setIfInBounds_self_of_lt (by omega)
    · simp only [if_neg hji]
      rw [Array.getElem?_setIfInBounds_ne (Ne.symm hji)]
      exact h3 j (hj.resolve_left hji)
  · intro j hj
    by_cases hji : j = i
    · subst hji
      simp only [if_true]
      refine ⟨_, T, (Below.heap_setCell _ _ _ _ (fun e => hnr H (.inl rfl) e.symm)).trans hr, by simp, fun k hk => ?_⟩
      simp [Array.getElem?_replicate]; omega
    · simp only [if_neg hji]
      obtain ⟨cs, T', h1, h2⟩ := h.row j (hj.resolve_left hji)
      exact ⟨cs, T', (Below.heap_setCell _ _ _ _ (h.ne j (hj.resolve_left hji))).trans h1, h2⟩
  · intro j k hj hk e
    by_cases hji : j = i <;> by_cases hki : k = i
    · rw [hji, hki]
    · subst hji
      simp only [if_true, if_neg hki] at e
      exact absurd e.symm (hnr _ (.inr ⟨k, hk.resolve_left hki, rfl⟩))
    · subst hki
      simp only [if_true, if_neg hji] at e
      exact absurd e (hnr _ (.inr ⟨j, hj.resolve_left hji, rfl⟩))
    · simp only [if_neg hji, if_neg hki] at e
      exact h.inj j k (hj.resolve_left hji) (hk.resolve_left hki) e
  · intro j hj
    by_cases hji : j = i
    · subst hji
      simp only [if_true]
      exact fun e => hnr H (.inl rfl) e.symm
    · simp only [if_neg hji]
      exact h.ne j (hj.resolve_left hji)
theorem eqM {M' : Nat → Prop} (h : Grid W H la lb M rb f) (hM : ∀ i, M' i → M i) : Grid W H la lb M' rb f :=
  ⟨by obtain ⟨cs, T, h1, h2, h3⟩ := h.hd; exact ⟨cs, T, h1, h2, fun i hi => h3 i (hM i hi)⟩, fun i hi => h.row i (hM i hi), fun i j hi hj => h.inj i j (hM i hi) (hM j hj), fun i hi => h.ne i (hM i hi)⟩
theorem eqf {g : Nat → Nat → Nat} (h : Grid W H la lb M rb f) (hg : ∀ i k, M i → k ≤ lb → f i k = g i k) : Grid W H la lb M rb g :=
  ⟨h.hd, fun i hi => by obtain ⟨cs, T, h1, h2, h3⟩ := h.row i hi; exact ⟨cs, T, h1, h2, fun k hk => by rw [← hg i k hi hk]; exact h3 k hk⟩, h.inj, h.ne⟩
end Grid
end Go.Han

/- Package align: the table, and where a number of it lies. -/
namespace Go.Proofs.YtmindojbkedmlaaDoor
open Go.RowKit Go.Han
attribute [local irreducible] wpStill wpQuiet
set_option maxRecDepth 100000

theorem made_rep (z : Value) (n : Nat) : madeCells #[z] n = Array.replicate n z := by
  apply Array.ext
  · simp [madeCells]
  · intro i h1 h2
    simp [madeCells, Nat.mod_one]
theorem info_rows : (Tryd.prog.info? 30).map (fun i => (i.zero, i.size, i.bytes)) = some (some (.slice none 0 0), 1, 24) := by kernel_rfl
theorem info_ints : (Tryd.prog.info? 3).map (fun i => (i.zero, i.size, i.bytes)) = some (some (.int .i64 0), 1, 8) := by kernel_rfl
theorem mk_rows (n : Nat) (h : n ≤ 1000) (w : World) : (Instr.makeSlice 81 (.int .i64 (n : Int)) (.int .i64 (n : Int))).run Tryd.prog w = .ok (.slice (some ⟨w.heap.size, 0, none⟩) n n) (w.alloc (.cells (Array.replicate n (.slice none 0 0)) 30)) := by
  rw [← made_rep]
  exact run_make_row' (P := Tryd.prog) 81 30 (.slice none 0 0) 24 Tryd.underlying81 info_rows rfl .i64 .i64 n (by omega) (by omega) w
theorem mk_ints (n : Nat) (h : n ≤ 1000) (w : World) : (Instr.makeSlice 30 (.int .i64 (n : Int)) (.int .i64 (n : Int))).run Tryd.prog w = .ok (.slice (some ⟨w.heap.size, 0, none⟩) n n) (w.alloc (.cells (Array.replicate n (.int .i64 0)) 3)) := by
  rw [← made_rep]
  exact run_make_row' (P := Tryd.prog) 30 3 (.int .i64 0) 8 Tryd.underlying30 info_ints rfl .i64 .i64 n (by omega) (by omega) w
/-- A table of the call's own. -/
structure Tab (B : Nat) (W : World) (H la lb : Nat) (M : Nat → Prop) (rb : Nat → Nat) (f : Nat → Nat → Nat) : Prop where
  grid : Grid W H la lb M rb f
  hd : B ≤ H
  row : ∀ i, M i → B ≤ rb i
def TabPost (la lb : Nat) (w : World) (e : Ending) (w' : World) : Prop :=
  ∃ H rb, e = .returned (.slice (some ⟨H, 0, none⟩) (la + 1) (la + 1)) ∧ Tab w.heap.size w' H la lb (fun i => i ≤ la) rb (fun _ _ => 0) ∧ Below w.heap.size w w'
/-- Where a number of the table lies. -/
theorem at21_any (H la lb : Nat) (rb : Nat → Nat) (f : Nat → Nat → Nat) (b3 i k : Nat) (w : World) (h3 : w.heap[b3]? = some (.cells #[.slice (some ⟨H, 0, none⟩) (la + 1) (la + 1)] 81 (0, 0))) (hg : Grid w H la lb (fun j => j ≤ la) rb f) (hi : i ≤ la) (hk : k ≤ lb) :
    Calls Tryd.prog 81 #[.agg (placeA i k), .pointer (some ⟨b3, 0, none⟩)] w fun e w' => e = .returned (.pointer (some ⟨rb i, k, none⟩)) ∧ Below w.heap.size w w' := by
  obtain ⟨W, hW⟩ : ∃ W, w.alloc (.cells (placeA i k) 86) = W := ⟨_, rfl⟩
  have hB : Below w.heap.size w W := by rw [← hW]; exact ext_alloc (Below.refl _ _) _
  have hx : W.heap[w.heap.size]? = some (.cells (placeA i k) 86 (0, 0)) := by rw [← hW]; exact World.alloc_heap_new _ _
  have x0 : W.cell? ⟨w.heap.size, 0, none⟩ = some (.int .i64 (i : Int)) := gblk hx 0
  have x1 : W.cell? ⟨w.heap.size, 1, none⟩ = some (.int .i64 (k : Int)) := gblk hx 1
  have c3 := cell_one ((hB.block _ (lt_block h3)).trans h3)
  have cr := (hg.ext hB).topc hi
  have i1 : (0 : Int) ≤ (i : Int) := by omega
  have i2 : (i : Int) < ((la + 1 : Nat) : Int) := by omega
  have k1 : (0 : Int) ≤ (k : Int) := by omega
  have k2 : (k : Int) < ((lb + 1 : Nat) : Int) := by omega
  unfold placeA at hW ⊢
  clear hx hg h3
  go_enter Tryd.func81, Tryd.ntmps81
  go_wp2_with fail
  go_quiet (fail)
  go_wp2
  go_ret
  exact ⟨rfl, hB.os, hB.tape, hB.output, hB.size, hB.block⟩
set_option maxHeartbeats 1000000 in
theorem table21_any (a b : StrS) (w : World) (h1 : a.xs.length ≤ 64) (h2 : b.xs.length ≤ 64) : Calls Tryd.prog 80 #[.agg (pairA a b)] w (TabPost a.xs.length b.xs.length w) := by
  obtain ⟨W, hW⟩ : ∃ W, w.alloc (.cells (pairA a b) 79) = W := ⟨_, rfl⟩
  have hB : Below w.heap.size w W := by rw [← hW]; exact ext_alloc (Below.refl _ _) _
  have hz : W.heap.size = w.heap.size + 1 := by rw [← hW]; simp
  have hx : W.heap[w.heap.size]? = some (.cells (pairA a b) 79 (0, 0)) := by rw [← hW]; exact World.alloc_heap_new _ _
  have x0 : W.cell? ⟨w.heap.size, 0, none⟩ = some (.slice a.addr a.xs.length a.cap) := gblk hx 0
  have hmk : ∀ w : World, _ := mk_rows (a.xs.length + 1) (by omega)
  rw [show ((a.xs.length + 1 : Nat) : Int) = (a.xs.length : Int) + 1 by omega] at hmk
  unfold pairA at hW ⊢
  go_enter Tryd.func80, Tryd.ntmps80
  go_wp2_with fail
  obtain ⟨W1, hW1⟩ : ∃ W1, W.alloc (.cells (Array.replicate (a.xs.length + 1) (.slice none 0 0)) 30) = W1 := ⟨_, rfl⟩
  have hB1 : Below w.heap.size w W1 := by rw [← hW1]; exact ext_alloc hB _
  have hz1 : W1.heap.size = w.heap.size + 2 := by rw [← hW1]; simp [hz]
  have hx1 : W1.heap[w.heap.size]? = some (.cells (pairA a b) 79 (0, 0)) := by rw [← hW1]; exact (Below.heap_alloc _ _ _ (by omega)).trans hx
  have hg1 : Grid W1 (w.heap.size + 1) a.xs.length b.xs.length (fun j => j < 0) (fun _ => 0) (fun _ _ => 0) :=
    ⟨⟨_, _, by rw [← hW1, ← hz]; exact World.alloc_heap_new _ _, by simp, fun i hi => absurd hi (by omega)⟩, fun i hi => absurd hi (by omega), fun i j hi => absurd hi (by omega), fun i hi => absurd hi (by omega)⟩
  rw [hW1]
  clear hW1 hmk x0 hB hW hz hx
  have hmk : ∀ w : World, _ := mk_ints (b.xs.length + 1) (by omega)
  rw [show ((b.xs.length + 1 : Nat) : Int) = (b.xs.length : Int) + 1 by omega] at hmk
  go_loopw [12] (fun i wr => ∃ (k : Nat) (rb : Nat → Nat), k ≤ a.xs.length + 1 ∧ i = .int .i64 k ∧ Below w.heap.size w wr ∧ wr.heap[w.heap.size]? = some (.cells (pairA a b) 79 (0, 0)) ∧ Tab w.heap.size wr (w.heap.size + 1) a.xs.length b.xs.length (fun j => j < k) rb (fun _ _ => 0)) (fun i _ => a.xs.length + 1 - (intOf i).toNat)
  case atStart => exact ⟨0, _, by omega, rfl, hB1, hx1, hg1, by omega, fun i hi => absurd hi (by omega)⟩
  case round =>
    obtain ⟨k, rb, hk, rfl, hBk, hxk, hgk, hd, hrow⟩ := hrel
    have p1 : wr.cell? ⟨w.heap.size, 1, none⟩ = some (.slice b.addr b.xs.length b.cap) := gblk hxk 1
    by_cases hlt : k < a.xs.length + 1
    · have hlt2 : (k : Int) < (a.xs.length : Int) + 1 := by omega
      have k0 : (0 : Int) ≤ (k : Int) := by omega
      obtain ⟨u, hu⟩ := hgk.topw (i := k) (by omega)
      have hu0 := lt_cell hu
      have hfz := hgk.topz k
      obtain ⟨W2, hW2⟩ : ∃ W2, wr.alloc (.cells (Array.replicate (b.xs.length + 1) (.int .i64 0)) 3) = W2 := ⟨_, rfl⟩
      have hB2 : Below wr.heap.size wr W2 := by rw [← hW2]; exact ext_alloc (Below.refl _ _) _
      have hr2 : W2.heap[wr.heap.size]? = some (.cells (Array.replicate (b.xs.length + 1) (.int .i64 ((0 : Nat) : Int))) 3 (0, 0)) := by rw [← hW2]; exact World.alloc_heap_new _ _
      have hu2 := (hB2.cell (p := ⟨w.heap.size + 1, k, none⟩) hu0).trans hu
      have hfz2 := (hB2.frozen (p := ⟨w.heap.size + 1, k, none⟩) hu0).trans hfz
      have hg2 := (hgk.ext hB2).add (i := k) (z := 0) (by omega) (by show ¬ k < k; omega) hr2 (fun m hm => by have := hgk.olt hm; omega)
      have Hg2 := Lib.hid hg2
      have Hgk := Lib.hid hgk
      clear hg2 hgk hu hfz hr2
      go_wp2
      go_roundw
      case rel =>
        refine ⟨k + 1, _, by omega, by go_num, ?_, ?_, ((Hg2.out.eqM (M' := fun j => j < k + 1) (fun j hj => ?_)).eqf (g := fun _ _ => 0) (fun j m _ _ => ?_)), by omega, fun j hj => ?_⟩
        · exact (ext_trans hBk hB2).setCell (by show w.heap.size ≤ w.heap.size + 1; omega) _
        · exact (Below.heap_setCell _ _ _ _ (by show w.heap.size ≠ w.heap.size + 1; omega)).trans ((hB2.block _ (lt_block hxk)).trans hxk)
        · show j = k ∨ j < k; omega
        · show (if j = k then 0 else 0) = 0; split <;> rfl
        · show w.heap.size ≤ if j = k then wr.heap.size else rb j
          split
          · exact hBk.size
          · exact hrow j (by show j < k; omega)
      case measure => simp [intOf]; omega
    · obtain rfl : k = a.xs.length + 1 := by omega
      go_wp2
      go_ret
      exact ⟨_, rb, rfl, ⟨hgk.eqM (fun i hi => by show i < a.xs.length + 1; omega), hd, fun i hi => hrow i (by show i < a.xs.length + 1; omega)⟩, hBk⟩
end Go.Proofs.YtmindojbkedmlaaDoor

/- A region that draws its order: operations and callees that only read, or lay new blocks, and then one operation that waits for all of them. -/
namespace Go.Han
open Go.RowKit
section
variable {P : Program} {ops : Array Oper} {md : Region.Mode} {C : World → Prop}

def wpAnyLQ (P : Program) (md : Region.Mode) (ops : Array Oper) (C : World → Prop) (n : Nat) (L : Array Bool → Act → Prop) : Nat → Array Bool → Act → Prop
  | 0, listed, a => L listed a
  | f + 1, listed, a =>
    Region.ready md ops listed ≠ [] ∧ ∀ i ∈ Region.ready md ops listed, i < n ∧ qOp P ops C i (wpAnyLQ P md ops C n L f (listed.setIfInBounds i true)) a

theorem wpAny_of_headQ {n g : Nat} {L : Array Bool → Act → Prop} {Q' : Exit → Act → World → Prop} (hL : ∀ listed a w, C w → L listed a → wpAny P md ops Q' g listed a w) :
    ∀ (f : Nat) (listed : Array Bool) (a : Act) (w : World), C w → wpAnyLQ P md ops C n L f listed a → wpAny P md ops Q' (f + g) listed a w
  | 0, listed, a, w, hw, h => by rw [Nat.zero_add]; exact hL _ _ _ hw h
  | f + 1, listed, a, w, hw, h => by
    rw [show f + 1 + g = (f + g) + 1 by omega]
    exact ⟨fun h0 => absurd h0 h.1, fun i hi => wpOp_of_qOp hw (fun a' w' hw' h' => wpAny_of_headQ hL f _ a' w' hw' h') (h.2 i hi).2⟩

theorem wpAnyLQ_first {n i : Nat} {oi : Oper} {v : Value} {L : Array Bool → Act → Prop} (hi : ops[i]? = some oi) (hsel : ∀ (j : Nat) (o : Oper) cs b, ops[j]? = some o → o.op ≠ .select cs b)
    (hs : Region.sinkB md ops n = true) (hc : Region.chainB md ops n = true) (hn : n < ops.size) (hin : i < n)
    (hdone : ∀ listed a, L listed a → ∀ j ∈ Region.ready md ops listed, n ≤ j) :
    ∀ (f : Nat) (listed : Array Bool) (a : Act), HeadInv md ops n listed →
      (∀ j oj, ops[j]? = some oj → j ≠ i → listed.getD j true = false → (∀ e ∈ oj.after, Region.binds md e = true → e.on ≠ i) → oi.apart ops oj = true) →
      i ∈ Region.ready md ops listed → YieldsIn P ops C oi v a →
      wpAnyLQ P md ops C n L f (listed.setIfInBounds i true) (a.put oi.dst v) → wpAnyLQ P md ops C n L (f + 1) listed a := by
  intro f
  induction f with
  | zero =>
    intro listed a inv _ hr hy H
    have hun := (mem_ready.1 hr).1
    refine ⟨fun h => (by rw [h] at hr; cases hr), fun j hj => ?_⟩
    have hjn : j < n := by
      rcases Nat.lt_or_ge j n with h | h
      · exact h
      · exact absurd hj (tail_waits hs hc hn inv _ i rfl hin hun j h)
    refine ⟨hjn, ?_⟩
    by_cases hji : j = i
    · subst hji; exact hy.qOp hi H
    · have := hdone _ _ H j (ready_mono hj hji)
      omega
  | succ f ih =>
    intro listed a inv hfree hr hy H
    have hun := (mem_ready.1 hr).1
    refine ⟨fun h => (by rw [h] at hr; cases hr), fun j hj => ?_⟩
    have hjn : j < n := by
      rcases Nat.lt_or_ge j n with h | h
      · exact h
      · exact absurd hj (tail_waits hs hc hn inv _ i rfl hin hun j h)
    refine ⟨hjn, ?_⟩
    by_cases hji : j = i
    · subst hji; exact hy.qOp hi H
    · have h1 := (H.2 j (ready_mono hj hji)).2
      obtain ⟨hjun, oj, hoj, hall⟩ := mem_ready.1 hj
      have hnot : ∀ e ∈ oj.after, Region.binds md e = true → e.on ≠ i := fun e he hb heq => by
        have h1 := hall e he hb
        rw [heq, getD_both hun] at h1
        cases h1
      have h2 := qOp_put hoj (hfree j oj hoj hji hjun hnot) (fun cs b => hsel i oi cs b hi) (fun cs b => hsel j oj cs b hoj) hy h1
      have hfree' : ∀ k ok, ops[k]? = some ok → k ≠ i → (listed.setIfInBounds j true).getD k true = false →
          (∀ e ∈ ok.after, Region.binds md e = true → e.on ≠ i) → oi.apart ops ok = true := fun k ok hk hki hun hno => by
        refine hfree k ok hk hki ?_ hno
        by_cases hjk : j = k
        · subst hjk; exact hjun
        · rw [getD_set_ne true hjk] at hun; exact hun
      refine qOp_mono (fun a' h3 => ih (listed.setIfInBounds j true) a' (inv.set hj hjn) hfree' (ready_mono hr (Ne.symm hji)) h3.1 ?_) h2
      rw [Array.setIfInBounds_comm _ _ hji]
      exact h3.2

theorem wpAnyLQ_lex {n g : Nat} {Lq : Act → Prop} (hsel : Region.noSelect ops = true) (hs : Region.sinkB md ops n = true) (hc : Region.chainB md ops n = true) (hn : n < ops.size) :
    ∀ (l : List Oper) (k : Nat) (listed : Array Bool) (a : Act), (∀ j, j < l.length → l[j]? = ops[k + j]?) → k + l.length = n → HeadInv md ops n listed →
    Region.lexHead md ops g l.length k listed = true → wpQuiet P ops C Lq l a →
    wpAnyLQ P md ops C n (fun listed' a' => Region.seqB md ops g n listed' = true ∧ Lq a') l.length listed a
  | [], k, listed, a, _, hk, _, hB, h => by
    have : k = n := by simpa using hk
    subst this
    exact ⟨by simpa [Region.lexHead] using hB, h⟩
  | o :: l, k, listed, a, hl, hk, inv, hB, h => by
    have h0 : ops[k]? = some o := by simpa using (hl 0 (by simp)).symm
    simp only [List.length_cons, Region.lexHead, Bool.and_eq_true] at hB
    obtain ⟨⟨hr, hf⟩, hB'⟩ := hB
    have hkn : k < n := by simp only [List.length_cons] at hk; omega
    have hr' : k ∈ Region.ready md ops listed := by simpa using hr
    have hst : qOp P ops C k (wpQuiet P ops C Lq l) a := by unfold qOp; simp only [h0]; exact h
    obtain ⟨v, hy, hK⟩ := yieldsIn_of_qOp h0 hst
    exact wpAnyLQ_first h0 (Region.noSelect_spec hsel) hs hc hn hkn (fun listed' a' hL => seqB_ready hL.1) l.length listed a inv (Region.free_spec h0 hf) hr' hy
      (wpAnyLQ_lex hsel hs hc hn l (k + 1) _ _ (fun j hj => by have := hl (j + 1) (by simp; omega); simpa [Nat.add_assoc, Nat.add_comm 1 j] using this) (by simp only [List.length_cons] at hk; omega) (inv.set hr' hkn) hB' hK)

theorem wpAny_quiet_tail {Q : Exit → Act → World → Prop} {a : Act} {w : World} {l : List Oper} (n : Nat) (hB : Region.lexTailB .any l.toArray n = true) (hC : C w)
    (h : wpQuiet P l.toArray C (fun a' => ∀ w', C w' → wpList P l.toArray Q (l.drop n) a' w') (l.take n) a) : wpAny P .any l.toArray Q l.toArray.size (Array.replicate l.toArray.size false) a w := by
  simp only [Region.lexTailB, Bool.and_eq_true, decide_eq_true_eq] at hB
  obtain ⟨⟨⟨⟨hsel, hn⟩, hs⟩, hc⟩, hlex⟩ := hB
  have hn' : n < l.length := by simpa using hn
  have htl : (l.take n).length = n := by simp; omega
  have hdl : (l.drop n).length = l.toArray.size - n := by simp
  have inv0 : HeadInv .any l.toArray n (Array.replicate l.toArray.size false) :=
    ⟨by simp, fun j oj _ hl => (by rw [getD_replicate_false] at hl; cases hl), fun t _ ht => getD_in (by simpa using ht) (getD_replicate_false _ _)⟩
  have H := wpAnyLQ_lex (md := .any) (g := l.toArray.size - n) hsel hs hc hn (l.take n) 0 _ a (fun j hj => by
    have hj' : j < n := by rw [htl] at hj; exact hj
    simp [hj']) (by simpa using htl) inv0 (by rw [htl]; exact hlex) h
  have := wpAny_of_headQ (Q' := Q) (g := l.toArray.size - n) (fun listed a' w' hw' hL => by
    have := wpAny_of_seq (md := .any) (Q' := Q) (l.drop n) n listed a' w' (fun j => by simp [List.getElem?_drop]) (by rw [hdl]; exact hL.1) (hL.2 w' hw')
    rwa [hdl] at this) _ _ _ _ hC H
  rw [htl, show n + (l.toArray.size - n) = l.toArray.size by omega] at this
  exact this
theorem wpAny_ext_tail {Q : Exit → Act → World → Prop} {a : Act} {w : World} {l : List Oper} (n : Nat) (hB : Region.lexTailB .any l.toArray n = true)
    (h : wpQuiet P l.toArray (fun w' => ∃ p : ExtBy w, w' = p.to) (fun a' => ∀ w', (∃ p : ExtBy w, w' = p.to) → wpList P l.toArray Q (l.drop n) a' w') (l.take n) a) : wpAny P .any l.toArray Q l.toArray.size (Array.replicate l.toArray.size false) a { w with drawn := w.drawn + 1 } :=
  wpAny_quiet_tail (C := fun w' => ∃ p : ExtBy w, w' = p.to) n hB ⟨⟨_, (Below.refl _ w).drew⟩, rfl⟩ h
/-- At the class of worlds that have come out of w by draws and new blocks. -/
theorem wp_region_ext_tail {id : Nat} {Q : Exit → Act → World → Prop} {a : Act} {w : World} {l : List Oper} (n : Nat) (hm : P.follows .mixedOrders = true) (hB : Region.lexTailB .any l.toArray n = true)
    (h : wpQuiet P l.toArray (fun w' => ∃ p : ExtBy w, w' = p.to) (fun a' => ∀ w', (∃ p : ExtBy w, w' = p.to) → wpList P l.toArray Q (l.drop n) a' w') (l.take n) a) : (Code.region id l.toArray true).wp P Q a w :=
  wp_region_any hm (wpAny_ext_tail n hB h)
end
end Go.Han

/- A region that draws its order, in a round of a range over a function: the laws outside serve there. -/
namespace Go.Han
open Go.RowKit
section
variable {P : Program} {ops : Array Oper} {md : Region.Mode} {n l : Nat}

theorem Oper.wpIn_of_wp {o : Oper} {a : Act} {w : World} {K : Act → World → Prop} {Q : Exit → Act → World → Prop} (hd : ∀ c, o.op ≠ .defer c) (h : o.wp P a w K Q) : o.wpIn (Fence.wide.inRound l) n P a w K Q := by
  unfold Oper.wp at h
  refine ⟨fun _ _ => trivial, ?_⟩
  rw [show (Fence.wide.inRound l).round = some l from rfl, Oper.semAt_some l a.eval o hd]
  generalize (execOp a.eval o).run P w = r at *
  cases r with
  | ok x w' =>
    cases x with
    | value v => exact h
    | skip => exact h
    | defer d => exact h
    | enter f args => exact ⟨fun hh => (by cases hh), CallsIn.inRound l (callsIn_wide.2 h)⟩
    | row r args => exact ⟨fun hh => (by cases hh), fun c cs _ => let ⟨v, w', r, s⟩ := h c cs; ⟨v, w', r, stepsIn_wide.2 s⟩⟩
    | round => exact h.elim
    | _ => exact h.elim
  | halt x w' =>
    cases x <;> exact h
theorem wpAnyIn_of_wpAny {Q : Exit → Act → World → Prop} (hd : ∀ (i : Nat) (o : Oper) c, ops[i]? = some o → o.op ≠ .defer c) (hQ : ∀ a w, ¬ Q .outgrown a w) :
    ∀ (f : Nat) (m : Array Bool) (a : Act) (w : World), wpAny P md ops Q f m a w → wpAnyIn (Fence.wide.inRound l) n P md ops Q f m a w
  | 0, _, _, _, h => h
  | f + 1, m, a, w, h => by
    refine ⟨h.1, fun i hi => ?_⟩
    have h1 := h.2 i hi
    unfold wpOp at h1
    unfold wpOpIn
    cases ho : ops[i]? with
    | none => simp only [ho] at h1 ⊢; exact wpAnyIn_of_wpAny hd hQ f _ a w h1
    | some o =>
      simp only [ho] at h1 ⊢
      split
      · rename_i hw
        simp only [hw, if_true] at h1
        rcases h1 with h1 | ⟨_, a', w', h1⟩
        · exact Oper.wpIn_mono (fun a' w' h' => wpAnyIn_of_wpAny hd hQ f _ a' w' h') (Oper.wpIn_of_wp (fun c => hd i o c ho) h1)
        · exact absurd h1 (hQ _ _)
      · rename_i hw
        simp only [hw] at h1
        exact ⟨fun _ _ => trivial, wpAnyIn_of_wpAny hd hQ f _ _ w h1⟩
def noDefer (ops : Array Oper) : Bool := ops.all fun o => match o.op with | .defer _ => false | _ => true
theorem noDefer_spec (h : noDefer ops = true) : ∀ (i : Nat) (o : Oper) c, ops[i]? = some o → o.op ≠ .defer c := by
  intro i o c ho e
  obtain ⟨hi, rfl⟩ := Array.getElem?_eq_some_iff.1 ho
  have := (Array.all_eq_true.1 h) i hi
  rw [e] at this
  cases this
theorem wpInR_region_ext {id : Nat} {Q : Exit → Act → World → Prop} {a : Act} {w : World} {ls : List Oper} (hm : P.follows .mixedOrders = true) (hB : (Region.lexB .any ls.toArray && noDefer ls.toArray) = true) (hQ : ∀ a w, ¬ Q .outgrown a w)
    (h : wpQuiet P ls.toArray (fun w' => ∃ p : ExtBy w, w' = p.to) (fun a' => ∀ w', (∃ p : ExtBy w, w' = p.to) → Q .normal a' w') ls a) : (Code.region id ls.toArray true).wpIn (Fence.wide.inRound l) n P Q a w := by
  simp only [Bool.and_eq_true] at hB
  obtain ⟨hB, hd⟩ := hB
  refine wpIn_region_any hm (wpAnyIn_of_wpAny (noDefer_spec hd) hQ _ _ _ _ ?_)
  simp only [Region.lexB, Bool.and_eq_true] at hB
  refine wpAny_of_quiet (C := fun w' => ∃ p : ExtBy w, w' = p.to) (Q := fun a' => ∀ w', (∃ p : ExtBy w, w' = p.to) → Q .normal a' w') (fun _ w' hw' h => h w' hw') _ _ _ _ ⟨⟨_, (Below.refl _ w).drew⟩, rfl⟩ ?_
  have := wpAnyQ_lex (C := fun w' => ∃ p : ExtBy w, w' = p.to) (md := .any) hB.1 ls 0 (Array.replicate ls.toArray.size false) a (by simp) (by simpa using hB.2) h
  simpa using this
theorem wpInR_region_ext_tail {id : Nat} {Q : Exit → Act → World → Prop} {a : Act} {w : World} {ls : List Oper} (k : Nat) (hm : P.follows .mixedOrders = true) (hB : (Region.lexTailB .any ls.toArray k && noDefer ls.toArray) = true) (hQ : ∀ a w, ¬ Q .outgrown a w)
    (h : wpQuiet P ls.toArray (fun w' => ∃ p : ExtBy w, w' = p.to) (fun a' => ∀ w', (∃ p : ExtBy w, w' = p.to) → wpList P ls.toArray Q (ls.drop k) a' w') (ls.take k) a) : (Code.region id ls.toArray true).wpIn (Fence.wide.inRound l) n P Q a w := by
  simp only [Bool.and_eq_true] at hB
  obtain ⟨hB, hd⟩ := hB
  exact wpIn_region_any hm (wpAnyIn_of_wpAny (noDefer_spec hd) hQ _ _ _ _ (wpAny_ext_tail k hB h))
end
end Go.Han

/- Package align: prove, the least costs. -/
namespace Go.Proofs.YtmindojbkedmlaaDoor
open Go.RowKit Go.Han
attribute [local irreducible] wpStill wpQuiet
attribute [local go_sem] Oper.semAt_some
set_option maxRecDepth 100000

theorem run_equalIn_place (i k i' k' : Int) (w : World) : (Op.equalIn 10000 86 (.agg #[.int .i64 i, .int .i64 k]) (.agg #[.int .i64 i', .int .i64 k'])).run Tryd.prog w = .ok (decide (i = i' ∧ k = k')) w := by
  by_cases e1 : i = i'
  · by_cases e2 : k = k'
    · simp [go_sem, e1, e2]
    · simp [go_sem, e1, e2]
  · simp [go_sem, e1]
theorem only_iter {M own : Nat → Prop} {B0 : Nat} {a b c : World} (h : Only M a b) (k : IterStep B0 (fun _ => False) own b c) (hB : a.heap.size ≤ B0) : Only M a c :=
  ⟨k.os.trans h.os, k.tape.trans h.tape, k.output.trans h.output, Nat.le_trans h.size k.size, fun i hi hn => (k.block i (Nat.lt_of_lt_of_le hi h.size) (.inl ⟨by omega, fun h => h⟩)).trans (h.block i hi hn)⟩
/-- Between two rounds: the numbers of the places that have been done. -/
def PvInv (w6 : World) (H : Nat) (a b : Ws) (rb : Nat → Nat) (own : Nat → Prop) (pre : List (Nat × Nat)) (W : World) : Prop :=
  (∀ k, own k ↔ Grid.own H (fun j => j ≤ a.length) rb k) ∧ Only (Grid.own H (fun j => j ≤ a.length) rb) w6 W ∧ ∃ f, Grid W H a.length b.length (fun j => j ≤ a.length) rb f ∧ (∀ x ∈ pre, f x.1 x.2 = cA a b x.1 x.2) ∧ ∀ x, x ∉ pre → f x.1 x.2 = 0
theorem pv_stable (w6 : World) (H : Nat) (a b : Ws) (rb : Nat → Nat) (B0 : Nat) (hB : w6.heap.size ≤ B0) : Stable B0 (fun _ => False) (PvInv w6 H a b rb) := by
  rintro own pre W W' ⟨ho, hon, f, hg, hf⟩ st
  exact ⟨ho, only_iter hon st hB, f, hg.of_blocks fun k hk => st.block k (hg.olt hk) (.inr ((ho k).2 hk)), hf⟩
/-- Ahead of a round. -/
def PvAsg (w6 : World) (H : Nat) (a b : Ws) (rb : Nat → Nat) (F : Value → Value → Array Value) (x : Nat × Nat) (a' : Act) (own : Nat → Prop) (pre : List (Nat × Nat)) (W : World) : Prop :=
  ∃ bx own1, a' = { tmps := F (.pointer (some ⟨bx, 0, none⟩)) (.agg (placeA x.1 x.2)), defers := [] } ∧ (∀ k, own k ↔ (own1 k ∨ k = bx)) ∧ W.heap[bx]? = some (.cells (placeA x.1 x.2) 86 (0, 0)) ∧ w6.heap.size ≤ bx ∧ PvInv w6 H a b rb own1 pre W
theorem pva_stable (w6 : World) (H : Nat) (a b : Ws) (rb : Nat → Nat) (F : Value → Value → Array Value) (x : Nat × Nat) (a' : Act) (B0 : Nat) (hB : w6.heap.size ≤ B0) : Stable B0 (fun _ => False) (PvAsg w6 H a b rb F x a') := by
  rintro own pre W W' ⟨bx, own1, ha, ho, hx, hbx, hI⟩ st
  refine ⟨bx, own1, ha, ho, (st.block _ (lt_block hx) (.inr ((ho _).2 (.inr rfl)))).trans hx, hbx, pv_stable w6 H a b rb B0 hB own1 pre W W' hI ⟨st.os, st.tape, st.output, st.size, fun k hk h => st.block k hk (h.imp id fun h => (ho k).2 (.inl h))⟩⟩
theorem pv_next {w6 W W' : World} {H : Nat} {a b : Ws} {rb : Nat → Nat} {own own1 : Nat → Prop} {pre : List (Nat × Nat)} {x : Nat × Nat} {f f' : Nat → Nat → Nat}
    (ho1 : ∀ k, own1 k ↔ Grid.own H (fun j => j ≤ a.length) rb k) (hon : Only (Grid.own H (fun j => j ≤ a.length) rb) w6 W) (hf : ∀ x ∈ pre, f x.1 x.2 = cA a b x.1 x.2) (hf0 : ∀ x, x ∉ pre → f x.1 x.2 = 0)
    (hlv : ∀ k, own k → k < W.heap.size) (hsub : ∀ k, own1 k → own k) (hO : Only (Grid.own H (fun j => j ≤ a.length) rb) W W') (hg : Grid W' H a.length b.length (fun j => j ≤ a.length) rb f') (hx : f' x.1 x.2 = cA a b x.1 x.2)
    (hoth : ∀ y m, ¬ (y = x.1 ∧ m = x.2) → f' y m = f y m) : ∃ own', BodyStep own own' W W' ∧ PvInv w6 H a b rb own' (pre ++ [x]) W' := by
  refine ⟨own1, ⟨hO.os, hO.tape, hO.output, hO.size, fun k hk hn => hO.block k hk (fun h => hn (hsub k ((ho1 k).2 h))), fun k hk => .inl (hsub k hk), fun k hk => Nat.lt_of_lt_of_le (hlv k (hsub k hk)) hO.size⟩, ho1, ⟨hO.os.trans hon.os, hO.tape.trans hon.tape, hO.output.trans hon.output, Nat.le_trans hon.size hO.size, fun k hk hn => (hO.block k (Nat.lt_of_lt_of_le hk hon.size) hn).trans (hon.block k hk hn)⟩, f', hg, fun y hy => ?_, fun y hy => ?_⟩
  · by_cases he : y.1 = x.1 ∧ y.2 = x.2
    · rw [he.1, he.2]; exact hx
    · rw [hoth _ _ he]
      rcases List.mem_append.1 hy with hy | hy
      · exact hf y hy
      · rw [List.mem_singleton] at hy; subst hy; exact absurd ⟨rfl, rfl⟩ he
  · have he : ¬ (y.1 = x.1 ∧ y.2 = x.2) := fun he => hy (List.mem_append.2 (.inr (List.mem_singleton.2 (Prod.ext he.1 he.2))))
    rw [hoth _ _ he]
    exact hf0 y fun h => hy (List.mem_append.2 (.inl h))
/-- Within a round, behind n steps. -/
def StInv (W : World) (H : Nat) (a b : Ws) (rb : Nat → Nat) (f : Nat → Nat → Nat) (i k n : Nat) (wr : World) : Prop :=
  ∃ f', Grid wr H a.length b.length (fun j => j ≤ a.length) rb f' ∧ f' i k = mS a b i k n ∧ (∀ y m, ¬ (y = i ∧ m = k) → f' y m = f y m) ∧ Only (Grid.own H (fun j => j ≤ a.length) rb) W wr
theorem st_after (n i k : Nat) : After (stI n i, stK n k) (i, k) ∧ ¬ (stI n i = i ∧ stK n k = k) := by
  unfold After stI stK
  simp only
  by_cases h3 : n = 3
  · subst h3; simp
  · rw [if_neg h3]; omega
/-- The step n + 1 is possible, and the table holds what it leads to. -/
theorem st_store {W wr V : World} {H : Nat} {a b : Ws} {rb : Nat → Nat} {f f' : Nat → Nat → Nat} {i k n v : Nat} (hb : Below wr.heap.size wr V) (hi : i ≤ a.length) (hk : k ≤ b.length) (hg : Grid wr H a.length b.length (fun j => j ≤ a.length) rb f')
    (hoth : ∀ y m, ¬ (y = i ∧ m = k) → f' y m = f y m) (hO : Only (Grid.own H (fun j => j ≤ a.length) rb) W wr) (hv : v = mS a b i k (n + 1)) : StInv W H a b rb f i k (n + 1) (V.setCell ⟨rb i, k, none⟩ (.int .i64 (v : Nat))) := by
  refine ⟨_, (hg.ext hb).store hi hk v, by rw [Grid.upd_same]; exact hv, fun y m hym => by rw [Grid.upd_other hym]; exact hoth y m hym, (hO.ext hb).setCell (p := ⟨rb i, k, none⟩) (.inl (.inr ⟨i, hi, rfl⟩)) _⟩
theorem lies_low {w W : World} {s : StrS} (h : s.lies w) (hz : w.heap.size ≤ W.heap.size) (hl : ∀ k, k < w.heap.size → W.heap[k]? = w.heap[k]?) : s.lies W := by
  refine ⟨?_, h.cap, h.max, h.nil⟩
  rcases h.rd with h | ⟨b, off, he, hb, hc⟩
  · exact .inl h
  · exact .inr ⟨b, off, he, by omega, fun j u hu => (World.cell?_of_block (w := w) (a := ⟨b, off + j, none⟩) (hl b hb)).trans (hc j u hu)⟩
def ProvePost (a b : Ws) (w : World) (e : Ending) (w' : World) : Prop :=
  ∃ H rb, e = .returned (.slice (some ⟨H, 0, none⟩) (a.length + 1) (a.length + 1)) ∧ Tab w.heap.size w' H a.length b.length (fun i => i ≤ a.length) rb (cA a b) ∧ Below w.heap.size w w'
set_option maxHeartbeats 2000000 in
theorem prove21_any (a b : StrS) (w : World) (ha : a.lies w) (hb : b.lies w) (h1 : a.xs.length ≤ 64) (h2 : b.xs.length ≤ 64) : Calls Tryd.prog 55 #[.agg (pairA a b)] w (ProvePost a.xs b.xs w) := by
  have cT := Lib.hid (fun W => table21_any a b W h1 h2)
  have hmf : ∀ (fn : Fn) (first cap : Array Value) (w : World), (Instr.makeFunc fn first cap).run Tryd.prog w = .ok (.func fn first cap) w := fun _ _ _ _ => rfl
  obtain ⟨W0, hW0⟩ : ∃ W, w.alloc (.cells (pairA a b) 79) = W := ⟨_, rfl⟩
  have hB0 : Below w.heap.size w W0 := by rw [← hW0]; exact ext_alloc (Below.refl _ _) _
  have hx0 : W0.heap[w.heap.size]? = some (.cells (pairA a b) 79 (0, 0)) := by rw [← hW0]; exact World.alloc_heap_new _ _
  have p0 : W0.cell? ⟨w.heap.size, 0, none⟩ = some (.slice a.addr a.xs.length a.cap) := gblk hx0 0
  have p1 : W0.cell? ⟨w.heap.size, 1, none⟩ = some (.slice b.addr b.xs.length b.cap) := gblk hx0 1
  refine calls_of_wpAt Tryd.func55 rfl ?_
  simp only [Tryd.ntmps55, List.size_toArray, List.length_cons, List.length_nil, Nat.reduceAdd, Nat.reduceSub, Array.replicate_succ, Array.replicate_zero, List.push_toArray, List.append_toArray, List.nil_append, List.cons_append]
  unfold pairA at hW0 ⊢
  refine wpAt_seq_wp fun K1 hK1 => ?_
  go_wp2_with fail
  refine wpAt_seq_wp fun K2 hK2 => ?_
  go_wp2_with fail
  refine (cT.out W0).mono ?_
  rintro e W1 ⟨H, rb, rfl, htab, hB1⟩
  go_wp2_with fail
  refine (steps21_any W1).mono ?_
  rintro e W2 ⟨rfl, hW2⟩
  have hB2 : Below W1.heap.size W1 W2 := by rw [← hW2]; exact ext_alloc (Below.refl _ _) _
  have hz2 : W2.heap.size = W1.heap.size + 1 := by rw [← hW2]; simp
  have hs2 : W2.heap[W1.heap.size]? = some (.cells stepCells 88 (0, 0)) := by rw [← hW2]; exact World.alloc_heap_new _ _
  clear hW2
  go_wp2_with fail
  try rw [hz2]
  obtain ⟨W3, hW3⟩ : ∃ W3, (W2.alloc (.cells #[.slice (some ⟨H, 0, none⟩) (a.xs.length + 1) (a.xs.length + 1)] 81)).alloc (.cells #[.slice (some ⟨W1.heap.size, 0, none⟩) 4 4] 83) = W3 := ⟨_, rfl⟩
  have hB3 : Below W2.heap.size W2 W3 := by rw [← hW3]; exact ext_alloc (ext_alloc (Below.refl _ _) _) _
  have hz3 : W3.heap.size = W1.heap.size + 3 := by rw [← hW3]; simp [hz2]
  have hs3 := (hB3.block _ (lt_block hs2)).trans hs2
  have hh3 : W3.heap[W1.heap.size + 1]? = some (.cells #[.slice (some ⟨H, 0, none⟩) (a.xs.length + 1) (a.xs.length + 1)] 81 (0, 0)) := by
    rw [← hW3, ← hz2]; exact (Below.heap_alloc _ _ _ (by simp)).trans (galloc_at _ _ _ rfl)
  have ha3 : W3.heap[W1.heap.size + 1 + 1]? = some (.cells #[.slice (some ⟨W1.heap.size, 0, none⟩) 4 4] 83 (0, 0)) := by
    rw [← hW3, ← hz2]; exact galloc_at _ _ _ (by simp)
  have hB03 := ext_trans hB1 (ext_trans hB2 hB3)
  have htab3 := htab.grid.ext (ext_trans hB2 hB3)
  have hx3 := (hB03.block _ (lt_block hx0)).trans hx0
  try rw [hW3]
  clear hW3 hW0 p0 p1 hs2
  refine wpAt_seq_wp fun K3 hK3 => ?_
  have Hz3 := Lib.hid hz3
  clear hz3
  go_wp2_with fail
  have hz3 := Hz3.out
  rw [hz3]
  obtain ⟨W4, hW4⟩ : ∃ W4, W3.alloc (.cells #[.func (.func 81) #[] #[.pointer (some ⟨W1.heap.size + 1, 0, none⟩)]] 109) = W4 := ⟨_, rfl⟩
  have hB4 : Below W3.heap.size W3 W4 := by rw [← hW4]; exact ext_alloc (Below.refl _ _) _
  have hz4 : W4.heap.size = W1.heap.size + 3 + 1 := by rw [← hW4]; simp [hz3]
  have hf4 : W4.heap[W1.heap.size + 3]? = some (.cells #[.func (.func 81) #[] #[.pointer (some ⟨W1.heap.size + 1, 0, none⟩)]] 109 (0, 0)) := by rw [← hW4, ← hz3]; exact World.alloc_heap_new _ _
  have hx4 := (hB4.block _ (lt_block hx3)).trans hx3
  have p0 : W4.cell? ⟨w.heap.size, 0, none⟩ = some (.slice a.addr a.xs.length a.cap) := gblk hx4 0
  have p1 : W4.cell? ⟨w.heap.size, 1, none⟩ = some (.slice b.addr b.xs.length b.cap) := gblk hx4 1
  try rw [hW4]
  have Hz4 := Lib.hid hz4
  clear hW4 hmf hz3 hz4
  refine wpAt_seq ?_
  refine wpAt_seq_wp fun K4 hK4 => ?_
  go_wp2_with fail
  have hpl := places21_any a b W4
  unfold pairA at hpl
  refine hpl.mono ?_
  rintro e W5 ⟨rfl, hW5⟩
  have hz4 := Hz4.out
  have hB5 : Below W4.heap.size W4 W5 := by rw [← hW5]; exact ext_alloc (Below.refl _ _) _
  have hz5 : W5.heap.size = W1.heap.size + 3 + 1 + 1 := by rw [← hW5]; simp [hz4]
  have hp5 : W5.heap[W1.heap.size + 3 + 1]? = some (.cells (pairA a b) 79 (0, 0)) := by rw [← hW5, ← hz4]; exact World.alloc_heap_new _ _
  try rw [hz4]
  clear hpl hW5 p0 p1
  go_wp2_with fail
  refine wpAt_block ?_
  have hB15 := ext_trans hB2 (ext_trans hB3 (ext_trans hB4 hB5))
  have hB05 := ext_trans hB03 (ext_trans hB4 hB5)
  have hz01 : W0.heap.size ≤ W1.heap.size := hB1.size
  have hlow : ∀ k, Grid.own H (fun j => j ≤ a.xs.length) rb k → W0.heap.size ≤ k := by
    rintro k (rfl | ⟨i, hi, rfl⟩)
    · exact htab.hd
    · exact htab.row i hi
  have hhigh : ∀ k, Grid.own H (fun j => j ≤ a.xs.length) rb k → k < W1.heap.size := fun k hk => htab.grid.olt hk
  have hw0 : w.heap.size < W0.heap.size := lt_block hx0
  have htab5 := htab.grid.ext hB15
  have hit := places1 (W1.heap.size + 3 + 1) a b W5 hp5 h1 h2
  have hx5 := (hB05.block _ (lt_block hx0)).trans hx0
  have hs5 := ((ext_trans hB4 hB5).block _ (lt_block hs3)).trans hs3
  have hh5 := ((ext_trans hB4 hB5).block _ (lt_block hh3)).trans hh3
  have ha5 := ((ext_trans hB4 hB5).block _ (lt_block ha3)).trans ha3
  have hf5 := (hB5.block _ (lt_block hf4)).trans hf4
  clear hx0 hx3 hx4 hs3 hh3 ha3 hf4 htab3 hB3 hB4 hB2 hB1 hB03 hz4 Hz4 Hz3 cT
  refine wp_rangeP (xs := allP a.xs.length b.xs.length) (pe := none) (R := fun k => k = W1.heap.size + 3 + 1) (M := fun _ => False) (w0 := W5) Tryd.func55 rfl
    (enters_of Tryd.func100 (by kernel_rfl) rfl) hit (fun k hk => ⟨by omega, rfl⟩) (fun _ => rfl)
    (PvInv W5 H a.xs b.xs rb) (fun _ _ _ _ => False) (fun _ _ => False)
    (pv_stable _ _ _ _ _ _ (Nat.le_refl _)) (fun c _ _ _ _ h _ => h) (Grid.own H (fun j => j ≤ a.xs.length) rb) ?_ ?_
    (PvAsg W5 H a.xs b.xs rb (fun px vx => #[.agg #[.slice a.addr a.xs.length a.cap, .slice b.addr b.xs.length b.cap], .pointer (some ⟨w.heap.size, 0, none⟩), .slice none 0 0, .pointer (some ⟨W1.heap.size + 1, 0, none⟩), .pointer (some ⟨W1.heap.size + 1 + 1, 0, none⟩), .pointer (some ⟨W1.heap.size + 3, 0, none⟩), px, undef, undef, undef, undef, undef, .agg #[.slice a.addr a.xs.length a.cap, .slice b.addr b.xs.length b.cap], .slice (some ⟨H, 0, none⟩) (a.xs.length + 1) (a.xs.length + 1), .slice (some ⟨W1.heap.size, 0, none⟩) 4 4, .func (.func 81) #[] #[.pointer (some ⟨W1.heap.size + 1, 0, none⟩)], .agg #[.slice a.addr a.xs.length a.cap, .slice b.addr b.xs.length b.cap], .func (.func 100) #[] #[.pointer (some ⟨W1.heap.size + 3 + 1, 0, none⟩)], vx, undef, undef, undef, undef, undef, undef, undef, undef, undef, undef, undef, undef, undef, undef, undef, undef, undef, undef, undef, undef, undef, undef, undef, undef, undef, undef, undef, undef, undef, undef, undef, undef, undef, undef, undef, undef, undef, undef, undef, undef, undef, undef])) (fun x a' => pva_stable _ _ _ _ _ _ _ _ _ (Nat.le_refl _)) ?_ ?_ ?_ ?_ ?_ ?_
  · exact fun k hk => ⟨htab5.olt hk, fun e => by have := hhigh k hk; omega⟩
  · exact ⟨fun _ => Iff.rfl, Only.refl _ _, _, htab5, by simp, fun _ _ => rfl⟩
  · rintro l1 own pre x W hI hl1 hl2 ho hpre
    refine wpIn_mono (Q := Exit.then (fun a' W' => ∃ own', BodyStep own own' W W' ∧ PvAsg W5 H a.xs b.xs rb (fun px vx => #[.agg #[.slice a.addr a.xs.length a.cap, .slice b.addr b.xs.length b.cap], .pointer (some ⟨w.heap.size, 0, none⟩), .slice none 0 0, .pointer (some ⟨W1.heap.size + 1, 0, none⟩), .pointer (some ⟨W1.heap.size + 1 + 1, 0, none⟩), .pointer (some ⟨W1.heap.size + 3, 0, none⟩), px, undef, undef, undef, undef, undef, .agg #[.slice a.addr a.xs.length a.cap, .slice b.addr b.xs.length b.cap], .slice (some ⟨H, 0, none⟩) (a.xs.length + 1) (a.xs.length + 1), .slice (some ⟨W1.heap.size, 0, none⟩) 4 4, .func (.func 81) #[] #[.pointer (some ⟨W1.heap.size + 1, 0, none⟩)], .agg #[.slice a.addr a.xs.length a.cap, .slice b.addr b.xs.length b.cap], .func (.func 100) #[] #[.pointer (some ⟨W1.heap.size + 3 + 1, 0, none⟩)], vx, undef, undef, undef, undef, undef, undef, undef, undef, undef, undef, undef, undef, undef, undef, undef, undef, undef, undef, undef, undef, undef, undef, undef, undef, undef, undef, undef, undef, undef, undef, undef, undef, undef, undef, undef, undef, undef, undef, undef, undef, undef, undef]) x a' own' pre W') (fun _ _ _ => False)) ?_ (fun e a w h => h)
    have hlv : ∀ k, own k → k < W.heap.size := fun k hk => (ho k hk).2.1
    unfold encX placeA
    gi_wp2
    refine ⟨fun k => own k ∨ k = W.heap.size, BodyStep.turn ((BodyStep.refl hlv).alloc _) ?_ ?_, W.heap.size, own, rfl, fun k => Iff.rfl, World.alloc_heap_new _ _, by omega, ?_⟩
    · rintro k (h | h)
      · exact .inl h
      · exact .inr (by omega)
    · rintro k (h | h)
      · have := hlv k h; simp; omega
      · simp; omega
    · exact pv_stable _ _ _ _ _ W5.heap.size (Nat.le_refl _) own pre W _ hI ((IterStep.refl _ _ _ _).alloc _)
  · rintro l1 own pre x a' W ⟨bx, own1, rfl, hoi, hbx, hB', ho1, hon, f, hg, hf, hf0⟩ hl1 hl2 ho hpre
    obtain ⟨i, k⟩ := x
    obtain ⟨hi, hk, hnp⟩ := not_done hpre
    simp only at hi hk hbx
    have hlv : ∀ k, own k → k < W.heap.size := fun k hk => (ho k hk).2.1
    have hsub : ∀ k, own1 k → own k := fun k hk => (hoi k).2 (.inl hk)
    have hgo : ∀ k, Grid.own H (fun j => j ≤ a.xs.length) rb k → own k := fun k hk => hsub k ((ho1 k).2 hk)
    have fixed : ∀ m, W1.heap.size ≤ m → m < W5.heap.size → W.heap[m]? = W5.heap[m]? := fun m h1 h2 => hon.block m h2 (fun h => by have := hhigh _ h; omega)
    have hxW := (hon.block w.heap.size (by omega) (fun h => by have := hlow _ h; omega)).trans hx5
    have hsW := (fixed _ (by omega) (by omega)).trans hs5
    have hhW := (fixed _ (by omega) (by omega)).trans hh5
    have haW := (fixed _ (by omega) (by omega)).trans ha5
    have hfW := (fixed _ (by omega) (by omega)).trans hf5
    have hwW : w.heap.size ≤ W.heap.size ∧ ∀ k, k < w.heap.size → W.heap[k]? = w.heap[k]? ∧ ¬ Grid.own H (fun j => j ≤ a.xs.length) rb k := by
      have hb := ext_trans hB0 hB05
      refine ⟨Nat.le_trans hb.size hon.size, fun k hk => ?_⟩
      have hn : ¬ Grid.own H (fun j => j ≤ a.xs.length) rb k := fun h => by have := hlow _ h; omega
      exact ⟨(hon.block k (by have := hb.size; omega) hn).trans (hb.block k hk), hn⟩
    have HwW := Lib.hid hwW
    clear hwW
    have p0 : W.cell? ⟨w.heap.size, 0, none⟩ = some (.slice a.addr a.xs.length a.cap) := gblk hxW 0
    have p1 : W.cell? ⟨w.heap.size, 1, none⟩ = some (.slice b.addr b.xs.length b.cap) := gblk hxW 1
    have x0 : W.cell? ⟨bx, 0, none⟩ = some (.int .i64 (i : Int)) := gblk hbx 0
    have x1 : W.cell? ⟨bx, 1, none⟩ = some (.int .i64 (k : Int)) := gblk hbx 1
    have lx := lt_block hbx
    have lp := lt_block hxW
    have q0 := fun p => cell_ext (w := W) (a := ⟨w.heap.size, 0, none⟩) lp p0 p
    have q1 := fun p => cell_ext (w := W) (a := ⟨w.heap.size, 1, none⟩) lp p1 p
    have y0 := fun p => cell_ext (w := W) (a := ⟨bx, 0, none⟩) lx x0 p
    have y1 := fun p => cell_ext (w := W) (a := ⟨bx, 1, none⟩) lx x1 p
    have cE := Lib.hid (fun p : ExtBy W => end21_any a b p.to)
    unfold placeA pairA at *
    by_cases hend : i = a.xs.length ∧ k = b.xs.length
    · obtain ⟨rfl, rfl⟩ := hend
      have hq := fun w => run_equalIn_place a.xs.length b.xs.length a.xs.length b.xs.length w
      rw [decide_eq_true (show (a.xs.length : Int) = a.xs.length ∧ (b.xs.length : Int) = b.xs.length from ⟨rfl, rfl⟩)] at hq
      gi_wp2_with fail
      refine wpInR_region_ext (by kernel_rfl) (by kernel_rfl) (fun _ _ h => h) ?_
      repeat (quiet_step ((go_at_call 57; exact Calls.ext_of (cE.out _))))
      refine wpQuiet_nil ?_
      intro _ hw'
      obtain ⟨p, rfl⟩ := hw'
      gi_wp2_with fail
      have he := p.ext
      generalize p.to = V at *
      exact pv_next ho1 hon hf hf0 hlv hsub (Only.of_below he) (hg.ext he) (by rw [hf0 _ hnp]; exact (cA_end (Nat.le_refl _) (Nat.le_refl _)).symm) (fun _ _ _ => rfl)
    · have hq := fun w => run_equalIn_place i k a.xs.length b.xs.length w
      rw [decide_eq_false (show ¬ ((i : Int) = a.xs.length ∧ (k : Int) = b.xs.length) by omega)] at hq
      gi_wp2_with fail
      refine wpInR_region_ext (by kernel_rfl) (by kernel_rfl) (fun _ _ h => h) ?_
      repeat (quiet_step ((go_at_call 57; exact Calls.ext_of (cE.out _))))
      refine wpQuiet_nil ?_
      intro _ hw'
      obtain ⟨p, rfl⟩ := hw'
      have he := p.ext
      have a0 := y0 p
      have a1 := y1 p
      generalize p.to = V at *
      clear q0 q1 y0 y1 hq cE
      have e81 := enters_of Tryd.func81 (by kernel_rfl) rfl
      have cf := cell_one ((he.block _ (lt_block hfW)).trans hfW)
      have cA1 := Lib.hid (at21_any H a.xs.length b.xs.length rb f (W1.heap.size + 1) i k V ((he.block _ (lt_block hhW)).trans hhW) (hg.ext he) hi hk)
      gi_wp2_with fail
      unfold placeA at cA1
      refine ⟨trivial, rfl, (callsIn_wide.2 cA1.out).mono ?_⟩
      rintro e V1 ⟨rfl, hb1⟩
      have he1 := ext_trans he hb1
      have hg1 := hg.ext he1
      have cc := hg1.cell hi hk
      have fr := hg1.free hi k
      obtain ⟨V2, hV2⟩ : ∃ V2, V1.setCell ⟨rb i, k, none⟩ (.int .i64 128) = V2 := ⟨_, rfl⟩
      have hS0 : StInv W H a.xs b.xs rb f i k 0 V2 := by
        rw [← hV2]
        exact ⟨_, hg1.store hi hk 128, by rw [Grid.upd_same]; rfl, fun y m hym => Grid.upd_other hym, (Only.of_below he1).setCell (p := ⟨rb i, k, none⟩) (.inl (.inr ⟨i, hi, rfl⟩)) _⟩
      have keepW : ∀ wr n, StInv W H a.xs b.xs rb f i k n wr → ∀ m o, W.heap[m]? = some o → ¬ Grid.own H (fun j => j ≤ a.xs.length) rb m → wr.heap[m]? = some o := by
        rintro wr n ⟨_, _, _, _, hO⟩ m o hm hn
        exact (hO.block m (lt_block hm) hn).trans hm
      have nS : ∀ m, W1.heap.size ≤ m → ¬ Grid.own H (fun j => j ≤ a.xs.length) rb m := fun m hm h => by have := hhigh _ h; omega
      have nP : ¬ Grid.own H (fun j => j ≤ a.xs.length) rb w.heap.size := fun h => by have := hlow _ h; omega
      have nX : ¬ Grid.own H (fun j => j ≤ a.xs.length) rb bx := nS bx (by omega)
      have c4 := cell_one (keepW V2 0 hS0 _ _ haW (nS _ (by omega)))
      have HS0 := Lib.hid hS0
      have KW := Lib.hid keepW
      have NS := Lib.hid nS
      have HfW := Lib.hid hfW
      have HhW := Lib.hid hhW
      have HsW := Lib.hid hsW
      have HxW := Lib.hid hxW
      have Hbx := Lib.hid hbx
      have HfF := Lib.hid hf
      have Hf0 := Lib.hid hf0
      have Hlv := Lib.hid hlv
      have Hsub := Lib.hid hsub
      have Ho1 := Lib.hid ho1
      have Hend := Lib.hid hend
      have Hpre := Lib.hid hpre
      clear keepW nS hS0 hfW hhW hsW hxW hbx haW hf hf0 hlv hsub hgo ho1 hend hpre fixed hhigh hlow hit ho hoi hnp hg1 cA1 cf a0 a1 p0 p1 x0 x1 hx5 hs5 hh5 ha5 hf5 hp5 hz2 hz5
      gi_wp2_with fail
      clear cc fr c4
      gi_loopw [29] (fun j wr => ∃ n : Nat, n ≤ 4 ∧ j = .int .i64 n ∧ StInv W H a.xs b.xs rb f i k n wr) (fun j _ => (4 - intOf j).toNat)
      case atStart => exact ⟨0, by omega, rfl, HS0.out⟩
      case round =>
        obtain ⟨n, hn, rfl, hS⟩ := hrel
        by_cases hlt : n < 4
        · have hlt2 : (n : Int) < 4 := by omega
          have n0 : (0 : Int) ≤ (n : Int) := by omega
          have cs : wr.cell? ⟨W1.heap.size, n, none⟩ = some (.func (Fn.func (stepF n)) #[] #[]) := (gblk (KW.out wr n hS _ _ HsW.out (NS.out _ (by omega))) n).trans (stepCells_at hlt)
          have hXw := KW.out wr n hS _ _ HxW.out nP
          have hBw := KW.out wr n hS _ _ Hbx.out nX
          have p0 : wr.cell? ⟨w.heap.size, 0, none⟩ = some (.slice a.addr a.xs.length a.cap) := gblk hXw 0
          have p1 : wr.cell? ⟨w.heap.size, 1, none⟩ = some (.slice b.addr b.xs.length b.cap) := gblk hXw 1
          have x0 : wr.cell? ⟨bx, 0, none⟩ = some (.int .i64 (i : Int)) := gblk hBw 0
          have x1 : wr.cell? ⟨bx, 1, none⟩ = some (.int .i64 (k : Int)) := gblk hBw 1
          have eS := stepF_enter hlt
          have hzr : w.heap.size ≤ wr.heap.size ∧ ∀ k, k < w.heap.size → wr.heap[k]? = w.heap[k]? := by
            obtain ⟨_, _, _, _, hO'⟩ := hS
            exact ⟨Nat.le_trans HwW.out.1 hO'.size, fun k hk => (hO'.block k (by have := HwW.out.1; omega) (HwW.out.2 k hk).2).trans (HwW.out.2 k hk).1⟩
          have hAr : a.lies wr := lies_low ha hzr.1 hzr.2
          have hBr : b.lies wr := lies_low hb hzr.1 hzr.2
          clear hzr
          have cS := Lib.hid (step21_any a b n i k wr hlt (by omega) (by omega) hAr hBr)
          clear hXw hBw hAr hBr
          gi_wp2_with fail
          unfold StepPost placeA pairA at cS
          refine ⟨trivial, rfl, (callsIn_wide.2 cS.out).mono ?_⟩
          rintro e w1 ⟨rfl, hb1⟩
          obtain ⟨w2, hw2⟩ : ∃ w2, w1.alloc (.cells (placeA (stI n i) (stK n k)) 86) = w2 := ⟨_, rfl⟩
          have hb2 : Below wr.heap.size wr w2 := by rw [← hw2]; exact ext_alloc hb1 _
          have hy2 : w2.heap[w1.heap.size]? = some (.cells (placeA (stI n i) (stK n k)) 86 (0, 0)) := by rw [← hw2]; exact World.alloc_heap_new _ _
          unfold placeA at hw2
          obtain ⟨haf, hne⟩ := st_after n i k
          cases hok : stOk a.xs b.xs n i k
          · have hfin : Hid (StInv W H a.xs b.xs rb f i k (n + 1) w2) := by
              obtain ⟨f', hg', hm', ho', hO'⟩ := hS
              exact ⟨f', hg'.ext hb2, by rw [mS_no hok]; exact hm', ho', hO'.ext hb2⟩
            clear hS hok hy2 cs p0 p1 x0 x1 hb1 hb2
            gi_wp2_with fail
            go_roundw
            case rel => exact ⟨n + 1, by omega, by go_num, hfin.out⟩
            case measure => simp [intOf]; try omega
          · obtain ⟨f', hg', hm', ho', hO'⟩ := hS
            obtain ⟨hyi, hyk⟩ := stOk_le hlt hok hi hk
            have hcy : f' (stI n i) (stK n k) = cA a.xs b.xs (stI n i) (stK n k) := (ho' _ _ hne).trans (HfF.out _ (done_before Hpre.out hyi hyk haf))
            have hfin : Hid (∀ V, Below wr.heap.size wr V → StInv W H a.xs b.xs rb f i k (n + 1) (V.setCell ⟨rb i, k, none⟩ (.int .i64 ((min (mS a.xs b.xs i k n) (stC n + cA a.xs b.xs (stI n i) (stK n k)) : Nat) : Int)))) :=
              fun V hV => st_store hV hi hk hg' ho' hO' (mS_ok hok).symm
            have hle := cA_le a.xs b.xs (stI n i) (stK n k)
            have hle2 : stC n ≤ 1 := by unfold stC; split <;> omega
            have hle3 := mS_le a.xs b.xs i k n
            have hfw := (hb2.block _ (lt_block (KW.out wr n ⟨f', hg', hm', ho', hO'⟩ _ _ HfW.out (NS.out _ (by omega))))).trans (KW.out wr n ⟨f', hg', hm', ho', hO'⟩ _ _ HfW.out (NS.out _ (by omega)))
            have hhw := (hb2.block _ (lt_block (KW.out wr n ⟨f', hg', hm', ho', hO'⟩ _ _ HhW.out (NS.out _ (by omega))))).trans (KW.out wr n ⟨f', hg', hm', ho', hO'⟩ _ _ HhW.out (NS.out _ (by omega)))
            have hbw := (hb2.block _ (lt_block (KW.out wr n ⟨f', hg', hm', ho', hO'⟩ _ _ Hbx.out nX))).trans (KW.out wr n ⟨f', hg', hm', ho', hO'⟩ _ _ Hbx.out nX)
            have hg2 := hg'.ext hb2
            have g0 := fun p => cell_ext (w := w2) (a := ⟨W1.heap.size + 3, 0, none⟩) (lt_block hfw) (cell_one hfw) p
            have b0 := fun p => cell_ext (w := w2) (a := ⟨bx, 0, none⟩) (v := .int .i64 (i : Int)) (lt_block hbw) (gblk hbw 0) p
            have b1 := fun p => cell_ext (w := w2) (a := ⟨bx, 1, none⟩) (v := .int .i64 (k : Int)) (lt_block hbw) (gblk hbw 1) p
            have s0 := fun p => cell_ext (w := w2) (a := ⟨w1.heap.size, 0, none⟩) (v := .int .i64 ((stI n i : Nat) : Int)) (lt_block hy2) (gblk hy2 0) p
            have s1 := fun p => cell_ext (w := w2) (a := ⟨w1.heap.size, 1, none⟩) (v := .int .i64 ((stK n k : Nat) : Int)) (lt_block hy2) (gblk hy2 1) p
            have m0 := fun p => cell_ext (w := w2) (a := ⟨rb i, k, none⟩) (hg2.rlt hi) (hg2.cell hi hk) p
            have m1 := fun p => cell_ext (w := w2) (a := ⟨rb (stI n i), stK n k, none⟩) (hg2.rlt hyi) (hg2.cell hyi hyk) p
            have cAt : Hid (∀ (i' k' : Nat) (_ : i' ≤ a.xs.length) (_ : k' ≤ b.xs.length) (p : ExtBy w2), Calls Tryd.prog 81 #[.agg #[.int .i64 (i' : Int), .int .i64 (k' : Int)], .pointer (some ⟨W1.heap.size + 1, 0, none⟩)] p.to fun e w' => e = .returned (.pointer (some ⟨rb i', k', none⟩)) ∧ Below p.to.heap.size p.to w') :=
              fun i' k' h1 h2 p => at21_any H a.xs.length b.xs.length rb f' (W1.heap.size + 1) i' k' p.to ((p.ext.block _ (lt_block hhw)).trans hhw) (hg2.ext p.ext) h1 h2
            have Hg2 := Lib.hid hg2
            have Hb2 := Lib.hid hb2
            rw [hm'] at m0
            rw [hcy] at m1
            clear hfw hhw hbw hg2 hg' hm' ho' hO' hcy hok hy2 cs p0 p1 x0 x1 hb1 hb2 haf hne eS cS
            generalize stI n i = yi at *
            generalize stK n k = yk at *
            generalize stC n = c at *
            generalize cA a.xs b.xs yi yk = cy at *
            generalize mS a.xs b.xs i k n = m at *
            have hwr : IntKind.i64.wrap ((c : Int) + (cy : Int)) = (c : Int) + (cy : Int) := by rw [IntKind.wrap_i64]; omega
            have hmn : min (m : Int) ((c : Int) + (cy : Int)) = ((min m (c + cy) : Nat) : Int) := by omega
            gi_wp2_with fail
            refine wpInR_region_ext_tail 17 (by kernel_rfl) (by kernel_rfl) (fun _ _ h => h) ?_
            simp only [List.take_succ_cons, List.take_zero, List.drop_succ_cons, List.drop_zero]
            repeat (quiet_step ((go_at_call 81; exact Calls.ext_of (cAt.out _ _ (by assumption) (by assumption) _))))
            refine wpQuiet_nil ?_
            intro _ hw'
            obtain ⟨p, rfl⟩ := hw'
            have he := p.ext
            have cc := m0 p
            have fr := (Hg2.out.ext he).free hi k
            have hfin2 := Lib.hid (hfin.out p.to (ext_trans Hb2.out he))
            generalize p.to = V at *
            clear g0 b0 b1 s0 s1 m0 m1
            go_wp2_with fail
            gi_wp2_with fail
            go_roundw
            case rel => exact ⟨n + 1, by omega, by go_num, hfin2.out⟩
            case measure => simp [intOf]; try omega
        · obtain rfl : n = 4 := by omega
          gi_wp2_with fail
          obtain ⟨f', hg', hm', ho', hO'⟩ := hS
          exact pv_next Ho1.out hon HfF.out Hf0.out Hlv.out Hsub.out hO' hg' (by rw [hm']; exact mS_all hi hk Hend.out) ho'
  · rintro D own W hD hpn ⟨ho, hon, f, hg, hf, _⟩ hdef
    have hhW := (hon.block (W1.heap.size + 1) (by omega) (fun h => by have := hhigh _ h; omega)).trans hh5
    have ch := cell_one hhW
    clear hit
    refine wpAt_wp ?_
    go_wp2_with fail
    refine leavesM_ret (W := W) (v := .slice (some ⟨H, 0, none⟩) (a.xs.length + 1) (a.xs.length + 1)) hdef ?_ ⟨H, rb, rfl, ⟨(hg.of_blocks fun k hk => World.putObj_heap_other (fun e => ?_)).eqf (fun i k hi hk => ?_), by have := htab.hd; omega, fun i hi => by have := htab.row i hi; omega⟩, ⟨hon.os.trans (ext_trans hB0 hB05).os, hon.tape.trans (ext_trans hB0 hB05).tape, hon.output.trans (ext_trans hB0 hB05).output, ?_, fun k hk => ?_⟩⟩
    · simp [results, Tryd.results55, go_sem, ch]
    · have := hhigh k hk; omega
    · exact hf (i, k) (mem_allP.2 ⟨hi, hk⟩)
    · rw [World.putObj_size]; exact Nat.le_trans (ext_trans hB0 hB05).size hon.size
    · rw [World.putObj_heap_other (by have := (ext_trans hB0 hB05).size; omega), hon.block k (by have := (ext_trans hB0 hB05).size; omega) (fun h => by have := hlow _ h; omega)]
      exact (ext_trans hB0 hB05).block k hk
  · rintro D own c pre W _ _ h
    exact h.elim
  · rintro D ch W _ h
    exact h.elim
  · rintro D own ch W hD hpn
    cases hpn
end Go.Proofs.YtmindojbkedmlaaDoor

/- Appends of perhaps nothing, as a step of a region that draws its order; pieces of a slice. -/
namespace Go.Han
open Go.RowKit
section
variable {P : Program} {w : World}
theorem src_nil (size c : Nat) (tx : TypeId) {e : TypeId} (ht : P.underlying tx = some (.slice e)) : Src P size tx (.slice none 0 c) 0 [] w := by
  refine ⟨.inl ⟨e, ht⟩, fun w' => ?_, ?_, ?_, by simp, fun u hu => by cases hu⟩
  · rfl
  · rfl
  · rfl
theorem own_room {base e size n : Nat} {v : Value} {xs : List Value} (h : w.ownsRow base e size v n xs) : ∃ A cap, v = .slice A n cap ∧ n ≤ cap := by
  rcases h.2 with ⟨h1, h2⟩ | ⟨g, cap, cur, h1, _, _, h4, _⟩
  · subst h2; exact ⟨none, 0, h1, Nat.le_refl _⟩
  · exact ⟨_, cap, h1, h4⟩
theorem grownBy_same (row : Option Nat) : w.grownBy w row := gbelow_grown (Below.refl _ _) row
theorem run_append_rd (base : Nat) (t ty e : TypeId) (i : TypeInfo) (z : Value) (size bytes : Nat) (ht : P.underlying t = some (.slice e)) (hi : P.info? e = some i) (hz : i.zero = some z)
    (hsize : i.size = size) (hby : i.bytes = bytes) (hzs : z.cells.size = size) (hsz : 0 < size)
    (v : Value) (n : Nat) (xs : List Value) (hown : w.ownsRow base e size v n xs)
    (B : Option Addr) (m c : Nat) (news : List Value) (hl : news.length = m * size) (hr : Rd w B news) (h1 : ∀ u ∈ news, u.oneCell' = true)
    (h63 : n + m ≤ maxLen) (hbytes : (n + m) * bytes ≤ 140737488355328) (hbase : base ≤ w.heap.size) :
    ∃ v' w', (Builtin.append_ #[t, t] ty #[v, .slice B m c]).run P w = .ok v' w' ∧ w'.ownsRow base e size v' (n + m) (xs ++ news) ∧ w.grownBy w' v.ownBlock ∧ (v'.ownBlock = v.ownBlock ∨ v'.ownBlock = some w.heap.size) := by
  cases B with
  | none =>
    have hn : news = [] := by
      rcases hr with h | ⟨b, off, h, _⟩
      · exact h
      · cases h
    subst hn
    have hm : m = 0 := by
      rcases Nat.eq_zero_or_pos m with h | h
      · exact h
      · have := Nat.mul_pos h hsz; simp at hl; omega
    subst hm
    obtain ⟨A, cap, rfl, hle⟩ := own_room hown
    refine ⟨_, _, run_append_nothing w t t ty e i ht hi A n cap hle _ (src_nil i.size c t ht), ?_, grownBy_same _, .inl rfl⟩
    simpa using hown
  | some ad =>
    have hc : ∀ j u, news[j]? = some u → w.cell? (ad.add j) = some u := by
      intro j u hu
      rcases hr with h | ⟨b, off, h, _, hc⟩
      · rw [h] at hu; cases hu
      · cases h
        have := hc j u hu
        rw [show (⟨b, off, none⟩ : Addr).add j = ⟨b, off + j, none⟩ from by unfold Addr.add; split <;> simp_all]
        exact this
    obtain ⟨v', w', hr, h2, h3, _, h5⟩ := run_append_own_at (P := P) w base t ty e i z size bytes ht hi hz hsize hby hzs hsz v n xs hown ad m c news hl hc h1 h63 hbytes hbase
    exact ⟨v', w', hr, h2, h3, h5⟩
theorem step_append_rd {ops : Array Oper} {o : Oper} {a : Act} {K : Act → World → Prop} {Q : Exit → Act → World → Prop} {E : Prop} (hgd : o.guard = none) (s x : Operand) (t : TypeId)
    (ho : o.op = .call { callee := .builtin .append, args := #[s, x], argTypes := #[t, t] })
    (base : Nat) (e : TypeId) (i : TypeInfo) (z : Value) (size bytes : Nat) (ht : P.underlying t = some (.slice e)) (hi : P.info? e = some i) (hz : i.zero = some z)
    (hsize : i.size = size) (hby : i.bytes = bytes) (hzs : z.cells.size = size) (hsz : 0 < size)
    (v : Value) (n : Nat) (xs : List Value) (hs : a.eval s = v) (B : Option Addr) (m c : Nat) (news : List Value) (hx : a.eval x = .slice B m c)
    (hown : w.ownsRow base e size v n xs) (hl : news.length = m * size) (hr : Rd w B news) (h1 : ∀ u ∈ news, u.oneCell' = true)
    (h63 : n + m ≤ maxLen) (hbytes : (n + m) * bytes ≤ 140737488355328) (hbase : base ≤ w.heap.size)
    (h : ∀ v' w', w'.ownsRow base e size v' (n + m) (xs ++ news) → w.grownBy w' v.ownBlock → (v'.ownBlock = v.ownBlock ∨ v'.ownBlock = some w.heap.size) → K (a.put o.dst v') w') :
    if Region.wanted o (yielded ops a.tmps) = true then Oper.wp P o a w K Q else E := by
  have hw : Region.wanted o (yielded ops a.tmps) = true := by simp [Region.wanted, hgd]
  rw [if_pos hw]
  obtain ⟨v', w', hrun, h2, h3, h5⟩ := run_append_rd (P := P) (w := w) base t o.type e i z size bytes ht hi hz hsize hby hzs hsz v n xs hown B m c news hl hr h1 h63 hbytes hbase
  unfold Oper.wp execOp
  simp only [ho, resolve, invoke, builtin, Sem.run_bind, Sem.run_pure, Result.andThen_ok, List.map_toArray, List.map_cons, List.map_nil, hs, hx, hrun]
  exact h v' w' h2 h3 h5
/-- append of perhaps nothing, in a region that does not draw. -/
theorem wpList_append_rd {ops : Array Oper} {rest : List Oper} {o : Oper} {a : Act} {Q : Exit → Act → World → Prop} (hgd : o.guard = none) (s x : Operand) (t : TypeId)
    (ho : o.op = .call { callee := .builtin .append, args := #[s, x], argTypes := #[t, t] })
    (base : Nat) (e : TypeId) (i : TypeInfo) (z : Value) (size bytes : Nat) (ht : P.underlying t = some (.slice e)) (hi : P.info? e = some i) (hz : i.zero = some z)
    (hsize : i.size = size) (hby : i.bytes = bytes) (hzs : z.cells.size = size) (hsz : 0 < size)
    (v : Value) (n : Nat) (xs : List Value) (hs : a.eval s = v) (B : Option Addr) (m c : Nat) (news : List Value) (hx : a.eval x = .slice B m c)
    (hown : w.ownsRow base e size v n xs) (hl : news.length = m * size) (hr : Rd w B news) (h1 : ∀ u ∈ news, u.oneCell' = true)
    (h63 : n + m ≤ maxLen) (hbytes : (n + m) * bytes ≤ 140737488355328) (hbase : base ≤ w.heap.size)
    (h : ∀ v' w', w'.ownsRow base e size v' (n + m) (xs ++ news) → w.grownBy w' v.ownBlock → (v'.ownBlock = v.ownBlock ∨ v'.ownBlock = some w.heap.size) → wpList P ops Q rest (a.put o.dst v') w') :
    wpList P ops Q (o :: rest) a w := by
  refine wpList_plain hgd fun K hK => ?_
  obtain ⟨v', w', hrun, h2, h3, h5⟩ := run_append_rd (P := P) (w := w) base t o.type e i z size bytes ht hi hz hsize hby hzs hsz v n xs hown B m c news hl hr h1 h63 hbytes hbase
  unfold Oper.wp execOp
  simp only [ho, resolve, invoke, builtin, Sem.run_bind, Sem.run_pure, Result.andThen_ok, List.map_toArray, List.map_cons, List.map_nil, hs, hx, hrun]
  exact hK _ _ (h v' w' h2 h3 h5)
/-- A new slice of no elements. -/
theorem own_empty {base e size b : Nat} (h : w.heap[b]? = some (.cells #[] e (0, 0))) (hb : base ≤ b) : w.ownsRow base e size (.slice (some ⟨b, 0, none⟩) 0 0) 0 [] :=
  ⟨by simp, .inr ⟨b, 0, #[], rfl, hb, h, Nat.le_refl _, Nat.zero_le _, by simp, by simp⟩⟩
/-- Where a piece lies. -/
def subA (A : Option Addr) (cp i s : Nat) : Option Addr := if cp = i then A else A.map (·.add (i * s))
theorem Rd.cut {α : Type} {f : α → List Value} {s : Nat} (hs : 0 < s) (hf : ∀ y, (f y).length = s) {A : Option Addr} {l : List α} (h : Rd w A (l.flatMap f)) {cp i n : Nat} (hin : i + n ≤ l.length) (hcp : l.length ≤ cp) :
    Rd w (subA A cp i s) (((l.drop i).take n).flatMap f) := by
  unfold subA
  by_cases hc : cp = i
  · obtain rfl : n = 0 := by omega
    simp only [List.take_zero]
    exact Rd.nil _ _
  · rw [if_neg hc]
    rcases h with h0 | ⟨b, off, he, hb, hcl⟩
    · have hl : l = [] := by
        cases l with
        | nil => rfl
        | cons x l =>
          have := congrArg List.length h0
          simp [hf] at this
          omega
      rw [hl]; simp only [List.drop_nil, List.take_nil]; exact Rd.nil _ _
    · refine .inr ⟨b, off + i * s, by rw [he]; simp [Addr.add], hb, fun j u hu => ?_⟩
      rw [Nat.add_assoc]
      refine hcl (i * s + j) u ?_
      have h1 : l.flatMap f = (l.take i).flatMap f ++ (((l.drop i).take n).flatMap f ++ ((l.drop i).drop n).flatMap f) := by
        rw [← List.flatMap_append, List.take_append_drop, ← List.flatMap_append, List.take_append_drop]
      have h2 : ((l.take i).flatMap f).length = i * s := by rw [flat_len f s hf, List.length_take, Nat.min_eq_left (by omega)]
      rw [h1, List.getElem?_append_right (by omega), h2, Nat.add_sub_cancel_left, List.getElem?_append_left (List.getElem?_eq_some_iff.1 hu).1]
      exact hu
end
end Go.Han

/- Slices of numbers of the call's own. -/
namespace Go.Proofs.YtmindojbkedmlaaDoor
open Go.RowKit Go.Han
attribute [local irreducible] wpStill wpQuiet
set_option maxRecDepth 100000

theorem info_intA : (Tryd.prog.info? 3).map (fun i => (i.zero, i.size, i.bytes)) = some (some (.int .i64 0), 1, 8) := by kernel_rfl
def intC (x : Int) : List Value := [.int .i64 x]
theorem intC_one (x : Int) : ∀ u ∈ intC x, u.oneCell' = true := by intro u hu; simp [intC] at hu; subst hu; rfl
abbrev OwnI (w : World) (base : Nat) (v : Value) (l : List Int) : Prop := OwnL intC 3 1 w base v l
theorem ownI_one (w : World) (x : Int) : OwnI (w.alloc (.cells #[.int .i64 x] 3)) w.heap.size (.slice (some ⟨w.heap.size, 0, none⟩) 1 1) [x] := by
  refine ⟨by simp [intC], .inr ⟨w.heap.size, 1, #[.int .i64 x], rfl, Nat.le_refl _, World.alloc_heap_new _ _, Nat.le_refl _, by unfold maxLen; decide, rfl, rfl⟩⟩
theorem int_room {n : Nat} (h : n ≤ 10000) : n + 1 ≤ maxLen ∧ (n + 1) * 8 ≤ 140737488355328 := by unfold maxLen; omega
theorem ints_len (l : List Int) : (l.flatMap intC).length = l.length * 1 := flat_len intC 1 (fun _ => rfl) l
theorem ints_one (l : List Int) : ∀ u ∈ l.flatMap intC, u.oneCell' = true := by
  intro u hu
  obtain ⟨x, _, hx⟩ := List.mem_flatMap.1 hu
  exact intC_one x u hx
theorem stepI {w : World} {ops : Array Oper} {o : Oper} {a : Act} {K : Act → World → Prop} {Q : Exit → Act → World → Prop} {E : Prop} (hgd : o.guard = none) (s x : Operand)
    (ho : o.op = .call { callee := .builtin .append, args := #[s, x], argTypes := #[30, 30] })
    (base : Nat) (v : Value) (l : List Int) (hs : a.eval s = v) (B : Option Addr) (m c : Nat) (ys : List Int) (hx : a.eval x = .slice B m c) (hm : ys.length = m)
    (hown : OwnI w base v l) (hr : Rd w B (ys.flatMap intC)) (hbd : l.length + ys.length ≤ 9000) (hbase : base ≤ w.heap.size)
    (h : ∀ v' w', OwnI w' base v' (l ++ ys) → (∀ W : World, W.heap.size = base → Below W.heap.size W w → Below W.heap.size W w') → w.grownBy w' v.ownBlock → (v'.ownBlock = v.ownBlock ∨ v'.ownBlock = some w.heap.size) → K (a.put o.dst v') w') :
    if Region.wanted o (yielded ops a.tmps) = true then Oper.wp Tryd.prog o a w K Q else E := by
  obtain ⟨i0, hi0, iz0, is0, ib0⟩ := info_parts info_intA
  subst hm
  refine step_append_rd hgd s x 30 ho base 3 i0 _ 1 8 Tryd.underlying30 hi0 iz0 is0 ib0 rfl (by decide) v l.length (l.flatMap intC) hs B ys.length c (ys.flatMap intC) hx hown (ints_len ys) hr (ints_one ys) (by unfold maxLen; omega) (by omega) hbase ?_
  intro v' w' h1 h2 h3
  refine h v' w' ?_ (fun W hW hb => hb.grown h2 hb.size (fun k hk => by rw [hW]; exact (hown.lt k hk).1)) h2 h3
  show w'.ownsRow base 3 1 v' (l ++ ys).length ((l ++ ys).flatMap intC)
  rw [List.length_append, List.flatMap_append]
  exact h1
end Go.Proofs.YtmindojbkedmlaaDoor

/- All orders of a drawn region meet. No program in sight. -/
namespace Go.Han
open Go.RowKit
theorem wp_meetD {P : Program} {c : Code} {Q : Exit → Act → World → Prop} {a F : Act} {w w' : World} (h : c.wp P (Exit.then (fun a' v => a' = F ∧ v = w') (fun _ _ _ => False)) a w) (k : Q .normal F w') : c.wp P Q a w :=
  wp_mono h (fun e a' v hh => by
    cases e with
    | normal => obtain ⟨h2, h3⟩ := hh; subst h2 h3; exact k
    | _ => exact hh.elim)
theorem wp_meetG {P : Program} {c : Code} {Q : Exit → Act → World → Prop} {a : Act} {w : World} {Phi : Value → World → Prop} {F : Value → Act} (h : c.wp P (Exit.then (fun a' v => ∃ u, a' = F u ∧ Phi u v) (fun _ _ _ => False)) a w) (k : ∀ u v, Phi u v → Q .normal (F u) v) : c.wp P Q a w :=
  wp_mono h (fun e a' v hh => by
    cases e with
    | normal => obtain ⟨u, h2, h3⟩ := hh; subst h2; exact k u v h3
    | _ => exact hh.elim)
end Go.Han
