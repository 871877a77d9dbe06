/- Package spans: border, check, Check. -/
import Derived.Test.YtmindojbkedmlaaSpaP
import Derived.Test.YtmindojbkedmlaaM7
import Derived.Recover
namespace Go.Proofs.Ytmindojbkedmlaa
open Go.RowKit Go.Han
attribute [local irreducible] wpStill wpQuiet
set_option maxRecDepth 100000

theorem bl_len (x : List Spn) : (bl x).length = x.length * 2 := flat_len bC 2 (fun _ => rfl) x
theorem hdB_drop {B : List Int} {i : Nat} (h : i < B.length) : hdB (B.drop i) = B[i] := by rw [List.drop_eq_getElem_cons h]; rfl
theorem bl_even {x : List Spn} {j : Nat} (h : j < x.length) : hdB ((bl x).drop (j * 2)) = x[j].frm := by
  have hl : j * 2 < (bl x).length := by rw [bl_len]; omega
  have := flat_get bC 2 (fun _ => rfl) x j 0 h (by omega)
  rw [hdB_drop hl]
  unfold bl
  rw [Nat.add_zero] at this
  have h2 := List.getElem?_eq_getElem (l := x.flatMap bC) (i := j * 2) hl
  rw [h2] at this
  simpa [bC] using this
theorem bl_odd {x : List Spn} {j : Nat} (h : j < x.length) : hdB ((bl x).drop (j * 2 + 1)) = x[j].until_ := by
  have hl : j * 2 + 1 < (bl x).length := by rw [bl_len]; omega
  have := flat_get bC 2 (fun _ => rfl) x j 1 h (by omega)
  rw [hdB_drop hl]
  unfold bl
  have h2 := List.getElem?_eq_getElem (l := x.flatMap bC) (i := j * 2 + 1) hl
  rw [h2] at this
  simpa [bC] using this
theorem bl_end {x : List Spn} {i : Nat} (h : x.length * 2 ≤ i) : hdB ((bl x).drop i) = 1099511627777 := by
  rw [List.drop_eq_nil_of_le (by rw [bl_len]; exact h)]; rfl
set_option maxHeartbeats 1000000 in
theorem border_any (A : Option Addr) (c : Nat) (x : List Spn) (i : Nat) (w : World) (hr : Rd w A (nflat x)) (hm : x.length ≤ 10000) (hi : i ≤ 30000) :
    Calls Try.prog 95 #[.slice A x.length c, .int .i64 (i : Int)] w fun e w' => e = .returned (.int .i64 (hdB ((bl x).drop i))) ∧ w = w' := by
  have hw : IntKind.i64.wrap (2 * (x.length : Int)) = 2 * (x.length : Int) := IntWalk.i64_in _ (by omega)
  by_cases h1 : x.length * 2 ≤ i
  · rw [bl_end h1]
    have q1 : decide (2 * (x.length : Int) ≤ (i : Int)) = true := by simp; omega
    clear h1
    go_enter Try.func95, Try.ntmps95
    go_wp2_with fail
    go_ret
    exact ⟨rfl, rfl⟩
  · have q1 : decide (2 * (x.length : Int) ≤ (i : Int)) = false := by simp; omega
    obtain ⟨j, hj⟩ : ∃ j, i = j * 2 ∨ i = j * 2 + 1 := ⟨i / 2, by omega⟩
    rcases hj with rfl | rfl
    · have hlt : j < x.length := by omega
      rw [bl_even hlt]
      obtain ⟨b, off, rfl, hb, hc⟩ := spn_elem hr hlt
      obtain ⟨d0, d1⟩ := hc w (Below.refl _ _)
      clear hc h1
      generalize x[j] = y at *
      go_enter Try.func95, Try.ntmps95
      go_wp2_with fail
      go_ret
      exact ⟨rfl, rfl⟩
    · have hlt : j < x.length := by omega
      rw [bl_odd hlt]
      obtain ⟨b, off, rfl, hb, hc⟩ := spn_elem hr hlt
      obtain ⟨d0, d1⟩ := hc w (Below.refl _ _)
      obtain ⟨n, hn⟩ : ∃ n, j * 2 + 1 = n := ⟨_, rfl⟩
      have m1 : Int.tmod (n : Int) 2 = 1 := by rw [← hn, Int.tmod_eq_emod_of_nonneg (by omega)]; omega
      have m2 : Int.tdiv (n : Int) 2 = j := by rw [← hn, Int.tdiv_eq_ediv_of_nonneg (by omega)]; omega
      have hlt2 : (j : Int) < x.length := by omega
      rw [hn] at q1 ⊢
      clear hc h1 hn
      generalize x[j] = y at *
      go_enter Try.func95, Try.ntmps95
      go_wp2_with fail
      go_ret
      exact ⟨rfl, rfl⟩
/-- A slice of spans, as an argument. -/
structure SpS where
  addr : Option Addr
  cap : Nat
  xs : List Spn
def SpS.cell (s : SpS) : List Value := [.slice s.addr s.xs.length s.cap]
structure SpS.Ok (s : SpS) (w : World) : Prop where
  rd : Rd w s.addr (nflat s.xs)
  chk : spnB (-1) s.xs = true
  len : s.xs.length ≤ 4096
theorem SpS.Ok.ext {s : SpS} {w W : World} (h : s.Ok w) (hb : Below w.heap.size w W) : s.Ok W := ⟨h.rd.ext hb, h.chk, h.len⟩
set_option maxHeartbeats 2000000 in
theorem check13_any (A : Option Addr) (c : Nat) (L : List SpS) (w : World) (hr : Rd w A (L.flatMap SpS.cell)) (hm : L.length ≤ 100) (hok : ∀ s ∈ L, s.Ok w) :
    Calls Try.prog 58 #[.slice A L.length c] w fun e w' => e = .returned (.tuple #[]) ∧ Below w.heap.size w w' := by
  have HOK := Lib.hid hok
  clear hok
  go_enter Try.func58, Try.ntmps58
  go_wp2_with fail
  go_loopw [9] (fun i wr => ∃ k : Nat, k ≤ L.length ∧ i = .int .i64 k ∧ Below w.heap.size w wr) (fun i _ => L.length - (intOf i).toNat)
  case atStart => exact ⟨0, Nat.zero_le _, rfl, Below.refl _ _⟩
  case round =>
    obtain ⟨k, hk, rfl, hB⟩ := hrel
    by_cases hlt : k < L.length
    · obtain ⟨b, off, rfl, hb, hc⟩ := hr.elem (f := SpS.cell) (s := 1) (fun _ => rfl) (by omega) hlt
      have d0 := (hB.cell (p := ⟨b, off + k * 1 + 0, none⟩) hb).trans (hc 0 _ rfl)
      simp only [Nat.mul_one, Nat.add_zero] at d0
      have hs := HOK.out _ (List.getElem_mem hlt)
      have hlt2 : (k : Int) < L.length := by omega
      clear hc
      generalize L[k] = s at *
      obtain ⟨A1, c1, x⟩ := s
      obtain ⟨hrd, hck, hln⟩ := hs
      simp only at d0 hrd hck hln
      have q0 : decide ((4096 : Int) < (x.length : Int)) = false := by simp; omega
      have Hck := Lib.hid hck
      clear hck
      go_wp2_with fail
      go_loopw [4, 19] (fun vl i wr2 => ∃ (m : Nat) (last : Int), m ≤ x.length ∧ i = .int .i64 m ∧ vl = .int .i64 last ∧ Below w.heap.size w wr2 ∧ Hid (spnB last (x.drop m) = true)) (fun _ i _ => x.length - (intOf i).toNat)
      case atStart => exact ⟨0, -1, Nat.zero_le _, rfl, rfl, hB, Hck.out⟩
      case round =>
        obtain ⟨m, last, hm2, rfl, rfl, hB2, HS⟩ := hrel
        by_cases hlt3 : m < x.length
        · obtain ⟨b1, off1, rfl, hb1, hc1⟩ := spn_elem hrd hlt3
          obtain ⟨e0, e1⟩ := hc1 wr hB2
          have hsp := HS.out
          rw [List.drop_eq_getElem_cons hlt3] at hsp
          obtain ⟨s1, s2, s3, s4, s5⟩ := spnB_cons.1 hsp
          have hlt4 : (m : Int) < x.length := by omega
          clear hc1 hsp HS
          generalize x[m] = p at *
          have HN := Lib.hid s5
          have g1 : decide (p.frm ≤ last) = false := decide_eq_false (by omega)
          have g2 : decide (p.frm < 0) = false := decide_eq_false (by omega)
          have g3 : decide (p.until_ ≤ p.frm) = false := decide_eq_false (by omega)
          have g4 : decide (1099511627776 < p.until_) = false := decide_eq_false (by omega)
          obtain ⟨V, hV⟩ : ∃ V, wr.alloc (.cells #[.int .i64 p.frm, .int .i64 p.until_] 76) = V := ⟨_, rfl⟩
          have hbV : Below wr.heap.size wr V := by subst hV; exact ext_alloc (Below.refl _ _) _
          have hxV : V.heap[wr.heap.size]? = some (.cells #[.int .i64 p.frm, .int .i64 p.until_] 76 (0, 0)) := by subst hV; exact galloc_at _ _ _ rfl
          have p0 : V.cell? ⟨wr.heap.size, 0, none⟩ = some (.int .i64 p.frm) := gblk hxV 0
          have p1 : V.cell? ⟨wr.heap.size, 1, none⟩ = some (.int .i64 p.until_) := gblk hxV 1
          have hBV := ext_trans hB2 hbV
          clear s1 s2 s3 s4 s5 hbV hxV
          go_wp2_with fail
          go_roundw
          case rel => exact ⟨m + 1, p.until_, by omega, by go_num, rfl, hBV, HN⟩
          case measure => simp [intOf]; omega
        · obtain rfl : m = x.length := by omega
          clear HS
          go_wp2_with fail
          go_roundw
          case rel => exact ⟨k + 1, by omega, by go_num, hB2⟩
          case measure => simp [intOf]; omega
    · obtain rfl : k = L.length := by omega
      go_wp2
      go_end0
      exact ⟨rfl, hB⟩
theorem caught13_ret (b : Nat) (w : World) :
    CallsD Try.prog 57 #[.pointer (some ⟨b, 0, none⟩)] .returning w fun e u' w' => u' = .returning ∧ e = .returned (.tuple #[]) ∧ w' = w := by
  refine callsD_of_wpS Try.func57 rfl fun c₀ cs hu => ?_
  simp only [Try.ntmps57, List.size_toArray, List.length_cons, List.length_nil, Nat.reduceAdd, Nat.reduceSub, Array.replicate_succ, Array.replicate_zero, List.push_toArray, List.append_toArray, List.nil_append, List.cons_append]
  apply wpS_seq
  apply wpS_region
  simp [wpOpsS, go_sem, recoverD, hu, Exit.thenS]
  refine wpS_of_wp ?_
  go_wp2
  cases c₀
  simp_all [bodyPostS, results, Try.results57]
set_option maxHeartbeats 1000000 in
theorem Check13_any (s : SpS) (w : World) (hs : s.Ok w) : Calls Try.prog 25 #[.slice s.addr s.xs.length s.cap] w fun e w' => e = .returned (.int .i64 0) ∧ Below w.heap.size w w' := by
  obtain ⟨W1, hW1⟩ : ∃ W, (w.alloc (.cells #[.int .i64 0] 26)).alloc (.cells #[.slice s.addr s.xs.length s.cap] 34) = W := ⟨_, rfl⟩
  have hb0 : W1.heap[w.heap.size]? = some (.cells #[.int .i64 0] 26 (0, 0)) := by subst hW1; exact (Below.heap_alloc _ _ _ (by simp)).trans (galloc_at _ _ _ rfl)
  have hl1 : Rd W1 (some ⟨w.heap.size + 1, 0, none⟩) ([s].flatMap SpS.cell) := by subst hW1; exact grd_blk (galloc_at _ _ _ (by simp)) rfl
  have hB1 : Below w.heap.size w W1 := by subst hW1; exact ext_alloc (ext_alloc (Below.refl _ _) _) _
  have cK := Lib.hid (check13_any (some ⟨w.heap.size + 1, 0, none⟩) 1 [s] W1 hl1 (by simp) (fun t ht => by rw [List.mem_singleton.1 ht]; exact hs.ext hB1))
  obtain ⟨A, c, x⟩ := s
  simp only at hW1 cK ⊢
  go_enter_defers Try.func25, Try.ntmps25
  go_wp2_with fail
  refine cK.out.mono ?_
  rintro e w2 ⟨rfl, hb2⟩
  have h2 := (hb2.block _ (lt_block hb0)).trans hb0
  have c0 := cell_one h2
  have f0 := frozen_one h2 0
  have h3 := cell_one (set_one h2 (.int .i64 0))
  have hB3 : Below w.heap.size w (w2.setCell ⟨w.heap.size, 0, none⟩ (.int .i64 0)) := (ext_trans hB1 hb2).setCell (p := ⟨w.heap.size, 0, none⟩) (Nat.le_refl _) _
  clear hW1 cK hb0 hl1
  go_wp2_with fail
  refine leaves_cons (f := 57) (args := #[.pointer (some ⟨w.heap.size, 0, none⟩)]) (by simp) (by simp [go_sem]) ?_
  refine (caught13_ret _ _).mono ?_
  rintro e u' w'' ⟨rfl, rfl, rfl⟩
  simp [Leaves, settle, results, Try.results25, go_sem, h3]
  exact hB3
end Go.Proofs.Ytmindojbkedmlaa
