/- A piece of a slice of strings; IsAt (the reference). -/
import Derived.Test.YtneanannicacnaaDoorTerm8
namespace Go.Proofs.YtneanannicacnaaDoor
open Go.RowKit Go.Han
attribute [local irreducible] wpStill wpQuiet
set_option maxRecDepth 100000

def StrS.sub (s : StrS) (i n : Nat) : StrS := ⟨if s.cap = i then s.addr else s.addr.map (·.add (i * 1)), s.cap - i, (s.xs.drop i).take n⟩
theorem StrS.sub_len {s : StrS} {i n : Nat} (h : i + n ≤ s.xs.length) : (s.sub i n).xs.length = n := by
  show ((s.xs.drop i).take n).length = n
  simp; omega
theorem StrS.sub_lies {w : World} {s : StrS} (hs : s.lies w) {i n : Nat} (h : i + n ≤ s.xs.length) : (s.sub i n).lies w := by
  have hcap := hs.cap
  have hmax := hs.max
  have hn := StrS.sub_len h
  refine ⟨?_, by rw [hn]; show n ≤ s.cap - i; omega, by show s.cap - i ≤ _; omega, ?_⟩
  · show Rd w (if s.cap = i then s.addr else s.addr.map (·.add (i * 1))) (strs ((s.xs.drop i).take n))
    by_cases hc : s.cap = i
    · obtain rfl : n = 0 := by omega
      exact Rd.nil _ _
    · rw [if_neg hc]
      rcases hs.rd with h0 | ⟨b, off, he, hb, hcl⟩
      · have h1 : s.xs = [] := by simpa [strs] using h0
        rw [h1]
        simp only [List.drop_nil, List.take_nil]
        exact Rd.nil _ _
      · refine .inr ⟨b, off + i, by rw [he]; simp [Addr.add], hb, fun j u hu => ?_⟩
        have hj : j < n := by
          obtain ⟨hlt, _⟩ := List.getElem?_eq_some_iff.1 hu
          simp [strs] at hlt
          omega
        rw [Nat.add_assoc]
        refine hcl (i + j) u ?_
        rw [← hu]
        simp [strs, hj]
  · intro h0
    have h1 : s.addr = none := by
      change (if s.cap = i then s.addr else s.addr.map (·.add (i * 1))) = none at h0
      split at h0
      · exact h0
      · simpa using h0
    show (s.xs.drop i).take n = []
    rw [hs.nil h1]; simp
theorem strs_cell : Tryd.prog.cellsOf 9 = 1 := by kernel_rfl
theorem run_sub (s : StrS) (i n : Nat) (w : World) (h : i + n ≤ s.xs.length) (hc : s.xs.length ≤ s.cap) :
    (Instr.slice 49 (.slice s.addr s.xs.length s.cap) (some (.int .i64 i)) (some (.int .i64 ((i : Int) + (n : Int)))) none).run Tryd.prog w = .ok (.slice (s.sub i n).addr n (s.sub i n).cap) w := by
  have e := run_slice_lh (P := Tryd.prog) (w := w) 49 s.addr s.xs.length s.cap (by rw [Tryd.underlying49]; rfl) .i64 .i64 (i : Int) ((i : Int) + (n : Int)) (by omega) (by omega) (by omega)
  rw [e]
  have h1 : ((i : Int) + (n : Int)).toNat = i + n := by omega
  have h2 : ((i : Int)).toNat = i := by omega
  rw [h1, h2]
  have h3 : (Go.sizeOf (Tryd.prog.elem 49)).run Tryd.prog w = .ok 1 w := by kernel_rfl
  rw [h3]
  show Result.ok (sliced s.addr i (i + n) s.cap 1) w = _
  unfold sliced StrS.sub
  rw [show i + n - i = n by omega]
theorem run_from (s : StrS) (i : Nat) (w : World) (h : i ≤ s.xs.length) :
    (Instr.slice 49 (.slice s.addr s.xs.length s.cap) (some (.int .i64 i)) none none).run Tryd.prog w = .ok (.slice (s.sub i (s.xs.length - i)).addr (s.xs.length - i) (s.sub i (s.xs.length - i)).cap) w := by
  have e := run_slice_l (P := Tryd.prog) (w := w) 49 s.addr s.xs.length s.cap (by rw [Tryd.underlying49]; rfl) .i64 (i : Int) (by omega) (by omega)
  rw [e]
  have h2 : ((i : Int)).toNat = i := by omega
  rw [h2]
  have h3 : (Go.sizeOf (Tryd.prog.elem 49)).run Tryd.prog w = .ok 1 w := by kernel_rfl
  rw [h3]
  rfl
theorem run_upto (s : StrS) (n : Nat) (w : World) (h : n ≤ s.xs.length) (hc : s.xs.length ≤ s.cap) :
    (Instr.slice 49 (.slice s.addr s.xs.length s.cap) none (some (.int .i64 n)) none).run Tryd.prog w = .ok (.slice (s.sub 0 n).addr n (s.sub 0 n).cap) w := by
  have e := run_slice_h (P := Tryd.prog) (w := w) 49 s.addr s.xs.length s.cap (by rw [Tryd.underlying49]; rfl) .i64 (n : Int) (by omega) (by omega)
  rw [e]
  have h2 : ((n : Int)).toNat = n := by omega
  rw [h2]
  have h3 : (Go.sizeOf (Tryd.prog.elem 49)).run Tryd.prog w = .ok 1 w := by kernel_rfl
  rw [h3]
  rfl

/-- The term's source stands at the head of these words. -/
def startB (x : Term) (ws : List ByteArray) : Bool := decide (ws.take x.src.xs.length = x.src.xs)
theorem startB_long {x : Term} {ws : List ByteArray} (h : ws.length < x.src.xs.length) : startB x ws = false := by
  refine decide_eq_false fun e => ?_
  have := congrArg List.length e
  rw [List.length_take] at this
  omega

set_option maxHeartbeats 1000000 in
theorem isAt_any (x : Term) (s : StrS) (i : Nat) (w : World) (hx : x.lies w) (hs : s.lies w) (hi : i ≤ s.xs.length) :
    Calls Tryd.prog 45 #[.agg #[.int .i64 x.no, .int .i64 x.at_, .int .i64 x.known, .int .i64 x.lang, .slice x.src.addr x.src.xs.length x.src.cap, .slice x.tgt.addr x.tgt.xs.length x.tgt.cap, .string x.cat, .bool x.gone], .slice s.addr s.xs.length s.cap, .int .i64 i] w fun e w' => e = .returned (.bool (startB x (s.xs.drop i))) ∧ Below w.heap.size w w' := by
  obtain ⟨w0, hw0⟩ : ∃ w0, w.alloc (.cells #[.int .i64 x.no, .int .i64 x.at_, .int .i64 x.known, .int .i64 x.lang, .slice x.src.addr x.src.xs.length x.src.cap, .slice x.tgt.addr x.tgt.xs.length x.tgt.cap, .string x.cat, .bool x.gone] 51) = w0 := ⟨_, rfl⟩
  have hB0 : Below w.heap.size w w0 := by rw [← hw0]; exact ext_alloc (Below.refl _ _) _
  have hz0 : w.heap.size < w0.heap.size := by rw [← hw0]; simp
  have hx0 : w0.heap[w.heap.size]? = some (.cells #[.int .i64 x.no, .int .i64 x.at_, .int .i64 x.known, .int .i64 x.lang, .slice x.src.addr x.src.xs.length x.src.cap, .slice x.tgt.addr x.tgt.xs.length x.tgt.cap, .string x.cat, .bool x.gone] 51 (0, 0)) := by rw [← hw0]; exact World.alloc_heap_new _ _
  have b4 := gblk hx0 4
  have hcap := hs.cap
  have hmax := hs.max
  have hxm : x.src.xs.length ≤ 9223372036854775807 := Nat.le_trans hx.1.cap hx.1.max
  have w1 : IntKind.i64.wrap ((s.xs.length : Int) - (i : Int)) = (s.xs.length : Int) - (i : Int) := IntWalk.i64_in _ (by omega)
  by_cases hn : i + x.src.xs.length ≤ s.xs.length
  · have hle : (x.src.xs.length : Int) ≤ (s.xs.length : Int) - (i : Int) := by omega
    have w2 : IntKind.i64.wrap ((i : Int) + (x.src.xs.length : Int)) = (i : Int) + (x.src.xs.length : Int) := IntWalk.i64_in _ (by omega)
    have hsub : ∀ W : World, _ := fun W => run_sub s i x.src.xs.length W hn hcap
    have hL := StrS.sub_len hn
    have cS : Hid (∀ p : ExtBy w0, Calls Tryd.prog 76 #[.slice x.src.addr x.src.xs.length x.src.cap, .slice (s.sub i x.src.xs.length).addr x.src.xs.length (s.sub i x.src.xs.length).cap] p.to fun e w' => e = .returned (.bool (startB x (s.xs.drop i))) ∧ Below p.to.heap.size p.to w') := by
      intro p
      have hbb := ext_trans hB0 p.ext
      have h := sameText_at x.src (s.sub i x.src.xs.length) p.to (hx.1.ext hbb) ((StrS.sub_lies hs hn).ext hbb)
      rw [hL] at h
      refine h.mono ?_
      rintro e w' ⟨rfl, hb⟩
      refine ⟨?_, hb⟩
      congr 2
      unfold startB
      exact decide_eq_decide.2 ⟨Eq.symm, Eq.symm⟩
    have g4 := fun p => cell_ext (w := w0) (a := ⟨w.heap.size, 4, none⟩) hz0 b4 p
    generalize startB x (s.xs.drop i) = r at *
    generalize (s.sub i x.src.xs.length).addr = B at *
    generalize (s.sub i x.src.xs.length).cap = d at *
    clear hL hs hx hx0
    go_enter Tryd.func45, Tryd.ntmps45
    go_wp2_with fail
    refine wp_region_ext (by kernel_rfl) (by kernel_rfl) ?_
    repeat (quiet_step ((go_at_call 76; exact Calls.ext_of (cS.out _))))
    refine wpQuiet_nil ?_
    intro _ hw'
    obtain ⟨p, rfl⟩ := hw'
    go_wp2
    go_ret
    exact ⟨rfl, ext_trans hB0 p.ext⟩
  · have hle : ¬ (x.src.xs.length : Int) ≤ (s.xs.length : Int) - (i : Int) := by omega
    have hle2 : decide ((x.src.xs.length : Int) ≤ (s.xs.length : Int) - (i : Int)) = false := decide_eq_false hle
    rw [startB_long (by simp; omega)]
    clear hs hx hx0
    go_enter Tryd.func45, Tryd.ntmps45
    go_wp2_with fail
    refine wp_region_ext (by kernel_rfl) (by kernel_rfl) ?_
    repeat (quiet_step (fail))
    refine wpQuiet_nil ?_
    intro _ hw'
    obtain ⟨p, rfl⟩ := hw'
    go_wp2
    go_ret
    exact ⟨rfl, ext_trans hB0 p.ext⟩
end Go.Proofs.YtneanannicacnaaDoor
