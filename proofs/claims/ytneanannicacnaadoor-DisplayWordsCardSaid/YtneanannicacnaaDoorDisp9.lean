/- Package display: until, the changes up to a time, as an iterator. -/
import Derived.Test.YtneanannicacnaaDoorDisp8
namespace Go.Proofs.YtneanannicacnaaDoor
open Go.RowKit Go.Han
attribute [local irreducible] wpStill wpQuiet

def cflat (l : List Change) : List Value := l.flatMap Change.cells
/-- The changes that until yields. -/
def upTo (t : Int) (l : List Change) : List Change := l.takeWhile (fun c => decide (c.at_ ≤ t))

set_option maxRecDepth 100000 in
set_option maxHeartbeats 1000000 in
theorem until1 (b1 b2 : Nat) (A : Option Addr) (cp : Nat) (l : List Change) (t : Int) (w0 : World) (h1 : w0.heap[b1]? = some (.cells #[.slice A l.length cp] 35 (0, 0))) (h2 : w0.heap[b2]? = some (.cells #[.int .i64 t] 3 (0, 0))) (hr : Rd w0 A (cflat l)) (hm : l.length ≤ 1000000) :
    IterC Tryd.prog 111 #[.pointer (some ⟨b1, 0, none⟩), .pointer (some ⟨b2, 0, none⟩)] (fun c : Change => #[c.val]) (fun k => k = b1 ∨ k = b2 ∨ (l ≠ [] ∧ ∃ a, A = some a ∧ k = a.block)) (fun _ => False)
      (upTo t l) none w0 := by
  intro l' B0 J Jx Jp own₀ W hR hown hB0 hlive hJ hJx hY h0
  refine (callsIn_wide (n := 0)).1 ?_
  refine callsIn_of_wp Tryd.func111 rfl trivial ?_
  simp only [Tryd.ntmps111, List.size_toArray, List.length_cons, List.length_nil, Nat.reduceAdd, Nat.reduceSub, Array.replicate_succ, Array.replicate_zero, List.push_toArray, List.append_toArray, List.nil_append, List.cons_append]
  have c1 := cell_one ((hR b1 (.inl rfl)).2.trans h1)
  have c2 := cell_one ((hR b2 (.inr (.inl rfl))).2.trans h2)
  gi_wp2
  gi_loopw [8] (fun i wr => ∃ (own : Nat → Prop) (k : Nat), k ≤ l.length ∧ i = .int .i64 k ∧ J own (l.take k) wr ∧ (∀ j, (j = b1 ∨ j = b2 ∨ (l ≠ [] ∧ ∃ a, A = some a ∧ j = a.block)) → wr.heap[j]? = w0.heap[j]?) ∧ (∀ j, own j → ¬ (j = b1 ∨ j = b2 ∨ (l ≠ [] ∧ ∃ a, A = some a ∧ j = a.block))) ∧ (∀ j, own j → j < wr.heap.size) ∧ B0 ≤ wr.heap.size ∧ Hid (upTo t l = l.take k ++ upTo t (l.drop k)))
    (fun i _ => l.length - (intOf i).toNat)
  case atStart => exact ⟨own₀, 0, Nat.zero_le _, rfl, h0, fun j hj => (hR j hj).2, hown, hlive, hB0, rfl⟩
  case round =>
    obtain ⟨own, k, hk, rfl, hj, hkeep, hdis, hliv, hBs, HR⟩ := hrel
    by_cases hlt : k < l.length
    · obtain ⟨b, off, rfl, hb, hc⟩ := hr.elem Change.size_cells (by omega) hlt
      have hkb := hkeep b (.inr (.inr ⟨(fun h => by rw [h] at hlt; simp at hlt), _, rfl, rfl⟩))
      have hblt : b < wr.heap.size := by
        rcases Nat.lt_or_ge b wr.heap.size with h | h
        · exact h
        · rw [Array.getElem?_eq_none h] at hkb
          have := (Array.getElem?_eq_none_iff.1 hkb.symm); omega
      have hcc : ∀ (j : Nat) (u : Value), l[k].cells[j]? = some u → wr.cell? ⟨b, off + k * 5 + j, none⟩ = some u := fun j u hu => (World.cell?_of_block (w := w0) (a := ⟨b, off + k * 5 + j, none⟩) hkb).trans (hc j u hu)
      have d0 := hcc 0 _ rfl
      have d1 := hcc 1 _ rfl
      have d2 := hcc 2 _ rfl
      have d3 := hcc 3 _ rfl
      have d4 := hcc 4 _ rfl
      simp only [Nat.add_zero] at d0
      have ct := cell_one ((hkeep b2 (.inr (.inl rfl))).trans h2)
      have hb2lt : b2 < wr.heap.size := lt_cell ct
      have hRlt : ∀ j, (j = b1 ∨ j = b2 ∨ (l ≠ [] ∧ ∃ a, some (⟨b, off, none⟩ : Addr) = some a ∧ j = a.block)) → j < wr.heap.size := by
        rintro j (rfl | rfl | ⟨_, a, ha, rfl⟩)
        · exact lt_block ((hkeep _ (.inl rfl)).trans h1)
        · exact hb2lt
        · cases ha; exact hblt
      have hup : upTo t (l.drop k) = if l[k].at_ ≤ t then l[k] :: upTo t (l.drop (k + 1)) else [] := by
        rw [List.drop_eq_getElem_cons hlt]; unfold upTo; rw [List.takeWhile_cons]; simp
      have Hup := Lib.hid hup
      have htk : l.take (k + 1) = l.take k ++ [l[k]] := List.take_succ_eq_append_getElem hlt
      have Htk := Lib.hid htk
      clear hup htk hc hcc hr c1 c2
      generalize l[k] = x at *
      obtain ⟨xt, xk, ⟨xi, xv, xs⟩⟩ := x
      by_cases hgt : t < xt
      · gi_wp2
        refine ⟨fun _ h => (by cases h), ?_⟩
        gi_wp2
        refine bodyPost_ret (results_none rfl _ _ _) rfl ?_
        have h5 := HR.out
        rw [Hup.out, if_neg (by simp; omega), List.append_nil] at h5
        refine .inl ⟨rfl, ⟨_, rfl⟩, own, ?_⟩
        rw [h5]
        exact hJ own _ wr _ hj (IterStep.alloc (IterStep.refl _ _ _ _) _)
      · have hle : xt ≤ t := by omega
        have hj2 := hJ own _ wr (wr.alloc (.cells #[.int .i64 xt, .int .i64 xk, .int .i64 xi, .int .i64 xv, .string xs] 26)) hj (IterStep.alloc (IterStep.refl _ _ _ _) _)
        have h5 := HR.out
        rw [Hup.out, if_pos hle] at h5
        have H5 := Lib.hid h5
        clear h5
        obtain ⟨fn, tmps, assign, body, hy, hRd⟩ := hY own _ ⟨xt, xk, ⟨xi, xv, xs⟩⟩ _ hj2 (by rw [H5.out]; exact ⟨upTo t (l.drop (k + 1)), by simp⟩) hdis (fun j hj => by simp; have := hliv j hj; omega)
        change (Instr.yield l' #[.agg #[.int .i64 xt, .int .i64 xk, .int .i64 xi, .int .i64 xv, .string xs]]).run _ _ = _ at hy
        gi_wp2
        refine ⟨rfl, hRd.mono ?_⟩
        rintro e W3 (⟨own', hbs, (⟨rfl, hj3⟩ | ⟨rfl, hjx⟩)⟩ | ⟨ch, rfl, hjp⟩)
        · gi_wp2
          go_roundw
          case rel =>
            refine ⟨own', k + 1, by omega, by go_num, ?_, fun j hjj => ?_, fun j hjo hjj => ?_, fun j hjo => hbs.live j hjo, by have := hbs.size; simp at this; omega, ?_⟩
            · rw [Htk.out]; exact hj3
            · rw [hbs.block j ?_ (fun h => hdis j h hjj)]
              · rw [heap_alloc_old _ _ j ?_]
                · exact hkeep j hjj
                · exact hRlt j hjj
              · have := hRlt j hjj; simp; omega
            · rcases hbs.owns j hjo with h | h
              · exact hdis j h hjj
              · have := hRlt j hjj; simp at h; omega
            · show upTo t l = _
              rw [H5.out, Htk.out]; simp
          case measure => simp [intOf]; omega
        · gi_wp2
          refine bodyPost_ret (results_none rfl _ _ _) rfl ?_
          exact .inr (.inl ⟨⟨_, rfl⟩, own', _, ⟨upTo t (l.drop (k + 1)), by rw [H5.out]; simp⟩, hjx⟩)
        · exact ⟨rfl, .inr (.inr (.inl ⟨ch, rfl, hjp⟩))⟩
    · gi_wp2
      go_end0
      have : k = l.length := by omega
      subst this
      have h5 := HR.out
      rw [List.drop_length, List.take_length] at h5
      rw [List.take_length] at hj
      exact .inl ⟨rfl, ⟨_, rfl⟩, own, by rw [h5]; simpa [upTo] using hj⟩
end Go.Proofs.YtneanannicacnaaDoor
