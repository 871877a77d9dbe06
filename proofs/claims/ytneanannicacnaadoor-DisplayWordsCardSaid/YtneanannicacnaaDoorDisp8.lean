/- Package display: Do. -/
import Derived.Test.YtneanannicacnaaDoorDisp7
import Derived.Deep.RegionWith
namespace Go.Proofs.YtneanannicacnaaDoor
open Go.RowKit Go.Han
attribute [local irreducible] wpStill wpQuiet

/-- What Do answers: the error, and the display. -/
def doE (l : List Spot) (c : Change) : Int := if checkE l ≠ 0 then checkE l else if c.ok = false then 490 else if fitsB c l = false then 490 else if 1024 < (madeL c l).length then 2 else 0

def DoPost (l : List Spot) (c : Change) (w : World) (e : Ending) (w' : World) : Prop :=
  Below w.heap.size w w' ∧ ((doE l c ≠ 0 ∧ e = .returned (.tuple #[.slice none 0 0, .int .i64 (doE l c)])) ∨ (doE l c = 0 ∧ ∃ v', e = .returned (.tuple #[v', .int .i64 0]) ∧ Own w' w.heap.size v' (madeL c l)))

theorem asc_of : ∀ (last : Int) (l : List Spot), checkFrom last l = true → (∀ x ∈ l, last < x.id) ∧ Asc l
  | _, [], _ => ⟨by simp, fun a b ha => absurd ha (by simp)⟩
  | last, x :: l, h => by
    simp only [checkFrom, Bool.and_eq_true, decide_eq_true_eq] at h
    obtain ⟨h1, h2⟩ := asc_of x.id l h.2
    refine ⟨fun y hy => ?_, fun a b ha hb hab => ?_⟩
    · rcases List.mem_cons.1 hy with rfl | hy
      · exact h.1.2
      · have := h1 y hy; omega
    · cases b with
      | zero => omega
      | succ b =>
        cases a with
        | zero => simpa using h1 _ (List.getElem_mem (by simpa using hb))
        | succ a => simpa using h2 a b (by simpa using ha) (by simpa using hb) (by omega)

theorem checkE_zero {l : List Spot} (h : checkE l = 0) : l.length ≤ 1024 ∧ Asc l := by
  unfold checkE at h
  by_cases h1 : 1024 < l.length
  · rw [if_pos h1] at h; omega
  · rw [if_neg h1] at h
    refine ⟨by omega, ?_⟩
    cases h2 : checkFrom (-1) l
    · rw [h2] at h; simp at h
    · exact (asc_of _ _ h2).2
theorem ok_kind {c : Change} (h : c.ok = true) : kindB c.kind = true := by
  unfold Change.ok at h
  cases h2 : kindB c.kind
  · rw [h2] at h; simp at h
  · rfl

set_option maxRecDepth 100000 in
set_option maxHeartbeats 4000000 in
theorem Do_any (A : Option Addr) (cp : Nat) (l : List Spot) (c : Change) (w : World) (hT : Tabs w) (hr : Rd w A (flat l)) (hA : A = none → l = []) (hm : l.length ≤ 9223372036854775807) :
    Calls Tryd.prog 17 #[.slice A l.length cp, c.val] w (DoPost l c w) := by
  obtain ⟨t, kd, ⟨i, vr, s⟩⟩ := c
  generalize hcc : (⟨t, kd, ⟨i, vr, s⟩⟩ : Change) = cc at *
  have hv : cc.val = .agg #[.int .i64 t, .int .i64 kd, .int .i64 i, .int .i64 vr, .string s] := by rw [← hcc]; rfl
  obtain ⟨W0, hW0⟩ : ∃ W0, w.alloc (.cells #[.int .i64 t, .int .i64 kd, .int .i64 i, .int .i64 vr, .string s] 26) = W0 := ⟨_, rfl⟩
  obtain ⟨W1, hW1⟩ : ∃ W1, W0.alloc (.cells #[.int .i64 0] 29) = W1 := ⟨_, rfl⟩
  have hz0 : W0.heap.size = w.heap.size + 1 := by rw [← hW0]; simp
  have hz1 : W1.heap.size = w.heap.size + 2 := by rw [← hW1]; simp [hz0]
  have hb0 : W1.heap[w.heap.size + 1]? = some (.cells #[.int .i64 0] 29 (0, 0)) := by rw [← hW1, ← hz0]; exact World.alloc_heap_new _ _
  have hB0 : Below w.heap.size w W0 := by rw [← hW0]; exact (Below.refl _ _).alloc (Nat.le_refl _) _
  have hB1 : Below w.heap.size w W1 := by rw [← hW1]; exact hB0.alloc (by omega) _
  rw [hv]
  go_enter_defers Tryd.func17, Tryd.ntmps17
  go_wp2_with fail
  refine (check_any A cp l W1 (utf_ext hT hB1) (hr.ext hB1) hm).mono ?_
  rintro e w2 ⟨hb2, h⟩
  have hB2 := ext_trans hB1 hb2
  have hb02 : w2.heap[w.heap.size + 1]? = _ := (hb2.block _ (by omega)).trans hb0
  have c0 : W1.cell? ⟨w.heap.size, 0, none⟩ = some (.int .i64 t) := by rw [← hW1, ← hW0]; simp [go_sem]
  have c1 : W1.cell? ⟨w.heap.size, 1, none⟩ = some (.int .i64 kd) := by rw [← hW1, ← hW0]; simp [go_sem]
  have c2 : W1.cell? ⟨w.heap.size, 2, none⟩ = some (.int .i64 i) := by rw [← hW1, ← hW0]; simp [go_sem]
  have c3 : W1.cell? ⟨w.heap.size, 3, none⟩ = some (.int .i64 vr) := by rw [← hW1, ← hW0]; simp [go_sem]
  have c4 : W1.cell? ⟨w.heap.size, 4, none⟩ = some (.string s) := by rw [← hW1, ← hW0]; simp [go_sem]
  obtain ⟨hc2, _⟩ := bcell hb2
  rw [← hc2 _ _ (by omega)] at c0 c1 c2 c3 c4
  have hz2 := hb2.size
  clear hb0 hW0 hW1 hc2
  rcases h with ⟨hn, rfl⟩ | ⟨hn, rfl⟩
  · have Hn := Lib.hid hn
    clear hn
    go_wp2_with fail
    refine (kinds_any w2).mono ?_
    rintro e w3 ⟨rfl, hw3⟩
    have hb3 : Below w2.heap.size w2 w3 := by rw [← hw3]; exact (Below.refl _ _).alloc (Nat.le_refl _) _
    have hg3 : KMap w3 w2.heap.size := by rw [← hw3]; exact World.alloc_heap_new _ _
    have hB3 := ext_trans hB2 hb3
    have hb03 : w3.heap[w.heap.size + 1]? = _ := (hb3.block _ (by omega)).trans hb02
    obtain ⟨hc3, _⟩ := bcell hb3
    rw [← hc3 _ _ (by omega)] at c0 c1 c2 c3 c4
    have hz3 := hb3.size
    clear hc3 hw3 hb02
    go_wp2_with fail
    rw [← hv]
    refine (examine_any cc w2.heap.size w3 (utf_ext hT hB3) hg3).mono ?_
    rintro e w4 ⟨hb4, h4⟩
    have hB4 := ext_trans hB3 hb4
    have hg4 := hg3.ext hb4
    have hb04 : w4.heap[w.heap.size + 1]? = _ := (hb4.block _ (by omega)).trans hb03
    obtain ⟨hc4, _⟩ := bcell hb4
    rw [← hc4 _ _ (by omega)] at c0 c1 c2 c3 c4
    have hz4 := hb4.size
    clear hc4 hb03 hg3
    rcases h4 with ⟨ho, rfl⟩ | ⟨ho, rfl⟩
    · have hok : cc.ok = true := by
        cases h : cc.ok
        · rw [h] at ho; simp at ho
        · rfl
      have Hok := Lib.hid hok
      clear hok ho
      have Hf := Lib.hid (checkE_zero Hn.out)
      have hcl : Hid (∀ W, Below w4.heap.size w4 W → Calls Tryd.prog 52 #[.slice A l.length cp] W (ClonePost l W)) := fun W h =>
        clone_any A cp l W (hr.ext (ext_trans hB4 h)) hA (by have := Hf.out.1; omega)
      clear hr
      go_wp2_with fail
      have hkeep : Hid (∀ w5, Below w4.heap.size w4.drew w5 → w5.cell? ⟨w.heap.size, 0, none⟩ = some (.int .i64 t) ∧ w5.cell? ⟨w.heap.size, 1, none⟩ = some (.int .i64 kd) ∧ w5.cell? ⟨w.heap.size, 2, none⟩ = some (.int .i64 i) ∧ w5.cell? ⟨w.heap.size, 3, none⟩ = some (.int .i64 vr) ∧ w5.cell? ⟨w.heap.size, 4, none⟩ = some (.string s) ∧ Below w4.heap.size w4 w5 ∧ w5.heap[w.heap.size + 1]? = some (.cells #[.int .i64 0] 29 (0, 0)) ∧ KMap w5 w2.heap.size) := by
        intro w5 h
        have hB : Below w4.heap.size w4 w5 := ext_trans (ext_drew (Below.refl _ _)) h
        obtain ⟨hc, _⟩ := bcell hB
        exact ⟨(hc _ _ (by omega)).trans c0, (hc _ _ (by omega)).trans c1, (hc _ _ (by omega)).trans c2, (hc _ _ (by omega)).trans c3, (hc _ _ (by omega)).trans c4, hB, (hB.block _ (by omega)).trans hb04, hg4.ext hB⟩
      have hperf : Hid (∀ W v, Own W w4.drew.heap.size v l → Below w4.heap.size w4 W → KMap W w2.heap.size → Calls Tryd.prog 51 #[v, cc.val, .map (some w2.heap.size)] W fun e w' => Below w4.heap.size w4 w' ∧ ((∃ n, n ≠ 0 ∧ doE l cc = n ∧ e = .panicked (errChain n)) ∨ (doE l cc = 0 ∧ ∃ v6, e = .returned v6 ∧ Own w' w4.heap.size v6 (madeL cc l)))) := by
        intro W v ho hB hg
        refine (perform_any w4.heap.size w2.heap.size v l cc W ho Hf.out.2 Hf.out.1 hB.size hg (ok_kind Hok.out)).mono ?_
        intro e w' h
        have hBB : ∀ w', W.grownBy w' v.ownBlock → Below w4.heap.size w4 w' := fun w' hgr => hB.grown hgr hB.size (by
          intro k hk
          rcases ho.2 with ⟨rfl, _⟩ | ⟨g', c', cur, rfl, hb, _⟩
          · cases hk
          · simp [Value.ownBlock] at hk; subst hk; exact hb)
        have hE : doE l cc = if fitsB cc l = false then 490 else if 1024 < (madeL cc l).length then 2 else 0 := by
          unfold doE; rw [Hn.out, Hok.out]; simp
        rcases h with ⟨h1, rfl, hg'⟩ | ⟨h1, h2, rfl, hg'⟩ | ⟨h1, h2, v', rfl, ho', hg', _⟩
        · exact ⟨hBB _ hg', .inl ⟨490, by decide, by rw [hE, h1]; rfl, rfl⟩⟩
        · exact ⟨hBB _ hg', .inl ⟨2, by decide, by rw [hE, h1, if_neg (by decide), if_pos h2], rfl⟩⟩
        · refine ⟨hBB _ hg', .inr ⟨by rw [hE, h1, if_neg (by decide), if_neg (by omega)], v', rfl, ho'⟩⟩
      have hkeep2 : Hid (∀ w6, Below w4.heap.size w4 w6 → w6.heap[w.heap.size + 1]? = some (.cells #[.int .i64 0] 29 (0, 0))) := fun w6 h => (h.block _ (by omega)).trans hb04
      clear hb04 hg4
      have hpan : Hid (∀ n w6, Below w4.heap.size w4 w6 → n ≠ 0 → doE l cc = n → DoPost l cc w (.returned (.tuple #[.slice none 0 0, .int .i64 n])) (w6.setCell ⟨w.heap.size + 1, 0, none⟩ (.int .i64 n))) := fun n w6 h h0 hd =>
        ⟨(ext_trans hB4 h).setCell (p := ⟨w.heap.size + 1, 0, none⟩) (by simp) _, .inl ⟨by rw [hd]; exact h0, by rw [hd]⟩⟩
      have hret : Hid (∀ v6 w6, Below w4.heap.size w4 w6 → doE l cc = 0 → Own w6 w4.heap.size v6 (madeL cc l) → DoPost l cc w (.returned (.tuple #[v6, .int .i64 0])) (w6.setCell ⟨w.heap.size + 1, 0, none⟩ (.int .i64 0))) := by
        intro v6 w6 h hd ho
        refine ⟨(ext_trans hB4 h).setCell (p := ⟨w.heap.size + 1, 0, none⟩) (by simp) _, .inr ⟨hd, v6, rfl, ?_⟩⟩
        have ho2 : Own (w6.setCell ⟨w.heap.size + 1, 0, none⟩ (.int .i64 0)) w4.heap.size v6 (madeL cc l) := ownsRow_setCell_below ho (a := ⟨w.heap.size + 1, 0, none⟩) (by show w.heap.size + 1 < w4.heap.size; omega) _
        rcases ho2 with ⟨q1, ⟨q2, q3⟩ | ⟨g', c', cur, q2, q3, q4⟩⟩
        · exact ⟨q1, .inl ⟨q2, q3⟩⟩
        · exact ⟨q1, .inr ⟨g', c', cur, q2, by omega, q4⟩⟩
      refine wp_region_any (by kernel_rfl) ?_
      refine wpAny_ready (fuel := 6) (rs := [0, 2, 3]) (by kernel_rfl) (by simp) ?_
      refine AllReady.cons rfl (fun K hK => ?_) (AllReady.cons rfl (fun K hK => ?_) (AllReady.cons rfl (fun K hK => ?_) AllReady.nil))
      · go_simp
        refine hK _ _ ?_
        clear hK K
        refine wpAny_ready (fuel := 5) (rs := [1, 2, 3]) (by kernel_rfl) (by simp) ?_
        refine AllReady.cons rfl (fun K hK => ?_) (AllReady.cons rfl (fun K hK => ?_) (AllReady.cons rfl (fun K hK => ?_) AllReady.nil))
        · go_simp
          refine (hcl.out w4.drew (ext_drew (Below.refl _ _))).mono ?_
          rintro e w5 ⟨v5, rfl, hown5, hb5⟩
          obtain ⟨c0, c1, c2, c3, c4, hB5, hb05, hg5⟩ := hkeep.out w5 hb5
          refine hK _ _ ?_
          clear hK K
          refine wpAny_ready (fuel := 4) (rs := [2, 3]) (by kernel_rfl) (by simp) ?_
          refine AllReady.cons rfl (fun K hK => ?_) (AllReady.cons rfl (fun K hK => ?_) AllReady.nil)
          · go_simp
            refine hK _ _ ?_
            clear hK K
            refine wpAny_ready (fuel := 3) (rs := [3]) (by kernel_rfl) (by simp) ?_
            refine AllReady.cons rfl (fun K hK => ?_) AllReady.nil
            · go_simp
              refine hK _ _ ?_
              clear hK K
              refine wpAny_ready (fuel := 2) (rs := [4]) (by kernel_rfl) (by simp) ?_
              refine AllReady.cons rfl (fun K hK => ?_) AllReady.nil
              · go_simp
                rw [← hv]
                refine (hperf.out w5 v5 hown5 hB5 hg5).mono ?_
                rintro e w6 ⟨hB6, h6⟩
                have hb06 := hkeep2.out w6 hB6
                rcases h6 with ⟨n, hn0, hde, rfl⟩ | ⟨hde, v6, rfl, hown6⟩
                · refine leaves_cons (f := 47) (args := #[.pointer (some ⟨w.heap.size + 1, 0, none⟩)]) (by simp) (by simp [go_sem]) ?_
                  refine (caught_pan _ _ _ _ hb06).mono ?_
                  rintro e u' w'' ⟨rfl, rfl, rfl⟩
                  simp [Leaves, settle, results, Tryd.results17, go_sem, cell_one hb06]
                  exact hpan.out n w6 hB6 hn0 hde
                have ce := cell_one hb06
                have fe := frozen_one hb06 0
                have Hown6 := Lib.hid hown6
                clear hown6
                refine hK _ _ ?_
                clear hK K
                refine wpAny_ready (fuel := 1) (rs := [5]) (by kernel_rfl) (by simp) ?_
                refine AllReady.cons rfl (fun K hK => ?_) AllReady.nil
                · go_simp
                  refine hK _ _ ?_
                  clear hK K
                  refine wpAny_ready (fuel := 0) (rs := [6]) (by kernel_rfl) (by simp) ?_
                  refine AllReady.cons rfl (fun K hK => ?_) AllReady.nil
                  · go_simp
                    refine hK _ _ ?_
                    clear hK K
                    refine wpAny_done (by kernel_rfl) ?_ _
                    have fe1 : (w6.setCell ⟨w.heap.size + 1, 0, none⟩ (.int .i64 0)).cell? ⟨w.heap.size + 1, 0, none⟩ = some (.int .i64 0) := cell_one (set_one hb06 _)
                    go_wp2
                    refine leaves_cons (f := 47) (args := #[.pointer (some ⟨w.heap.size + 1, 0, none⟩)]) (by simp) (by simp [go_sem]) ?_
                    refine (caught_ret _ _).mono ?_
                    rintro e u' w'' ⟨rfl, rfl, rfl⟩
                    simp [Leaves, settle, results, Tryd.results17, go_sem, fe1]
                    exact hret.out v6 w6 hB6 hde Hown6.out
          · go_simp
            refine hK _ _ ?_
            clear hK K
            refine wpAny_ready (fuel := 3) (rs := [2]) (by kernel_rfl) (by simp) ?_
            refine AllReady.cons rfl (fun K hK => ?_) AllReady.nil
            · go_simp
              refine hK _ _ ?_
              clear hK K
              refine wpAny_ready (fuel := 2) (rs := [4]) (by kernel_rfl) (by simp) ?_
              refine AllReady.cons rfl (fun K hK => ?_) AllReady.nil
              · go_simp
                rw [← hv]
                refine (hperf.out w5 v5 hown5 hB5 hg5).mono ?_
                rintro e w6 ⟨hB6, h6⟩
                have hb06 := hkeep2.out w6 hB6
                rcases h6 with ⟨n, hn0, hde, rfl⟩ | ⟨hde, v6, rfl, hown6⟩
                · refine leaves_cons (f := 47) (args := #[.pointer (some ⟨w.heap.size + 1, 0, none⟩)]) (by simp) (by simp [go_sem]) ?_
                  refine (caught_pan _ _ _ _ hb06).mono ?_
                  rintro e u' w'' ⟨rfl, rfl, rfl⟩
                  simp [Leaves, settle, results, Tryd.results17, go_sem, cell_one hb06]
                  exact hpan.out n w6 hB6 hn0 hde
                have ce := cell_one hb06
                have fe := frozen_one hb06 0
                have Hown6 := Lib.hid hown6
                clear hown6
                refine hK _ _ ?_
                clear hK K
                refine wpAny_ready (fuel := 1) (rs := [5]) (by kernel_rfl) (by simp) ?_
                refine AllReady.cons rfl (fun K hK => ?_) AllReady.nil
                · go_simp
                  refine hK _ _ ?_
                  clear hK K
                  refine wpAny_ready (fuel := 0) (rs := [6]) (by kernel_rfl) (by simp) ?_
                  refine AllReady.cons rfl (fun K hK => ?_) AllReady.nil
                  · go_simp
                    refine hK _ _ ?_
                    clear hK K
                    refine wpAny_done (by kernel_rfl) ?_ _
                    have fe1 : (w6.setCell ⟨w.heap.size + 1, 0, none⟩ (.int .i64 0)).cell? ⟨w.heap.size + 1, 0, none⟩ = some (.int .i64 0) := cell_one (set_one hb06 _)
                    go_wp2
                    refine leaves_cons (f := 47) (args := #[.pointer (some ⟨w.heap.size + 1, 0, none⟩)]) (by simp) (by simp [go_sem]) ?_
                    refine (caught_ret _ _).mono ?_
                    rintro e u' w'' ⟨rfl, rfl, rfl⟩
                    simp [Leaves, settle, results, Tryd.results17, go_sem, fe1]
                    exact hret.out v6 w6 hB6 hde Hown6.out
        · go_simp
          refine hK _ _ ?_
          clear hK K
          refine wpAny_ready (fuel := 4) (rs := [1, 3]) (by kernel_rfl) (by simp) ?_
          refine AllReady.cons rfl (fun K hK => ?_) (AllReady.cons rfl (fun K hK => ?_) AllReady.nil)
          · go_simp
            refine (hcl.out w4.drew (ext_drew (Below.refl _ _))).mono ?_
            rintro e w5 ⟨v5, rfl, hown5, hb5⟩
            obtain ⟨c0, c1, c2, c3, c4, hB5, hb05, hg5⟩ := hkeep.out w5 hb5
            refine hK _ _ ?_
            clear hK K
            refine wpAny_ready (fuel := 3) (rs := [3]) (by kernel_rfl) (by simp) ?_
            refine AllReady.cons rfl (fun K hK => ?_) AllReady.nil
            · go_simp
              refine hK _ _ ?_
              clear hK K
              refine wpAny_ready (fuel := 2) (rs := [4]) (by kernel_rfl) (by simp) ?_
              refine AllReady.cons rfl (fun K hK => ?_) AllReady.nil
              · go_simp
                rw [← hv]
                refine (hperf.out w5 v5 hown5 hB5 hg5).mono ?_
                rintro e w6 ⟨hB6, h6⟩
                have hb06 := hkeep2.out w6 hB6
                rcases h6 with ⟨n, hn0, hde, rfl⟩ | ⟨hde, v6, rfl, hown6⟩
                · refine leaves_cons (f := 47) (args := #[.pointer (some ⟨w.heap.size + 1, 0, none⟩)]) (by simp) (by simp [go_sem]) ?_
                  refine (caught_pan _ _ _ _ hb06).mono ?_
                  rintro e u' w'' ⟨rfl, rfl, rfl⟩
                  simp [Leaves, settle, results, Tryd.results17, go_sem, cell_one hb06]
                  exact hpan.out n w6 hB6 hn0 hde
                have ce := cell_one hb06
                have fe := frozen_one hb06 0
                have Hown6 := Lib.hid hown6
                clear hown6
                refine hK _ _ ?_
                clear hK K
                refine wpAny_ready (fuel := 1) (rs := [5]) (by kernel_rfl) (by simp) ?_
                refine AllReady.cons rfl (fun K hK => ?_) AllReady.nil
                · go_simp
                  refine hK _ _ ?_
                  clear hK K
                  refine wpAny_ready (fuel := 0) (rs := [6]) (by kernel_rfl) (by simp) ?_
                  refine AllReady.cons rfl (fun K hK => ?_) AllReady.nil
                  · go_simp
                    refine hK _ _ ?_
                    clear hK K
                    refine wpAny_done (by kernel_rfl) ?_ _
                    have fe1 : (w6.setCell ⟨w.heap.size + 1, 0, none⟩ (.int .i64 0)).cell? ⟨w.heap.size + 1, 0, none⟩ = some (.int .i64 0) := cell_one (set_one hb06 _)
                    go_wp2
                    refine leaves_cons (f := 47) (args := #[.pointer (some ⟨w.heap.size + 1, 0, none⟩)]) (by simp) (by simp [go_sem]) ?_
                    refine (caught_ret _ _).mono ?_
                    rintro e u' w'' ⟨rfl, rfl, rfl⟩
                    simp [Leaves, settle, results, Tryd.results17, go_sem, fe1]
                    exact hret.out v6 w6 hB6 hde Hown6.out
          · go_simp
            refine hK _ _ ?_
            clear hK K
            refine wpAny_ready (fuel := 3) (rs := [1]) (by kernel_rfl) (by simp) ?_
            refine AllReady.cons rfl (fun K hK => ?_) AllReady.nil
            · go_simp
              refine (hcl.out w4.drew (ext_drew (Below.refl _ _))).mono ?_
              rintro e w5 ⟨v5, rfl, hown5, hb5⟩
              obtain ⟨c0, c1, c2, c3, c4, hB5, hb05, hg5⟩ := hkeep.out w5 hb5
              refine hK _ _ ?_
              clear hK K
              refine wpAny_ready (fuel := 2) (rs := [4]) (by kernel_rfl) (by simp) ?_
              refine AllReady.cons rfl (fun K hK => ?_) AllReady.nil
              · go_simp
                rw [← hv]
                refine (hperf.out w5 v5 hown5 hB5 hg5).mono ?_
                rintro e w6 ⟨hB6, h6⟩
                have hb06 := hkeep2.out w6 hB6
                rcases h6 with ⟨n, hn0, hde, rfl⟩ | ⟨hde, v6, rfl, hown6⟩
                · refine leaves_cons (f := 47) (args := #[.pointer (some ⟨w.heap.size + 1, 0, none⟩)]) (by simp) (by simp [go_sem]) ?_
                  refine (caught_pan _ _ _ _ hb06).mono ?_
                  rintro e u' w'' ⟨rfl, rfl, rfl⟩
                  simp [Leaves, settle, results, Tryd.results17, go_sem, cell_one hb06]
                  exact hpan.out n w6 hB6 hn0 hde
                have ce := cell_one hb06
                have fe := frozen_one hb06 0
                have Hown6 := Lib.hid hown6
                clear hown6
                refine hK _ _ ?_
                clear hK K
                refine wpAny_ready (fuel := 1) (rs := [5]) (by kernel_rfl) (by simp) ?_
                refine AllReady.cons rfl (fun K hK => ?_) AllReady.nil
                · go_simp
                  refine hK _ _ ?_
                  clear hK K
                  refine wpAny_ready (fuel := 0) (rs := [6]) (by kernel_rfl) (by simp) ?_
                  refine AllReady.cons rfl (fun K hK => ?_) AllReady.nil
                  · go_simp
                    refine hK _ _ ?_
                    clear hK K
                    refine wpAny_done (by kernel_rfl) ?_ _
                    have fe1 : (w6.setCell ⟨w.heap.size + 1, 0, none⟩ (.int .i64 0)).cell? ⟨w.heap.size + 1, 0, none⟩ = some (.int .i64 0) := cell_one (set_one hb06 _)
                    go_wp2
                    refine leaves_cons (f := 47) (args := #[.pointer (some ⟨w.heap.size + 1, 0, none⟩)]) (by simp) (by simp [go_sem]) ?_
                    refine (caught_ret _ _).mono ?_
                    rintro e u' w'' ⟨rfl, rfl, rfl⟩
                    simp [Leaves, settle, results, Tryd.results17, go_sem, fe1]
                    exact hret.out v6 w6 hB6 hde Hown6.out
        · go_simp
          refine hK _ _ ?_
          clear hK K
          refine wpAny_ready (fuel := 4) (rs := [1, 2]) (by kernel_rfl) (by simp) ?_
          refine AllReady.cons rfl (fun K hK => ?_) (AllReady.cons rfl (fun K hK => ?_) AllReady.nil)
          · go_simp
            refine (hcl.out w4.drew (ext_drew (Below.refl _ _))).mono ?_
            rintro e w5 ⟨v5, rfl, hown5, hb5⟩
            obtain ⟨c0, c1, c2, c3, c4, hB5, hb05, hg5⟩ := hkeep.out w5 hb5
            refine hK _ _ ?_
            clear hK K
            refine wpAny_ready (fuel := 3) (rs := [2]) (by kernel_rfl) (by simp) ?_
            refine AllReady.cons rfl (fun K hK => ?_) AllReady.nil
            · go_simp
              refine hK _ _ ?_
              clear hK K
              refine wpAny_ready (fuel := 2) (rs := [4]) (by kernel_rfl) (by simp) ?_
              refine AllReady.cons rfl (fun K hK => ?_) AllReady.nil
              · go_simp
                rw [← hv]
                refine (hperf.out w5 v5 hown5 hB5 hg5).mono ?_
                rintro e w6 ⟨hB6, h6⟩
                have hb06 := hkeep2.out w6 hB6
                rcases h6 with ⟨n, hn0, hde, rfl⟩ | ⟨hde, v6, rfl, hown6⟩
                · refine leaves_cons (f := 47) (args := #[.pointer (some ⟨w.heap.size + 1, 0, none⟩)]) (by simp) (by simp [go_sem]) ?_
                  refine (caught_pan _ _ _ _ hb06).mono ?_
                  rintro e u' w'' ⟨rfl, rfl, rfl⟩
                  simp [Leaves, settle, results, Tryd.results17, go_sem, cell_one hb06]
                  exact hpan.out n w6 hB6 hn0 hde
                have ce := cell_one hb06
                have fe := frozen_one hb06 0
                have Hown6 := Lib.hid hown6
                clear hown6
                refine hK _ _ ?_
                clear hK K
                refine wpAny_ready (fuel := 1) (rs := [5]) (by kernel_rfl) (by simp) ?_
                refine AllReady.cons rfl (fun K hK => ?_) AllReady.nil
                · go_simp
                  refine hK _ _ ?_
                  clear hK K
                  refine wpAny_ready (fuel := 0) (rs := [6]) (by kernel_rfl) (by simp) ?_
                  refine AllReady.cons rfl (fun K hK => ?_) AllReady.nil
                  · go_simp
                    refine hK _ _ ?_
                    clear hK K
                    refine wpAny_done (by kernel_rfl) ?_ _
                    have fe1 : (w6.setCell ⟨w.heap.size + 1, 0, none⟩ (.int .i64 0)).cell? ⟨w.heap.size + 1, 0, none⟩ = some (.int .i64 0) := cell_one (set_one hb06 _)
                    go_wp2
                    refine leaves_cons (f := 47) (args := #[.pointer (some ⟨w.heap.size + 1, 0, none⟩)]) (by simp) (by simp [go_sem]) ?_
                    refine (caught_ret _ _).mono ?_
                    rintro e u' w'' ⟨rfl, rfl, rfl⟩
                    simp [Leaves, settle, results, Tryd.results17, go_sem, fe1]
                    exact hret.out v6 w6 hB6 hde Hown6.out
          · go_simp
            refine hK _ _ ?_
            clear hK K
            refine wpAny_ready (fuel := 3) (rs := [1]) (by kernel_rfl) (by simp) ?_
            refine AllReady.cons rfl (fun K hK => ?_) AllReady.nil
            · go_simp
              refine (hcl.out w4.drew (ext_drew (Below.refl _ _))).mono ?_
              rintro e w5 ⟨v5, rfl, hown5, hb5⟩
              obtain ⟨c0, c1, c2, c3, c4, hB5, hb05, hg5⟩ := hkeep.out w5 hb5
              refine hK _ _ ?_
              clear hK K
              refine wpAny_ready (fuel := 2) (rs := [4]) (by kernel_rfl) (by simp) ?_
              refine AllReady.cons rfl (fun K hK => ?_) AllReady.nil
              · go_simp
                rw [← hv]
                refine (hperf.out w5 v5 hown5 hB5 hg5).mono ?_
                rintro e w6 ⟨hB6, h6⟩
                have hb06 := hkeep2.out w6 hB6
                rcases h6 with ⟨n, hn0, hde, rfl⟩ | ⟨hde, v6, rfl, hown6⟩
                · refine leaves_cons (f := 47) (args := #[.pointer (some ⟨w.heap.size + 1, 0, none⟩)]) (by simp) (by simp [go_sem]) ?_
                  refine (caught_pan _ _ _ _ hb06).mono ?_
                  rintro e u' w'' ⟨rfl, rfl, rfl⟩
                  simp [Leaves, settle, results, Tryd.results17, go_sem, cell_one hb06]
                  exact hpan.out n w6 hB6 hn0 hde
                have ce := cell_one hb06
                have fe := frozen_one hb06 0
                have Hown6 := Lib.hid hown6
                clear hown6
                refine hK _ _ ?_
                clear hK K
                refine wpAny_ready (fuel := 1) (rs := [5]) (by kernel_rfl) (by simp) ?_
                refine AllReady.cons rfl (fun K hK => ?_) AllReady.nil
                · go_simp
                  refine hK _ _ ?_
                  clear hK K
                  refine wpAny_ready (fuel := 0) (rs := [6]) (by kernel_rfl) (by simp) ?_
                  refine AllReady.cons rfl (fun K hK => ?_) AllReady.nil
                  · go_simp
                    refine hK _ _ ?_
                    clear hK K
                    refine wpAny_done (by kernel_rfl) ?_ _
                    have fe1 : (w6.setCell ⟨w.heap.size + 1, 0, none⟩ (.int .i64 0)).cell? ⟨w.heap.size + 1, 0, none⟩ = some (.int .i64 0) := cell_one (set_one hb06 _)
                    go_wp2
                    refine leaves_cons (f := 47) (args := #[.pointer (some ⟨w.heap.size + 1, 0, none⟩)]) (by simp) (by simp [go_sem]) ?_
                    refine (caught_ret _ _).mono ?_
                    rintro e u' w'' ⟨rfl, rfl, rfl⟩
                    simp [Leaves, settle, results, Tryd.results17, go_sem, fe1]
                    exact hret.out v6 w6 hB6 hde Hown6.out
      · go_simp
        refine hK _ _ ?_
        clear hK K
        refine wpAny_ready (fuel := 5) (rs := [0, 3]) (by kernel_rfl) (by simp) ?_
        refine AllReady.cons rfl (fun K hK => ?_) (AllReady.cons rfl (fun K hK => ?_) AllReady.nil)
        · go_simp
          refine hK _ _ ?_
          clear hK K
          refine wpAny_ready (fuel := 4) (rs := [1, 3]) (by kernel_rfl) (by simp) ?_
          refine AllReady.cons rfl (fun K hK => ?_) (AllReady.cons rfl (fun K hK => ?_) AllReady.nil)
          · go_simp
            refine (hcl.out w4.drew (ext_drew (Below.refl _ _))).mono ?_
            rintro e w5 ⟨v5, rfl, hown5, hb5⟩
            obtain ⟨c0, c1, c2, c3, c4, hB5, hb05, hg5⟩ := hkeep.out w5 hb5
            refine hK _ _ ?_
            clear hK K
            refine wpAny_ready (fuel := 3) (rs := [3]) (by kernel_rfl) (by simp) ?_
            refine AllReady.cons rfl (fun K hK => ?_) AllReady.nil
            · go_simp
              refine hK _ _ ?_
              clear hK K
              refine wpAny_ready (fuel := 2) (rs := [4]) (by kernel_rfl) (by simp) ?_
              refine AllReady.cons rfl (fun K hK => ?_) AllReady.nil
              · go_simp
                rw [← hv]
                refine (hperf.out w5 v5 hown5 hB5 hg5).mono ?_
                rintro e w6 ⟨hB6, h6⟩
                have hb06 := hkeep2.out w6 hB6
                rcases h6 with ⟨n, hn0, hde, rfl⟩ | ⟨hde, v6, rfl, hown6⟩
                · refine leaves_cons (f := 47) (args := #[.pointer (some ⟨w.heap.size + 1, 0, none⟩)]) (by simp) (by simp [go_sem]) ?_
                  refine (caught_pan _ _ _ _ hb06).mono ?_
                  rintro e u' w'' ⟨rfl, rfl, rfl⟩
                  simp [Leaves, settle, results, Tryd.results17, go_sem, cell_one hb06]
                  exact hpan.out n w6 hB6 hn0 hde
                have ce := cell_one hb06
                have fe := frozen_one hb06 0
                have Hown6 := Lib.hid hown6
                clear hown6
                refine hK _ _ ?_
                clear hK K
                refine wpAny_ready (fuel := 1) (rs := [5]) (by kernel_rfl) (by simp) ?_
                refine AllReady.cons rfl (fun K hK => ?_) AllReady.nil
                · go_simp
                  refine hK _ _ ?_
                  clear hK K
                  refine wpAny_ready (fuel := 0) (rs := [6]) (by kernel_rfl) (by simp) ?_
                  refine AllReady.cons rfl (fun K hK => ?_) AllReady.nil
                  · go_simp
                    refine hK _ _ ?_
                    clear hK K
                    refine wpAny_done (by kernel_rfl) ?_ _
                    have fe1 : (w6.setCell ⟨w.heap.size + 1, 0, none⟩ (.int .i64 0)).cell? ⟨w.heap.size + 1, 0, none⟩ = some (.int .i64 0) := cell_one (set_one hb06 _)
                    go_wp2
                    refine leaves_cons (f := 47) (args := #[.pointer (some ⟨w.heap.size + 1, 0, none⟩)]) (by simp) (by simp [go_sem]) ?_
                    refine (caught_ret _ _).mono ?_
                    rintro e u' w'' ⟨rfl, rfl, rfl⟩
                    simp [Leaves, settle, results, Tryd.results17, go_sem, fe1]
                    exact hret.out v6 w6 hB6 hde Hown6.out
          · go_simp
            refine hK _ _ ?_
            clear hK K
            refine wpAny_ready (fuel := 3) (rs := [1]) (by kernel_rfl) (by simp) ?_
            refine AllReady.cons rfl (fun K hK => ?_) AllReady.nil
            · go_simp
              refine (hcl.out w4.drew (ext_drew (Below.refl _ _))).mono ?_
              rintro e w5 ⟨v5, rfl, hown5, hb5⟩
              obtain ⟨c0, c1, c2, c3, c4, hB5, hb05, hg5⟩ := hkeep.out w5 hb5
              refine hK _ _ ?_
              clear hK K
              refine wpAny_ready (fuel := 2) (rs := [4]) (by kernel_rfl) (by simp) ?_
              refine AllReady.cons rfl (fun K hK => ?_) AllReady.nil
              · go_simp
                rw [← hv]
                refine (hperf.out w5 v5 hown5 hB5 hg5).mono ?_
                rintro e w6 ⟨hB6, h6⟩
                have hb06 := hkeep2.out w6 hB6
                rcases h6 with ⟨n, hn0, hde, rfl⟩ | ⟨hde, v6, rfl, hown6⟩
                · refine leaves_cons (f := 47) (args := #[.pointer (some ⟨w.heap.size + 1, 0, none⟩)]) (by simp) (by simp [go_sem]) ?_
                  refine (caught_pan _ _ _ _ hb06).mono ?_
                  rintro e u' w'' ⟨rfl, rfl, rfl⟩
                  simp [Leaves, settle, results, Tryd.results17, go_sem, cell_one hb06]
                  exact hpan.out n w6 hB6 hn0 hde
                have ce := cell_one hb06
                have fe := frozen_one hb06 0
                have Hown6 := Lib.hid hown6
                clear hown6
                refine hK _ _ ?_
                clear hK K
                refine wpAny_ready (fuel := 1) (rs := [5]) (by kernel_rfl) (by simp) ?_
                refine AllReady.cons rfl (fun K hK => ?_) AllReady.nil
                · go_simp
                  refine hK _ _ ?_
                  clear hK K
                  refine wpAny_ready (fuel := 0) (rs := [6]) (by kernel_rfl) (by simp) ?_
                  refine AllReady.cons rfl (fun K hK => ?_) AllReady.nil
                  · go_simp
                    refine hK _ _ ?_
                    clear hK K
                    refine wpAny_done (by kernel_rfl) ?_ _
                    have fe1 : (w6.setCell ⟨w.heap.size + 1, 0, none⟩ (.int .i64 0)).cell? ⟨w.heap.size + 1, 0, none⟩ = some (.int .i64 0) := cell_one (set_one hb06 _)
                    go_wp2
                    refine leaves_cons (f := 47) (args := #[.pointer (some ⟨w.heap.size + 1, 0, none⟩)]) (by simp) (by simp [go_sem]) ?_
                    refine (caught_ret _ _).mono ?_
                    rintro e u' w'' ⟨rfl, rfl, rfl⟩
                    simp [Leaves, settle, results, Tryd.results17, go_sem, fe1]
                    exact hret.out v6 w6 hB6 hde Hown6.out
        · go_simp
          refine hK _ _ ?_
          clear hK K
          refine wpAny_ready (fuel := 4) (rs := [0]) (by kernel_rfl) (by simp) ?_
          refine AllReady.cons rfl (fun K hK => ?_) AllReady.nil
          · go_simp
            refine hK _ _ ?_
            clear hK K
            refine wpAny_ready (fuel := 3) (rs := [1]) (by kernel_rfl) (by simp) ?_
            refine AllReady.cons rfl (fun K hK => ?_) AllReady.nil
            · go_simp
              refine (hcl.out w4.drew (ext_drew (Below.refl _ _))).mono ?_
              rintro e w5 ⟨v5, rfl, hown5, hb5⟩
              obtain ⟨c0, c1, c2, c3, c4, hB5, hb05, hg5⟩ := hkeep.out w5 hb5
              refine hK _ _ ?_
              clear hK K
              refine wpAny_ready (fuel := 2) (rs := [4]) (by kernel_rfl) (by simp) ?_
              refine AllReady.cons rfl (fun K hK => ?_) AllReady.nil
              · go_simp
                rw [← hv]
                refine (hperf.out w5 v5 hown5 hB5 hg5).mono ?_
                rintro e w6 ⟨hB6, h6⟩
                have hb06 := hkeep2.out w6 hB6
                rcases h6 with ⟨n, hn0, hde, rfl⟩ | ⟨hde, v6, rfl, hown6⟩
                · refine leaves_cons (f := 47) (args := #[.pointer (some ⟨w.heap.size + 1, 0, none⟩)]) (by simp) (by simp [go_sem]) ?_
                  refine (caught_pan _ _ _ _ hb06).mono ?_
                  rintro e u' w'' ⟨rfl, rfl, rfl⟩
                  simp [Leaves, settle, results, Tryd.results17, go_sem, cell_one hb06]
                  exact hpan.out n w6 hB6 hn0 hde
                have ce := cell_one hb06
                have fe := frozen_one hb06 0
                have Hown6 := Lib.hid hown6
                clear hown6
                refine hK _ _ ?_
                clear hK K
                refine wpAny_ready (fuel := 1) (rs := [5]) (by kernel_rfl) (by simp) ?_
                refine AllReady.cons rfl (fun K hK => ?_) AllReady.nil
                · go_simp
                  refine hK _ _ ?_
                  clear hK K
                  refine wpAny_ready (fuel := 0) (rs := [6]) (by kernel_rfl) (by simp) ?_
                  refine AllReady.cons rfl (fun K hK => ?_) AllReady.nil
                  · go_simp
                    refine hK _ _ ?_
                    clear hK K
                    refine wpAny_done (by kernel_rfl) ?_ _
                    have fe1 : (w6.setCell ⟨w.heap.size + 1, 0, none⟩ (.int .i64 0)).cell? ⟨w.heap.size + 1, 0, none⟩ = some (.int .i64 0) := cell_one (set_one hb06 _)
                    go_wp2
                    refine leaves_cons (f := 47) (args := #[.pointer (some ⟨w.heap.size + 1, 0, none⟩)]) (by simp) (by simp [go_sem]) ?_
                    refine (caught_ret _ _).mono ?_
                    rintro e u' w'' ⟨rfl, rfl, rfl⟩
                    simp [Leaves, settle, results, Tryd.results17, go_sem, fe1]
                    exact hret.out v6 w6 hB6 hde Hown6.out
      · go_simp
        refine hK _ _ ?_
        clear hK K
        refine wpAny_ready (fuel := 5) (rs := [0, 2]) (by kernel_rfl) (by simp) ?_
        refine AllReady.cons rfl (fun K hK => ?_) (AllReady.cons rfl (fun K hK => ?_) AllReady.nil)
        · go_simp
          refine hK _ _ ?_
          clear hK K
          refine wpAny_ready (fuel := 4) (rs := [1, 2]) (by kernel_rfl) (by simp) ?_
          refine AllReady.cons rfl (fun K hK => ?_) (AllReady.cons rfl (fun K hK => ?_) AllReady.nil)
          · go_simp
            refine (hcl.out w4.drew (ext_drew (Below.refl _ _))).mono ?_
            rintro e w5 ⟨v5, rfl, hown5, hb5⟩
            obtain ⟨c0, c1, c2, c3, c4, hB5, hb05, hg5⟩ := hkeep.out w5 hb5
            refine hK _ _ ?_
            clear hK K
            refine wpAny_ready (fuel := 3) (rs := [2]) (by kernel_rfl) (by simp) ?_
            refine AllReady.cons rfl (fun K hK => ?_) AllReady.nil
            · go_simp
              refine hK _ _ ?_
              clear hK K
              refine wpAny_ready (fuel := 2) (rs := [4]) (by kernel_rfl) (by simp) ?_
              refine AllReady.cons rfl (fun K hK => ?_) AllReady.nil
              · go_simp
                rw [← hv]
                refine (hperf.out w5 v5 hown5 hB5 hg5).mono ?_
                rintro e w6 ⟨hB6, h6⟩
                have hb06 := hkeep2.out w6 hB6
                rcases h6 with ⟨n, hn0, hde, rfl⟩ | ⟨hde, v6, rfl, hown6⟩
                · refine leaves_cons (f := 47) (args := #[.pointer (some ⟨w.heap.size + 1, 0, none⟩)]) (by simp) (by simp [go_sem]) ?_
                  refine (caught_pan _ _ _ _ hb06).mono ?_
                  rintro e u' w'' ⟨rfl, rfl, rfl⟩
                  simp [Leaves, settle, results, Tryd.results17, go_sem, cell_one hb06]
                  exact hpan.out n w6 hB6 hn0 hde
                have ce := cell_one hb06
                have fe := frozen_one hb06 0
                have Hown6 := Lib.hid hown6
                clear hown6
                refine hK _ _ ?_
                clear hK K
                refine wpAny_ready (fuel := 1) (rs := [5]) (by kernel_rfl) (by simp) ?_
                refine AllReady.cons rfl (fun K hK => ?_) AllReady.nil
                · go_simp
                  refine hK _ _ ?_
                  clear hK K
                  refine wpAny_ready (fuel := 0) (rs := [6]) (by kernel_rfl) (by simp) ?_
                  refine AllReady.cons rfl (fun K hK => ?_) AllReady.nil
                  · go_simp
                    refine hK _ _ ?_
                    clear hK K
                    refine wpAny_done (by kernel_rfl) ?_ _
                    have fe1 : (w6.setCell ⟨w.heap.size + 1, 0, none⟩ (.int .i64 0)).cell? ⟨w.heap.size + 1, 0, none⟩ = some (.int .i64 0) := cell_one (set_one hb06 _)
                    go_wp2
                    refine leaves_cons (f := 47) (args := #[.pointer (some ⟨w.heap.size + 1, 0, none⟩)]) (by simp) (by simp [go_sem]) ?_
                    refine (caught_ret _ _).mono ?_
                    rintro e u' w'' ⟨rfl, rfl, rfl⟩
                    simp [Leaves, settle, results, Tryd.results17, go_sem, fe1]
                    exact hret.out v6 w6 hB6 hde Hown6.out
          · go_simp
            refine hK _ _ ?_
            clear hK K
            refine wpAny_ready (fuel := 3) (rs := [1]) (by kernel_rfl) (by simp) ?_
            refine AllReady.cons rfl (fun K hK => ?_) AllReady.nil
            · go_simp
              refine (hcl.out w4.drew (ext_drew (Below.refl _ _))).mono ?_
              rintro e w5 ⟨v5, rfl, hown5, hb5⟩
              obtain ⟨c0, c1, c2, c3, c4, hB5, hb05, hg5⟩ := hkeep.out w5 hb5
              refine hK _ _ ?_
              clear hK K
              refine wpAny_ready (fuel := 2) (rs := [4]) (by kernel_rfl) (by simp) ?_
              refine AllReady.cons rfl (fun K hK => ?_) AllReady.nil
              · go_simp
                rw [← hv]
                refine (hperf.out w5 v5 hown5 hB5 hg5).mono ?_
                rintro e w6 ⟨hB6, h6⟩
                have hb06 := hkeep2.out w6 hB6
                rcases h6 with ⟨n, hn0, hde, rfl⟩ | ⟨hde, v6, rfl, hown6⟩
                · refine leaves_cons (f := 47) (args := #[.pointer (some ⟨w.heap.size + 1, 0, none⟩)]) (by simp) (by simp [go_sem]) ?_
                  refine (caught_pan _ _ _ _ hb06).mono ?_
                  rintro e u' w'' ⟨rfl, rfl, rfl⟩
                  simp [Leaves, settle, results, Tryd.results17, go_sem, cell_one hb06]
                  exact hpan.out n w6 hB6 hn0 hde
                have ce := cell_one hb06
                have fe := frozen_one hb06 0
                have Hown6 := Lib.hid hown6
                clear hown6
                refine hK _ _ ?_
                clear hK K
                refine wpAny_ready (fuel := 1) (rs := [5]) (by kernel_rfl) (by simp) ?_
                refine AllReady.cons rfl (fun K hK => ?_) AllReady.nil
                · go_simp
                  refine hK _ _ ?_
                  clear hK K
                  refine wpAny_ready (fuel := 0) (rs := [6]) (by kernel_rfl) (by simp) ?_
                  refine AllReady.cons rfl (fun K hK => ?_) AllReady.nil
                  · go_simp
                    refine hK _ _ ?_
                    clear hK K
                    refine wpAny_done (by kernel_rfl) ?_ _
                    have fe1 : (w6.setCell ⟨w.heap.size + 1, 0, none⟩ (.int .i64 0)).cell? ⟨w.heap.size + 1, 0, none⟩ = some (.int .i64 0) := cell_one (set_one hb06 _)
                    go_wp2
                    refine leaves_cons (f := 47) (args := #[.pointer (some ⟨w.heap.size + 1, 0, none⟩)]) (by simp) (by simp [go_sem]) ?_
                    refine (caught_ret _ _).mono ?_
                    rintro e u' w'' ⟨rfl, rfl, rfl⟩
                    simp [Leaves, settle, results, Tryd.results17, go_sem, fe1]
                    exact hret.out v6 w6 hB6 hde Hown6.out
        · go_simp
          refine hK _ _ ?_
          clear hK K
          refine wpAny_ready (fuel := 4) (rs := [0]) (by kernel_rfl) (by simp) ?_
          refine AllReady.cons rfl (fun K hK => ?_) AllReady.nil
          · go_simp
            refine hK _ _ ?_
            clear hK K
            refine wpAny_ready (fuel := 3) (rs := [1]) (by kernel_rfl) (by simp) ?_
            refine AllReady.cons rfl (fun K hK => ?_) AllReady.nil
            · go_simp
              refine (hcl.out w4.drew (ext_drew (Below.refl _ _))).mono ?_
              rintro e w5 ⟨v5, rfl, hown5, hb5⟩
              obtain ⟨c0, c1, c2, c3, c4, hB5, hb05, hg5⟩ := hkeep.out w5 hb5
              refine hK _ _ ?_
              clear hK K
              refine wpAny_ready (fuel := 2) (rs := [4]) (by kernel_rfl) (by simp) ?_
              refine AllReady.cons rfl (fun K hK => ?_) AllReady.nil
              · go_simp
                rw [← hv]
                refine (hperf.out w5 v5 hown5 hB5 hg5).mono ?_
                rintro e w6 ⟨hB6, h6⟩
                have hb06 := hkeep2.out w6 hB6
                rcases h6 with ⟨n, hn0, hde, rfl⟩ | ⟨hde, v6, rfl, hown6⟩
                · refine leaves_cons (f := 47) (args := #[.pointer (some ⟨w.heap.size + 1, 0, none⟩)]) (by simp) (by simp [go_sem]) ?_
                  refine (caught_pan _ _ _ _ hb06).mono ?_
                  rintro e u' w'' ⟨rfl, rfl, rfl⟩
                  simp [Leaves, settle, results, Tryd.results17, go_sem, cell_one hb06]
                  exact hpan.out n w6 hB6 hn0 hde
                have ce := cell_one hb06
                have fe := frozen_one hb06 0
                have Hown6 := Lib.hid hown6
                clear hown6
                refine hK _ _ ?_
                clear hK K
                refine wpAny_ready (fuel := 1) (rs := [5]) (by kernel_rfl) (by simp) ?_
                refine AllReady.cons rfl (fun K hK => ?_) AllReady.nil
                · go_simp
                  refine hK _ _ ?_
                  clear hK K
                  refine wpAny_ready (fuel := 0) (rs := [6]) (by kernel_rfl) (by simp) ?_
                  refine AllReady.cons rfl (fun K hK => ?_) AllReady.nil
                  · go_simp
                    refine hK _ _ ?_
                    clear hK K
                    refine wpAny_done (by kernel_rfl) ?_ _
                    have fe1 : (w6.setCell ⟨w.heap.size + 1, 0, none⟩ (.int .i64 0)).cell? ⟨w.heap.size + 1, 0, none⟩ = some (.int .i64 0) := cell_one (set_one hb06 _)
                    go_wp2
                    refine leaves_cons (f := 47) (args := #[.pointer (some ⟨w.heap.size + 1, 0, none⟩)]) (by simp) (by simp [go_sem]) ?_
                    refine (caught_ret _ _).mono ?_
                    rintro e u' w'' ⟨rfl, rfl, rfl⟩
                    simp [Leaves, settle, results, Tryd.results17, go_sem, fe1]
                    exact hret.out v6 w6 hB6 hde Hown6.out
    · have hok : cc.ok = false := by
        cases h : cc.ok
        · rfl
        · rw [h] at ho; simp at ho
      rw [hok]
      refine leaves_cons (f := 47) (args := #[.pointer (some ⟨w.heap.size + 1, 0, none⟩)]) (by simp) (by simp [go_sem]) ?_
      refine (caught_pan _ _ _ _ hb04).mono ?_
      rintro e u' w'' ⟨rfl, rfl, rfl⟩
      simp [Leaves, settle, results, Tryd.results17, go_sem, cell_one hb04]
      have hd : doE l cc = 490 := by unfold doE; rw [Hn.out, hok]; simp
      exact ⟨hB4.setCell (p := ⟨w.heap.size + 1, 0, none⟩) (by simp) _, .inl ⟨by rw [hd]; decide, by rw [hd]⟩⟩
  · refine leaves_cons (f := 47) (args := #[.pointer (some ⟨w.heap.size + 1, 0, none⟩)]) (by simp) (by simp [go_sem]) ?_
    refine (caught_pan _ _ _ _ hb02).mono ?_
    rintro e u' w'' ⟨rfl, rfl, rfl⟩
    simp [Leaves, settle, results, Tryd.results17, go_sem, cell_one hb02]
    have hd : doE l cc = checkE l := by unfold doE; rw [if_pos hn]
    exact ⟨hB2.setCell (p := ⟨w.heap.size + 1, 0, none⟩) (by simp) _, .inl ⟨by rw [hd]; exact hn, by rw [hd]⟩⟩
end Go.Proofs.YtneanannicacnaaDoor
