/- slices.Insert of one element at hansard/api.House: into a slice of one's own. -/
import Derived.Test.YtmindojbkedmlaaRow
namespace Go.Proofs.Ytmindojbkedmlaa
open Go.RowKit Go.Han

theorem info_hse : (Try.prog.info? 52).map (fun i => (i.size, i.bytes)) = some (10, 80) := by kernel_rfl
theorem infoz_hse : ((Try.prog.info? 52).bind (·.zero)).map (·.cells.size) = some 10 := by kernel_rfl
theorem parts_hse : ∃ i z, Try.prog.info? 52 = some i ∧ i.zero = some z ∧ i.size = 10 ∧ i.bytes = 80 ∧ z.cells.size = 10 := by
  have h1 := info_hse
  have h2 := infoz_hse
  cases hi : Try.prog.info? 52 with
  | none => rw [hi] at h1; cases h1
  | some i =>
    rw [hi] at h1 h2
    simp only [Option.map_some, Option.some.injEq, Prod.mk.injEq, Option.bind_some] at h1 h2
    cases hz : i.zero with
    | none => rw [hz] at h2; cases h2
    | some z =>
      rw [hz] at h2
      exact ⟨i, z, rfl, hz, h1.1, h1.2, by simpa using h2⟩

def InsPost_hse (base n : Nat) (v : Value) (zs : List Value) (w : World) (e : Ending) (w' : World) : Prop :=
  ∃ v', e = .returned v' ∧ w'.ownsRow base 52 10 v' n zs ∧ w.grownBy w' v.ownBlock ∧ (v'.ownBlock = v.ownBlock ∨ ∃ k, v'.ownBlock = some k ∧ w.heap.size ≤ k)

set_option maxRecDepth 100000 in
set_option maxHeartbeats 1000000 in
theorem insert_hse (base n i vb : Nat) (v : Value) (xs ys : List Value) (w : World) (hown : w.ownsRow base 52 10 v n xs) (hin : i ≤ n) (hv : Row w vb 52 ys) (hys : ys.length = 10)
    (hy1 : ∀ u ∈ ys, u.oneCell' = true) (hx1 : ∀ u ∈ xs, u.oneCell' = true) (hne : v.ownBlock ≠ some vb) (hn : n ≤ 1000000) (hbase : base ≤ w.heap.size) :
    Calls Try.prog 67 #[v, .int .i64 i, .slice (some ⟨vb, 0, none⟩) 1 1] w (InsPost_hse base (n + 1) v (putIn xs (i * 10) ys) w) := by
  obtain ⟨i0, z, hi0, hz0, hs0, hb0, hzs⟩ := parts_hse
  have hxl := hown.1
  have hrdv : Rd w (some ⟨vb, 0, none⟩) ys := hv.rd 0 (fun j u h => by simpa using h)
  by_cases hlast : i = n
  · -- at the end: append
    have hput : putIn xs (i * 10) ys = xs ++ ys := by
      unfold putIn
      rw [hlast, ← hxl, List.take_of_length_le (Nat.le_refl _), List.drop_of_length_le (Nat.le_refl _), List.append_nil]
    rw [hput]
    clear hput
    subst hlast
    obtain ⟨A, c, rfl, hnc, hcm⟩ : ∃ A c, v = .slice A i c ∧ i ≤ c ∧ c ≤ maxLen := by
      rcases hown.2 with ⟨rfl, rfl⟩ | ⟨g, cap, cur, rfl, _, _, h1, h2, _⟩
      · exact ⟨none, 0, rfl, Nat.le_refl _, by unfold maxLen; omega⟩
      · exact ⟨_, _, rfl, h1, h2⟩
    unfold maxLen at hcm
    go_enter Try.func67, Try.ntmps67
    go_wp2_with (at_builtin; go_loud (refine wpList_append_lies _ rfl (.tmp 23) (.tmp 24) 22 rfl base 52 i0 z 10 80 Try.underlying22 hi0 hz0 hs0 hb0 hzs (by decide) (.slice A i c) i xs rfl hown ⟨vb, 0, none⟩ 1 1 ys rfl (by rw [hys]) (fun j u hu => by rw [add_none, Nat.zero_add]; exact (hv.cell j).trans hu) hy1 (by decide) (by unfold maxLen; omega) (by omega) hbase _ rfl ?_); intro g' c' w1 hown1 hgr hat hlt)
    all_goals
      go_ret
      cases A
      all_goals
        refine ⟨_, rfl, hown1, hgr, ?_⟩
        rcases hat with h | h
        · exact .inl h.symm
        · exact .inr ⟨g', rfl, by omega⟩
  · -- before the end
    have hlt : i < n := by omega
    obtain ⟨g, c, cur, rfl, hbg, hrow, hnc, hcm, hcs, htk⟩ : ∃ g cap cur, v = .slice (some ⟨g, 0, none⟩) n cap ∧ base ≤ g ∧ w.heap[g]? = some (.cells cur 52 (0, 0)) ∧ n ≤ cap ∧ cap ≤ maxLen ∧ cur.size = cap * 10 ∧ cur.toList.take (n * 10) = xs := by
      rcases hown.2 with ⟨_, h0⟩ | h
      · omega
      · exact h
    have hne' : g ≠ vb := fun e => hne (by rw [e]; rfl)
    have hR : Row w g 52 (xs ++ cur.toList.drop (n * 10)) := by
      unfold Row
      rw [← htk, List.take_append_drop]
      exact hrow
    have hRl : (xs ++ cur.toList.drop (n * 10)).length = c * 10 := by
      rw [← htk, List.take_append_drop, Array.length_toList]; exact hcs
    generalize cur.toList.drop (n * 10) = R at *
    clear hrow hcs htk cur hown
    have hnci : (n : Int) ≤ (c : Int) := by omega
    by_cases hroom : n + 1 ≤ c
    · have g1 : ¬ ((c : Int) < (n : Int) + 1) := by omega
      have hov : ∀ (o lb cb : Nat), (callFunc 98 #[.slice (some ⟨vb, 0, none⟩) 1 1, .slice (some ⟨g, o, none⟩) lb cb]).run Try.prog w = .ok (.value (.bool false)) w := by
        intro o lb cb
        have hsz : ∀ w, (Go.sizeOf 52).run Try.prog w = .ok 10 w := fun w => by simp [Go.sizeOf, typeInfo, hi0, hs0]
        rw [run_callFunc_extern Try.func98 (by kernel_rfl) (by kernel_rfl) (by kernel_rfl) (e := Extern.SlicesOverlaps.overlaps #[22, 22] #[4]) (by kernel_rfl),
          Lib.run_overlaps_apart w 22 4 52 Try.underlying22 10 hsz ⟨vb, 0, none⟩ ⟨g, o, none⟩ 1 1 lb cb (Ne.symm hne') 52 52 10 (c * 10) (by unfold Row at hv; simp [World.shape?, hv, hys]) (by unfold Row at hR; simp [World.shape?, hR]; simpa using hRl) (by omega) (hv.frozen 0) (hv.frozen _)]
        rfl
      have hw1 : IntKind.i64.wrap ((i : Int) + 1) = (i : Int) + 1 := by rw [IntKind.wrap_i64]; omega
      have hw2 : ((i : Int) + 1).toNat = i + 1 := by omega
      unfold maxLen at hcm
      have Hcm := Lib.hid hcm
      go_enter Try.func67, Try.ntmps67
      go_wp2_with fail
      have hz1 : (0 : Int) ≤ (i : Int) + 1 := by omega
      have hci : ¬ c = i + 1 := by omega
      have hci2 : ¬ c = i := by omega
      have hin2 : (i : Int) ≤ (n : Int) + 1 := by omega
      go_still_tail 8, (by kernel_rfl)
      change wpList _ _ _ _ _ w.drew
      generalize hwd : w.drew = w2
      have hR2 : Row w2 g 52 (xs ++ R) := by rw [← hwd]; exact hR
      have hv2 : Row w2 vb 52 ys := by rw [← hwd]; exact hv
      have hbd : w.grownBy w2 (some g) := by rw [← hwd]; exact ⟨rfl, rfl, rfl, Nat.le_refl _, fun _ _ _ => rfl⟩
      clear hwd hR hv hrdv hov
      have hxd : (xs.drop (i * 10)).length = (n - i) * 10 := by rw [List.length_drop, hxl, Nat.sub_mul]
      have hmin : Nat.min (n + 1 - i) (n - i) = n - i := Nat.min_eq_right (by omega)
      have hcl : (n + 1) * 10 ≤ c * 10 := Nat.mul_le_mul_right _ hroom
      have hRl2 : xs.length + R.length = c * 10 := by rw [← List.length_append]; exact hRl
      refine wpList_copy_rows w2 rfl (.tmp 73) (.tmp 76) 22 22 rfl 52 10 Try.underlying22 hi0 hs0 g ((i + 1) * 10) (n - i) (c - (i + 1)) (some ⟨g, i * 10, none⟩) (n + 1 - i) (c - i) 52 (xs ++ R) (xs.drop (i * 10)) rfl rfl hR2 (by rw [hmin]; exact hxd)
        (hR2.rd _ fun j u hu => ?_) (by rw [hxd, List.length_append]; omega) (fun u hu => hx1 u (List.mem_of_mem_drop hu)) fun w3 hR3 hg3 hz3 => ?_
      · rw [List.getElem?_drop] at hu
        rw [List.getElem?_append_left (List.getElem?_eq_some_iff.1 hu).1]
        exact hu
      have hv3 : Row w3 vb 52 ys := hv2.far hg3 (by simpa using Ne.symm hne')
      rw [hmin]
      clear hR2 hv2
      have hmul : (i + 1) * 10 = i * 10 + ys.length := by rw [Nat.succ_mul, hys]
      have hile : i * 10 ≤ n * 10 := Nat.mul_le_mul_right _ hin
      have hcn : n * 10 + 10 ≤ c * 10 := by rw [Nat.succ_mul] at hcl; exact hcl
      have hsr : splice (splice (xs ++ R) ((i + 1) * 10) (xs.drop (i * 10))) (i * 10) ys = putIn xs (i * 10) ys ++ R.drop ys.length := by
        rw [hmul]; exact splice_room xs R ys _ (by omega) (by omega)
      have hslen : (splice (xs ++ R) ((i + 1) * 10) (xs.drop (i * 10))).length = c * 10 := by
        unfold splice
        simp only [List.length_append, List.length_take, List.length_drop]
        omega
      go_wp2_with (with_reducible (refine wpList_copy_rows w3 rfl (.tmp 80) (.tmp 81) 22 22 rfl 52 10 Try.underlying22 hi0 hs0 g (i * 10) (n + 1 - i) (c - i) (some ⟨vb, 0, none⟩) 1 1 52 _ ys ?_ ?_ hR3 ?_ ?_ ?_ hy1 fun w4 hR4 hg4 hz4 => ?_))
      · rfl
      · rfl
      · rw [hys, show Nat.min 1 (n + 1 - i) = 1 from Nat.min_eq_left (by omega)]
      · exact hv3.rd 0 (fun j u h => by simpa using h)
      · rw [hslen]; omega
      go_ret
      rw [hsr] at hR4
      have hpl : (putIn xs (i * 10) ys).length = (n + 1) * 10 := by rw [putIn_length _ _ _ (by omega), hys, hxl, Nat.succ_mul]
      refine ⟨_, rfl, ⟨hpl, .inr ⟨g, c, _, rfl, hbg, hR4, hroom, by unfold maxLen; exact Hcm.out, ?_, ?_⟩⟩, (hbd.trans hg3).trans hg4, .inl rfl⟩
      · rw [List.size_toArray, List.length_append, hpl, List.length_drop, hys, Nat.succ_mul]; omega
      · exact List.take_left' hpl
    · have hcn : c = n := by omega
      subst hcn
      have g1 : (c : Int) < (c : Int) + 1 := by omega
      have hw1 : IntKind.i64.wrap ((i : Int) + 1) = (i : Int) + 1 := by rw [IntKind.wrap_i64]; omega
      have hw2 : ((i : Int) + 1).toNat = i + 1 := by omega
      have hR0 : R = [] := List.eq_nil_of_length_eq_zero (by rw [List.length_append, hxl] at hRl; omega)
      subst hR0
      rw [List.append_nil] at hR
      unfold maxLen at hcm
      have hk : ((c : Int) + 1 - (i : Int)) = ((c + 1 - i : Nat) : Int) := by omega
      have hxt : (xs.take (i * 10)).length = i * 10 := by
        rw [List.length_take, Nat.min_eq_left]
        rw [hxl]; exact Nat.mul_le_mul_right _ hin
      have hadd : i + (c + 1 - i) = c + 1 := by omega
      go_enter Try.func67, Try.ntmps67
      go_wp2_with (at_builtin; go_loud (refine wpList_append_zeros w rfl (.tmp 34) (.tmp 39) 22 3 rfl 52 i0 z 10 80 .i64 .i64 Try.underlying22 Try.underlying3 hi0 hz0 hs0 hb0 hzs (by decide) (some ⟨g, 0, none⟩) i c (c + 1 - i) (xs.take (i * 10)) rfl ?hx1 hxt (hR.rd 0 ?hx2) (by omega) (by omega) (by unfold maxLen; omega) (by omega) ?hx3))
      case hx1 => rfl
      case hx2 =>
        intro j u hu
        rw [Nat.zero_add]
        rw [List.getElem?_take] at hu
        split at hu
        · exact hu
        · cases hu
      case hx3 =>
        intro cap w1 R1 hR1 hl1 hc1 hm1 hb1 hz1
        have hv1 := hv.ext hb1
        have hgw : g < w.heap.size := hR.lt
        have hvw : vb < w.heap.size := hv.lt
        have hR01 := hR.ext hb1
        have hg1 : w.grownBy w1 (some w.heap.size) := ⟨hb1.os, hb1.tape, hb1.output, hb1.size, fun k hk _ => hb1.block k hk⟩
        have hci : ¬ cap = i := by omega
        have hci1 : ¬ cap = i + 1 := by omega
        have hi1 : (i : Int) ≤ (c : Int) + 1 := by omega
        have hi0' : (i : Int) + 1 ≤ (c : Int) + 1 := by omega
        have hz1' : (0 : Int) ≤ (i : Int) + 1 := by omega
        have hcm1 : cap ≤ 9223372036854775807 := by unfold maxLen at hm1; omega
        clear hv hR hm1
        go_wp2_with (with_reducible (refine wpList_copy_rows w1 rfl (.tmp 43) (.tmp 44) 22 22 rfl 52 10 Try.underlying22 hi0 hs0 w.heap.size (i * 10) (c + 1 - i) (cap - i) (some ⟨vb, 0, none⟩) 1 1 52 _ ys ?_ ?_ hR1 ?_ ?_ ?_ hy1 fun w2 hR2 hg2 hz2 => ?_))
        · rfl
        · rfl
        · rw [hys, show Nat.min 1 (c + 1 - i) = 1 from Nat.min_eq_left (by omega)]
        · exact hv1.rd 0 (fun j u h => by simpa using h)
        · rw [List.length_append, hxt, hys]
          have : i * 10 + 10 ≤ cap * 10 := by rw [← Nat.succ_mul]; exact Nat.mul_le_mul_right _ (by omega)
          omega
        have hR02 := hR01.far hg2 (by intro e; simp at e; omega)
        clear hR1 hv1 hR01
        go_still_tail 8, (by kernel_rfl)
        change wpList _ _ _ _ _ w2.drew
        generalize hwd : w2.drew = w3
        have hR3 : Row w3 w.heap.size 52 (splice (xs.take (i * 10) ++ R1) (i * 10) ys) := by rw [← hwd]; exact hR2
        have hR03 : Row w3 g 52 xs := by rw [← hwd]; exact hR02
        have hg3 : w2.grownBy w3 (some w.heap.size) := by rw [← hwd]; exact ⟨rfl, rfl, rfl, Nat.le_refl _, fun _ _ _ => rfl⟩
        clear hwd hR2 hR02
        have hxd : (xs.drop (i * 10)).length = (c - i) * 10 := by rw [List.length_drop, hxl, Nat.sub_mul]
        have hmin : Nat.min (c - i) (c - i) = c - i := Nat.min_eq_left (Nat.le_refl _)
        have hci2 : ¬ c = i := by omega
        have hslen : (splice (xs.take (i * 10) ++ R1) (i * 10) ys).length = cap * 10 := by
          unfold splice
          simp only [List.length_append, List.length_take, List.length_drop, hxl] at hl1 ⊢
          omega
        have hile : i * 10 ≤ c * 10 := Nat.mul_le_mul_right _ hin
        have hmul : (i + 1) * 10 = i * 10 + ys.length := by rw [Nat.succ_mul, hys]
        have hcs : (c + 1) * 10 ≤ cap * 10 := Nat.mul_le_mul_right _ (by omega)
        have hcs' : (c + 1) * 10 = c * 10 + 10 := Nat.succ_mul _ _
        have hcis : (c - i) * 10 = c * 10 - i * 10 := Nat.sub_mul _ _ _
        have hl3 : i * 10 + R1.length = cap * 10 := hl1
        refine wpList_copy_rows w3 rfl (.tmp 50) (.tmp 53) 22 22 rfl 52 10 Try.underlying22 hi0 hs0 w.heap.size ((i + 1) * 10) (c - i) (cap - (i + 1)) (some ⟨g, i * 10, none⟩) (c - i) (c - i) 52 (splice (xs.take (i * 10) ++ R1) (i * 10) ys) (xs.drop (i * 10)) rfl (by simp only [Act.eval, Array.getD_eq_getD_getElem?, List.getElem?_toArray, List.getElem?_cons_succ, List.getElem?_cons_zero, Option.getD_some, hci2, if_false]) hR3 (by rw [hmin]; exact hxd)
          (hR03.rd _ fun j u hu => by rw [List.getElem?_drop] at hu; exact hu) (by rw [hxd, hslen]; omega) (fun u hu => hx1 u (List.mem_of_mem_drop hu)) fun w4 hR4 hg4 hz4 => ?_
        rw [hmin]
        go_wp2
        go_ret
        have hsr : splice (splice (xs.take (i * 10) ++ R1) (i * 10) ys) ((i + 1) * 10) (xs.drop (i * 10)) = putIn xs (i * 10) ys ++ R1.drop (ys.length + (xs.length - i * 10)) := by
          rw [hmul]; exact splice_fresh xs R1 ys _ (by omega)
        rw [hsr] at hR4
        have hpl : (putIn xs (i * 10) ys).length = (c + 1) * 10 := by rw [putIn_length _ _ _ (by omega), hys, hxl, Nat.succ_mul]
        have hge := ((hg1.trans hg2).trans hg3).trans hg4
        refine ⟨_, rfl, ⟨hpl, .inr ⟨_, cap, _, rfl, hbase, hR4, by omega, by unfold maxLen; omega, ?_, ?_⟩⟩, ⟨hge.os, hge.tape, hge.output, hge.size, fun k hk _ => hge.block k hk (by intro e; simp at e; omega)⟩, .inr ⟨_, rfl, Nat.le_refl _⟩⟩
        · rw [List.size_toArray, List.length_append, hpl, List.length_drop, hys]; omega
        · exact List.take_left' hpl
end Go.Proofs.Ytmindojbkedmlaa
