/- The statement DisplayApart, walked. -/
import Derived.Test.YtneanannicacnaaDoorLaw49c
namespace Go.Proofs.YtneanannicacnaaDoor
open Go.RowKit Go.Han
attribute [local irreducible] wpStill wpQuiet
set_option maxRecDepth 100000

/-- Two changes, one after the other. -/
def PairPost (l : List Spot) (a b : Change) (w : World) (e : Ending) (w' : World) : Prop :=
  Below w.heap.size w w' ∧ ((doE l a = 0 ∧ doE (madeL a l) b = 0 ∧ ∃ A cp, e = .returned (.tuple #[.slice A (madeL b (madeL a l)).length cp, .bool true]) ∧ Rd w' A (flat (madeL b (madeL a l)))) ∨ (¬ (doE l a = 0 ∧ doE (madeL a l) b = 0) ∧ e = .returned (.tuple #[.slice none 0 0, .bool false])))
theorem Do_agg (A : Option Addr) (cp : Nat) (l : List Spot) (t kd i vr : Int) (s : ByteArray) (w : World) (hT : Tabs w) (hr : Rd w A (flat l)) (hA : A = none → l = []) (hm : l.length ≤ 9223372036854775807) (c : Change) (hc : c = ⟨t, kd, ⟨i, vr, s⟩⟩) :
    Calls Tryd.prog 17 #[.slice A l.length cp, .agg #[.int .i64 t, .int .i64 kd, .int .i64 i, .int .i64 vr, .string s]] w (DoPost l c w) := by
  subst hc
  exact Do_any A cp l ⟨t, kd, ⟨i, vr, s⟩⟩ w hT hr hA hm
theorem pair_any (b0 : Nat) (A : Option Addr) (cp : Nat) (l : List Spot) (a b : Change) (t kd i vr : Int) (s : ByteArray) (ha : a = ⟨t, kd, ⟨i, vr, s⟩⟩) (t' kd' i' vr' : Int) (s' : ByteArray) (hb : b = ⟨t', kd', ⟨i', vr', s'⟩⟩) (w : World) (hT : Tabs w) (h0 : w.heap[b0]? = some (.cells #[.slice A l.length cp] 22 (0, 0))) (hr : Rd w A (flat l)) (hA : A = none → l = []) (hm : l.length ≤ 9223372036854775807) :
    Calls Tryd.prog 29 #[.agg #[.int .i64 t, .int .i64 kd, .int .i64 i, .int .i64 vr, .string s], .agg #[.int .i64 t', .int .i64 kd', .int .i64 i', .int .i64 vr', .string s'], .pointer (some ⟨b0, 0, none⟩)] w (PairPost l a b w) := by
  have hB0 : Below w.heap.size w ((w.alloc (.cells #[.int .i64 t, .int .i64 kd, .int .i64 i, .int .i64 vr, .string s] 26)).alloc (.cells #[.int .i64 t', .int .i64 kd', .int .i64 i', .int .i64 vr', .string s'] 26)) := ext_alloc (ext_alloc (Below.refl _ _) _) _
  have c0 := cell_one h0
  have hlt := lt_block h0
  have cD := Lib.hid (Do_agg A cp l t kd i vr s _ (utf_ext hT hB0) (hr.ext hB0) hA hm a ha)
  have hkb : Hid (∀ W, Below ((w.alloc (.cells #[.int .i64 t, .int .i64 kd, .int .i64 i, .int .i64 vr, .string s] 26)).alloc (.cells #[.int .i64 t', .int .i64 kd', .int .i64 i', .int .i64 vr', .string s'] 26)).heap.size ((w.alloc (.cells #[.int .i64 t, .int .i64 kd, .int .i64 i, .int .i64 vr, .string s] 26)).alloc (.cells #[.int .i64 t', .int .i64 kd', .int .i64 i', .int .i64 vr', .string s'] 26)) W → W.cell? ⟨w.heap.size + 1, 0, none⟩ = some (.int .i64 t') ∧ W.cell? ⟨w.heap.size + 1, 1, none⟩ = some (.int .i64 kd') ∧ W.cell? ⟨w.heap.size + 1, 2, none⟩ = some (.int .i64 i') ∧ W.cell? ⟨w.heap.size + 1, 3, none⟩ = some (.int .i64 vr') ∧ W.cell? ⟨w.heap.size + 1, 4, none⟩ = some (.string s')) := by
    intro W hb
    have h1 := (hb.block (w.heap.size + 1) (by simp)).trans (alloc_at _ _ _ (by simp))
    exact ⟨cell_blk h1 0, cell_blk h1 1, cell_blk h1 2, cell_blk h1 3, cell_blk h1 4⟩
  have HT := Lib.hid hT
  have HHb := Lib.hid hb
  clear h0 hr ha hb hT
  go_enter Tryd.func29, Tryd.ntmps29
  go_wp2_with fail
  refine cD.out.mono ?_
  rintro e w2 ⟨hb2, h2⟩
  have hB2 := ext_trans hB0 hb2
  obtain ⟨k0, k1, k2, k3, k4⟩ := hkb.out w2 hb2
  rcases h2 with ⟨hn, rfl⟩ | ⟨hn, v2, rfl, hown2⟩
  · have e1 : (doE l a == 0) = false := by simpa using hn
    have Hn := Lib.hid hn
    clear hn
    go_wp2_with fail
    go_ret2
    exact ⟨hB2, .inr ⟨fun h => Hn.out h.1, rfl⟩⟩
  · obtain ⟨A2, cp2, rfl, hrd2, hnil2⟩ := own_form hown2
    have hlen := len_of_doE hn
    have cE := Lib.hid (Do_agg A2 cp2 (madeL a l) t' kd' i' vr' s' w2 (utf_ext HT.out hB2) hrd2 hnil2 (by omega) b HHb.out)
    have Hn := Lib.hid hn
    clear hn hown2
    go_wp2_with fail
    refine cE.out.mono ?_
    rintro e w3 ⟨hb3, h3⟩
    have hB3 := ext_trans hB2 hb3
    rcases h3 with ⟨hn, rfl⟩ | ⟨hn, v3, rfl, hown3⟩
    · have e1 : (doE (madeL a l) b == 0) = false := by simpa using hn
      have Hn2 := Lib.hid hn
      clear hn
      go_wp2_with fail
      go_ret2
      exact ⟨hB3, .inr ⟨fun h => Hn2.out h.2, rfl⟩⟩
    · obtain ⟨A3, cp3, rfl, hrd3, hnil3⟩ := own_form hown3
      have Hn2 := Lib.hid hn
      clear hn hown3
      go_wp2_with fail
      go_ret2
      exact ⟨hB3, .inl ⟨Hn.out, Hn2.out, A3, cp3, rfl, hrd3⟩⟩

set_option maxHeartbeats 1000000 in
theorem DisplayApart_any (A : Option Addr) (cp : Nat) (l : List Spot) (a b : Change) (w : World) (hT : Tabs w) (hr : Rd w A (flat l)) (hA : A = none → l = []) (hm : l.length ≤ 9223372036854775807) :
    Calls Tryd.prog 8 #[.slice A l.length cp, a.val, b.val] w (TruePost w) := by
  obtain ⟨t, kd, ⟨i, vr, s⟩⟩ := a
  obtain ⟨t', kd', ⟨i', vr', s'⟩⟩ := b
  have hva : Change.val ⟨t, kd, ⟨i, vr, s⟩⟩ = .agg #[.int .i64 t, .int .i64 kd, .int .i64 i, .int .i64 vr, .string s] := rfl
  have hvb : Change.val ⟨t', kd', ⟨i', vr', s'⟩⟩ = .agg #[.int .i64 t', .int .i64 kd', .int .i64 i', .int .i64 vr', .string s'] := rfl
  obtain ⟨ca, hca⟩ : ∃ ca : Change, ca = ⟨t, kd, ⟨i, vr, s⟩⟩ := ⟨_, rfl⟩
  obtain ⟨cb, hcb⟩ : ∃ cb : Change, cb = ⟨t', kd', ⟨i', vr', s'⟩⟩ := ⟨_, rfl⟩
  rw [hva, hvb]
  have cF := Lib.hid (fun W (hb : Below w.heap.size w W) => few49_any A cp l W (hr.ext hb) hm)
  have Hl : l.length ≤ 9223372036854775807 := hm
  obtain ⟨W0, hW0⟩ : ∃ W0, ((w.alloc (.cells #[.slice A l.length cp] 22)).alloc (.cells #[.int .i64 t, .int .i64 kd, .int .i64 i, .int .i64 vr, .string s] 26)).alloc (.cells #[.int .i64 t', .int .i64 kd', .int .i64 i', .int .i64 vr', .string s'] 26) = W0 := ⟨_, rfl⟩
  have hB0 : Below w.heap.size w W0 := by rw [← hW0]; exact ext_alloc (ext_alloc (ext_alloc (Below.refl _ _) _) _) _
  have hz0 : W0.heap.size = w.heap.size + 1 + 1 + 1 := by rw [← hW0]; simp
  have hk : Hid (∀ W, Below W0.heap.size W0 W → W.heap[w.heap.size]? = some (.cells #[.slice A l.length cp] 22 (0, 0)) ∧ W.heap[w.heap.size + 1]? = some (.cells #[.int .i64 t, .int .i64 kd, .int .i64 i, .int .i64 vr, .string s] 26 (0, 0)) ∧ W.heap[w.heap.size + 1 + 1]? = some (.cells #[.int .i64 t', .int .i64 kd', .int .i64 i', .int .i64 vr', .string s'] 26 (0, 0))) := by
    intro W hb
    refine ⟨(hb.block _ (by omega)).trans ?_, (hb.block _ (by omega)).trans ?_, (hb.block _ (by omega)).trans ?_⟩
    · rw [← hW0]
      exact (Below.heap_alloc _ _ _ (by simp; omega)).trans ((Below.heap_alloc _ _ _ (by simp)).trans (World.alloc_heap_new _ _))
    · rw [← hW0]
      exact (Below.heap_alloc _ _ _ (by simp)).trans (alloc_at _ _ _ (by simp))
    · rw [← hW0]
      exact alloc_at _ _ _ (by simp)
  have hf : Hid (∀ W, Below W0.heap.size W0 W → W.cell? ⟨w.heap.size, 0, none⟩ = some (.slice A l.length cp) ∧ W.cell? ⟨w.heap.size + 1, 0, none⟩ = some (.int .i64 t) ∧ W.cell? ⟨w.heap.size + 1, 1, none⟩ = some (.int .i64 kd) ∧ W.cell? ⟨w.heap.size + 1, 2, none⟩ = some (.int .i64 i) ∧ W.cell? ⟨w.heap.size + 1, 3, none⟩ = some (.int .i64 vr) ∧ W.cell? ⟨w.heap.size + 1, 4, none⟩ = some (.string s) ∧ W.cell? ⟨w.heap.size + 1 + 1, 0, none⟩ = some (.int .i64 t') ∧ W.cell? ⟨w.heap.size + 1 + 1, 1, none⟩ = some (.int .i64 kd') ∧ W.cell? ⟨w.heap.size + 1 + 1, 2, none⟩ = some (.int .i64 i') ∧ W.cell? ⟨w.heap.size + 1 + 1, 3, none⟩ = some (.int .i64 vr') ∧ W.cell? ⟨w.heap.size + 1 + 1, 4, none⟩ = some (.string s')) := by
    intro W hb
    obtain ⟨h1, h2, h3⟩ := hk.out W hb
    exact ⟨cell_blk h1 0, cell_blk h2 0, cell_blk h2 1, cell_blk h2 2, cell_blk h2 3, cell_blk h2 4, cell_blk h3 0, cell_blk h3 1, cell_blk h3 2, cell_blk h3 3, cell_blk h3 4⟩
  have cP := Lib.hid (fun W (hb : Below W0.heap.size W0 W) => pair_any w.heap.size A cp l ca cb t kd i vr s hca t' kd' i' vr' s' hcb W (utf_ext hT (ext_trans hB0 hb)) (hk.out W hb).1 (hr.ext (ext_trans hB0 hb)) hA hm)
  have cQ := Lib.hid (fun W (hb : Below W0.heap.size W0 W) => pair_any w.heap.size A cp l cb ca t' kd' i' vr' s' hcb t kd i vr s hca W (utf_ext hT (ext_trans hB0 hb)) (hk.out W hb).1 (hr.ext (ext_trans hB0 hb)) hA hm)
  have HT := Lib.hid hT
  have hca2 : ca.spot.id = i := by rw [hca]
  have hcb2 : cb.spot.id = i' := by rw [hcb]
  have Hca := Lib.hid hca2
  have Hcb := Lib.hid hcb2
  clear hr hA hva hvb hca hcb hca2 hcb2 hk hT
  go_enter Tryd.func8, Tryd.ntmps8
  go_wp2_with fail
  refine (sane_any W0 (utf_ext HT.out hB0)).mono ?_
  rintro e w1 ⟨rfl, hb1⟩
  have hB1 := ext_trans hB0 hb1
  have hz1 := hb1.size
  obtain ⟨d0, d1, d2, d3, d4, d5, d6, d7, d8, d9, d10⟩ := hf.out w1 hb1
  by_cases h60 : 60 < l.length
  · go_wp2_with fail
    go_ret
    exact ⟨rfl, hB1⟩
  go_wp2_with fail
  refine (cF.out w1 hB1).mono ?_
  rintro e w' ⟨rfl, rfl⟩
  cases hfw : fewB l
  · clear hfw
    go_wp2_with fail
    go_ret
    exact ⟨rfl, hB1⟩
  clear hfw
  by_cases hs : (200 : Int) < s.size
  · go_wp2_with fail
    go_ret
    exact ⟨rfl, hB1⟩
  by_cases hs2 : (200 : Int) < s'.size
  · go_wp2_with fail
    go_ret
    exact ⟨rfl, hB1⟩
  by_cases hid : i = i'
  · go_wp2_with fail
    go_ret
    exact ⟨rfl, hB1⟩
  have hidb : (i == i') = false := by simpa using hid
  have Hid' : Hid (ca.spot.id ≠ cb.spot.id) := by
    show _ ≠ _
    rw [Hca.out, Hcb.out]; exact hid
  clear hid
  go_wp2_with fail
  refine (cP.out w1 hb1).mono ?_
  rintro e w2 ⟨hb2, h2⟩
  have hb02 := ext_trans hb1 hb2
  clear d0 d1 d2 d3 d4 d5 d6 d7 d8 d9 d10
  obtain ⟨d0, d1, d2, d3, d4, d5, d6, d7, d8, d9, d10⟩ := hf.out w2 hb02
  rcases h2 with ⟨p1, p2, A2, cp2, rfl, hrd2⟩ | ⟨hn, rfl⟩
  · have hap := apart_law l ca cb (by omega) Hid'.out ⟨p1, p2⟩
    have hlen := len_of_doE p2
    obtain ⟨hq, heq⟩ := hap
    have HQ := Lib.hid hq
    have HE := Lib.hid heq
    clear p1 p2 hq heq
    go_wp2_with fail
    refine (cQ.out w2 hb02).mono ?_
    rintro e w3 ⟨hb3, h3⟩
    have hb03 := ext_trans hb02 hb3
    rcases h3 with ⟨q1, q2, A3, cp3, rfl, hrd3⟩ | ⟨hn, rfl⟩
    · have cs := same49_any A2 A3 cp2 cp3 _ _ w3 (hrd2.ext hb3) hrd3 (by omega)
      rw [decide_eq_true HE.out] at cs
      have Cs := Lib.hid cs
      clear q1 q2 cs
      go_wp2_with fail
      refine Cs.out.mono ?_
      rintro e w4 ⟨rfl, hb4⟩
      go_wp2_with fail
      go_ret
      exact ⟨by simp, ext_trans hB0 (ext_trans hb03 hb4)⟩
    · exact absurd HQ.out hn
  · have Hn := Lib.hid hn
    clear hn
    go_wp2_with fail
    refine (cQ.out w2 hb02).mono ?_
    rintro e w3 ⟨hb3, h3⟩
    have hb03 := ext_trans hb02 hb3
    rcases h3 with ⟨q1, q2, A3, cp3, rfl, hrd3⟩ | ⟨hn, rfl⟩
    · exact absurd (apart_law l cb ca (by omega) (fun h => Hid'.out h.symm) ⟨q1, q2⟩).1 Hn.out
    · clear hn
      go_wp2_with fail
      refine (same49_any none none 0 0 [] [] w3 (Rd.nil _ _) (Rd.nil _ _) (by simp)).mono ?_
      rintro e w4 ⟨rfl, hb4⟩
      go_wp2_with fail
      go_ret
      exact ⟨by simp, ext_trans hB0 (ext_trans hb03 hb4)⟩
end Go.Proofs.YtneanannicacnaaDoor
