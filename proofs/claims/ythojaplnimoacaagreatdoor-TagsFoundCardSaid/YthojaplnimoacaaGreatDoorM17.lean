/- Texts of this claim, one after the other: GrmR, GrmS, AddP, PlT, TagR, TagS. -/
import Derived.Test.YthojaplnimoacaaGreatDoorM11
import Derived.Test.YthojaplnimoacaaGreatDoorM16
import Derived.Test.YthojaplnimoacaaGreatDoorM9
import Derived.Test.YthojaplnimoacaaGreatDoorM10
import Derived.Test.YthojaplnimoacaaGreatDoorM12
import Derived.Test.YthojaplnimoacaaGreatDoorM13
/- Package types: Check's comparisons. -/
namespace Go.Proofs.YthojaplnimoacaaGreatDoor
open Go.RowKit Go.Han
attribute [local irreducible] wpStill wpQuiet
set_option maxRecDepth 100000

set_option maxHeartbeats 2000000 in
theorem eqfE_any (s t : SlS EntryG) (fid : Nat) (Q : EntryG → EntryG → Bool) (w : World) (hs : s.lies EntryG.cells w) (ht : t.lies EntryG.cells w) (hl : s.xs.length = t.xs.length) (eg : ∀ args w, (callFunc fid args).run Tryz.prog w = .ok (.enter fid args) w)
    (hf : ∀ W, Below w.heap.size w W → ∀ (i : Nat) x y, s.xs[i]? = some x → t.xs[i]? = some y → Calls Tryz.prog fid #[.agg #[.string x.text, .string x.cat, .int .i64 x.no, .slice x.gives.addr x.gives.xs.length x.gives.cap, .int .i64 x.cost], .agg #[.string y.text, .string y.cat, .int .i64 y.no, .slice y.gives.addr y.gives.xs.length y.gives.cap, .int .i64 y.cost]] W fun e w' => e = .returned (.bool (Q x y)) ∧ Below W.heap.size W w') :
    Calls Tryz.prog 111 #[.slice s.addr s.xs.length s.cap, .slice t.addr t.xs.length t.cap, .func (.func fid) #[] #[]] w fun e w' => e = .returned (.bool (allZ Q s.xs t.xs)) ∧ Below w.heap.size w w' := by
  have Hz := Lib.hid (allZ_iff Q hl)
  have Hf := Lib.hid hf
  have HS := Lib.hid hs
  have HT := Lib.hid ht
  have hm : s.xs.length ≤ 9223372036854775807 := Nat.le_trans hs.cap hs.max
  have Hl := Lib.hid hl
  rw [← hl]
  generalize allZ Q s.xs t.xs = r at *
  clear hs ht hl hf
  go_enter Tryz.func111, Tryz.ntmps111
  go_wp2_with fail
  go_loopw [17] (fun i wr => ∃ k : Nat, k ≤ s.xs.length ∧ i = .int .i64 k ∧ Below w.heap.size w wr ∧ Hid (∀ (i : Nat) x y, s.xs[i]? = some x → t.xs[i]? = some y → i < k → Q x y = true)) (fun i _ => s.xs.length - (intOf i).toNat)
  case atStart => exact ⟨0, Nat.zero_le _, rfl, Below.refl _ _, fun i x y _ _ h => by omega⟩
  case round =>
    obtain ⟨k, hk, rfl, hB, HR⟩ := hrel
    by_cases hlt : k < s.xs.length
    · have hlt' : k < t.xs.length := by have := Hl.out; omega
      obtain ⟨b1, o1, hA, hb, hc⟩ := HS.out.at_ EntryG.size_cells (by omega) hlt
      obtain ⟨b2, o2, hA', hb', hc'⟩ := HT.out.at_ EntryG.size_cells (by omega) hlt'
      have e0 : wr.cell? ⟨b1, o1 + k * 5, none⟩ = some (.string s.xs[k].text) := hc k hlt wr hB 0 _ rfl
      have e1 : wr.cell? ⟨b1, o1 + k * 5 + 1, none⟩ = some (.string s.xs[k].cat) := hc k hlt wr hB 1 _ rfl
      have e2 : wr.cell? ⟨b1, o1 + k * 5 + 2, none⟩ = some (.int .i64 s.xs[k].no) := hc k hlt wr hB 2 _ rfl
      have e3 : wr.cell? ⟨b1, o1 + k * 5 + 3, none⟩ = some (.slice s.xs[k].gives.addr s.xs[k].gives.xs.length s.xs[k].gives.cap) := hc k hlt wr hB 3 _ rfl
      have e4 : wr.cell? ⟨b1, o1 + k * 5 + 4, none⟩ = some (.int .i64 s.xs[k].cost) := hc k hlt wr hB 4 _ rfl
      rw [hA]
      rw [hA']
      have g1 := List.getElem?_eq_getElem hlt
      have g2 := List.getElem?_eq_getElem hlt'
      obtain ⟨W2, hW2⟩ : ∃ W2, wr.alloc (.cells #[.string s.xs[k].text, .string s.xs[k].cat, .int .i64 s.xs[k].no, .slice s.xs[k].gives.addr s.xs[k].gives.xs.length s.xs[k].gives.cap, .int .i64 s.xs[k].cost] 70) = W2 := ⟨_, rfl⟩
      have hb2 : Below wr.heap.size wr W2 := by subst hW2; exact ext_alloc (Below.refl _ _) _
      have hk2 : W2.heap[wr.heap.size]? = some (.cells #[.string s.xs[k].text, .string s.xs[k].cat, .int .i64 s.xs[k].no, .slice s.xs[k].gives.addr s.xs[k].gives.xs.length s.xs[k].gives.cap, .int .i64 s.xs[k].cost] 70 (0, 0)) := by subst hW2; exact World.alloc_heap_new _ _
      have hB2 := ext_trans hB hb2
      have f0 : W2.cell? ⟨b2, o2 + k * 5, none⟩ = some (.string t.xs[k].text) := hc' k hlt' W2 hB2 0 _ rfl
      have f1 : W2.cell? ⟨b2, o2 + k * 5 + 1, none⟩ = some (.string t.xs[k].cat) := hc' k hlt' W2 hB2 1 _ rfl
      have f2 : W2.cell? ⟨b2, o2 + k * 5 + 2, none⟩ = some (.int .i64 t.xs[k].no) := hc' k hlt' W2 hB2 2 _ rfl
      have f3 : W2.cell? ⟨b2, o2 + k * 5 + 3, none⟩ = some (.slice t.xs[k].gives.addr t.xs[k].gives.xs.length t.xs[k].gives.cap) := hc' k hlt' W2 hB2 3 _ rfl
      have f4 : W2.cell? ⟨b2, o2 + k * 5 + 4, none⟩ = some (.int .i64 t.xs[k].cost) := hc' k hlt' W2 hB2 4 _ rfl
      obtain ⟨W3, hW3⟩ : ∃ W3, W2.alloc (.cells #[.string t.xs[k].text, .string t.xs[k].cat, .int .i64 t.xs[k].no, .slice t.xs[k].gives.addr t.xs[k].gives.xs.length t.xs[k].gives.cap, .int .i64 t.xs[k].cost] 70) = W3 := ⟨_, rfl⟩
      have hb3 : Below W2.heap.size W2 W3 := by subst hW3; exact ext_alloc (Below.refl _ _) _
      have hk3 : W3.heap[W2.heap.size]? = some (.cells #[.string t.xs[k].text, .string t.xs[k].cat, .int .i64 t.xs[k].no, .slice t.xs[k].gives.addr t.xs[k].gives.xs.length t.xs[k].gives.cap, .int .i64 t.xs[k].cost] 70 (0, 0)) := by subst hW3; exact World.alloc_heap_new _ _
      have hB3 := ext_trans hB2 hb3
      have hk23 := (hb3.block _ (lt_block hk2)).trans hk2
      have x0 := gblk hk23 0
      have x1 := gblk hk23 1
      have x2 := gblk hk23 2
      have x3 := gblk hk23 3
      have x4 := gblk hk23 4
      have y0 := gblk hk3 0
      have y1 := gblk hk3 1
      have y2 := gblk hk3 2
      have y3 := gblk hk3 3
      have y4 := gblk hk3 4
      have cF := Lib.hid (Hf.out W3 hB3 k _ _ g1 g2)
      have HT2 : Hid (Q s.xs[k] t.xs[k] = true → ∀ (i : Nat) x y, s.xs[i]? = some x → t.xs[i]? = some y → i < k + 1 → Q x y = true) := by
        intro h0 i x y hx hy hi
        by_cases e : i < k
        · exact HR.out i x y hx hy e
        · obtain rfl : i = k := by omega
          rw [g1] at hx; rw [g2] at hy
          cases hx; cases hy
          exact h0
      have HF2 : Hid (Q s.xs[k] t.xs[k] = false → r = false) := by
        intro h0
        rw [Bool.eq_false_iff]
        intro h
        rw [Hz.out.1 h k _ _ g1 g2] at h0
        cases h0
      clear hc hc' hA hA' HR g1 g2 hk2 hk3 hk23 hb2 hb3 hB hB2
      generalize s.xs[k] = p at *
      generalize t.xs[k] = q at *
      generalize Q p q = f at *
      go_wp2_with fail
      clear hW2 hW3 e0 e1 e2 e3 e4 f0 f1 f2 f3 f4
      refine cF.out.mono ?_
      rintro ee w4 ⟨rfl, hb4⟩
      have hB4 := ext_trans hB3 hb4
      cases f
      · have HF3 := Lib.hid (HF2.out rfl)
        clear HT2 HF2 x0 x1 x2 x3 x4 y0 y1 y2 y3 y4
        go_wp2_with fail
        go_ret
        exact ⟨by rw [HF3.out]; rfl, hB4⟩
      · have HT3 := Lib.hid (HT2.out rfl)
        clear HT2 HF2 x0 x1 x2 x3 x4 y0 y1 y2 y3 y4
        go_wp2_with fail
        go_roundw
        case rel => exact ⟨k + 1, by omega, by go_num, hB4, HT3⟩
        case measure => simp [intOf]; omega
    · have HE : Hid (r = true) := Hz.out.2 fun i x y hx hy => HR.out i x y hx hy (by have := (List.getElem?_eq_some_iff.1 hx).1; omega)
      clear HR Hz
      go_wp2_with fail
      go_ret
      exact ⟨by rw [HE.out]; rfl, hB⟩
set_option maxHeartbeats 2000000 in
theorem eqfR_any (s t : SlS RuleG) (fid : Nat) (Q : RuleG → RuleG → Bool) (w : World) (hs : s.lies RuleG.cells w) (ht : t.lies RuleG.cells w) (hl : s.xs.length = t.xs.length) (eg : ∀ args w, (callFunc fid args).run Tryz.prog w = .ok (.enter fid args) w)
    (hf : ∀ W, Below w.heap.size w W → ∀ (i : Nat) x y, s.xs[i]? = some x → t.xs[i]? = some y → Calls Tryz.prog fid #[.agg #[.string x.cat, .int .i64 x.no, .slice x.parts.addr x.parts.xs.length x.parts.cap, .slice x.gives.addr x.gives.xs.length x.gives.cap, .int .i64 x.cost], .agg #[.string y.cat, .int .i64 y.no, .slice y.parts.addr y.parts.xs.length y.parts.cap, .slice y.gives.addr y.gives.xs.length y.gives.cap, .int .i64 y.cost]] W fun e w' => e = .returned (.bool (Q x y)) ∧ Below W.heap.size W w') :
    Calls Tryz.prog 113 #[.slice s.addr s.xs.length s.cap, .slice t.addr t.xs.length t.cap, .func (.func fid) #[] #[]] w fun e w' => e = .returned (.bool (allZ Q s.xs t.xs)) ∧ Below w.heap.size w w' := by
  have Hz := Lib.hid (allZ_iff Q hl)
  have Hf := Lib.hid hf
  have HS := Lib.hid hs
  have HT := Lib.hid ht
  have hm : s.xs.length ≤ 9223372036854775807 := Nat.le_trans hs.cap hs.max
  have Hl := Lib.hid hl
  rw [← hl]
  generalize allZ Q s.xs t.xs = r at *
  clear hs ht hl hf
  go_enter Tryz.func113, Tryz.ntmps113
  go_wp2_with fail
  go_loopw [17] (fun i wr => ∃ k : Nat, k ≤ s.xs.length ∧ i = .int .i64 k ∧ Below w.heap.size w wr ∧ Hid (∀ (i : Nat) x y, s.xs[i]? = some x → t.xs[i]? = some y → i < k → Q x y = true)) (fun i _ => s.xs.length - (intOf i).toNat)
  case atStart => exact ⟨0, Nat.zero_le _, rfl, Below.refl _ _, fun i x y _ _ h => by omega⟩
  case round =>
    obtain ⟨k, hk, rfl, hB, HR⟩ := hrel
    by_cases hlt : k < s.xs.length
    · have hlt' : k < t.xs.length := by have := Hl.out; omega
      obtain ⟨b1, o1, hA, hb, hc⟩ := HS.out.at_ RuleG.size_cells (by omega) hlt
      obtain ⟨b2, o2, hA', hb', hc'⟩ := HT.out.at_ RuleG.size_cells (by omega) hlt'
      have e0 : wr.cell? ⟨b1, o1 + k * 5, none⟩ = some (.string s.xs[k].cat) := hc k hlt wr hB 0 _ rfl
      have e1 : wr.cell? ⟨b1, o1 + k * 5 + 1, none⟩ = some (.int .i64 s.xs[k].no) := hc k hlt wr hB 1 _ rfl
      have e2 : wr.cell? ⟨b1, o1 + k * 5 + 2, none⟩ = some (.slice s.xs[k].parts.addr s.xs[k].parts.xs.length s.xs[k].parts.cap) := hc k hlt wr hB 2 _ rfl
      have e3 : wr.cell? ⟨b1, o1 + k * 5 + 3, none⟩ = some (.slice s.xs[k].gives.addr s.xs[k].gives.xs.length s.xs[k].gives.cap) := hc k hlt wr hB 3 _ rfl
      have e4 : wr.cell? ⟨b1, o1 + k * 5 + 4, none⟩ = some (.int .i64 s.xs[k].cost) := hc k hlt wr hB 4 _ rfl
      rw [hA]
      rw [hA']
      have g1 := List.getElem?_eq_getElem hlt
      have g2 := List.getElem?_eq_getElem hlt'
      obtain ⟨W2, hW2⟩ : ∃ W2, wr.alloc (.cells #[.string s.xs[k].cat, .int .i64 s.xs[k].no, .slice s.xs[k].parts.addr s.xs[k].parts.xs.length s.xs[k].parts.cap, .slice s.xs[k].gives.addr s.xs[k].gives.xs.length s.xs[k].gives.cap, .int .i64 s.xs[k].cost] 104) = W2 := ⟨_, rfl⟩
      have hb2 : Below wr.heap.size wr W2 := by subst hW2; exact ext_alloc (Below.refl _ _) _
      have hk2 : W2.heap[wr.heap.size]? = some (.cells #[.string s.xs[k].cat, .int .i64 s.xs[k].no, .slice s.xs[k].parts.addr s.xs[k].parts.xs.length s.xs[k].parts.cap, .slice s.xs[k].gives.addr s.xs[k].gives.xs.length s.xs[k].gives.cap, .int .i64 s.xs[k].cost] 104 (0, 0)) := by subst hW2; exact World.alloc_heap_new _ _
      have hB2 := ext_trans hB hb2
      have f0 : W2.cell? ⟨b2, o2 + k * 5, none⟩ = some (.string t.xs[k].cat) := hc' k hlt' W2 hB2 0 _ rfl
      have f1 : W2.cell? ⟨b2, o2 + k * 5 + 1, none⟩ = some (.int .i64 t.xs[k].no) := hc' k hlt' W2 hB2 1 _ rfl
      have f2 : W2.cell? ⟨b2, o2 + k * 5 + 2, none⟩ = some (.slice t.xs[k].parts.addr t.xs[k].parts.xs.length t.xs[k].parts.cap) := hc' k hlt' W2 hB2 2 _ rfl
      have f3 : W2.cell? ⟨b2, o2 + k * 5 + 3, none⟩ = some (.slice t.xs[k].gives.addr t.xs[k].gives.xs.length t.xs[k].gives.cap) := hc' k hlt' W2 hB2 3 _ rfl
      have f4 : W2.cell? ⟨b2, o2 + k * 5 + 4, none⟩ = some (.int .i64 t.xs[k].cost) := hc' k hlt' W2 hB2 4 _ rfl
      obtain ⟨W3, hW3⟩ : ∃ W3, W2.alloc (.cells #[.string t.xs[k].cat, .int .i64 t.xs[k].no, .slice t.xs[k].parts.addr t.xs[k].parts.xs.length t.xs[k].parts.cap, .slice t.xs[k].gives.addr t.xs[k].gives.xs.length t.xs[k].gives.cap, .int .i64 t.xs[k].cost] 104) = W3 := ⟨_, rfl⟩
      have hb3 : Below W2.heap.size W2 W3 := by subst hW3; exact ext_alloc (Below.refl _ _) _
      have hk3 : W3.heap[W2.heap.size]? = some (.cells #[.string t.xs[k].cat, .int .i64 t.xs[k].no, .slice t.xs[k].parts.addr t.xs[k].parts.xs.length t.xs[k].parts.cap, .slice t.xs[k].gives.addr t.xs[k].gives.xs.length t.xs[k].gives.cap, .int .i64 t.xs[k].cost] 104 (0, 0)) := by subst hW3; exact World.alloc_heap_new _ _
      have hB3 := ext_trans hB2 hb3
      have hk23 := (hb3.block _ (lt_block hk2)).trans hk2
      have x0 := gblk hk23 0
      have x1 := gblk hk23 1
      have x2 := gblk hk23 2
      have x3 := gblk hk23 3
      have x4 := gblk hk23 4
      have y0 := gblk hk3 0
      have y1 := gblk hk3 1
      have y2 := gblk hk3 2
      have y3 := gblk hk3 3
      have y4 := gblk hk3 4
      have cF := Lib.hid (Hf.out W3 hB3 k _ _ g1 g2)
      have HT2 : Hid (Q s.xs[k] t.xs[k] = true → ∀ (i : Nat) x y, s.xs[i]? = some x → t.xs[i]? = some y → i < k + 1 → Q x y = true) := by
        intro h0 i x y hx hy hi
        by_cases e : i < k
        · exact HR.out i x y hx hy e
        · obtain rfl : i = k := by omega
          rw [g1] at hx; rw [g2] at hy
          cases hx; cases hy
          exact h0
      have HF2 : Hid (Q s.xs[k] t.xs[k] = false → r = false) := by
        intro h0
        rw [Bool.eq_false_iff]
        intro h
        rw [Hz.out.1 h k _ _ g1 g2] at h0
        cases h0
      clear hc hc' hA hA' HR g1 g2 hk2 hk3 hk23 hb2 hb3 hB hB2
      generalize s.xs[k] = p at *
      generalize t.xs[k] = q at *
      generalize Q p q = f at *
      go_wp2_with fail
      clear hW2 hW3 e0 e1 e2 e3 e4 f0 f1 f2 f3 f4
      refine cF.out.mono ?_
      rintro ee w4 ⟨rfl, hb4⟩
      have hB4 := ext_trans hB3 hb4
      cases f
      · have HF3 := Lib.hid (HF2.out rfl)
        clear HT2 HF2 x0 x1 x2 x3 x4 y0 y1 y2 y3 y4
        go_wp2_with fail
        go_ret
        exact ⟨by rw [HF3.out]; rfl, hB4⟩
      · have HT3 := Lib.hid (HT2.out rfl)
        clear HT2 HF2 x0 x1 x2 x3 x4 y0 y1 y2 y3 y4
        go_wp2_with fail
        go_roundw
        case rel => exact ⟨k + 1, by omega, by go_num, hB4, HT3⟩
        case measure => simp [intOf]; omega
    · have HE : Hid (r = true) := Hz.out.2 fun i x y hx hy => HR.out i x y hx hy (by have := (List.getElem?_eq_some_iff.1 hx).1; omega)
      clear HR Hz
      go_wp2_with fail
      go_ret
      exact ⟨by rw [HE.out]; rfl, hB⟩
set_option maxHeartbeats 2000000 in
theorem eqP_any (s t : SlS PartG) (w : World) (hs : s.lies PartG.cells w) (ht : t.lies PartG.cells w) (hl : s.xs.length = t.xs.length) : Calls Tryz.prog 115 #[.slice s.addr s.xs.length s.cap, .slice t.addr t.xs.length t.cap] w fun e w' => e = .returned (.bool (decide (s.xs = t.xs))) ∧ Below w.heap.size w w' := by
  have HS := Lib.hid hs
  have HT := Lib.hid ht
  have hm : s.xs.length ≤ 9223372036854775807 := Nat.le_trans hs.cap hs.max
  have Hl := Lib.hid hl
  rw [← hl]
  clear hs ht hl
  go_enter Tryz.func115, Tryz.ntmps115
  go_wp2_with fail
  go_loopw [13] (fun i wr => ∃ k : Nat, k ≤ s.xs.length ∧ i = .int .i64 k ∧ Below w.heap.size w wr ∧ Hid (s.xs.take k = t.xs.take k)) (fun i _ => s.xs.length - (intOf i).toNat)
  case atStart => exact ⟨0, Nat.zero_le _, rfl, Below.refl _ _, rfl⟩
  case round =>
    obtain ⟨k, hk, rfl, hB, HR⟩ := hrel
    by_cases hlt : k < s.xs.length
    · have hlt' : k < t.xs.length := by have := Hl.out; omega
      obtain ⟨b1, o1, hA, hb, hc⟩ := HS.out.at_ PartG.size_cells (by omega) hlt
      obtain ⟨b2, o2, hA', hb', hc'⟩ := HT.out.at_ PartG.size_cells (by omega) hlt'
      have e0 : wr.cell? ⟨b1, o1 + k * 3, none⟩ = some (.string s.xs[k].cat) := hc k hlt wr hB 0 _ rfl
      have e1 : wr.cell? ⟨b1, o1 + k * 3 + 1, none⟩ = some (.int .i64 s.xs[k].no) := hc k hlt wr hB 1 _ rfl
      have e2 : wr.cell? ⟨b1, o1 + k * 3 + 2, none⟩ = some (.string s.xs[k].text) := hc k hlt wr hB 2 _ rfl
      have f0 : wr.cell? ⟨b2, o2 + k * 3, none⟩ = some (.string t.xs[k].cat) := hc' k hlt' wr hB 0 _ rfl
      have f1 : wr.cell? ⟨b2, o2 + k * 3 + 1, none⟩ = some (.int .i64 t.xs[k].no) := hc' k hlt' wr hB 1 _ rfl
      have f2 : wr.cell? ⟨b2, o2 + k * 3 + 2, none⟩ = some (.string t.xs[k].text) := hc' k hlt' wr hB 2 _ rfl
      rw [hA]
      rw [hA']
      have hq := fun (w : World) => run_equalIn_part s.xs[k].cat t.xs[k].cat s.xs[k].no t.xs[k].no s.xs[k].text t.xs[k].text w
      have Ht := Lib.hid (fun h => take_same hlt hlt' HR.out h)
      have Hf : Hid (s.xs[k] ≠ t.xs[k] → s.xs ≠ t.xs) := fun h e => h (by simp [e])
      clear hc hc' hA hA' HR
      generalize s.xs[k] = x at *
      generalize t.xs[k] = y at *
      obtain ⟨xa, xn, xs⟩ := x
      obtain ⟨ya, yn, ys⟩ := y
      simp only at hq e0 e1 e2 f0 f1 f2
      cases hxy : decide ((⟨xa, xn, xs⟩ : PartG) = ⟨ya, yn, ys⟩)
      · rw [hxy] at hq
        have HF : Hid (decide (s.xs = t.xs) = false) := decide_eq_false (Hf.out (of_decide_eq_false hxy))
        clear hxy Hf Ht
        go_wp2_with fail
        go_still (by kernel_rfl)
        go_wp2
        go_ret
        exact ⟨by rw [HF.out]; rfl, hB.drew⟩
      · rw [hxy] at hq
        have HT2 := Lib.hid (Ht.out (of_decide_eq_true hxy))
        clear hxy Hf Ht
        go_wp2_with fail
        go_still (by kernel_rfl)
        go_wp2
        go_roundw
        case rel => exact ⟨k + 1, by omega, by go_num, hB.drew, HT2⟩
        case measure => simp [intOf]; omega
    · have HE : Hid (decide (s.xs = t.xs) = true) := by
        have h := HR.out
        rw [List.take_of_length_le (by omega), List.take_of_length_le (by have := Hl.out; omega)] at h
        exact decide_eq_true h
      clear HR
      go_wp2_with fail
      go_ret
      exact ⟨by rw [HE.out]; rfl, hB⟩
theorem chk1_any (a b : EntryG) (w : World) : Calls Tryz.prog 112 #[.agg #[.string a.text, .string a.cat, .int .i64 a.no, .slice a.gives.addr a.gives.xs.length a.gives.cap, .int .i64 a.cost], .agg #[.string b.text, .string b.cat, .int .i64 b.no, .slice b.gives.addr b.gives.xs.length b.gives.cap, .int .i64 b.cost]] w fun e w' => e = .returned (.bool (decide (a.no = b.no))) ∧ Below w.heap.size w w' := by
  obtain ⟨W1, hW1⟩ : ∃ W1, (w.alloc (.cells #[.string a.text, .string a.cat, .int .i64 a.no, .slice a.gives.addr a.gives.xs.length a.gives.cap, .int .i64 a.cost] 70)).alloc (.cells #[.string b.text, .string b.cat, .int .i64 b.no, .slice b.gives.addr b.gives.xs.length b.gives.cap, .int .i64 b.cost] 70) = W1 := ⟨_, rfl⟩
  have hB1 : Below w.heap.size w W1 := by subst hW1; exact ext_alloc (ext_alloc (Below.refl _ _) _) _
  have hk : W1.heap[w.heap.size]? = some (.cells #[.string a.text, .string a.cat, .int .i64 a.no, .slice a.gives.addr a.gives.xs.length a.gives.cap, .int .i64 a.cost] 70 (0, 0)) := by subst hW1; exact (Below.heap_alloc _ _ _ (by simp)).trans (World.alloc_heap_new _ _)
  have hk2 : W1.heap[w.heap.size + 1]? = some (.cells #[.string b.text, .string b.cat, .int .i64 b.no, .slice b.gives.addr b.gives.xs.length b.gives.cap, .int .i64 b.cost] 70 (0, 0)) := by subst hW1; have := World.alloc_heap_new (w.alloc (.cells #[.string a.text, .string a.cat, .int .i64 a.no, .slice a.gives.addr a.gives.xs.length a.gives.cap, .int .i64 a.cost] 70)) (.cells #[.string b.text, .string b.cat, .int .i64 b.no, .slice b.gives.addr b.gives.xs.length b.gives.cap, .int .i64 b.cost] 70); rwa [World.size_alloc] at this
  have q := int_beqD a.no b.no
  have c0 := gblk hk 0
  have c1 := gblk hk 1
  have c2 := gblk hk 2
  have c3 := gblk hk 3
  have c4 := gblk hk 4
  have d0 := gblk hk2 0
  have d1 := gblk hk2 1
  have d2 := gblk hk2 2
  have d3 := gblk hk2 3
  have d4 := gblk hk2 4
  clear hk hk2
  generalize decide (a.no = b.no) = f at *
  cases f
  · go_enter Tryz.func112, Tryz.ntmps112
    go_wp2_with fail
    go_ret
    exact ⟨rfl, hB1⟩
  · go_enter Tryz.func112, Tryz.ntmps112
    go_wp2_with fail
    go_ret
    exact ⟨rfl, hB1⟩
set_option maxHeartbeats 1000000 in
theorem chk2_any (a b : RuleG) (w : World) (ha : a.lies w) (hb : b.lies w) (hl : a.parts.xs.length = b.parts.xs.length) : Calls Tryz.prog 114 #[.agg #[.string a.cat, .int .i64 a.no, .slice a.parts.addr a.parts.xs.length a.parts.cap, .slice a.gives.addr a.gives.xs.length a.gives.cap, .int .i64 a.cost], .agg #[.string b.cat, .int .i64 b.no, .slice b.parts.addr b.parts.xs.length b.parts.cap, .slice b.gives.addr b.gives.xs.length b.gives.cap, .int .i64 b.cost]] w fun e w' => e = .returned (.bool (decide (a.no = b.no) && decide (a.parts.xs = b.parts.xs))) ∧ Below w.heap.size w w' := by
  obtain ⟨W1, hW1⟩ : ∃ W1, (w.alloc (.cells #[.string a.cat, .int .i64 a.no, .slice a.parts.addr a.parts.xs.length a.parts.cap, .slice a.gives.addr a.gives.xs.length a.gives.cap, .int .i64 a.cost] 104)).alloc (.cells #[.string b.cat, .int .i64 b.no, .slice b.parts.addr b.parts.xs.length b.parts.cap, .slice b.gives.addr b.gives.xs.length b.gives.cap, .int .i64 b.cost] 104) = W1 := ⟨_, rfl⟩
  have hB1 : Below w.heap.size w W1 := by subst hW1; exact ext_alloc (ext_alloc (Below.refl _ _) _) _
  have hk : W1.heap[w.heap.size]? = some (.cells #[.string a.cat, .int .i64 a.no, .slice a.parts.addr a.parts.xs.length a.parts.cap, .slice a.gives.addr a.gives.xs.length a.gives.cap, .int .i64 a.cost] 104 (0, 0)) := by subst hW1; exact (Below.heap_alloc _ _ _ (by simp)).trans (World.alloc_heap_new _ _)
  have hk2 : W1.heap[w.heap.size + 1]? = some (.cells #[.string b.cat, .int .i64 b.no, .slice b.parts.addr b.parts.xs.length b.parts.cap, .slice b.gives.addr b.gives.xs.length b.gives.cap, .int .i64 b.cost] 104 (0, 0)) := by subst hW1; have := World.alloc_heap_new (w.alloc (.cells #[.string a.cat, .int .i64 a.no, .slice a.parts.addr a.parts.xs.length a.parts.cap, .slice a.gives.addr a.gives.xs.length a.gives.cap, .int .i64 a.cost] 104)) (.cells #[.string b.cat, .int .i64 b.no, .slice b.parts.addr b.parts.xs.length b.parts.cap, .slice b.gives.addr b.gives.xs.length b.gives.cap, .int .i64 b.cost] 104); rwa [World.size_alloc] at this
  have cP := Lib.hid (eqP_any a.parts b.parts W1 (ha.ext hB1).1 (hb.ext hB1).1 hl)
  have q := int_beqD a.no b.no
  have c0 := gblk hk 0
  have c1 := gblk hk 1
  have c2 := gblk hk 2
  have c3 := gblk hk 3
  have c4 := gblk hk 4
  have d0 := gblk hk2 0
  have d1 := gblk hk2 1
  have d2 := gblk hk2 2
  have d3 := gblk hk2 3
  have d4 := gblk hk2 4
  clear hk hk2 ha hb hl
  generalize decide (a.no = b.no) = f at *
  generalize decide (a.parts.xs = b.parts.xs) = h at *
  cases f
  · go_enter Tryz.func114, Tryz.ntmps114
    go_wp2_with fail
    go_ret
    exact ⟨rfl, hB1⟩
  · go_enter Tryz.func114, Tryz.ntmps114
    go_wp2_with fail
    refine cP.out.mono ?_
    rintro ee w4 ⟨rfl, hb4⟩
    go_wp2_with fail
    go_ret
    exact ⟨by simp, ext_trans hB1 hb4⟩
end Go.Proofs.YthojaplnimoacaaGreatDoor

/- Package types: Check. -/
namespace Go.Proofs.YthojaplnimoacaaGreatDoor
open Go.RowKit Go.Han
attribute [local irreducible] wpStill wpQuiet
set_option maxRecDepth 100000

def noE (a b : EntryG) : Bool := decide (a.no = b.no)
def noR (a b : RuleG) : Bool := decide (a.no = b.no) && decide (a.parts.xs = b.parts.xs)
theorem check_res {g X : Gram} (h : ResOf (resPn g.cats.xs) g X) : (decide (X.startNo = g.startNo) && allZ noE X.entries.xs g.entries.xs && allZ noR X.rules.xs g.rules.xs) = resolvedB g := by
  rw [Bool.eq_iff_iff]
  unfold resolvedB
  have he : X.entries.xs.length = g.entries.xs.length := by rw [h.entries, List.length_map]
  simp only [Bool.and_eq_true]
  rw [allZ_iff noE he, allZ_iff noR h.rules, all_get, all_get]
  constructor
  · rintro ⟨⟨h1, h2⟩, h3⟩
    refine ⟨⟨?_, fun i x hx => ?_⟩, fun i x hx => ?_⟩
    · rw [h.startNo] at h1
      exact decide_eq_true (of_decide_eq_true h1).symm
    · have hX : X.entries.xs[i]? = some (resEn g.cats.xs x) := by rw [h.entries, List.getElem?_map, hx]; rfl
      exact decide_eq_true (of_decide_eq_true (h2 i _ _ hX hx)).symm
    · obtain ⟨r', hr'⟩ : ∃ r', X.rules.xs[i]? = some r' := by
        have hi := (List.getElem?_eq_some_iff.1 hx).1
        exact ⟨_, List.getElem?_eq_getElem (by rw [h.rules]; exact hi)⟩
      have hrr := h.rule i x r' hx hr'
      have := h3 i _ _ hr' hx
      unfold noR at this
      simp only [Bool.and_eq_true, decide_eq_true_eq] at this
      refine Bool.and_eq_true_iff.2 ⟨decide_eq_true ?_, List.all_eq_true.2 fun p hp => decide_eq_true ?_⟩
      · rw [← this.1, hrr.no]
      · have t4 := this.2
        rw [hrr.parts, map_same] at t4
        exact (resPn_same _ _).1 (t4 p hp)
  · rintro ⟨⟨h1, h2⟩, h3⟩
    refine ⟨⟨?_, fun i x y hx hy => ?_⟩, fun i x y hx hy => ?_⟩
    · rw [h.startNo]
      exact decide_eq_true (of_decide_eq_true h1).symm
    · rw [h.entries, List.getElem?_map, hy] at hx
      cases hx
      exact decide_eq_true (of_decide_eq_true (h2 i y hy)).symm
    · have hrr := h.rule i y x hy hx
      have h4 := h3 i y hy
      rw [Bool.and_eq_true, List.all_eq_true] at h4
      unfold noR
      rw [hrr.no, hrr.parts, ← of_decide_eq_true h4.1]
      have : y.parts.xs.map (resPn g.cats.xs) = y.parts.xs := map_same.2 fun p hp => (resPn_same _ _).2 (of_decide_eq_true (h4.2 p hp))
      rw [this]
      simp
set_option maxHeartbeats 2000000 in
/-- types.Check. -/
theorem check26_any_p (g : Gram) (w : World) (hT : TabsG w) (hg : g.lies w) (hs : g.short) : Calls Tryz.prog 67 #[.agg #[.string g.name, .slice g.cats.addr g.cats.xs.length g.cats.cap, .string g.start, .int .i64 g.startNo, .slice g.entries.addr g.entries.xs.length g.entries.cap, .slice g.rules.addr g.rules.xs.length g.rules.cap]] w fun e w' => e = .returned (.int .i64 (checkG g)) ∧ Below w.heap.size w w' := by
  obtain ⟨W1, hW1⟩ : ∃ W1, w.alloc (.cells #[.string g.name, .slice g.cats.addr g.cats.xs.length g.cats.cap, .string g.start, .int .i64 g.startNo, .slice g.entries.addr g.entries.xs.length g.entries.cap, .slice g.rules.addr g.rules.xs.length g.rules.cap] 26) = W1 := ⟨_, rfl⟩
  have hB1 : Below w.heap.size w W1 := by subst hW1; exact ext_alloc (Below.refl _ _) _
  have hk : W1.heap[w.heap.size]? = some (.cells #[.string g.name, .slice g.cats.addr g.cats.xs.length g.cats.cap, .string g.start, .int .i64 g.startNo, .slice g.entries.addr g.entries.xs.length g.entries.cap, .slice g.rules.addr g.rules.xs.length g.rules.cap] 26 (0, 0)) := by subst hW1; exact World.alloc_heap_new _ _
  have HC := Lib.hid (checkG_res g)
  have cR := Lib.hid (resolve26p_any g W1 (hT.ext hB1) (hg.ext hB1) hs)
  have HG := Lib.hid (hg.ext hB1)
  have Hk := Lib.hid hk
  have c0 := gblk hk 0
  have c1 := gblk hk 1
  have c2 := gblk hk 2
  have c3 := gblk hk 3
  have c4 := gblk hk 4
  have c5 := gblk hk 5
  clear hT hg hk
  go_enter Tryz.func67, Tryz.ntmps67
  go_wp2_with fail
  clear hW1
  refine cR.out.mono ?_
  rintro e w2 ⟨X, rfl, hb2, hX⟩
  have hB2 := ext_trans hB1 hb2
  by_cases hz : resG g = 0
  · obtain ⟨hXl, hRO⟩ := hX hz
    have hsame := check_res hRO
    obtain ⟨W3, hW3⟩ : ∃ W3, w2.alloc (.cells #[.string X.name, .slice X.cats.addr X.cats.xs.length X.cats.cap, .string X.start, .int .i64 X.startNo, .slice X.entries.addr X.entries.xs.length X.entries.cap, .slice X.rules.addr X.rules.xs.length X.rules.cap] 26) = W3 := ⟨_, rfl⟩
    have hb3 : Below w2.heap.size w2 W3 := by subst hW3; exact ext_alloc (Below.refl _ _) _
    have hk3 : W3.heap[w2.heap.size]? = some (.cells #[.string X.name, .slice X.cats.addr X.cats.xs.length X.cats.cap, .string X.start, .int .i64 X.startNo, .slice X.entries.addr X.entries.xs.length X.entries.cap, .slice X.rules.addr X.rules.xs.length X.rules.cap] 26 (0, 0)) := by subst hW3; exact World.alloc_heap_new _ _
    have hkg := ((ext_trans hb2 hb3).block _ (lt_block Hk.out)).trans Hk.out
    have he : X.entries.xs.length = g.entries.xs.length := by rw [hRO.entries, List.length_map]
    have hX3 := hXl.ext hb3
    have hG3 := HG.out.ext (ext_trans hb2 hb3)
    have cE := Lib.hid (eqfE_any X.entries g.entries 112 noE W3 hX3.entries hG3.entries he (enters_of Tryz.func112 (by kernel_rfl) rfl) (fun V hV i x y _ _ => chk1_any x y V))
    have cU := Lib.hid (fun V (hV : Below W3.heap.size W3 V) => eqfR_any X.rules g.rules 114 noR V (hX3.ext hV).rules (hG3.ext hV).rules hRO.rules (enters_of Tryz.func114 (by kernel_rfl) rfl) (fun V' hV' i x y hx hy => chk2_any x y V' (((hX3.ext hV).ext hV').rule x (List.mem_of_getElem? hx)) (((hG3.ext hV).ext hV').rule y (List.mem_of_getElem? hy)) (by rw [(hRO.rule i y x hy hx).parts, List.length_map])))
    have HE : Hid (checkG g = if resolvedB g then 0 else 260) := by show _ = _; rw [HC.out, hz]; rfl
    rw [← hsame] at HE
    have q := int_bneD X.startNo g.startNo
    have Hk3 := Lib.hid hk3
    have Hkg := Lib.hid hkg
    clear c0 c1 c2 c3 c4 c5
    have x0 := gblk hk3 0
    have x1 := gblk hk3 1
    have x2 := gblk hk3 2
    have x3 := gblk hk3 3
    have x4 := gblk hk3 4
    have x5 := gblk hk3 5
    have c0 := gblk hkg 0
    have c1 := gblk hkg 1
    have c2 := gblk hkg 2
    have c3 := gblk hkg 3
    have c4 := gblk hkg 4
    have c5 := gblk hkg 5
    generalize allZ noE X.entries.xs g.entries.xs = f2 at *
    generalize allZ noR X.rules.xs g.rules.xs = f3 at *
    generalize decide (X.startNo = g.startNo) = f1 at *
    rw [hz]
    have hB3 := ext_trans hB2 hb3
    clear hX hXl hRO hsame hk3 hkg he hz HC cR hX3 hG3 hb2
    go_wp2_with fail
    clear hW3
    refine cE.out.mono ?_
    rintro ee w4 ⟨rfl, hb4⟩
    have hB4 := ext_trans hB3 hb4
    have hk4 := (hb4.block _ (lt_block Hk3.out)).trans Hk3.out
    have hkg4 := (hb4.block _ (lt_block Hkg.out)).trans Hkg.out
    clear x0 x1 x2 x3 x4 x5 c0 c1 c2 c3 c4 c5 cE
    have x0 := gblk hk4 0
    have x1 := gblk hk4 1
    have x2 := gblk hk4 2
    have x3 := gblk hk4 3
    have x4 := gblk hk4 4
    have x5 := gblk hk4 5
    have c0 := gblk hkg4 0
    have c1 := gblk hkg4 1
    have c2 := gblk hkg4 2
    have c3 := gblk hkg4 3
    have c4 := gblk hkg4 4
    have c5 := gblk hkg4 5
    have Hk4 := Lib.hid hk4
    have Hkg4 := Lib.hid hkg4
    clear hk4 hkg4
    go_wp2_with fail
    refine (cU.out w4 hb4).mono ?_
    rintro ee w5 ⟨rfl, hb5⟩
    have hB5 := ext_trans hB4 hb5
    have hk5 := (hb5.block _ (lt_block Hk4.out)).trans Hk4.out
    have hkg5 := (hb5.block _ (lt_block Hkg4.out)).trans Hkg4.out
    clear x0 x1 x2 x3 x4 x5 c0 c1 c2 c3 c4 c5 cU
    have x0 := gblk hk5 0
    have x1 := gblk hk5 1
    have x2 := gblk hk5 2
    have x3 := gblk hk5 3
    have x4 := gblk hk5 4
    have x5 := gblk hk5 5
    have c0 := gblk hkg5 0
    have c1 := gblk hkg5 1
    have c2 := gblk hkg5 2
    have c3 := gblk hkg5 3
    have c4 := gblk hkg5 4
    have c5 := gblk hkg5 5
    clear hk5 hkg5
    cases f1 <;> cases f2 <;> cases f3
    all_goals
      simp only [Bool.not_true, Bool.not_false] at q
      go_wp2_with fail
      go_ret
      exact ⟨by rw [HE.out]; rfl, hB5⟩
  · have HE : Hid (checkG g = resG g) := by show _ = _; rw [HC.out, if_pos hz]
    have hb3 : Below w2.heap.size w2 (w2.alloc (.cells #[.string X.name, .slice X.cats.addr X.cats.xs.length X.cats.cap, .string X.start, .int .i64 X.startNo, .slice X.entries.addr X.entries.xs.length X.entries.cap, .slice X.rules.addr X.rules.xs.length X.rules.cap] 26)) := ext_alloc (Below.refl _ _) _
    have g1 : (resG g != 0) = true := by simpa using hz
    generalize resG g = r at *
    clear hX HC hz
    go_wp2_with fail
    go_ret
    exact ⟨by rw [HE.out]; rfl, ext_trans hB2 hb3⟩
end Go.Proofs.YthojaplnimoacaaGreatDoor

/- Terms that are added, in plain lists: what Add gives. No program in sight. -/
namespace Go.Proofs.YthojaplnimoacaaGreatDoor
open Go.RowKit Go.Han
theorem chkT_mk : ∀ (last : Int) (l : List Term), (∀ x ∈ l, x.ok = true) → (∀ x ∈ l, last < x.no) → l.Pairwise (fun x y => x.no < y.no) → chkT last l = true
  | _, [], _, _, _ => rfl
  | last, x :: l, h1, h2, h3 => by
    unfold chkT
    rw [h1 x (by simp), decide_eq_true (h2 x (by simp)), chkT_mk x.no l (fun y hy => h1 y (by simp [hy])) (fun y hy => (List.pairwise_cons.1 h3).1 y hy) (List.pairwise_cons.1 h3).2]
    rfl
theorem checkT_mk {l : List Term} (h0 : l.length ≤ 1024) (h1 : ∀ x ∈ l, x.ok = true) (h3 : l.Pairwise (fun x y => x.no < y.no)) : checkT l = 0 := by
  unfold checkT
  rw [if_neg (by omega), if_pos (chkT_mk _ l h1 (fun x hx => by have := (ok_no (h1 x hx)).1; omega) h3)]
theorem checkT_filter {l : List Term} (p : Term → Bool) (h : checkT l = 0) : checkT (l.filter p) = 0 := by
  obtain ⟨h1, h2, h3⟩ := checkT_zero h
  exact checkT_mk (Nat.le_trans (List.length_filter_le _ _) h1) (fun x hx => h2 x (List.mem_filter.1 hx).1) (h3.filter _)
theorem aboutB_symm (a b : Term) : aboutB a b = aboutB b a := by
  unfold aboutB
  rw [decide_eq_decide.2 (eq_comm (a := a.lang) (b := b.lang)), decide_eq_decide.2 (eq_comm (a := a.src.xs) (b := b.src.xs))]
theorem posT_cons (n : Int) (y : Term) (l : List Term) : posT n (y :: l) = if y.no < n then posT n l + 1 else 0 := by
  unfold posT
  rw [List.takeWhile_cons]
  by_cases h : y.no < n <;> simp [h]
theorem addL_nil (a : Term) : addL [] a = [a] := rfl
theorem addL_cons (y : Term) (l : List Term) (a : Term) : addL (y :: l) a = if y.no < a.no then y :: addL l a else a :: y :: l := by
  unfold addL
  rw [posT_cons]
  by_cases h : y.no < a.no <;> simp [h]
theorem addL_filter (p : Term → Bool) (l : List Term) (a : Term) (h : p a = false) : (addL l a).filter p = l.filter p := by
  unfold addL
  rw [List.filter_append, List.filter_cons, if_neg (by simp [h]), ← List.filter_append, List.take_append_drop]
theorem addL_any (p : Term → Bool) (l : List Term) (a : Term) : (addL l a).any p = (l.any p || p a) := by
  unfold addL
  rw [List.any_append, List.any_cons]
  conv => rhs; rw [← List.take_append_drop (posT a.no l) l, List.any_append]
  cases p a <;> simp
theorem mem_addL {l : List Term} {a y : Term} : y ∈ addL l a ↔ y = a ∨ y ∈ l := by
  refine ⟨addL_mem, fun h => ?_⟩
  unfold addL
  rcases h with rfl | h
  · simp
  · rw [← List.take_append_drop (posT a.no l) l] at h
    rcases List.mem_append.1 h with h | h
    · exact List.mem_append_left _ h
    · exact List.mem_append_right _ (List.mem_cons_of_mem _ h)
theorem addL_pairwise (a : Term) : ∀ l : List Term, l.Pairwise (fun x y => x.no < y.no) → hasT a.no l = false → (addL l a).Pairwise (fun x y => x.no < y.no)
  | [], _, _ => by rw [addL_nil]; simp
  | y :: l, h, hh => by
    have hh2 : y.no ≠ a.no ∧ hasT a.no l = false := by
      unfold hasT at hh ⊢
      simpa using hh
    rw [addL_cons]
    obtain ⟨h1, h2⟩ := List.pairwise_cons.1 h
    by_cases hy : y.no < a.no
    · rw [if_pos hy]
      refine List.pairwise_cons.2 ⟨fun z hz => ?_, addL_pairwise a l h2 hh2.2⟩
      rcases mem_addL.1 hz with rfl | hz
      · exact hy
      · exact h1 z hz
    · rw [if_neg hy]
      refine List.pairwise_cons.2 ⟨fun z hz => ?_, h⟩
      rcases List.mem_cons.1 hz with rfl | hz
      · omega
      · have := h1 z hz; omega
theorem addE_zero {l : List Term} {x : Term} (h : addE l x = 0) : checkT l = 0 ∧ x.ok = true ∧ hasT x.no l = false ∧ l.length ≠ 1024 := by
  unfold addE at h
  by_cases h1 : checkT l = 0
  · rw [if_neg (by simpa using h1)] at h
    cases h2 : x.ok
    · rw [h2, if_pos rfl] at h; cases h
    · rw [h2, if_neg (by simp)] at h
      cases h3 : hasT x.no l
      · rw [h3, if_neg (by simp)] at h
        by_cases h4 : l.length = 1024
        · rw [if_pos h4] at h; cases h
        · exact ⟨h1, rfl, rfl, h4⟩
      · rw [h3, if_pos rfl] at h; cases h
  · rw [if_pos h1] at h; exact absurd h h1
theorem addL_check {l : List Term} {x : Term} (h : addE l x = 0) : checkT (addL l x) = 0 := by
  obtain ⟨h1, h2, h3, h4⟩ := addE_zero h
  obtain ⟨c1, c2, c3⟩ := checkT_zero h1
  refine checkT_mk (by rw [addL_length]; omega) (fun y hy => ?_) (addL_pairwise x l c3 h3)
  rcases mem_addL.1 hy with rfl | hy
  · exact h2
  · exact c2 y hy
end Go.Proofs.YthojaplnimoacaaGreatDoor

/- Terms that stand, and terms that are added, in plain lists. Conditions: none; plain facts. -/
namespace Go.Proofs.YthojaplnimoacaaGreatDoor
open Go.RowKit Go.Han

theorem standE_zero {l : List Term} {lang t u : Int} (h : standE l lang t u = 0) : checkT l = 0 ∧ (langB lang && tmB t && tmB u) = true := by
  unfold standE at h
  by_cases hc : checkT l = 0
  · rw [if_neg (by simpa using hc)] at h
    refine ⟨hc, ?_⟩
    cases hb : (langB lang && tmB t && tmB u)
    · rw [hb] at h; cases h
    · rfl
  · rw [if_pos hc] at h; exact absurd h hc
theorem standE_mk {l : List Term} {lang t u : Int} (h : checkT l = 0) (h2 : (langB lang && tmB t && tmB u) = true) : standE l lang t u = 0 := by
  unfold standE
  rw [if_neg (by simpa using h), h2]; rfl
theorem laterAny_addL (l : List Term) (a : Term) (t u : Int) (z : Term) : laterAny (addL l a) t u z = (laterAny l t u z || (aboutB a z && countsB a t u && laterB a z)) := addL_any _ l a
theorem added_rest (l : List Term) (a : Term) (lang t u : Int) : (standT (addL l a) lang t u).filter (fun z => !aboutB z a) = (standT l lang t u).filter (fun z => !aboutB z a) := by
  unfold standT
  rw [List.filter_filter, List.filter_filter, addL_filter]
  · refine List.filter_congr fun z _ => ?_
    show (!aboutB z a && (decide (z.lang = lang) && (!z.gone && countsB z t u && !laterAny (addL l a) t u z))) = (!aboutB z a && (decide (z.lang = lang) && (!z.gone && countsB z t u && !laterAny l t u z)))
    rw [laterAny_addL, aboutB_symm a z]
    cases aboutB z a <;> simp
  · have : aboutB a a = true := by simp [aboutB]
    rw [this]; rfl
end Go.Proofs.YthojaplnimoacaaGreatDoor

/- Tags and terms: terms that are added, terms that do not matter, the term that is found. Conditions: none; plain facts. -/
namespace Go.Proofs.YthojaplnimoacaaGreatDoor
open Go.RowKit Go.Han
set_option maxRecDepth 100000

theorem checkG_zero {g : Gram} (h : checkG g = 0) : bigB g = false ∧ typedB g = true ∧ circB g = false ∧ resolvedB g = true := by
  unfold checkG at h
  split at h
  · cases h
  split at h
  · cases h
  split at h
  · cases h
  split at h
  · rename_i h1 h2 h3 h4
    exact ⟨by simpa using h1, by simpa using h2, by simpa using h3, h4⟩
  · cases h
theorem checkG_entry {g : Gram} (h : checkG g = 0) : ∀ x ∈ g.entries.xs, 0 ≤ x.no ∧ x.no < g.cats.xs.length := by
  intro x hx
  obtain ⟨_, h2, _, h4⟩ := checkG_zero h
  unfold typedB at h2
  unfold resolvedB at h4
  simp only [Bool.and_eq_true, decide_eq_true_eq, List.all_eq_true] at h2 h4
  have h5 := h4.1.2 x hx
  have h6 := h2.1.2 x hx
  unfold entryB at h6
  simp only [Bool.and_eq_true] at h6
  have h7 := catB_idx h6.1.1.1.2
  have := idxF_lt x.cat g.cats.xs
  omega
theorem standT_ok {l : List Term} (h : checkT l = 0) (lang t u : Int) : ∀ x ∈ standT l lang t u, x.ok = true := fun x hx => (checkT_zero h).2.1 x (List.mem_filter.1 hx).1
theorem standT_one {l : List Term} (h : checkT l = 0) (lang t u : Int) : ∀ x ∈ standT l lang t u, ∀ y ∈ standT l lang t u, x.src.xs = y.src.xs → x = y := standT_src (checkT_zero h).2.2
/-- A term that is added: others stand as they did. -/
theorem added_mem (l : List Term) (a : Term) (lang t u : Int) (y : Term) (h : y.src.xs ≠ a.src.xs) : y ∈ standT l lang t u ↔ y ∈ standT (addL l a) lang t u := by
  have e := added_rest l a lang t u
  have hb : aboutB y a = false := by unfold aboutB; simp [h]
  have h1 : ∀ S : List Term, y ∈ S ↔ y ∈ S.filter (fun z => !aboutB z a) := fun S => by rw [List.mem_filter]; simp [hb]
  rw [h1, h1 (standT (addL l a) lang t u), e]
theorem added_apart (l : List Term) (a : Term) (lang t u : Int) (h : a.lang ≠ lang ∨ countsB a t u = false) : standT (addL l a) lang t u = standT l lang t u := by
  unfold standT
  rw [addL_filter]
  · refine List.filter_congr fun z _ => ?_
    show (decide (z.lang = lang) && (!z.gone && countsB z t u && !laterAny (addL l a) t u z)) = (decide (z.lang = lang) && (!z.gone && countsB z t u && !laterAny l t u z))
    rw [laterAny_addL]
    rcases h with h | h
    · by_cases hz : z.lang = lang
      · have : aboutB a z = false := by unfold aboutB; simp [hz, h]
        rw [this]; simp
      · simp [hz]
    · rw [h]; simp
  · rcases h with h | h
    · simp [h]
    · have : standsB (addL l a) t u a = false := by unfold standsB; rw [h]; simp
      rw [this]; simp
theorem tags_added {g : Gram} {l : List Term} {a : Term} (hc : checkG g = 0) (h : addE l a = 0) (lang t u : Int) (ws : List ByteArray) :
    (tagsC g (standT l lang t u) ws).filter (keptB ws a.src.xs) = (tagsC g (standT (addL l a) lang t u) ws).filter (keptB ws a.src.xs) := by
  have hl := (addE_zero h).1
  have ha := addL_check h
  have hs := ok_src (addE_zero h).2.1
  exact tags_kept (standT_one hl lang t u) (standT_one ha lang t u) (fun e => by rw [e] at hs; simp at hs) (added_mem l a lang t u) g (fun x hx => (checkG_entry hc x hx).1) ws

/-! ### terms that do not matter -/
def matterB (lang u : Int) (x : Term) : Bool := decide (x.lang = lang) && decide (x.known ≤ u)
theorem matter_standT (l : List Term) (lang t u : Int) : standT (l.filter (matterB lang u)) lang t u = standT l lang t u := by
  unfold standT
  rw [List.filter_filter]
  refine List.filter_congr fun x _ => ?_
  unfold standsB
  rw [List.any_filter]
  by_cases hx : x.lang = lang
  · have e : (l.any fun z => matterB lang u z && (aboutB z x && countsB z t u && laterB z x)) = l.any fun z => aboutB z x && countsB z t u && laterB z x := by
      congr 1
      funext z
      unfold matterB aboutB countsB
      by_cases h1 : z.lang = lang
      · by_cases h2 : z.known ≤ u
        · simp [h1, h2]
        · simp [h2]
      · by_cases h3 : z.lang = x.lang
        · exact absurd (h3.trans hx) h1
        · simp [h3]
    rw [e]
    unfold matterB
    by_cases h2 : x.known ≤ u
    · simp [hx, h2]
    · have : countsB x t u = false := by unfold countsB; simp [h2]
      rw [this]; simp
  · simp [hx]
theorem matter_standE {l : List Term} {lang t u : Int} (h : standE l lang t u = 0) : standE (l.filter (matterB lang u)) lang t u = 0 :=
  standE_mk (checkT_filter _ (standE_zero h).1) (standE_zero h).2

/-! ### the term that is found -/
/-- The longest term that is tagged at an index: how many words, and its number. -/
def longStep (i : Int) (o : Int × Int) (x : ItemC) : Int × Int := if x.frm = i ∧ 0 ≤ x.term ∧ o.1 < x.unt - x.frm then (x.unt - x.frm, x.term) else o
def longF (i : Int) (L : List ItemC) : Int × Int := L.foldl (longStep i) (0, -1)
theorem longF_snoc (i : Int) (L : List ItemC) (x : ItemC) : longF i (L ++ [x]) = longStep i (longF i L) x := by unfold longF; rw [List.foldl_append]; rfl
theorem long_skip (i : Int) : ∀ (L : List ItemC) (o : Int × Int), (∀ x ∈ L, x.frm ≠ i ∨ x.term < 0) → L.foldl (longStep i) o = o
  | [], _, _ => rfl
  | x :: L, o, h => by
    rw [List.foldl_cons]
    have hx := h x (List.mem_cons_self ..)
    have e : longStep i o x = o := by unfold longStep; rw [if_neg]; rintro ⟨h1, h2, _⟩; rcases hx with h | h; exact h h1; omega
    rw [e]
    exact long_skip i L o fun y hy => h y (List.mem_cons_of_mem _ hy)
def pickStep (cats : List ByteArray) (S : List Term) (ws : List ByteArray) (i : Nat) (o : Int × Int) (m : Nat) : Int × Int :=
  match pickC cats S ws i m with | some t => (m, t.no) | none => o
theorem long_term {cats : List ByteArray} {S : List Term} {ws : List ByteArray} {i m : Nat} (hok : ∀ x ∈ S, x.ok = true) {o : Int × Int} (ho : o.1 < m) : (termC cats S ws i m).foldl (longStep i) o = pickStep cats S ws i o m := by
  unfold termC pickStep
  cases hp : pickC cats S ws i m with
  | none => rfl
  | some t =>
    have ht : 0 ≤ t.no := by
      unfold pickC at hp
      have h1 := hok t (List.mem_of_find?_eq_some hp)
      unfold Term.ok noB at h1
      simp only [Bool.and_eq_true, decide_eq_true_eq] at h1
      omega
    show longStep i o _ = _
    unfold longStep
    rw [if_pos ⟨rfl, ht, by show o.1 < (i : Int) + m - i; omega⟩]
    show ((i : Int) + m - i, t.no) = (↑m, t.no)
    rw [show (i : Int) + m - i = m by omega]
theorem pickStep_lt {cats : List ByteArray} {S : List Term} {ws : List ByteArray} {i m k : Nat} {o : Int × Int} (h : m < k) (ho : o.1 < k) : (pickStep cats S ws i o m).1 < k := by
  unfold pickStep
  split
  · show (m : Int) < k; omega
  · exact ho
def longP (cats : List ByteArray) (S : List Term) (ws : List ByteArray) (i : Nat) : Int × Int :=
  pickStep cats S ws i (pickStep cats S ws i (pickStep cats S ws i (pickStep cats S ws i (0, -1) 1) 2) 3) 4
theorem long_single {g : Gram} {S : List Term} {ws : List ByteArray} {i : Nat} {s : ByteArray} (hok : ∀ x ∈ S, x.ok = true) : (singleC g S ws i s).foldl (longStep i) (0, -1) = pickStep g.cats.xs S ws i (0, -1) 1 := by
  have he : ∀ o, (entriesC g.entries.xs i s).foldl (longStep i) o = o := fun o => long_skip i _ o fun x hx => by
    obtain ⟨z, _, rfl⟩ := List.mem_map.1 hx
    right; show (-1 : Int) < 0; decide
  unfold singleC
  split
  · rename_i h0
    have h1 : termC g.cats.xs S ws i 1 = [] := by
      rw [List.length_append] at h0
      exact List.eq_nil_of_length_eq_zero (by omega)
    rw [long_skip i _ _ fun x hx => by
      obtain ⟨z, _, rfl⟩ := List.mem_map.1 hx
      right; show (-1 : Int) < 0; decide]
    have h2 := long_term (cats := g.cats.xs) (ws := ws) (i := i) (m := 1) hok (o := (0, -1)) (by decide)
    rw [h1] at h2
    exact h2
  · rw [List.foldl_append, he, long_term hok (by decide)]
theorem long_word {g : Gram} {S : List Term} {ws : List ByteArray} {i : Nat} {s : ByteArray} (hok : ∀ x ∈ S, x.ok = true) : (wordC g S ws i s).foldl (longStep i) (0, -1) = longP g.cats.xs S ws i := by
  unfold wordC longP
  rw [List.foldl_append, List.foldl_append, List.foldl_append, long_single hok]
  have h1 : (pickStep g.cats.xs S ws i (0, -1) 1).1 < (2 : Nat) := pickStep_lt (by decide) (by decide)
  have h2 : (pickStep g.cats.xs S ws i (pickStep g.cats.xs S ws i (0, -1) 1) 2).1 < (3 : Nat) := pickStep_lt (by decide) (by omega)
  have h3 : (pickStep g.cats.xs S ws i (pickStep g.cats.xs S ws i (pickStep g.cats.xs S ws i (0, -1) 1) 2) 3).1 < (4 : Nat) := pickStep_lt (by decide) (by omega)
  rw [long_term hok h1, long_term hok h2, long_term hok h3]
theorem long_words {g : Gram} {S : List Term} {ws : List ByteArray} (hok : ∀ x ∈ S, x.ok = true) (i : Nat) : ∀ (l : List ByteArray) (k : Nat), (wordsC g S ws k l).foldl (longStep i) (0, -1) = if k ≤ i ∧ i < k + l.length then longP g.cats.xs S ws i else (0, -1)
  | [], k => by
    rw [if_neg (by simp)]; rfl
  | s :: l, k => by
    rw [wordsC, List.foldl_append]
    by_cases hk : k = i
    · subst hk
      rw [long_word hok, if_pos ⟨Nat.le_refl _, by simp⟩]
      refine long_skip _ _ _ fun x hx => ?_
      left
      have key : ∀ (l : List ByteArray) (j : Nat), ∀ x ∈ wordsC g S ws j l, (j : Int) ≤ x.frm := by
        intro l
        induction l with
        | nil => intro j x hx; cases hx
        | cons s l ih =>
          intro j x hx
          rw [wordsC] at hx
          rcases List.mem_append.1 hx with h | h
          · rw [(word_unt h).1]; omega
          · have := ih (j + 1) x h; omega
      have := key l (k + 1) x hx
      omega
    · rw [long_skip i (wordC g S ws k s) _ fun x hx => .inl (by rw [(word_unt hx).1]; omega), long_words hok i l (k + 1)]
      simp only [List.length_cons]
      by_cases h : k ≤ i ∧ i < k + (l.length + 1)
      · rw [if_pos h, if_pos (by omega)]
      · rw [if_neg h, if_neg (by omega)]
theorem long_tags {g : Gram} {S : List Term} {ws : List ByteArray} (hok : ∀ x ∈ S, x.ok = true) {i : Nat} (hi : i < ws.length) : longF i (tagsC g S ws) = longP g.cats.xs S ws i := by
  unfold longF tagsC
  have hown : ∀ (l : List ByteArray) (k : Nat), ∀ x ∈ ownsC k l, x.term < 0 := by
    intro l
    induction l with
    | nil => intro k x hx; cases hx
    | cons s l ih =>
      intro k x hx
      rcases List.mem_cons.1 hx with rfl | h
      · show (-1 : Int) < 0; decide
      · exact ih _ x h
  rw [List.foldl_append, long_skip i _ _ fun x hx => .inr (hown _ _ x hx), long_words hok, if_pos ⟨Nat.zero_le _, by omega⟩]
/-- What bestF finds: the longest one that stands there. -/
theorem bestF_spec (S : List Term) (ws : List ByteArray) : match bestF S ws with
    | none => ∀ x ∈ S, startB x ws = false
    | some t => t ∈ S ∧ startB t ws = true ∧ ∀ x ∈ S, startB x ws = true → x.src.xs.length ≤ t.src.xs.length := by
  have key : ∀ (q p : List Term), (match bestF p ws with | none => ∀ x ∈ p, startB x ws = false | some t => t ∈ p ∧ startB t ws = true ∧ ∀ x ∈ p, startB x ws = true → x.src.xs.length ≤ t.src.xs.length) →
      (match bestF (p ++ q) ws with | none => ∀ x ∈ p ++ q, startB x ws = false | some t => t ∈ p ++ q ∧ startB t ws = true ∧ ∀ x ∈ p ++ q, startB x ws = true → x.src.xs.length ≤ t.src.xs.length) := by
    intro q
    induction q with
    | nil => intro p h; simpa using h
    | cons y q ih =>
      intro p h
      have e : p ++ y :: q = (p ++ [y]) ++ q := by simp
      rw [e]
      refine ih (p ++ [y]) ?_
      rw [bestF_snoc]
      cases hb : bestF p ws with
      | none =>
        rw [hb] at h
        unfold bestStep
        cases hs : startB y ws
        · rw [Bool.false_and, if_neg (by decide)]
          intro x hx
          rcases List.mem_append.1 hx with h1 | h1
          · exact h x h1
          · rw [List.mem_singleton.1 h1]; exact hs
        · rw [Bool.true_and, show betterB none y = true from rfl, if_pos rfl]
          refine ⟨by simp, hs, fun x hx hx2 => ?_⟩
          rcases List.mem_append.1 hx with h1 | h1
          · rw [h x h1] at hx2; cases hx2
          · rw [List.mem_singleton.1 h1]; exact Nat.le_refl _
      | some t =>
        rw [hb] at h
        obtain ⟨h1, h2, h3⟩ := h
        unfold bestStep
        cases hs : (startB y ws && betterB (some t) y)
        · rw [if_neg (by decide)]
          refine ⟨List.mem_append_left _ h1, h2, fun x hx hx2 => ?_⟩
          rcases List.mem_append.1 hx with h4 | h4
          · exact h3 x h4 hx2
          · have := List.mem_singleton.1 h4
            subst this
            rw [hx2, Bool.true_and] at hs
            simp only [betterB, decide_eq_false_iff_not] at hs
            omega
        · rw [if_pos rfl]
          simp only [Bool.and_eq_true, betterB, decide_eq_true_eq] at hs
          refine ⟨by simp, hs.1, fun x hx hx2 => ?_⟩
          rcases List.mem_append.1 hx with h4 | h4
          · have := h3 x h4 hx2; omega
          · rw [List.mem_singleton.1 h4]; exact Nat.le_refl _
  have := key S [] (by intro x hx; cases hx)
  simpa using this
theorem longP_none {cats : List ByteArray} {S : List Term} {ws : List ByteArray} {i : Nat} (h : ∀ m, pickC cats S ws i m = none) : longP cats S ws i = (0, -1) := by
  unfold longP pickStep
  simp only [h]
/-- No term stands there: none is tagged. -/
theorem found_none {cats : List ByteArray} {S : List Term} {ws : List ByteArray} {i : Nat} (h : bestF S (ws.drop i) = none) : longP cats S ws i = (0, -1) := by
  have h1 := bestF_spec S (ws.drop i)
  rw [h] at h1
  refine longP_none fun m => ?_
  unfold pickC
  rw [List.find?_eq_none]
  intro x hx hc
  simp only [Bool.and_eq_true] at hc
  rw [h1 x hx] at hc
  cases hc.1.2
/-- The term that is found is not shorter than what is tagged, and is tagged if its category is known. -/
theorem found_some {cats : List ByteArray} {S : List Term} (hu : ∀ x ∈ S, ∀ y ∈ S, x.src.xs = y.src.xs → x = y) (hok : ∀ x ∈ S, x.ok = true) {ws : List ByteArray} {i : Nat} {t : Term} (h : bestF S (ws.drop i) = some t) :
    (longP cats S ws i).1 ≤ t.src.xs.length ∧ (catB cats t.cat = true → (longP cats S ws i).2 = t.no) := by
  have h1 := bestF_spec S (ws.drop i)
  rw [h] at h1
  obtain ⟨h1, h2, h3⟩ := h1
  have hsrc := ok_src (hok t h1)
  have hlong : ∀ m, t.src.xs.length < m → pickC cats S ws i m = none := by
    intro m hm
    unfold pickC
    rw [List.find?_eq_none]
    intro x hx hc
    simp only [Bool.and_eq_true, decide_eq_true_eq] at hc
    have := h3 x hx hc.1.2
    omega
  have hpick : catB cats t.cat = true → pickC cats S ws i t.src.xs.length = some t := fun hc => (pickC_iff hu cats ws i _ t).2 ⟨h1, rfl, h2, hc⟩
  have hle : ∀ (o : Int × Int) (m : Nat), o.1 ≤ t.src.xs.length → (pickStep cats S ws i o m).1 ≤ t.src.xs.length := by
    intro o m ho
    by_cases hm : t.src.xs.length < m
    · unfold pickStep; rw [hlong m hm]; exact ho
    · unfold pickStep
      split
      · show (m : Int) ≤ _; omega
      · exact ho
  refine ⟨hle _ _ (hle _ _ (hle _ _ (hle _ _ (by show (0 : Int) ≤ _; omega)))), fun hc => ?_⟩
  have hp := hpick hc
  have hon : ∀ o, pickStep cats S ws i o t.src.xs.length = (((t.src.xs.length : Nat) : Int), t.no) := fun o => by unfold pickStep; rw [hp]
  have hoff : ∀ (o : Int × Int) (m : Nat), t.src.xs.length < m → pickStep cats S ws i o m = o := fun o m hm => by unfold pickStep; rw [hlong m hm]
  have hl4 : t.src.xs.length = 1 ∨ t.src.xs.length = 2 ∨ t.src.xs.length = 3 ∨ t.src.xs.length = 4 := by omega
  unfold longP
  rcases hl4 with e | e | e | e
  · rw [hoff _ 4 (by omega), hoff _ 3 (by omega), hoff _ 2 (by omega)]
    have := hon (0, -1)
    rw [e] at this
    rw [this]
  · rw [hoff _ 4 (by omega), hoff _ 3 (by omega)]
    have := hon (pickStep cats S ws i (0, -1) 1)
    rw [e] at this
    rw [this]
  · rw [hoff _ 4 (by omega)]
    have := hon (pickStep cats S ws i (pickStep cats S ws i (0, -1) 1) 2)
    rw [e] at this
    rw [this]
  · have := hon (pickStep cats S ws i (pickStep cats S ws i (pickStep cats S ws i (0, -1) 1) 2) 3)
    rw [e] at this
    rw [this]
end Go.Proofs.YthojaplnimoacaaGreatDoor

/- Every word has its item and its phrases. Conditions: none; plain facts. -/
namespace Go.Proofs.YthojaplnimoacaaGreatDoor
open Go.RowKit Go.Han
set_option maxRecDepth 100000

/-- A standing term gives an item. -/
def givesB (cats ws : List ByteArray) (x : ItemC) (t : Term) : Bool :=
  decide (t.no = x.term) && decide (cats[x.cat.toNat]? = some t.cat) && decide ((t.src.xs.length : Int) = x.unt - x.frm) && isB ws t.src.xs x.frm && decide (x.cost = 0) && decide (x.tgt = t.tgt.xs)
def foundB (cats ws : List ByteArray) (S : List Term) (x : ItemC) : Bool := S.any (givesB cats ws x)
def tagInB (ncats n : Nat) (x : ItemC) : Bool := decide (0 ≤ x.cat) && decide (x.cat < ncats) && decide (0 ≤ x.frm) && decide (x.frm < x.unt) && decide (x.unt ≤ n)
def tagOneB (x : ItemC) : Bool := decide (x.unt = x.frm + 1)
def tagFitB (cats ws : List ByteArray) (S : List Term) (x : ItemC) : Bool := tagInB cats.length ws.length x && (foundB cats ws S x || (decide (x.term = -1) && tagOneB x))
/-- How many items of one word are at an index; how many of them no term gives. -/
def onesF (i : Int) (L : List ItemC) : Nat := L.countP fun x => tagOneB x && decide (x.frm = i)
def restF (cats ws : List ByteArray) (S : List Term) (i : Int) (L : List ItemC) : Nat := L.countP fun x => !foundB cats ws S x && decide (x.frm = i)
def manyE (es : List EntryG) (s : ByteArray) : Nat := es.countP fun x => decide (x.text = s)
def termB (cats : List ByteArray) (S : List Term) (s : ByteArray) : Bool := S.any fun t => decide (t.src.xs = [s]) && catB cats t.cat
def manyB (g : Gram) (S : List Term) (s : ByteArray) : Nat := if manyE g.entries.xs s = 0 ∧ termB g.cats.xs S s = false then g.cats.xs.length else manyE g.entries.xs s

theorem found_term {cats ws : List ByteArray} {S : List Term} {i m : Nat} (h0 : 0 < m) {t : Term} (hp : pickC cats S ws i m = some t) : foundB cats ws S ⟨idxF t.cat cats, i, i + m, 0, t.tgt.xs, t.no⟩ = true ∧ t ∈ S ∧ i + m ≤ ws.length ∧ 0 ≤ idxF t.cat cats := by
  have hlen : i + m ≤ ws.length := Nat.le_of_not_lt fun h => by rw [pickC_long cats S h0 h] at hp; cases hp
  unfold pickC at hp
  have h1 := List.find?_some hp
  have h2 := List.mem_of_find?_eq_some hp
  simp only [Bool.and_eq_true, decide_eq_true_eq, startB] at h1
  have hc := catB_idx h1.2
  refine ⟨List.any_eq_true.2 ⟨t, h2, ?_⟩, h2, hlen, hc⟩
  unfold givesB
  have hne : t.src.xs ≠ [] := fun e => by rw [e] at h1; simp at h1; omega
  have e1 : cats[(idxF t.cat cats).toNat]? = some t.cat := idxF_get t.cat cats _ (by omega)
  have e2 : isB ws t.src.xs (i : Int) = true := by rw [isB_nat hne]; simpa using h1.1.2
  have e3 : decide ((t.src.xs.length : Int) = (i : Int) + m - i) = true := by simp; omega
  simp only [e1, e2, e3]
  simp
theorem found_no {cats ws : List ByteArray} {S : List Term} (hok : ∀ x ∈ S, x.ok = true) {x : ItemC} (h : x.term < 0) : foundB cats ws S x = false := by
  unfold foundB
  rw [List.any_eq_false]
  intro t ht hc
  have := hok t ht
  unfold Term.ok noB at this
  unfold givesB at hc
  simp only [Bool.and_eq_true, decide_eq_true_eq] at this hc
  omega
/-- What a word's own items are. -/
structure WordOk (g : Gram) (ws : List ByteArray) (S : List Term) (i : Nat) (s : ByteArray) : Prop where
  fit : ∀ x ∈ wordC g S ws i s, tagFitB g.cats.xs ws S x = true
  rest : restF g.cats.xs ws S i (wordC g S ws i s) = manyB g S s
  ones : 0 < g.cats.xs.length → 0 < onesF i (wordC g S ws i s)
theorem entries_rest {cats ws : List ByteArray} {S : List Term} (hok : ∀ x ∈ S, x.ok = true) (es : List EntryG) (i : Nat) (s : ByteArray) : restF cats ws S i (entriesC es i s) = manyE es s := by
  have e : restF cats ws S i (entriesC es i s) = (entriesC es i s).length := by
    unfold restF
    rw [List.countP_eq_length]
    intro x hx
    obtain ⟨z, _, rfl⟩ := List.mem_map.1 hx
    rw [found_no hok (by show (-1 : Int) < 0; decide)]
    simp [entryC]
  rw [e]
  unfold entriesC manyE
  rw [List.length_map, List.countP_eq_length_filter]
theorem term_rest {cats ws : List ByteArray} {S : List Term} {i m : Nat} (h0 : 0 < m) : restF cats ws S i (termC cats S ws i m) = 0 := by
  unfold restF
  rw [List.countP_eq_zero]
  intro x hx
  obtain ⟨t, ht, rfl⟩ := termC_mem hx
  rw [(found_term h0 ht).1]; simp
theorem unk_rest {cats ws : List ByteArray} {S : List Term} (hok : ∀ x ∈ S, x.ok = true) (n i : Nat) (s : ByteArray) : restF cats ws S i (unkC n i s) = n := by
  have e : restF cats ws S i (unkC n i s) = (unkC n i s).length := by
    unfold restF
    rw [List.countP_eq_length]
    intro x hx
    obtain ⟨z, _, rfl⟩ := List.mem_map.1 hx
    rw [found_no hok (by show (-1 : Int) < 0; decide)]
    simp
  rw [e]; unfold unkC; simp
theorem restF_append (cats ws : List ByteArray) (S : List Term) (i : Int) (a b : List ItemC) : restF cats ws S i (a ++ b) = restF cats ws S i a + restF cats ws S i b := by unfold restF; rw [List.countP_append]
theorem onesF_append (i : Int) (a b : List ItemC) : onesF i (a ++ b) = onesF i a + onesF i b := by unfold onesF; rw [List.countP_append]
theorem termB_pick {cats : List ByteArray} {S : List Term} (hu : ∀ x ∈ S, ∀ y ∈ S, x.src.xs = y.src.xs → x = y) {ws : List ByteArray} {i : Nat} {s : ByteArray} (hs : ws[i]? = some s) : termB cats S s = decide ((termC cats S ws i 1).length ≠ 0) := by
  have hd : (ws.drop i).take 1 = [s] := by
    obtain ⟨hi, he⟩ := List.getElem?_eq_some_iff.1 hs
    rw [List.drop_eq_getElem_cons hi, he]; rfl
  cases hp : pickC cats S ws i 1 with
  | some t =>
    have h := (pickC_iff hu cats ws i 1 t).1 hp
    have e : (termC cats S ws i 1).length = 1 := by unfold termC; rw [hp]; rfl
    rw [e]
    unfold termB
    rw [decide_eq_true (by decide), List.any_eq_true]
    refine ⟨t, h.1, ?_⟩
    have h2 := h.2.2.1
    simp only [startB, decide_eq_true_eq] at h2
    rw [h.2.1, hd] at h2
    rw [h.2.2.2, ← h2]; simp
  | none =>
    have e : (termC cats S ws i 1).length = 0 := by unfold termC; rw [hp]; rfl
    rw [e]
    unfold termB
    rw [decide_eq_false (by decide), List.any_eq_false]
    intro t ht hc
    simp only [Bool.and_eq_true, decide_eq_true_eq] at hc
    have := (pickC_iff hu cats ws i 1 t).2 ⟨ht, by rw [hc.1]; rfl, by unfold startB; rw [hc.1]; simpa using hd, hc.2⟩
    rw [hp] at this; cases this
theorem word_ok {g : Gram} (hc : checkG g = 0) {S : List Term} (hok : ∀ x ∈ S, x.ok = true) (hu : ∀ x ∈ S, ∀ y ∈ S, x.src.xs = y.src.xs → x = y) {ws : List ByteArray} {i : Nat} {s : ByteArray} (hs : ws[i]? = some s) : WordOk g ws S i s := by
  have hi : i < ws.length := (List.getElem?_eq_some_iff.1 hs).1
  have fitT : ∀ m, 0 < m → ∀ x ∈ termC g.cats.xs S ws i m, tagFitB g.cats.xs ws S x = true := by
    intro m h0 x hx
    obtain ⟨t, ht, rfl⟩ := termC_mem hx
    obtain ⟨h1, _, h3, h4⟩ := found_term h0 ht
    have := idxF_lt t.cat g.cats.xs
    unfold tagFitB tagInB
    rw [h1]
    simp only [Bool.and_eq_true, decide_eq_true_eq, Bool.true_or, and_true]
    omega
  have fitE : ∀ x : ItemC, 0 ≤ x.cat → x.cat < g.cats.xs.length → x.frm = i → x.unt = i + 1 → x.term = -1 → tagFitB g.cats.xs ws S x = true := by
    intro x h1 h2 h3 h4 h5
    unfold tagFitB tagInB tagOneB
    rw [h3, h4, h5]
    simp only [Bool.and_eq_true, decide_eq_true_eq, Bool.or_eq_true]
    exact ⟨by omega, .inr ⟨trivial, trivial⟩⟩
  have hrT : ∀ m, 0 < m → restF g.cats.xs ws S i (termC g.cats.xs S ws i m) = 0 := fun m h0 => term_rest h0
  refine ⟨fun x hx => ?_, ?_, fun h0 => ?_⟩
  · unfold wordC at hx
    simp only [List.mem_append] at hx
    rcases hx with ((hx | hx) | hx) | hx
    · have h1 := single_unt hx
      unfold singleC at hx
      split at hx
      · obtain ⟨z, hz, rfl⟩ := List.mem_map.1 hx
        refine fitE _ (Int.natCast_nonneg _) ?_ rfl rfl rfl
        have := List.mem_range.1 hz
        show (z : Int) < _; omega
      · rcases List.mem_append.1 hx with hx | hx
        · exact fitT 1 (by decide) x hx
        · obtain ⟨z, hz, rfl⟩ := List.mem_map.1 hx
          have := checkG_entry hc z (List.mem_filter.1 hz).1
          exact fitE _ this.1 this.2 rfl rfl rfl
    · exact fitT 2 (by decide) x hx
    · exact fitT 3 (by decide) x hx
    · exact fitT 4 (by decide) x hx
  · unfold wordC
    rw [restF_append, restF_append, restF_append, hrT 2 (by decide), hrT 3 (by decide), hrT 4 (by decide)]
    unfold singleC manyB
    rw [termB_pick hu hs]
    have he : (entriesC g.entries.xs i s).length = manyE g.entries.xs s := by unfold entriesC manyE; rw [List.length_map, List.countP_eq_length_filter]
    rw [List.length_append, he]
    by_cases hz : (termC g.cats.xs S ws i 1).length + manyE g.entries.xs s = 0
    · rw [if_pos hz, unk_rest hok, if_pos ⟨by omega, decide_eq_false (fun h => h (by omega))⟩]
      rfl
    · rw [if_neg hz, restF_append, hrT 1 (by decide), entries_rest hok, if_neg]
      · omega
      · rintro ⟨h1, h2⟩
        have := of_decide_eq_false h2
        omega
  · unfold wordC
    rw [onesF_append, onesF_append, onesF_append]
    have : 0 < onesF i (singleC g S ws i s) := by
      have hall : onesF i (singleC g S ws i s) = (singleC g S ws i s).length := by
        unfold onesF
        rw [List.countP_eq_length]
        intro x hx
        obtain ⟨h1, h2⟩ := single_unt hx
        unfold tagOneB
        rw [h1, h2]; simp
      rw [hall]
      unfold singleC
      split
      · unfold unkC; simpa using h0
      · omega
    omega
/-- The words' items together. -/
theorem words_ok {g : Gram} (hc : checkG g = 0) {S : List Term} (hok : ∀ x ∈ S, x.ok = true) (hu : ∀ x ∈ S, ∀ y ∈ S, x.src.xs = y.src.xs → x = y) {ws : List ByteArray} : ∀ (l : List ByteArray) (k : Nat), ws.drop k = l →
    (∀ x ∈ wordsC g S ws k l, tagFitB g.cats.xs ws S x = true) ∧ ∀ (i : Nat) (s : ByteArray), k ≤ i → ws[i]? = some s → restF g.cats.xs ws S i (wordsC g S ws k l) = manyB g S s ∧ (0 < g.cats.xs.length → 0 < onesF i (wordsC g S ws k l))
  | [], k, h => by
    refine ⟨fun x hx => (by cases hx), fun i s hk hs => ?_⟩
    have h1 := (List.getElem?_eq_some_iff.1 hs).1
    have := List.length_drop (i := k) (l := ws)
    rw [h] at this
    simp at this
    omega
  | s :: l, k, h => by
    have hlt : k < ws.length := by
      have := List.length_drop (i := k) (l := ws)
      rw [h] at this
      simp at this
      omega
    rw [List.drop_eq_getElem_cons hlt] at h
    simp only [List.cons.injEq] at h
    obtain ⟨hs, hl⟩ := h
    have hsk : ws[k]? = some s := by rw [List.getElem?_eq_getElem hlt, hs]
    obtain ⟨ih1, ih2⟩ := words_ok hc hok hu l (k + 1) hl
    have hw := word_ok hc hok hu hsk
    have hfar : ∀ (l : List ByteArray) (j : Nat), ∀ x ∈ wordsC g S ws j l, (j : Int) ≤ x.frm := by
      intro l
      induction l with
      | nil => intro j x hx; cases hx
      | cons s l ih =>
        intro j x hx
        rw [wordsC] at hx
        rcases List.mem_append.1 hx with h | h
        · rw [(word_unt h).1]; omega
        · have := ih (j + 1) x h; omega
    refine ⟨fun x hx => ?_, fun i s' hk hs' => ?_⟩
    · rw [wordsC] at hx
      rcases List.mem_append.1 hx with h | h
      · exact hw.fit x h
      · exact ih1 x h
    · rw [wordsC, restF_append, onesF_append]
      by_cases hik : i = k
      · subst hik
        have e : s' = s := by rw [hsk] at hs'; exact (Option.some.inj hs').symm
        subst e
        have h0 : restF g.cats.xs ws S i (wordsC g S ws (i + 1) l) = 0 := by
          unfold restF
          rw [List.countP_eq_zero]
          intro x hx hcc
          simp only [Bool.and_eq_true, decide_eq_true_eq] at hcc
          have := hfar l (i + 1) x hx
          omega
        rw [h0, hw.rest]
        exact ⟨rfl, fun h => by have := hw.ones h; omega⟩
      · obtain ⟨a1, a2⟩ := ih2 i s' (by omega) hs'
        have h0 : restF g.cats.xs ws S i (wordC g S ws k s) = 0 := by
          unfold restF
          rw [List.countP_eq_zero]
          intro x hx hcc
          simp only [Bool.and_eq_true, decide_eq_true_eq] at hcc
          have := (word_unt hx).1
          omega
        rw [h0, a1]
        exact ⟨by omega, fun h => by have := a2 h; omega⟩
end Go.Proofs.YthojaplnimoacaaGreatDoor
