/- Texts of this claim, one after the other: R26n, R28f, R28a, Law28b, Law28a, Law28e, Law28s, GroupC, Law28t. -/
import Derived.Test.YthojaplnimoacaaGreatDoorM6
import Derived.Test.YthojaplnimoacaaGreatDoorM11
import Derived.Test.YthojaplnimoacaaGreatDoorM3
import Derived.Test.YthojaplnimoacaaGreatDoorM10
import Derived.Test.YthojaplnimoacaaGreatDoorM8
import Derived.Test.YthojaplnimoacaaGreatDoorM17
import Derived.Test.YthojaplnimoacaaGreatDoorM18
import Derived.Test.YthojaplnimoacaaGreatDoorM14
import Derived.Test.YthojaplnimoacaaGreatDoorM13
import Derived.StillTailTactics
import Derived.Deep.RegionWith
import Derived.Deep.DeepCutAuto
/- Reference 26: Few; reference 28: Few. -/
namespace Go.Proofs.YthojaplnimoacaaGreatDoor
open Go.RowKit Go.Han
attribute [local irreducible] wpStill wpQuiet
set_option maxRecDepth 100000

def SomeB (w : World) (e : Ending) (w' : World) : Prop := ∃ b : Bool, e = .returned (.bool b) ∧ Below w.heap.size w w'
set_option maxHeartbeats 8000000 in
theorem few26_any (g : Gram) (w : World) (hg : g.lies w) : Calls Tryz.prog 51 #[.agg #[.string g.name, .slice g.cats.addr g.cats.xs.length g.cats.cap, .string g.start, .int .i64 g.startNo, .slice g.entries.addr g.entries.xs.length g.entries.cap, .slice g.rules.addr g.rules.xs.length g.rules.cap]] w (SomeB w) := by
  obtain ⟨W1, hW1⟩ : ∃ W1, w.alloc (.cells #[.string g.name, .slice g.cats.addr g.cats.xs.length g.cats.cap, .string g.start, .int .i64 g.startNo, .slice g.entries.addr g.entries.xs.length g.entries.cap, .slice g.rules.addr g.rules.xs.length g.rules.cap] 26) = W1 := ⟨_, rfl⟩
  have hB1 : Below w.heap.size w W1 := by rw [← hW1]; exact ext_alloc (Below.refl _ _) _
  have hk : W1.heap[w.heap.size]? = some (.cells #[.string g.name, .slice g.cats.addr g.cats.xs.length g.cats.cap, .string g.start, .int .i64 g.startNo, .slice g.entries.addr g.entries.xs.length g.entries.cap, .slice g.rules.addr g.rules.xs.length g.rules.cap] 26 (0, 0)) := by rw [← hW1]; exact World.alloc_heap_new _ _
  have hg1 := hg.ext hB1
  have hme : g.entries.xs.length ≤ 9223372036854775807 := Nat.le_trans hg.entries.cap hg.entries.max
  have hmr : g.rules.xs.length ≤ 9223372036854775807 := Nat.le_trans hg.rules.cap hg.rules.max
  have c0 := gblk hk 0
  have c1 := gblk hk 1
  have c2 := gblk hk 2
  have c3 := gblk hk 3
  have c4 := gblk hk 4
  have c5 := gblk hk 5
  have HE : Hid (∀ k (hk : k < g.entries.xs.length), ∃ b off n cp, g.entries.addr = some ⟨b, off, none⟩ ∧ W1.cell? ⟨b, off + k * 5 + 3, none⟩ = some (.slice n g.entries.xs[k].gives.xs.length cp)) := by
    intro k hk
    obtain ⟨b, off, hA, hb, hc⟩ := hg1.entries.at_ EntryG.size_cells (by omega) hk
    exact ⟨b, off, g.entries.xs[k].gives.addr, g.entries.xs[k].gives.cap, hA, hc k hk W1 (Below.refl _ _) 3 _ rfl⟩
  have HR : Hid (∀ k (hk : k < g.rules.xs.length), ∃ b off n cp n' cp', g.rules.addr = some ⟨b, off, none⟩ ∧ W1.cell? ⟨b, off + k * 5 + 2, none⟩ = some (.slice n g.rules.xs[k].parts.xs.length cp) ∧ W1.cell? ⟨b, off + k * 5 + 3, none⟩ = some (.slice n' g.rules.xs[k].gives.xs.length cp')) := by
    intro k hk
    obtain ⟨b, off, hA, hb, hc⟩ := hg1.rules.at_ RuleG.size_cells (by omega) hk
    exact ⟨b, off, _, _, _, _, hA, hc k hk W1 (Below.refl _ _) 2 _ rfl, hc k hk W1 (Below.refl _ _) 3 _ rfl⟩
  have HB1 := Lib.hid hB1
  clear hk hg hg1 hB1
  have key : True := trivial
  go_enter Tryz.func51, Tryz.ntmps51
  go_wp2_with fail
  all_goals first
    | (go_ret
       exact ⟨_, rfl, HB1.out⟩)
    | skip
  all_goals
    go_loopw [3] (fun iv wr => ∃ k : Nat, k ≤ g.entries.xs.length ∧ iv = .int .i64 k ∧ wr = W1) (fun iv _ => g.entries.xs.length - (intOf iv).toNat)
    case atStart => exact ⟨0, Nat.zero_le _, rfl, rfl⟩
    case round =>
      obtain ⟨k, hk, rfl, rfl⟩ := hrel
      by_cases hlt : k < g.entries.xs.length
      · obtain ⟨b, off, n, cp, hA, hc⟩ := HE.out k hlt
        rw [hA] at c4
        try rw [hA]
        clear hA
        go_wp2_with fail
        · go_ret
          exact ⟨_, rfl, HB1.out⟩
        · go_roundw
          case rel => exact ⟨k + 1, by omega, by go_num, by first | rfl | trivial⟩
          case measure => simp [intOf]; omega
      · go_wp2_with fail
        clear hlt
        go_loopw [4] (fun iv wr2 => ∃ k : Nat, k ≤ g.rules.xs.length ∧ iv = .int .i64 k ∧ wr2 = wr) (fun iv _ => g.rules.xs.length - (intOf iv).toNat)
        case atStart => exact ⟨0, Nat.zero_le _, rfl, rfl⟩
        case round =>
          obtain ⟨k, hk, rfl, rfl⟩ := hrel
          by_cases hlt : k < g.rules.xs.length
          · obtain ⟨b, off, n, cp, n', cp', hA, hc, hc'⟩ := HR.out k hlt
            rw [hA] at c5
            try rw [hA]
            clear hA
            go_wp2_with fail
            all_goals first
              | (go_ret
                 exact ⟨_, rfl, HB1.out⟩)
              | skip
            go_roundw
            case rel => exact ⟨k + 1, by omega, by go_num, by first | rfl | trivial⟩
            case measure => simp [intOf]; omega
          · go_wp2_with fail
            go_ret
            exact ⟨_, rfl, HB1.out⟩
end Go.Proofs.YthojaplnimoacaaGreatDoor

/- Reference 28: Few. -/
namespace Go.Proofs.YthojaplnimoacaaGreatDoor
open Go.RowKit Go.Han
attribute [local irreducible] wpStill wpQuiet
set_option maxRecDepth 100000
set_option maxHeartbeats 4000000 in
theorem few28_any (g : Gram) (A : Option Addr) (cp : Nat) (l : List Term) (s : StrS) (w : World) (hg : g.lies w) (hm : l.length ≤ 9223372036854775807) (hs : s.lies w) : Calls Tryz.prog 31 #[.agg #[.string g.name, .slice g.cats.addr g.cats.xs.length g.cats.cap, .string g.start, .int .i64 g.startNo, .slice g.entries.addr g.entries.xs.length g.entries.cap, .slice g.rules.addr g.rules.xs.length g.rules.cap], .slice A l.length cp, .slice s.addr s.xs.length s.cap] w (SomeB w) := by
  obtain ⟨W1, hW1⟩ : ∃ W1, w.alloc (.cells #[.string g.name, .slice g.cats.addr g.cats.xs.length g.cats.cap, .string g.start, .int .i64 g.startNo, .slice g.entries.addr g.entries.xs.length g.entries.cap, .slice g.rules.addr g.rules.xs.length g.rules.cap] 26) = W1 := ⟨_, rfl⟩
  have hB1 : Below w.heap.size w W1 := by rw [← hW1]; exact ext_alloc (Below.refl _ _) _
  have hk : W1.heap[w.heap.size]? = some (.cells #[.string g.name, .slice g.cats.addr g.cats.xs.length g.cats.cap, .string g.start, .int .i64 g.startNo, .slice g.entries.addr g.entries.xs.length g.entries.cap, .slice g.rules.addr g.rules.xs.length g.rules.cap] 26 (0, 0)) := by rw [← hW1]; exact World.alloc_heap_new _ _
  have F1 := Lib.hid (few26_any g W1 (hg.ext hB1))
  have hms : s.xs.length ≤ 9223372036854775807 := Nat.le_trans hs.cap hs.max
  have c0 := gblk hk 0
  have c1 := gblk hk 1
  have c2 := gblk hk 2
  have c3 := gblk hk 3
  have c4 := gblk hk 4
  have c5 := gblk hk 5
  have Hs := Lib.hid hs
  clear hk hg hs
  go_enter Tryz.func31, Tryz.ntmps31
  go_wp2_with fail
  refine F1.out.mono ?_
  rintro e w2 ⟨b1, rfl, hb2⟩
  have hB2 := ext_trans hB1 hb2
  have F2 := Lib.hid (fewT_any A cp l w2 hm)
  clear c0 c1 c2 c3 c4 c5 F1
  cases b1
  · go_wp2_with fail
    go_ret
    exact ⟨_, rfl, hB2⟩
  go_wp2_with fail
  refine F2.out.mono ?_
  rintro e w3 ⟨rfl, rfl⟩
  clear F2
  generalize (decide (l.length ≤ 30) || decide (1024 < l.length) && decide (l.length ≤ 1100)) = b2
  cases b2
  · go_wp2_with fail
    go_ret
    exact ⟨_, rfl, hB2⟩
  by_cases h30 : 30 < s.xs.length
  · go_wp2_with fail
    go_ret
    exact ⟨_, rfl, hB2⟩
  have HS2 := Lib.hid (StrS.lies.ext Hs.out hB2)
  have HB2 := Lib.hid hB2
  clear hB2 hb2 hB1
  go_wp2_with fail
  go_loopw [7] (fun iv wr => ∃ k : Nat, k ≤ s.xs.length ∧ iv = .int .i64 k ∧ Below w.heap.size w wr ∧ Hid (s.lies wr)) (fun iv _ => s.xs.length - (intOf iv).toNat)
  case atStart => exact ⟨0, Nat.zero_le _, rfl, HB2.out, HS2⟩
  case round =>
    obtain ⟨k, hk, rfl, hB, HS⟩ := hrel
    by_cases hlt : k < s.xs.length
    · obtain ⟨b, off, hA, hb, hc⟩ := StrS.at_ HS.out (k := k) hlt
      have e0 : wr.cell? ⟨b, off + k, none⟩ = some (.string s.xs[k]) := hc k hlt
      rw [hA]
      clear hA hc
      generalize s.xs[k] = y at *
      by_cases h100 : 100 < y.size
      · go_wp2_with fail
        go_ret
        exact ⟨_, rfl, hB⟩
      · go_wp2_with fail
        go_roundw
        case rel => exact ⟨k + 1, by omega, by go_num, hB, HS⟩
        case measure => simp [intOf]; omega
    · go_wp2_with fail
      go_ret
      exact ⟨_, rfl, hB⟩
end Go.Proofs.YthojaplnimoacaaGreatDoor

/- Reference 28: SameItem, Same. -/
namespace Go.Proofs.YthojaplnimoacaaGreatDoor
open Go.RowKit Go.Han
attribute [local irreducible] wpStill wpQuiet
set_option maxRecDepth 100000

theorem itemC_eq (x y : ItemG) : decide (x.c = y.c) = (decide (x.cat = y.cat) && decide (x.frm = y.frm) && decide (x.unt = y.unt) && decide (x.cost = y.cost) && decide (x.term = y.term) && decide (x.tgt.xs = y.tgt.xs)) := by
  rw [Bool.eq_iff_iff]
  simp only [decide_eq_true_eq, Bool.and_eq_true, ItemG.c, ItemC.mk.injEq]
  constructor
  · rintro ⟨a, b, c, d, e, f⟩; exact ⟨⟨⟨⟨⟨a, b⟩, c⟩, d⟩, f⟩, e⟩
  · rintro ⟨⟨⟨⟨⟨a, b⟩, c⟩, d⟩, f⟩, e⟩; exact ⟨a, b, c, d, e, f⟩
set_option maxHeartbeats 2000000 in
theorem sameItem28_any (x y : ItemG) (w : World) (hx : x.tgt.lies w) (hy : y.tgt.lies w) : Calls Tryz.prog 38 #[.agg #[.int .i64 x.cat, .int .i64 x.frm, .int .i64 x.unt, .int .i64 x.cost, .slice x.tgt.addr x.tgt.xs.length x.tgt.cap, .int .i64 x.term], .agg #[.int .i64 y.cat, .int .i64 y.frm, .int .i64 y.unt, .int .i64 y.cost, .slice y.tgt.addr y.tgt.xs.length y.tgt.cap, .int .i64 y.term]] w fun e w' => e = .returned (.bool (decide (x.c = y.c))) ∧ Below w.heap.size w w' := by
  have HE := Lib.hid (itemC_eq x y)
  obtain ⟨W1, hW1⟩ : ∃ W1, (w.alloc (.cells #[.int .i64 x.cat, .int .i64 x.frm, .int .i64 x.unt, .int .i64 x.cost, .slice x.tgt.addr x.tgt.xs.length x.tgt.cap, .int .i64 x.term] 47)).alloc (.cells #[.int .i64 y.cat, .int .i64 y.frm, .int .i64 y.unt, .int .i64 y.cost, .slice y.tgt.addr y.tgt.xs.length y.tgt.cap, .int .i64 y.term] 47) = W1 := ⟨_, rfl⟩
  have hB1 : Below w.heap.size w W1 := by rw [← hW1]; exact ext_alloc (ext_alloc (Below.refl _ _) _) _
  have hk1 : W1.heap[w.heap.size]? = some (.cells #[.int .i64 x.cat, .int .i64 x.frm, .int .i64 x.unt, .int .i64 x.cost, .slice x.tgt.addr x.tgt.xs.length x.tgt.cap, .int .i64 x.term] 47 (0, 0)) := by rw [← hW1]; exact (Below.heap_alloc _ _ _ (by simp)).trans (World.alloc_heap_new _ _)
  have hk2 : W1.heap[w.heap.size + 1]? = some (.cells #[.int .i64 y.cat, .int .i64 y.frm, .int .i64 y.unt, .int .i64 y.cost, .slice y.tgt.addr y.tgt.xs.length y.tgt.cap, .int .i64 y.term] 47 (0, 0)) := by rw [← hW1]; exact galloc_at _ _ _ (by simp)
  have cT := Lib.hid (sameTexts26_at x.tgt y.tgt W1 (StrS.lies.ext hx hB1) (StrS.lies.ext hy hB1))
  have a0 := gblk hk1 0
  have a1 := gblk hk1 1
  have a2 := gblk hk1 2
  have a3 := gblk hk1 3
  have a4 := gblk hk1 4
  have a5 := gblk hk1 5
  have b0 := gblk hk2 0
  have b1 := gblk hk2 1
  have b2 := gblk hk2 2
  have b3 := gblk hk2 3
  have b4 := gblk hk2 4
  have b5 := gblk hk2 5
  have q1 := int_beqD x.cat y.cat
  have q2 := int_beqD x.frm y.frm
  have q3 := int_beqD x.unt y.unt
  have q4 := int_beqD x.cost y.cost
  have q5 := int_beqD x.term y.term
  generalize decide (x.cat = y.cat) = f1 at *
  generalize decide (x.frm = y.frm) = f2 at *
  generalize decide (x.unt = y.unt) = f3 at *
  generalize decide (x.cost = y.cost) = f4 at *
  generalize decide (x.term = y.term) = f5 at *
  generalize decide (x.tgt.xs = y.tgt.xs) = f6 at *
  clear hk1 hk2 hx hy
  cases f1
  · go_enter Tryz.func38, Tryz.ntmps38
    go_wp2_with fail
    go_ret
    exact ⟨by rw [HE.out]; rfl, hB1⟩
  cases f2
  · go_enter Tryz.func38, Tryz.ntmps38
    go_wp2_with fail
    go_ret
    exact ⟨by rw [HE.out]; rfl, hB1⟩
  cases f3
  · go_enter Tryz.func38, Tryz.ntmps38
    go_wp2_with fail
    go_ret
    exact ⟨by rw [HE.out]; rfl, hB1⟩
  cases f4
  · go_enter Tryz.func38, Tryz.ntmps38
    go_wp2_with fail
    go_ret
    exact ⟨by rw [HE.out]; rfl, hB1⟩
  cases f5
  · go_enter Tryz.func38, Tryz.ntmps38
    go_wp2_with fail
    go_ret
    exact ⟨by rw [HE.out]; rfl, hB1⟩
  go_enter Tryz.func38, Tryz.ntmps38
  go_wp2_with fail
  refine cT.out.mono ?_
  rintro e w2 ⟨rfl, hb2⟩
  go_wp2_with fail
  go_ret
  exact ⟨by rw [HE.out]; rfl, ext_trans hB1 hb2⟩
theorem map_take_eq {α β : Type} {f : α → β} {a b : List α} {k : Nat} (ha : k < a.length) (hb : k < b.length) (h : (a.take k).map f = (b.take k).map f) (h2 : f a[k] = f b[k]) : (a.take (k + 1)).map f = (b.take (k + 1)).map f := by
  rw [List.take_succ_eq_append_getElem ha, List.take_succ_eq_append_getElem hb, List.map_append, List.map_append, h]
  simp [h2]
theorem map_get_ne {α β : Type} {f : α → β} {a b : List α} {k : Nat} (ha : k < a.length) (hb : k < b.length) (h2 : f a[k] ≠ f b[k]) : a.map f ≠ b.map f := by
  intro h
  have h3 := congrArg (fun l => l[k]?) h
  simp only [List.getElem?_map, List.getElem?_eq_getElem ha, List.getElem?_eq_getElem hb, Option.map_some, Option.some.injEq] at h3
  exact h2 h3
set_option maxHeartbeats 2000000 in
theorem same28_any (a b : SlS ItemG) (w : World) (ha : ItemsAt w a) (hb : ItemsAt w b) : Calls Tryz.prog 34 #[.slice a.addr a.xs.length a.cap, .slice b.addr b.xs.length b.cap] w fun e w' => e = .returned (.bool (decide (a.xs.map ItemG.c = b.xs.map ItemG.c))) ∧ Below w.heap.size w w' := by
  have hma : a.xs.length ≤ 9223372036854775807 := Nat.le_trans ha.lies.cap ha.lies.max
  have hmb : b.xs.length ≤ 9223372036854775807 := Nat.le_trans hb.lies.cap hb.lies.max
  by_cases hl : a.xs.length = b.xs.length
  rotate_left
  · have HF : Hid (decide (a.xs.map ItemG.c = b.xs.map ItemG.c) = false) := by
      show _ = _
      rw [decide_eq_false_iff_not]
      intro h
      have := congrArg List.length h
      simp at this
      exact hl this
    have q : ((a.xs.length : Int) != (b.xs.length : Int)) = true := by simp; omega
    clear hl ha hb
    go_enter Tryz.func34, Tryz.ntmps34
    go_wp2_with fail
    go_ret
    exact ⟨by rw [HF.out]; rfl, Below.refl _ _⟩
  have Ha := Lib.hid ha
  have Hb := Lib.hid hb
  have Hl := Lib.hid hl
  have q : ((a.xs.length : Int) != (b.xs.length : Int)) = false := by simp [hl]
  clear ha hb hl
  go_enter Tryz.func34, Tryz.ntmps34
  go_wp2_with fail
  go_loopw [5] (fun iv wr => ∃ k : Nat, k ≤ a.xs.length ∧ iv = .int .i64 k ∧ Below w.heap.size w wr ∧ Hid ((a.xs.take k).map ItemG.c = (b.xs.take k).map ItemG.c)) (fun iv _ => a.xs.length - (intOf iv).toNat)
  case atStart => exact ⟨0, Nat.zero_le _, rfl, Below.refl _ _, by show _ = _; simp⟩
  case round =>
    obtain ⟨k, hk, rfl, hB, HT⟩ := hrel
    by_cases hlt : k < a.xs.length
    · have hltb : k < b.xs.length := by have := Hl.out; omega
      obtain ⟨ab, ao, hA, hab, hca⟩ := (Ha.out.ext hB).lies.at_ ItemG.size_cells (by omega) hlt
      obtain ⟨bb, bo, hB', hbb, hcb⟩ := (Hb.out.ext hB).lies.at_ ItemG.size_cells (by omega) hltb
      have d0 : wr.cell? ⟨ab, ao + k * 6, none⟩ = some (.int .i64 a.xs[k].cat) := hca k hlt wr (Below.refl _ _) 0 _ rfl
      have d1 : wr.cell? ⟨ab, ao + k * 6 + 1, none⟩ = some (.int .i64 a.xs[k].frm) := hca k hlt wr (Below.refl _ _) 1 _ rfl
      have d2 : wr.cell? ⟨ab, ao + k * 6 + 2, none⟩ = some (.int .i64 a.xs[k].unt) := hca k hlt wr (Below.refl _ _) 2 _ rfl
      have d3 : wr.cell? ⟨ab, ao + k * 6 + 3, none⟩ = some (.int .i64 a.xs[k].cost) := hca k hlt wr (Below.refl _ _) 3 _ rfl
      have d4 : wr.cell? ⟨ab, ao + k * 6 + 4, none⟩ = some (.slice a.xs[k].tgt.addr a.xs[k].tgt.xs.length a.xs[k].tgt.cap) := hca k hlt wr (Below.refl _ _) 4 _ rfl
      have d5 : wr.cell? ⟨ab, ao + k * 6 + 5, none⟩ = some (.int .i64 a.xs[k].term) := hca k hlt wr (Below.refl _ _) 5 _ rfl
      have e0 : wr.cell? ⟨bb, bo + k * 6, none⟩ = some (.int .i64 b.xs[k].cat) := hcb k hltb wr (Below.refl _ _) 0 _ rfl
      have e1 : wr.cell? ⟨bb, bo + k * 6 + 1, none⟩ = some (.int .i64 b.xs[k].frm) := hcb k hltb wr (Below.refl _ _) 1 _ rfl
      have e2 : wr.cell? ⟨bb, bo + k * 6 + 2, none⟩ = some (.int .i64 b.xs[k].unt) := hcb k hltb wr (Below.refl _ _) 2 _ rfl
      have e3 : wr.cell? ⟨bb, bo + k * 6 + 3, none⟩ = some (.int .i64 b.xs[k].cost) := hcb k hltb wr (Below.refl _ _) 3 _ rfl
      have e4 : wr.cell? ⟨bb, bo + k * 6 + 4, none⟩ = some (.slice b.xs[k].tgt.addr b.xs[k].tgt.xs.length b.xs[k].tgt.cap) := hcb k hltb wr (Below.refl _ _) 4 _ rfl
      have e5 : wr.cell? ⟨bb, bo + k * 6 + 5, none⟩ = some (.int .i64 b.xs[k].term) := hcb k hltb wr (Below.refl _ _) 5 _ rfl
      have hT1 := (Ha.out.ext hB).tgt _ (List.getElem_mem hlt)
      have hT2 := (Hb.out.ext hB).tgt _ (List.getElem_mem hltb)
      have cS := Lib.hid (sameItem28_any a.xs[k] b.xs[k] wr.drew (hT1.ext (ext_drew (Below.refl _ _))) (hT2.ext (ext_drew (Below.refl _ _))))
      have HT2 : Hid (decide (a.xs[k].c = b.xs[k].c) = true → (a.xs.take (k + 1)).map ItemG.c = (b.xs.take (k + 1)).map ItemG.c) := fun h => map_take_eq hlt hltb HT.out (by simpa using h)
      have HF2 : Hid (decide (a.xs[k].c = b.xs[k].c) = false → decide (a.xs.map ItemG.c = b.xs.map ItemG.c) = false) := fun h => by
        rw [decide_eq_false_iff_not] at h ⊢
        exact map_get_ne hlt hltb h
      rw [hA, hB']
      clear hca hcb hA hB' hT1 hT2 HT
      generalize a.xs[k] = x at *
      generalize b.xs[k] = y at *
      generalize decide (x.c = y.c) = f at *
      go_wp2_with fail
      go_still_tail 8, (by kernel_rfl)
      go_wp2_with fail
      clear d0 d1 d2 d3 d4 d5 e0 e1 e2 e3 e4 e5
      refine cS.out.mono ?_
      rintro e w4 ⟨rfl, hb4⟩
      have hB4 := ext_trans hB (ext_trans (ext_drew (Below.refl _ _)) hb4)
      cases f
      · have HF3 := Lib.hid (HF2.out rfl)
        clear HF2 HT2
        go_wp2_with fail
        go_ret
        exact ⟨by rw [HF3.out]; rfl, hB4⟩
      · have HT3 := Lib.hid (HT2.out rfl)
        clear HF2 HT2
        go_wp2_with fail
        go_roundw
        case rel => exact ⟨k + 1, by omega, by go_num, hB4, HT3⟩
        case measure => simp [intOf]; omega
    · have HF : Hid (decide (a.xs.map ItemG.c = b.xs.map ItemG.c) = true) := by
        have h := HT.out
        have := Hl.out
        rw [List.take_of_length_le (by omega), List.take_of_length_le (by omega)] at h
        show _ = _
        simpa using h
      go_wp2_with fail
      go_ret
      exact ⟨by rw [HF.out]; rfl, hB⟩
end Go.Proofs.YthojaplnimoacaaGreatDoor

/- TagsSpec. -/
namespace Go.Proofs.YthojaplnimoacaaGreatDoor
open Go.RowKit Go.Han
attribute [local irreducible] wpStill wpQuiet
set_option maxRecDepth 100000

/-- What the laws ask of sane. -/
def SaneOk : Prop := ∀ W : World, TabsG W → Calls Tryz.prog 30 #[] W fun e w' => e = .returned (.bool true) ∧ Below W.heap.size W w'
theorem items_empty (w : World) : ItemsAt w ⟨none, 0, []⟩ := ⟨⟨Rd.nil _ _, by simp, by simp, fun _ => rfl⟩, fun x hx => by cases hx⟩
/-- The end of Items, in one form. -/
theorem itemsPost_out {g : Gram} {l : List Term} {lang : Int} {ws : List ByteArray} {t u : Int} {w w' : World} {e : Ending} (h : ItemsPost g l lang ws t u w e w') :
    Below w.heap.size w w' ∧ ∃ its : SlS ItemG, e = .returned (.tuple #[.slice its.addr its.xs.length its.cap, .int .i64 (tagsE g l lang ws t u)]) ∧ its.xs.map ItemG.c = (if tagsE g l lang ws t u = 0 then tagsC g (standT l lang t u) ws else []) ∧ ItemsAt w' its := by
  obtain ⟨hb, ⟨hne, rfl⟩ | ⟨hz, its, rfl, hm, hi⟩⟩ := h
  · exact ⟨hb, ⟨none, 0, []⟩, rfl, by rw [if_neg hne]; rfl, items_empty _⟩
  · exact ⟨hb, its, by rw [hz], by rw [if_pos hz]; exact hm, hi⟩
set_option maxHeartbeats 4000000 in
theorem TagsSpec_any (hsane : SaneOk) (g : Gram) (A : Option Addr) (cp : Nat) (l : List Term) (lang : Int) (s : StrS) (t u : Int) (w : World) (hT : TabsG w) (hg : g.lies w) (hgs : g.short) (hr : TermsAt w A l) (hm : l.length ≤ 9223372036854775807) (hs : s.lies w) :
    Calls Tryz.prog 10 #[.agg #[.string g.name, .slice g.cats.addr g.cats.xs.length g.cats.cap, .string g.start, .int .i64 g.startNo, .slice g.entries.addr g.entries.xs.length g.entries.cap, .slice g.rules.addr g.rules.xs.length g.rules.cap], .slice A l.length cp, .int .i64 lang, .slice s.addr s.xs.length s.cap, .int .i64 t, .int .i64 u] w fun e w' => e = .returned (.bool true) ∧ Below w.heap.size w w' := by
  obtain ⟨W1, hW1⟩ : ∃ W1, w.alloc (.cells #[.string g.name, .slice g.cats.addr g.cats.xs.length g.cats.cap, .string g.start, .int .i64 g.startNo, .slice g.entries.addr g.entries.xs.length g.entries.cap, .slice g.rules.addr g.rules.xs.length g.rules.cap] 26) = W1 := ⟨_, rfl⟩
  have hB1 : Below w.heap.size w W1 := by rw [← hW1]; exact ext_alloc (Below.refl _ _) _
  have hk : W1.heap[w.heap.size]? = some (.cells #[.string g.name, .slice g.cats.addr g.cats.xs.length g.cats.cap, .string g.start, .int .i64 g.startNo, .slice g.entries.addr g.entries.xs.length g.entries.cap, .slice g.rules.addr g.rules.xs.length g.rules.cap] 26 (0, 0)) := by rw [← hW1]; exact World.alloc_heap_new _ _
  have F0 := Lib.hid (hsane W1 (hT.ext hB1))
  have FF := Lib.hid (fun V (hV : Below w.heap.size w V) => few28_any g A cp l s V (hg.ext hV) hm (hs.ext hV))
  have FA := Lib.hid (fun V (hV : Below w.heap.size w V) => Items_any g A cp l lang s t u V (hT.ext hV) (hg.ext hV) hgs (hr.ext hV) hm (hs.ext hV))
  have FB := Lib.hid (fun V (hV : Below w.heap.size w V) => Items28_any g A cp l lang s t u V (hg.ext hV) (hr.ext hV) hm (hs.ext hV))
  have Hk := Lib.hid hk
  clear hT hg hgs hr hm hs hsane hk
  go_enter Tryz.func10, Tryz.ntmps10
  go_wp2_with fail
  clear hW1
  refine F0.out.mono ?_
  rintro e w2 ⟨rfl, hb2⟩
  have hB2 := ext_trans hB1 hb2
  have hk2 := (hb2.block _ (lt_block Hk.out)).trans Hk.out
  have Hk2 := Lib.hid hk2
  have c0 := gblk hk2 0
  have c1 := gblk hk2 1
  have c2 := gblk hk2 2
  have c3 := gblk hk2 3
  have c4 := gblk hk2 4
  have c5 := gblk hk2 5
  clear F0 hk2
  go_wp2_with fail
  refine (FF.out w2 hB2).mono ?_
  rintro e w3 ⟨b, rfl, hb3⟩
  have hB3 := ext_trans hB2 hb3
  have hk3 := (hb3.block _ (lt_block Hk2.out)).trans Hk2.out
  have Hk3 := Lib.hid hk3
  clear c0 c1 c2 c3 c4 c5 FF
  cases b
  · go_wp2_with fail
    go_ret
    exact ⟨rfl, hB3⟩
  have c0 := gblk hk3 0
  have c1 := gblk hk3 1
  have c2 := gblk hk3 2
  have c3 := gblk hk3 3
  have c4 := gblk hk3 4
  have c5 := gblk hk3 5
  clear hk3
  go_wp2_with fail
  refine (FA.out w3 hB3).mono ?_
  intro e w4 h4
  obtain ⟨hb4, ia, rfl, hma, hia⟩ := itemsPost_out h4
  have hB4 := ext_trans hB3 hb4
  have hk4 := (hb4.block _ (lt_block Hk3.out)).trans Hk3.out
  clear c0 c1 c2 c3 c4 c5 FA h4
  have c0 := gblk hk4 0
  have c1 := gblk hk4 1
  have c2 := gblk hk4 2
  have c3 := gblk hk4 3
  have c4 := gblk hk4 4
  have c5 := gblk hk4 5
  go_wp2_with fail
  refine (FB.out w4 hB4).mono ?_
  intro e w5 h5
  obtain ⟨hb5, ib, rfl, hmb, hib⟩ := itemsPost_out h5
  have hB5 := ext_trans hB4 hb5
  have cS := Lib.hid (same28_any ia ib w5 (hia.ext hb5) hib)
  rw [hma, hmb, decide_eq_true rfl] at cS
  generalize tagsE g l lang s.xs t u = r at *
  clear c0 c1 c2 c3 c4 c5 FB h5 hma hmb hia hib hk4
  go_wp2_with fail
  refine cS.out.mono ?_
  rintro e w6 ⟨rfl, hb6⟩
  have hB6 := ext_trans hB5 hb6
  clear cS
  go_wp2_with fail
  go_ret
  exact ⟨by simp, hB6⟩
end Go.Proofs.YthojaplnimoacaaGreatDoor

/- The examples with which the statements about tags begin: small, own, on. -/
namespace Go.Proofs.YthojaplnimoacaaGreatDoor
open Go.RowKit Go.Han
attribute [local irreducible] wpStill wpQuiet
set_option maxRecDepth 100000

def bNoun : ByteArray := ⟨#[110, 111, 117, 110]⟩
def bVerb : ByteArray := ⟨#[118, 101, 114, 98]⟩
def bGeh : ByteArray := ⟨#[103, 101, 104]⟩
def bGo : ByteArray := ⟨#[103, 111]⟩
def bGerman : ByteArray := ⟨#[103, 101, 114, 109, 97, 110]⟩
def bOn : ByteArray := ⟨#[111, 110]⟩
/-- The small grammar, where it lies. -/
def smallG (a b c : Nat) : Gram := ⟨bGerman, ⟨some ⟨a, 0, none⟩, 2, [bNoun, bVerb]⟩, bNoun, 0, ⟨some ⟨c, 0, none⟩, 1, [⟨bGo, bVerb, 1, ⟨some ⟨b, 0, none⟩, 1, [bGeh]⟩, 3⟩]⟩, ⟨none, 0, []⟩⟩
theorem small_short (a b c : Nat) : (smallG a b c).short := by
  refine ⟨fun s hs => ?_, by show 4 ≤ maxLen; unfold maxLen; omega, fun x hx => ?_, fun x hx => (by cases hx), fun x hx => (by cases hx)⟩
  · simp only [smallG, List.mem_cons, List.not_mem_nil, or_false] at hs
    rcases hs with rfl | rfl
    · show 4 ≤ maxLen; unfold maxLen; omega
    · show 4 ≤ maxLen; unfold maxLen; omega
  · simp only [smallG, List.mem_cons, List.not_mem_nil, or_false] at hx
    subst hx
    show 4 ≤ maxLen; unfold maxLen; omega
def OwnItem (w : World) (c : ItemC) (e : Ending) (w' : World) : Prop := ∃ x : ItemG, e = .returned (.agg #[.int .i64 x.cat, .int .i64 x.frm, .int .i64 x.unt, .int .i64 x.cost, .slice x.tgt.addr x.tgt.xs.length x.tgt.cap, .int .i64 x.term]) ∧ x.c = c ∧ x.tgt.lies w' ∧ Below w.heap.size w w'
set_option maxHeartbeats 1000000 in
theorem own28_any (i : Nat) (s : ByteArray) (w : World) (hi : i ≤ 100) : Calls Tryz.prog 39 #[.int .i64 (i : Int), .string s] w (OwnItem w (ownWC i s)) := by
  have hwr : IntKind.i64.wrap ((i : Int) + 1) = (i : Int) + 1 := IntWalk.i64_in _ (by omega)
  go_enter Tryz.func39, Tryz.ntmps39
  go_wp2_with fail
  have hB : Below w.heap.size w ((w.alloc (.cells #[.int .i64 (-1), .int .i64 (i : Int), .int .i64 ((i : Int) + 1), .int .i64 0, .slice (some ⟨w.heap.size + 1, 0, none⟩) 1 1, .int .i64 (-1)] 47)).alloc (.cells #[.string s] 9)) := ext_alloc (ext_alloc (Below.refl _ _) _) _
  have hx : ((w.alloc (.cells #[.int .i64 (-1), .int .i64 (i : Int), .int .i64 ((i : Int) + 1), .int .i64 0, .slice (some ⟨w.heap.size + 1, 0, none⟩) 1 1, .int .i64 (-1)] 47)).alloc (.cells #[.string s] 9)).heap[w.heap.size]? = some (.cells #[.int .i64 (-1), .int .i64 (i : Int), .int .i64 ((i : Int) + 1), .int .i64 0, .slice (some ⟨w.heap.size + 1, 0, none⟩) 1 1, .int .i64 (-1)] 47 (0, 0)) := (Below.heap_alloc _ _ _ (by simp)).trans (World.alloc_heap_new _ _)
  have hl := (far_new (B := 0) (V := w.alloc (.cells #[.int .i64 (-1), .int .i64 (i : Int), .int .i64 ((i : Int) + 1), .int .i64 0, .slice (some ⟨w.heap.size + 1, 0, none⟩) 1 1, .int .i64 (-1)] 47)) (s := s) (Below.refl _ _)).1
  rw [World.size_alloc] at hl
  generalize (w.alloc (.cells #[.int .i64 (-1), .int .i64 (i : Int), .int .i64 ((i : Int) + 1), .int .i64 0, .slice (some ⟨w.heap.size + 1, 0, none⟩) 1 1, .int .i64 (-1)] 47)).alloc (.cells #[.string s] 9) = W2 at *
  have z0 := gblk hx 0
  have z1 := gblk hx 1
  have z2 := gblk hx 2
  have z3 := gblk hx 3
  have z4 := gblk hx 4
  have z5 := gblk hx 5
  exact bodyPost_ret (v := .agg #[.int .i64 (-1), .int .i64 (i : Int), .int .i64 ((i : Int) + 1), .int .i64 0, .slice (some ⟨w.heap.size + 1, 0, none⟩) 1 1, .int .i64 (-1)]) (by simp [results, Tryz.results39, go_sem, z0, z1, z2, z3, z4, z5]) rfl ⟨⟨-1, i, (i : Int) + 1, 0, ⟨some ⟨w.heap.size + 1, 0, none⟩, 1, [s]⟩, -1⟩, rfl, rfl, hl, hB⟩
set_option maxHeartbeats 1000000 in
theorem on28_any (i c : Nat) (w : World) (hi : i ≤ 100) : Calls Tryz.prog 64 #[.int .i64 (i : Int), .int .i64 (c : Int)] w (OwnItem w ⟨(c : Int), i, i + 1, 100, [bOn], -1⟩) := by
  have hwr : IntKind.i64.wrap ((i : Int) + 1) = (i : Int) + 1 := IntWalk.i64_in _ (by omega)
  go_enter Tryz.func64, Tryz.ntmps64
  go_wp2_with fail
  have hB : Below w.heap.size w ((w.alloc (.cells #[.int .i64 (c : Int), .int .i64 (i : Int), .int .i64 ((i : Int) + 1), .int .i64 100, .slice (some ⟨w.heap.size + 1, 0, none⟩) 1 1, .int .i64 (-1)] 47)).alloc (.cells #[.string bOn] 9)) := ext_alloc (ext_alloc (Below.refl _ _) _) _
  have hx : ((w.alloc (.cells #[.int .i64 (c : Int), .int .i64 (i : Int), .int .i64 ((i : Int) + 1), .int .i64 100, .slice (some ⟨w.heap.size + 1, 0, none⟩) 1 1, .int .i64 (-1)] 47)).alloc (.cells #[.string bOn] 9)).heap[w.heap.size]? = some (.cells #[.int .i64 (c : Int), .int .i64 (i : Int), .int .i64 ((i : Int) + 1), .int .i64 100, .slice (some ⟨w.heap.size + 1, 0, none⟩) 1 1, .int .i64 (-1)] 47 (0, 0)) := (Below.heap_alloc _ _ _ (by simp)).trans (World.alloc_heap_new _ _)
  have hl := (far_new (B := 0) (V := w.alloc (.cells #[.int .i64 (c : Int), .int .i64 (i : Int), .int .i64 ((i : Int) + 1), .int .i64 100, .slice (some ⟨w.heap.size + 1, 0, none⟩) 1 1, .int .i64 (-1)] 47)) (s := bOn) (Below.refl _ _)).1
  rw [World.size_alloc] at hl
  change bodyPost _ _ _ _ _ ((w.alloc (.cells #[.int .i64 (c : Int), .int .i64 (i : Int), .int .i64 ((i : Int) + 1), .int .i64 100, .slice (some ⟨w.heap.size + 1, 0, none⟩) 1 1, .int .i64 (-1)] 47)).alloc (.cells #[.string bOn] 9))
  generalize (w.alloc (.cells #[.int .i64 (c : Int), .int .i64 (i : Int), .int .i64 ((i : Int) + 1), .int .i64 100, .slice (some ⟨w.heap.size + 1, 0, none⟩) 1 1, .int .i64 (-1)] 47)).alloc (.cells #[.string bOn] 9) = W2 at *
  have z0 := gblk hx 0
  have z1 := gblk hx 1
  have z2 := gblk hx 2
  have z3 := gblk hx 3
  have z4 := gblk hx 4
  have z5 := gblk hx 5
  exact bodyPost_ret (v := .agg #[.int .i64 (c : Int), .int .i64 (i : Int), .int .i64 ((i : Int) + 1), .int .i64 100, .slice (some ⟨w.heap.size + 1, 0, none⟩) 1 1, .int .i64 (-1)]) (by simp [results, Tryz.results64, go_sem, z0, z1, z2, z3, z4, z5]) rfl ⟨⟨(c : Int), i, (i : Int) + 1, 100, ⟨some ⟨w.heap.size + 1, 0, none⟩, 1, [bOn]⟩, -1⟩, rfl, rfl, hl, hB⟩
set_option maxHeartbeats 1000000 in
theorem small28_any (w : World) : Calls Tryz.prog 63 #[] w fun e w' => ∃ a b c, e = .returned (.agg (smallG a b c).cells.toArray) ∧ (smallG a b c).lies w' ∧ Below w.heap.size w w' := by
  go_enter Tryz.func63, Tryz.ntmps63
  go_wp2_with fail
  have hB : Below w.heap.size w ((((w.alloc (.cells #[.string ⟨#[103, 101, 114, 109, 97, 110]⟩, .slice (some ⟨w.heap.size + 1, 0, none⟩) 2 2, .string ⟨#[110, 111, 117, 110]⟩, .int .i64 0, .slice (some ⟨w.heap.size + 1 + 1 + 1, 0, none⟩) 1 1, .slice none 0 0] 26)).alloc (.cells #[.string ⟨#[110, 111, 117, 110]⟩, .string ⟨#[118, 101, 114, 98]⟩] 9)).alloc (.cells #[.string ⟨#[103, 101, 104]⟩] 9)).alloc (.cells #[.string ⟨#[103, 111]⟩, .string ⟨#[118, 101, 114, 98]⟩, .int .i64 1, .slice (some ⟨w.heap.size + 1 + 1, 0, none⟩) 1 1, .int .i64 3] 70)) := ext_alloc (ext_alloc (ext_alloc (ext_alloc (Below.refl _ _) _) _) _) _
  have hG : ((((w.alloc (.cells #[.string ⟨#[103, 101, 114, 109, 97, 110]⟩, .slice (some ⟨w.heap.size + 1, 0, none⟩) 2 2, .string ⟨#[110, 111, 117, 110]⟩, .int .i64 0, .slice (some ⟨w.heap.size + 1 + 1 + 1, 0, none⟩) 1 1, .slice none 0 0] 26)).alloc (.cells #[.string ⟨#[110, 111, 117, 110]⟩, .string ⟨#[118, 101, 114, 98]⟩] 9)).alloc (.cells #[.string ⟨#[103, 101, 104]⟩] 9)).alloc (.cells #[.string ⟨#[103, 111]⟩, .string ⟨#[118, 101, 114, 98]⟩, .int .i64 1, .slice (some ⟨w.heap.size + 1 + 1, 0, none⟩) 1 1, .int .i64 3] 70)).heap[w.heap.size]? = some (.cells #[.string ⟨#[103, 101, 114, 109, 97, 110]⟩, .slice (some ⟨w.heap.size + 1, 0, none⟩) 2 2, .string ⟨#[110, 111, 117, 110]⟩, .int .i64 0, .slice (some ⟨w.heap.size + 1 + 1 + 1, 0, none⟩) 1 1, .slice none 0 0] 26 (0, 0)) := (Below.heap_alloc _ _ _ (by simp only [World.size_alloc]; omega)).trans ((Below.heap_alloc _ _ _ (by simp only [World.size_alloc]; omega)).trans ((Below.heap_alloc _ _ _ (by simp)).trans (World.alloc_heap_new _ _)))
  have hC : ((((w.alloc (.cells #[.string ⟨#[103, 101, 114, 109, 97, 110]⟩, .slice (some ⟨w.heap.size + 1, 0, none⟩) 2 2, .string ⟨#[110, 111, 117, 110]⟩, .int .i64 0, .slice (some ⟨w.heap.size + 1 + 1 + 1, 0, none⟩) 1 1, .slice none 0 0] 26)).alloc (.cells #[.string ⟨#[110, 111, 117, 110]⟩, .string ⟨#[118, 101, 114, 98]⟩] 9)).alloc (.cells #[.string ⟨#[103, 101, 104]⟩] 9)).alloc (.cells #[.string ⟨#[103, 111]⟩, .string ⟨#[118, 101, 114, 98]⟩, .int .i64 1, .slice (some ⟨w.heap.size + 1 + 1, 0, none⟩) 1 1, .int .i64 3] 70)).heap[w.heap.size + 1]? = some (.cells #[.string ⟨#[110, 111, 117, 110]⟩, .string ⟨#[118, 101, 114, 98]⟩] 9 (0, 0)) := (Below.heap_alloc _ _ _ (by simp only [World.size_alloc]; omega)).trans ((Below.heap_alloc _ _ _ (by simp)).trans (galloc_at _ _ _ (by simp)))
  have hV : ((((w.alloc (.cells #[.string ⟨#[103, 101, 114, 109, 97, 110]⟩, .slice (some ⟨w.heap.size + 1, 0, none⟩) 2 2, .string ⟨#[110, 111, 117, 110]⟩, .int .i64 0, .slice (some ⟨w.heap.size + 1 + 1 + 1, 0, none⟩) 1 1, .slice none 0 0] 26)).alloc (.cells #[.string ⟨#[110, 111, 117, 110]⟩, .string ⟨#[118, 101, 114, 98]⟩] 9)).alloc (.cells #[.string ⟨#[103, 101, 104]⟩] 9)).alloc (.cells #[.string ⟨#[103, 111]⟩, .string ⟨#[118, 101, 114, 98]⟩, .int .i64 1, .slice (some ⟨w.heap.size + 1 + 1, 0, none⟩) 1 1, .int .i64 3] 70)).heap[w.heap.size + 1 + 1]? = some (.cells #[.string ⟨#[103, 101, 104]⟩] 9 (0, 0)) := (Below.heap_alloc _ _ _ (by simp)).trans (galloc_at _ _ _ (by simp))
  have hE : ((((w.alloc (.cells #[.string ⟨#[103, 101, 114, 109, 97, 110]⟩, .slice (some ⟨w.heap.size + 1, 0, none⟩) 2 2, .string ⟨#[110, 111, 117, 110]⟩, .int .i64 0, .slice (some ⟨w.heap.size + 1 + 1 + 1, 0, none⟩) 1 1, .slice none 0 0] 26)).alloc (.cells #[.string ⟨#[110, 111, 117, 110]⟩, .string ⟨#[118, 101, 114, 98]⟩] 9)).alloc (.cells #[.string ⟨#[103, 101, 104]⟩] 9)).alloc (.cells #[.string ⟨#[103, 111]⟩, .string ⟨#[118, 101, 114, 98]⟩, .int .i64 1, .slice (some ⟨w.heap.size + 1 + 1, 0, none⟩) 1 1, .int .i64 3] 70)).heap[w.heap.size + 1 + 1 + 1]? = some (.cells #[.string ⟨#[103, 111]⟩, .string ⟨#[118, 101, 114, 98]⟩, .int .i64 1, .slice (some ⟨w.heap.size + 1 + 1, 0, none⟩) 1 1, .int .i64 3] 70 (0, 0)) := galloc_at _ _ _ (by simp)
  change bodyPost _ _ _ _ _ ((((w.alloc (.cells #[.string ⟨#[103, 101, 114, 109, 97, 110]⟩, .slice (some ⟨w.heap.size + 1, 0, none⟩) 2 2, .string ⟨#[110, 111, 117, 110]⟩, .int .i64 0, .slice (some ⟨w.heap.size + 1 + 1 + 1, 0, none⟩) 1 1, .slice none 0 0] 26)).alloc (.cells #[.string ⟨#[110, 111, 117, 110]⟩, .string ⟨#[118, 101, 114, 98]⟩] 9)).alloc (.cells #[.string ⟨#[103, 101, 104]⟩] 9)).alloc (.cells #[.string ⟨#[103, 111]⟩, .string ⟨#[118, 101, 114, 98]⟩, .int .i64 1, .slice (some ⟨w.heap.size + 1 + 1, 0, none⟩) 1 1, .int .i64 3] 70))
  generalize ((((w.alloc (.cells #[.string ⟨#[103, 101, 114, 109, 97, 110]⟩, .slice (some ⟨w.heap.size + 1, 0, none⟩) 2 2, .string ⟨#[110, 111, 117, 110]⟩, .int .i64 0, .slice (some ⟨w.heap.size + 1 + 1 + 1, 0, none⟩) 1 1, .slice none 0 0] 26)).alloc (.cells #[.string ⟨#[110, 111, 117, 110]⟩, .string ⟨#[118, 101, 114, 98]⟩] 9)).alloc (.cells #[.string ⟨#[103, 101, 104]⟩] 9)).alloc (.cells #[.string ⟨#[103, 111]⟩, .string ⟨#[118, 101, 114, 98]⟩, .int .i64 1, .slice (some ⟨w.heap.size + 1 + 1, 0, none⟩) 1 1, .int .i64 3] 70)) = W2 at *
  have z0 := gblk hG 0
  have z1 := gblk hG 1
  have z2 := gblk hG 2
  have z3 := gblk hG 3
  have z4 := gblk hG 4
  have z5 := gblk hG 5
  refine bodyPost_ret (v := .agg (smallG (w.heap.size + 1) (w.heap.size + 1 + 1) (w.heap.size + 1 + 1 + 1)).cells.toArray) ?_ rfl ⟨_, _, _, rfl, ⟨⟨grd_blk hC rfl, by simp [smallG], by simp [smallG], fun h => by cases h⟩, ⟨grd_blk hE rfl, by simp [smallG], by simp [smallG], fun h => by cases h⟩, fun x hx => ?_, ⟨Rd.nil _ _, by simp [smallG], by simp [smallG], fun _ => rfl⟩, fun x hx => by cases hx⟩, hB⟩
  · simp [results, Tryz.results63, go_sem, z0, z1, z2, z3, z4, z5, smallG, Gram.cells, bNoun, bGerman]
  · simp only [smallG, List.mem_cons, List.not_mem_nil, or_false] at hx
    subst hx
    exact ⟨grd_blk hV rfl, by simp, by simp, fun h => by cases h⟩
end Go.Proofs.YthojaplnimoacaaGreatDoor

/- The examples with which the statements about tags begin: are. -/
namespace Go.Proofs.YthojaplnimoacaaGreatDoor
open Go.RowKit Go.Han
attribute [local irreducible] wpStill wpQuiet
set_option maxRecDepth 100000
set_option maxHeartbeats 2000000 in
theorem are28_any (A : Option Addr) (cp : Nat) (l : List Term) (s : StrS) (want : SlS ItemG) (w : World) (hT : TabsG w) (hr : TermsAt w A l) (hm : l.length ≤ 9223372036854775807) (hs : s.lies w) (hw : ItemsAt w want)
    (hz : ∀ a b c, tagsE (smallG a b c) l 1 s.xs 5 5 = 0) (heq : ∀ a b c, tagsC (smallG a b c) (standT l 1 5 5) s.xs = want.xs.map ItemG.c) :
    Calls Tryz.prog 65 #[.slice A l.length cp, .slice s.addr s.xs.length s.cap, .slice want.addr want.xs.length want.cap] w fun e w' => e = .returned (.bool true) ∧ Below w.heap.size w w' := by
  have F0 := Lib.hid (small28_any w)
  have FA := Lib.hid (fun a b c V (hV : Below w.heap.size w V) (hG : (smallG a b c).lies V) => Items_any (smallG a b c) A cp l 1 s 5 5 V (hT.ext hV) hG (small_short a b c) (hr.ext hV) hm (hs.ext hV))
  have HW := Lib.hid hw
  have Hz := Lib.hid hz
  have Heq := Lib.hid heq
  clear hT hr hm hs hw hz heq
  go_enter Tryz.func65, Tryz.ntmps65
  go_wp2_with fail
  refine F0.out.mono ?_
  rintro e w2 ⟨a, b, c, rfl, hG, hb2⟩
  have cA := Lib.hid (FA.out a b c w2 hb2 hG)
  rw [show (smallG a b c).cells.toArray = #[.string (smallG a b c).name, .slice (smallG a b c).cats.addr (smallG a b c).cats.xs.length (smallG a b c).cats.cap, .string (smallG a b c).start, .int .i64 (smallG a b c).startNo, .slice (smallG a b c).entries.addr (smallG a b c).entries.xs.length (smallG a b c).entries.cap, .slice (smallG a b c).rules.addr (smallG a b c).rules.xs.length (smallG a b c).rules.cap] from rfl]
  clear F0 FA hG
  have Hz2 := Lib.hid (Hz.out a b c)
  have Heq2 := Lib.hid (Heq.out a b c)
  generalize smallG a b c = G at *
  go_wp2_with fail
  refine cA.out.mono ?_
  intro e w4 h4
  obtain ⟨hb4, ia, rfl, hma, hia⟩ := itemsPost_out h4
  rw [Hz2.out, if_pos rfl, Heq2.out] at hma
  rw [Hz2.out]
  have hB4 := ext_trans hb2 hb4
  have cS := Lib.hid (same28_any ia want w4 hia (by exact ⟨HW.out.lies.ext hB4, fun x hx => StrS.lies.ext (HW.out.tgt x hx) hB4⟩))
  rw [hma, decide_eq_true rfl] at cS
  clear cA h4 hma hia
  go_wp2_with fail
  refine cS.out.mono ?_
  rintro e w6 ⟨rfl, hb6⟩
  have hB6 := ext_trans hB4 hb6
  clear cS
  go_wp2_with fail
  go_ret
  exact ⟨rfl, hB6⟩
end Go.Proofs.YthojaplnimoacaaGreatDoor

/- The examples with which the statements about tags begin, in plain Lean. -/
namespace Go.Proofs.YthojaplnimoacaaGreatDoor
open Go.RowKit Go.Han
set_option maxRecDepth 100000

def bWeiter : ByteArray := ⟨#[119, 101, 105, 116, 101, 114]⟩
def bAB : ByteArray := ⟨#[97, 32, 98]⟩
def zG28 : Gram := ⟨⟨#[]⟩, ⟨none, 0, []⟩, ⟨#[]⟩, 0, ⟨none, 0, []⟩, ⟨none, 0, []⟩⟩
def zT28 : Term := ⟨0, 0, 0, 0, ⟨none, 0, []⟩, ⟨none, 0, []⟩, ⟨#[]⟩, false⟩
def pointT (p q : Option Addr) : Term := ⟨7, 0, 0, 1, ⟨p, 2, [bGo, bOn]⟩, ⟨q, 1, [bWeiter]⟩, bVerb, false⟩
theorem zero_short : zG28.short := ⟨fun s hs => (by cases hs), Nat.zero_le _, fun x hx => (by cases hx), fun x hx => (by cases hx), fun x hx => (by cases hx)⟩
theorem zero_lies (w : World) : zG28.lies w := ⟨⟨Rd.nil _ _, by simp [zG28], by simp [zG28], fun _ => rfl⟩, ⟨Rd.nil _ _, by simp [zG28], by simp [zG28], fun _ => rfl⟩, fun x hx => (by cases hx), ⟨Rd.nil _ _, by simp [zG28], by simp [zG28], fun _ => rfl⟩, fun x hx => (by cases hx)⟩
variable (a b c : Nat) (p q : Option Addr)
theorem ex8_1 : tagsE (smallG a b c) [] 1 (List.replicate 17 ⟨#[]⟩) 0 0 = 2 := by kernel_rfl
theorem ex8_2 : tagsE (smallG a b c) [] 1 [bAB] 0 0 = 280 := by kernel_rfl
theorem ex8_4 : tagsE (smallG a b c) [] 32 [] 0 0 = 1 := by kernel_rfl
theorem ex8_5 : tagsE (smallG a b c) [zT28] 0 [] 0 0 = 270 := by kernel_rfl
theorem ex8_6 : tagsE (smallG a b c) [] 1 [] 5 5 = 0 := by kernel_rfl
theorem ex8_6c : tagsC (smallG a b c) (standT [] 1 5 5) [] = [] := by kernel_rfl
theorem ex8_7 : tagsE (smallG a b c) [] 1 [bOn] 5 5 = 0 := by kernel_rfl
theorem ex8_7c : tagsC (smallG a b c) (standT [] 1 5 5) [bOn] = [ownWC 0 bOn, ⟨0, 0, 1, 100, [bOn], -1⟩, ⟨1, 0, 1, 100, [bOn], -1⟩] := by kernel_rfl
theorem ex8_8 : tagsE (smallG a b c) [pointT p q] 1 [bGo, bOn] 5 5 = 0 := by kernel_rfl
theorem ex8_8c : tagsC (smallG a b c) (standT [pointT p q] 1 5 5) [bGo, bOn] = [ownWC 0 bGo, ownWC 1 bOn, ⟨1, 0, 1, 3, [bGeh], -1⟩, ⟨1, 0, 2, 0, [bWeiter], 7⟩, ⟨0, 1, 2, 100, [bOn], -1⟩, ⟨1, 1, 2, 100, [bOn], -1⟩] := by kernel_rfl
end Go.Proofs.YthojaplnimoacaaGreatDoor

/- A group of operations of a drawn region, each of which tells of its own result alone, in whatever world: their orders need not be told apart. Plain theorems about the machine's steps. Conditions: none. -/
namespace Go.Han
open Go.RowKit
section
variable {P : Program} {ops : Array Oper} {C : World → Prop} {Q : Exit → Act → World → Prop} {m : Nat}
/-- The group L (each with those whose facts it wants) runs through, in every order, up to the list e. -/
def groupB (ops : Array Oper) (T : List (Nat × List Nat)) (e : Array Bool) : Nat → List (Nat × List Nat) → Array Bool → Bool
  | 0, L, listed => L.isEmpty && decide (listed = e)
  | f + 1, L, listed => !(Region.ready .any ops listed).isEmpty && (Region.ready .any ops listed).all fun i =>
      L.any (fun x => x.1 == i && x.2.all (fun k => T.any (fun y => y.1 == k) && !L.any (fun y => y.1 == k))) && groupB ops T e f (L.filter (fun y => y.1 != i)) (listed.setIfInBounds i true)
def updV (vals : Nat → Value) (i : Nat) (u : Value) : Nat → Value := fun j => if j = i then u else vals j
/-- One operation of the group: run in whatever world, after those that it wants, it tells of its result. -/
def StepG (m : Nat) (P : Program) (ops : Array Oper) (C : World → Prop) (Q : Exit → Act → World → Prop) (A : (Nat → Value) → Act) (Phi : Nat → Value → World → Prop) (x : Nat × List Nat) : Prop :=
  ∃ o, ops[x.1]? = some o ∧ ∀ (vals : Nat → Value) (V : World), C V → (∀ k ∈ x.2, Phi k (vals k) V) → ∀ K' : Act → World → Prop, (∀ u V', C V' → Below V.heap.size V V' → Phi x.1 u V' → K' (A (updV vals x.1 u)) V') →
    Region.wanted o (yielded ops (A vals).tmps) = true ∧ Oper.wpIn Fence.wide m P o (A vals) V K' Q
theorem wpAnyC_groupL {A : (Nat → Value) → Act} {Phi : Nat → Value → World → Prop} (hP : ∀ i u V V', Phi i u V → Below V.heap.size V V' → Phi i u V') {T : List (Nat × List Nat)} {e : Array Bool} (hs : ∀ x ∈ T, StepG m P ops C Q A Phi x) {f : Nat}
    (hend : ∀ vals V, C V → (∀ x ∈ T, Phi x.1 (vals x.1) V) → wpAnyC m P ops C Q f e (A vals) V) :
    ∀ (n : Nat) (L : List (Nat × List Nat)) (listed : Array Bool) (vals : Nat → Value) (V : World), (∀ x ∈ L, x ∈ T) → groupB ops T e n L listed = true → C V → (∀ x ∈ T, (∀ y ∈ L, y.1 ≠ x.1) → Phi x.1 (vals x.1) V) → wpAnyC m P ops C Q (f + n) listed (A vals) V
  | 0, L, listed, vals, V, hL, hg, hC, hd => by
    unfold groupB at hg
    simp only [Bool.and_eq_true, List.isEmpty_iff, decide_eq_true_eq] at hg
    obtain ⟨rfl, rfl⟩ := hg
    exact hend vals V hC fun x hx => hd x hx fun y hy => by cases hy
  | n + 1, L, listed, vals, V, hL, hg, hC, hd => by
    unfold groupB at hg
    simp only [Bool.and_eq_true, Bool.not_eq_true', List.isEmpty_eq_false_iff, List.all_eq_true, List.any_eq_true, beq_iff_eq] at hg
    obtain ⟨hne, hall⟩ := hg
    refine ⟨hC, fun h => absurd h hne, fun i hi => ?_⟩
    obtain ⟨⟨x, hx, rfl, hk⟩, hrec⟩ := hall i hi
    obtain ⟨o, ho, hst⟩ := hs x (hL x hx)
    refine wpOpIn_step ho fun K' hK => ?_
    obtain ⟨h1, h2⟩ := hst vals V hC (fun k hk' => by
      obtain ⟨⟨y, hy, rfl⟩, hz⟩ := hk k hk'
      refine hd y hy fun z hz' he => ?_
      rw [List.any_eq_false] at hz
      exact hz z hz' (by simpa using he)) K' (fun u V' hC' hb hphi => hK _ _ (wpAnyC_groupL hP hs hend n (L.filter (fun y => y.1 != x.1)) (listed.setIfInBounds x.1 true) (updV vals x.1 u) V' (fun y hy => hL y (List.mem_filter.1 hy).1) hrec hC' (fun y hy hn => by
        by_cases he : y.1 = x.1
        · unfold updV
          rw [if_pos he, he]; exact hphi
        · unfold updV
          rw [if_neg he]
          refine hP _ _ _ _ (hd y hy fun z hz he2 => ?_) hb
          exact hn z (List.mem_filter.2 ⟨hz, by simp only [bne_iff_ne, ne_eq]; exact fun h3 => he (he2 ▸ h3)⟩) he2)))
    rw [if_pos h1]
    exact h2
/-- ALL ORDERS OF THE GROUP AT ONCE. -/
theorem wpAnyC_group {A : (Nat → Value) → Act} {Phi : Nat → Value → World → Prop} (T : List (Nat × List Nat)) (e : Array Bool) {f n : Nat} {listed : Array Bool} {a : Act} {V : World} (vals : Nat → Value) (ha : a = A vals) (hP : ∀ i u V V', Phi i u V → Below V.heap.size V V' → Phi i u V') (hC : C V)
    (hg : groupB ops T e n T listed = true) (hs : ∀ x ∈ T, StepG m P ops C Q A Phi x) (hend : ∀ vals V, C V → (∀ x ∈ T, Phi x.1 (vals x.1) V) → wpAnyC m P ops C Q f e (A vals) V) : wpAnyC m P ops C Q (f + n) listed a V := by
  subst ha
  exact wpAnyC_groupL hP hs hend n T listed vals V (fun x hx => hx) hg hC fun x hx hn => absurd rfl (hn x hx)
/-- All orders meet in what is said of the frame and the world. -/
theorem wpIn_meetA {F : Fence} {n : Nat} {c : Code} {a : Act} {w : World} (Psi : Act → World → Prop) (h : c.wpIn F n P (Exit.then Psi (fun _ _ _ => False)) a w) (k : ∀ a v, Psi a v → Q .normal a v) : c.wpIn F n P Q a w :=
  wpIn_mono h (fun e a' v hh => by
    cases e with
    | normal => exact k a' v hh
    | _ => exact hh.elim)
end
end Go.Han

/- The examples with which the statements about tags begin: sane. -/
namespace Go.Proofs.YthojaplnimoacaaGreatDoor
open Go.RowKit Go.Han
attribute [local irreducible] wpStill wpQuiet
set_option maxRecDepth 100000

/-- Is it the small grammar? -/
def IsSmall (G : Gram) : Prop := ∃ a b c, G = smallG a b c
theorem small28g (w : World) : Calls Tryz.prog 63 #[] w fun e w' => ∃ G : Gram, e = .returned (.agg #[.string G.name, .slice G.cats.addr G.cats.xs.length G.cats.cap, .string G.start, .int .i64 G.startNo, .slice G.entries.addr G.entries.xs.length G.entries.cap, .slice G.rules.addr G.rules.xs.length G.rules.cap]) ∧ IsSmall G ∧ G.lies w' ∧ Below w.heap.size w w' :=
  (small28_any w).mono fun _ _ ⟨a, b, c, h1, h2, h3⟩ => ⟨smallG a b c, h1, ⟨a, b, c, rfl⟩, h2, h3⟩
/-- Items, where the end is an error. -/
theorem items_err (G : Gram) (hG : IsSmall G) (A : Option Addr) (cp : Nat) (l : List Term) (lang : Int) (s : StrS) (t u : Int) (V : World) (E : Int) (hT : TabsG V) (hl : G.lies V) (hr : TermsAt V A l) (hm : l.length ≤ 1024) (hs : s.lies V) (hE : ∀ a b c, tagsE (smallG a b c) l lang s.xs t u = E) (hne : E ≠ 0) :
    Calls Tryz.prog 32 #[.agg #[.string G.name, .slice G.cats.addr G.cats.xs.length G.cats.cap, .string G.start, .int .i64 G.startNo, .slice G.entries.addr G.entries.xs.length G.entries.cap, .slice G.rules.addr G.rules.xs.length G.rules.cap], .slice A l.length cp, .int .i64 lang, .slice s.addr s.xs.length s.cap, .int .i64 t, .int .i64 u] V fun e w' => e = .returned (.tuple #[.slice none 0 0, .int .i64 E]) ∧ Below V.heap.size V w' := by
  obtain ⟨a, b, c, rfl⟩ := hG
  refine (Items_any (smallG a b c) A cp l lang s t u V hT hl (small_short a b c) hr (by omega) hs).mono ?_
  rintro e w' ⟨hb, ⟨_, rfl⟩ | ⟨hz, _⟩⟩
  · rw [hE]; exact ⟨rfl, hb⟩
  · rw [hE] at hz; exact absurd hz hne
theorem str_blk {W : World} {b t : Nat} {cs : Array Value} {xs : List ByteArray} (h : W.heap[b]? = some (.cells cs t (0, 0))) (hc : cs.toList = strs xs) (hm : xs.length ≤ 1024) : StrS.lies W ⟨some ⟨b, 0, none⟩, xs.length, xs⟩ := ⟨grd_blk h hc, Nat.le_refl _, by show xs.length ≤ _; omega, fun h => by cases h⟩
theorem info_str28 : (Tryz.prog.info? 9).map (fun i => (i.zero, i.size, i.bytes)) = some (some (.string ⟨#[]⟩), 1, 16) := by kernel_rfl
theorem mk_str17 (w : World) : (Instr.makeSlice 22 (.int .i64 17) (.int .i64 17)).run Tryz.prog w = .ok (.slice (some ⟨w.heap.size, 0, none⟩) 17 17) (w.alloc (.cells (Array.replicate 17 (.string ⟨#[]⟩)) 9)) := by
  rw [← madeG_rep]
  exact run_make_row' (P := Tryz.prog) 22 9 (.string ⟨#[]⟩) 16 Tryz.underlying22 info_str28 rfl .i64 .i64 17 (by omega) (by omega) w
theorem nil_lies (V : World) : StrS.lies V ⟨none, 0, []⟩ := ⟨Rd.nil _ _, Nat.le_refl _, by show (0 : Nat) ≤ _; omega, fun _ => rfl⟩
theorem ex8_3b : tagsE zG28 [] 1 [] 0 0 = 260 := by kernel_rfl
/-- What the pieces of the second example tell of themselves. -/
def Phi1 (i : Nat) (u : Value) (V : World) : Prop :=
  if i = 2 then (∃ b, u = .slice (some ⟨b, 0, none⟩) 1 1 ∧ V.heap[b]? = some (.cells #[.string ⟨#[111, 110]⟩] 9 (0, 0)))
  else if i = 3 then (∃ x : ItemG, u = .agg #[.int .i64 x.cat, .int .i64 x.frm, .int .i64 x.unt, .int .i64 x.cost, .slice x.tgt.addr x.tgt.xs.length x.tgt.cap, .int .i64 x.term] ∧ x.c = ownWC 0 bOn ∧ x.tgt.lies V)
  else if i = 5 then (∃ x : ItemG, u = .agg #[.int .i64 x.cat, .int .i64 x.frm, .int .i64 x.unt, .int .i64 x.cost, .slice x.tgt.addr x.tgt.xs.length x.tgt.cap, .int .i64 x.term] ∧ x.c = ⟨0, 0, 1, 100, [bOn], -1⟩ ∧ x.tgt.lies V)
  else if i = 7 then (∃ x : ItemG, u = .agg #[.int .i64 x.cat, .int .i64 x.frm, .int .i64 x.unt, .int .i64 x.cost, .slice x.tgt.addr x.tgt.xs.length x.tgt.cap, .int .i64 x.term] ∧ x.c = ⟨1, 0, 1, 100, [bOn], -1⟩ ∧ x.tgt.lies V)
  else ∃ b x y z, u = .slice (some ⟨b, 0, none⟩) 3 3 ∧ ItemsAt V ⟨some ⟨b, 0, none⟩, 3, [x, y, z]⟩ ∧ x.c = ownWC 0 bOn ∧ y.c = ⟨0, 0, 1, 100, [bOn], -1⟩ ∧ z.c = ⟨1, 0, 1, 100, [bOn], -1⟩

theorem phi1_ext (i : Nat) (u : Value) (V V' : World) (h : Phi1 i u V) (hb : Below V.heap.size V V') : Phi1 i u V' := by
  unfold Phi1 at h ⊢
  split
  · rw [if_pos (by assumption)] at h
    obtain ⟨b, h1, h2⟩ := h
    exact ⟨b, h1, (hb.block _ (lt_block h2)).trans h2⟩
  rw [if_neg (by assumption)] at h
  split
  · rw [if_pos (by assumption)] at h
    obtain ⟨x, h1, h2, h3⟩ := h
    exact ⟨x, h1, h2, StrS.lies.ext h3 hb⟩
  rw [if_neg (by assumption)] at h
  split
  · rw [if_pos (by assumption)] at h
    obtain ⟨x, h1, h2, h3⟩ := h
    exact ⟨x, h1, h2, StrS.lies.ext h3 hb⟩
  rw [if_neg (by assumption)] at h
  split
  · rw [if_pos (by assumption)] at h
    obtain ⟨x, h1, h2, h3⟩ := h
    exact ⟨x, h1, h2, StrS.lies.ext h3 hb⟩
  rw [if_neg (by assumption)] at h
  obtain ⟨b, x, y, z, h1, h2, h3⟩ := h
  exact ⟨b, x, y, z, h1, h2.ext hb, h3⟩
theorem phi1_words (V : World) : Phi1 2 (.slice (some ⟨V.heap.size, 0, none⟩) 1 1) (V.alloc (.cells #[.string ⟨#[111, 110]⟩] 9)) := ⟨_, rfl, World.alloc_heap_new _ _⟩
theorem items_blk {W : World} {b n : Nat} {cs : Array Value} {its : List ItemG} (h : W.heap[b]? = some (.cells cs 47 (0, 0))) (hc : cs.toList = its.flatMap ItemG.cells) (hl : ∀ x ∈ its, x.tgt.lies W) (hn : its.length = n) (hm : n ≤ 1024) : ItemsAt W ⟨some ⟨b, 0, none⟩, n, its⟩ :=
  ⟨⟨grd_blk h hc, by show its.length ≤ n; omega, by show n ≤ _; omega, fun h => by cases h⟩, hl⟩
def ItPhi (c : ItemC) (u : Value) (V : World) : Prop := ∃ x : ItemG, u = .agg #[.int .i64 x.cat, .int .i64 x.frm, .int .i64 x.unt, .int .i64 x.cost, .slice x.tgt.addr x.tgt.xs.length x.tgt.cap, .int .i64 x.term] ∧ x.c = c ∧ x.tgt.lies V
theorem ItPhi.ext {c : ItemC} {u : Value} {V V' : World} (h : ItPhi c u V) (hb : Below V.heap.size V V') : ItPhi c u V' := by
  obtain ⟨x, h1, h2, h3⟩ := h
  exact ⟨x, h1, h2, StrS.lies.ext h3 hb⟩
/-- What the pieces of the third example tell of themselves. -/
def Phi2 (i : Nat) (u : Value) (V : World) : Prop :=
  if i = 13 then (∃ b p q, u = .slice (some ⟨b, 0, none⟩) 1 1 ∧ TermsAt V (some ⟨b, 0, none⟩) [pointT p q])
  else if i = 14 then (∃ b, u = .slice (some ⟨b, 0, none⟩) 2 2 ∧ V.heap[b]? = some (.cells #[.string ⟨#[103, 111]⟩, .string ⟨#[111, 110]⟩] 9 (0, 0)))
  else if i = 15 then ItPhi (ownWC 0 bGo) u V
  else if i = 16 then ItPhi (ownWC 1 bOn) u V
  else if i = 20 then ItPhi ⟨0, 1, 2, 100, [bOn], -1⟩ u V
  else if i = 22 then ItPhi ⟨1, 1, 2, 100, [bOn], -1⟩ u V
  else ∃ b its, u = .slice (some ⟨b, 0, none⟩) 6 6 ∧ ItemsAt V ⟨some ⟨b, 0, none⟩, 6, its⟩ ∧ its.map ItemG.c = [ownWC 0 bGo, ownWC 1 bOn, ⟨1, 0, 1, 3, [bGeh], -1⟩, ⟨1, 0, 2, 0, [bWeiter], 7⟩, ⟨0, 1, 2, 100, [bOn], -1⟩, ⟨1, 1, 2, 100, [bOn], -1⟩]
theorem phi2_ext (i : Nat) (u : Value) (V V' : World) (h : Phi2 i u V) (hb : Below V.heap.size V V') : Phi2 i u V' := by
  unfold Phi2 at h ⊢
  split
  · rw [if_pos (by assumption)] at h
    obtain ⟨b, p, q, h1, h2⟩ := h
    exact ⟨b, p, q, h1, h2.ext hb⟩
  rw [if_neg (by assumption)] at h
  split
  · rw [if_pos (by assumption)] at h
    obtain ⟨b, h1, h2⟩ := h
    exact ⟨b, h1, (hb.block _ (lt_block h2)).trans h2⟩
  rw [if_neg (by assumption)] at h
  split
  · rw [if_pos (by assumption)] at h
    exact h.ext hb
  rw [if_neg (by assumption)] at h
  split
  · rw [if_pos (by assumption)] at h
    exact h.ext hb
  rw [if_neg (by assumption)] at h
  split
  · rw [if_pos (by assumption)] at h
    exact h.ext hb
  rw [if_neg (by assumption)] at h
  split
  · rw [if_pos (by assumption)] at h
    exact h.ext hb
  rw [if_neg (by assumption)] at h
  obtain ⟨b, its, h1, h2, h3⟩ := h
  exact ⟨b, its, h1, h2.ext hb, h3⟩
set_option maxHeartbeats 16000000 in
theorem sane28_any : SaneOk := by
  intro w hT
  have HT := Lib.hid hT
  have hmk := mk_str17
  have FE : Hid (∀ G, IsSmall G → ∀ (N : Nat) (V : World), Below w.heap.size w V → G.lies V → V.heap[N]? = some (.cells (Array.replicate 17 (.string ⟨#[]⟩)) 9 (0, 0)) → Calls Tryz.prog 32 #[.agg #[.string G.name, .slice G.cats.addr G.cats.xs.length G.cats.cap, .string G.start, .int .i64 G.startNo, .slice G.entries.addr G.entries.xs.length G.entries.cap, .slice G.rules.addr G.rules.xs.length G.rules.cap], .slice none 0 0, .int .i64 1, .slice (some ⟨N, 0, none⟩) 17 17, .int .i64 0, .int .i64 0] V fun e w' => e = .returned (.tuple #[.slice none 0 0, .int .i64 2]) ∧ Below V.heap.size V w') :=
    fun G hG N V hV hl hN => items_err G hG none 0 [] 1 ⟨some ⟨N, 0, none⟩, 17, List.replicate 17 ⟨#[]⟩⟩ 0 0 V 2 (HT.out.ext hV) hl (TermsAt.nil _ _) (by decide) (str_blk (xs := List.replicate 17 ⟨#[]⟩) hN rfl (by decide)) (fun a b c => ex8_1 a b c) (by decide)
  have F2 : Hid (∀ G, IsSmall G → ∀ (N : Nat) (V : World), Below w.heap.size w V → G.lies V → V.heap[N]? = some (.cells #[.string ⟨#[97, 32, 98]⟩] 9 (0, 0)) → Calls Tryz.prog 32 #[.agg #[.string G.name, .slice G.cats.addr G.cats.xs.length G.cats.cap, .string G.start, .int .i64 G.startNo, .slice G.entries.addr G.entries.xs.length G.entries.cap, .slice G.rules.addr G.rules.xs.length G.rules.cap], .slice none 0 0, .int .i64 1, .slice (some ⟨N, 0, none⟩) 1 1, .int .i64 0, .int .i64 0] V fun e w' => e = .returned (.tuple #[.slice none 0 0, .int .i64 280]) ∧ Below V.heap.size V w') :=
    fun G hG N V hV hl hN => items_err G hG none 0 [] 1 ⟨some ⟨N, 0, none⟩, 1, [bAB]⟩ 0 0 V 280 (HT.out.ext hV) hl (TermsAt.nil _ _) (by decide) (str_blk (xs := [bAB]) hN rfl (by decide)) (fun a b c => ex8_2 a b c) (by decide)
  have F3 : Hid (∀ (V : World), Below w.heap.size w V → Calls Tryz.prog 32 #[.agg #[.string ⟨#[]⟩, .slice none 0 0, .string ⟨#[]⟩, .int .i64 0, .slice none 0 0, .slice none 0 0], .slice none 0 0, .int .i64 1, .slice none 0 0, .int .i64 0, .int .i64 0] V fun e w' => e = .returned (.tuple #[.slice none 0 0, .int .i64 260]) ∧ Below V.heap.size V w') := fun V hV => by
    refine (Items_any zG28 none 0 [] 1 ⟨none, 0, []⟩ 0 0 V (HT.out.ext hV) (zero_lies V) zero_short (TermsAt.nil _ _) (by decide) (nil_lies V)).mono ?_
    rintro e w' ⟨hb, ⟨_, rfl⟩ | ⟨hz, _⟩⟩
    · rw [ex8_3b]; exact ⟨rfl, hb⟩
    · rw [ex8_3b] at hz; exact absurd hz (by decide)
  have F4 : Hid (∀ G, IsSmall G → ∀ (V : World), Below w.heap.size w V → G.lies V → Calls Tryz.prog 32 #[.agg #[.string G.name, .slice G.cats.addr G.cats.xs.length G.cats.cap, .string G.start, .int .i64 G.startNo, .slice G.entries.addr G.entries.xs.length G.entries.cap, .slice G.rules.addr G.rules.xs.length G.rules.cap], .slice none 0 0, .int .i64 32, .slice none 0 0, .int .i64 0, .int .i64 0] V fun e w' => e = .returned (.tuple #[.slice none 0 0, .int .i64 1]) ∧ Below V.heap.size V w') :=
    fun G hG V hV hl => items_err G hG none 0 [] 32 ⟨none, 0, []⟩ 0 0 V 1 (HT.out.ext hV) hl (TermsAt.nil _ _) (by decide) (nil_lies V) (fun a b c => ex8_4 a b c) (by decide)
  have F5 : Hid (∀ G, IsSmall G → ∀ (N : Nat) (V : World), Below w.heap.size w V → G.lies V → V.heap[N]? = some (.cells #[.int .i64 0, .int .i64 0, .int .i64 0, .int .i64 0, .slice none 0 0, .slice none 0 0, .string ⟨#[]⟩, .bool false] 66 (0, 0)) → Calls Tryz.prog 32 #[.agg #[.string G.name, .slice G.cats.addr G.cats.xs.length G.cats.cap, .string G.start, .int .i64 G.startNo, .slice G.entries.addr G.entries.xs.length G.entries.cap, .slice G.rules.addr G.rules.xs.length G.rules.cap], .slice (some ⟨N, 0, none⟩) 1 1, .int .i64 0, .slice none 0 0, .int .i64 0, .int .i64 0] V fun e w' => e = .returned (.tuple #[.slice none 0 0, .int .i64 270]) ∧ Below V.heap.size V w') :=
    fun G hG N V hV hl hN => items_err G hG (some ⟨N, 0, none⟩) 1 [zT28] 0 ⟨none, 0, []⟩ 0 0 V 270 (HT.out.ext hV) hl ⟨grd_blk hN rfl, fun x hx => (by
      obtain rfl : x = zT28 := by simpa using hx
      exact ⟨nil_lies V, nil_lies V⟩)⟩ (by decide) (nil_lies V) (fun a b c => ex8_5 a b c) (by decide)
  have FR0 : Hid (∀ V, Below w.heap.size w V → Calls Tryz.prog 65 #[.slice none 0 0, .slice none 0 0, .slice none 0 0] V fun e w' => e = .returned (.bool true) ∧ Below V.heap.size V w') :=
    fun V hV => are28_any none 0 [] ⟨none, 0, []⟩ ⟨none, 0, []⟩ V (HT.out.ext hV) (TermsAt.nil _ _) (by decide) (nil_lies V) (items_empty V) (fun a b c => ex8_6 a b c) (fun a b c => ex8_6c a b c)
  have FR1 : Hid (∀ V b d x y z, Below w.heap.size w V → V.heap[b]? = some (.cells #[.string ⟨#[111, 110]⟩] 9 (0, 0)) → ItemsAt V ⟨some ⟨d, 0, none⟩, 3, [x, y, z]⟩ → x.c = ownWC 0 bOn → y.c = ⟨0, 0, 1, 100, [bOn], -1⟩ → z.c = ⟨1, 0, 1, 100, [bOn], -1⟩ → Calls Tryz.prog 65 #[.slice none 0 0, .slice (some ⟨b, 0, none⟩) 1 1, .slice (some ⟨d, 0, none⟩) 3 3] V fun e w' => e = .returned (.bool true) ∧ Below V.heap.size V w') :=
    fun V b d x y z hV hb hI hx hy hz => are28_any none 0 [] ⟨some ⟨b, 0, none⟩, 1, [bOn]⟩ ⟨some ⟨d, 0, none⟩, 3, [x, y, z]⟩ V (HT.out.ext hV) (TermsAt.nil _ _) (by decide) (str_blk (xs := [bOn]) hb rfl (by decide)) hI (fun a b c => ex8_7 a b c) (fun a b c => by rw [ex8_7c]; simp [hx, hy, hz])
  have FR2 : Hid (∀ V b p q c d its, Below w.heap.size w V → TermsAt V (some ⟨b, 0, none⟩) [pointT p q] → V.heap[c]? = some (.cells #[.string ⟨#[103, 111]⟩, .string ⟨#[111, 110]⟩] 9 (0, 0)) → ItemsAt V ⟨some ⟨d, 0, none⟩, 6, its⟩ → its.map ItemG.c = [ownWC 0 bGo, ownWC 1 bOn, ⟨1, 0, 1, 3, [bGeh], -1⟩, ⟨1, 0, 2, 0, [bWeiter], 7⟩, ⟨0, 1, 2, 100, [bOn], -1⟩, ⟨1, 1, 2, 100, [bOn], -1⟩] → Calls Tryz.prog 65 #[.slice (some ⟨b, 0, none⟩) 1 1, .slice (some ⟨c, 0, none⟩) 2 2, .slice (some ⟨d, 0, none⟩) 6 6] V fun e w' => e = .returned (.bool true) ∧ Below V.heap.size V w') := by
    intro V b p q c d its hV hb hc hI hm
    have hl : its.length = 6 := by have := congrArg List.length hm; simpa using this
    have h := are28_any (some ⟨b, 0, none⟩) 1 [pointT p q] ⟨some ⟨c, 0, none⟩, 2, [bGo, bOn]⟩ ⟨some ⟨d, 0, none⟩, 6, its⟩ V (HT.out.ext hV) hb (by show 1 ≤ _; omega) (str_blk (xs := [bGo, bOn]) hc rfl (by decide)) hI (fun a b c => ex8_8 a b c p q) (fun a b c => by rw [ex8_8c]; exact hm.symm)
    simp only [hl] at h
    exact h
  clear hT
  go_enter Tryz.func30, Tryz.ntmps30
  go_upto_region 1 with fail
  go_cut [2] (fun e wx => e = .int .i64 2 ∧ Below w.heap.size w wx)
  case first =>
    go_region_with (first | (go_at_call 63; refine (small28g _).mono ?_; rintro e V1 ⟨G, rfl, hG, hGl, hb1⟩) | (go_at_call 32; refine (FE.out G hG _ _ (by first | exact ext_trans (ext_alloc (ext_drew (Below.refl _ _)) _) hb1 | exact ext_alloc (ext_trans (ext_drew (Below.refl _ _)) hb1) _) (by first | exact hGl | exact hGl.ext (ext_alloc (Below.refl _ _) _)) (by first | exact World.alloc_heap_new _ _ | exact (hb1.block _ (by simp)).trans (World.alloc_heap_new _ _))).mono ?_; rintro e V2 ⟨rfl, hb2⟩))
    all_goals (go_wp2_with fail; go_meet)
    all_goals exact ⟨rfl, by first | exact ext_trans (ext_alloc (ext_trans (ext_drew (Below.refl _ _)) hb1) _) hb2 | exact ext_trans (ext_trans (ext_alloc (ext_drew (Below.refl _ _)) _) hb1) hb2⟩
  case rest =>
    obtain ⟨rfl, hBc⟩ := hcut
    clear FE hmk
    go_wp2_with fail
    refine (small28g _).mono ?_
    rintro e V1 ⟨G, rfl, hG, hGl, hb1⟩
    have hB1 := ext_trans hBc hb1
    have C2 := Lib.hid (F2.out G hG V1.heap.size (V1.alloc (.cells #[.string ⟨#[97, 32, 98]⟩] 9)) (ext_alloc hB1 _) (hGl.ext (ext_alloc (Below.refl _ _) _)) (World.alloc_heap_new _ _))
    go_wp2_with fail
    refine C2.out.mono ?_
    rintro e V2 ⟨rfl, hb2⟩
    have hB2 := ext_trans (ext_alloc hB1 _) hb2
    clear C2 F2 hG hGl hb1 hb2 hB1 hBc
    go_wp2_with fail
    refine (F3.out V2 hB2).mono ?_
    rintro e V3 ⟨rfl, hb3⟩
    have hB3 := ext_trans hB2 hb3
    clear F3 hb3 hB2
    go_wp2_with fail
    refine (small28g _).mono ?_
    rintro e V4 ⟨G4, rfl, hG, hGl, hb4⟩
    have hB4 := ext_trans hB3 hb4
    have C4 := Lib.hid (F4.out G4 hG V4 hB4 hGl)
    go_wp2_with fail
    refine C4.out.mono ?_
    rintro e V5 ⟨rfl, hb5⟩
    have hB5 := ext_trans hB4 hb5
    clear C4 F4 hG hGl hb4 hb5 hB3 hB4
    go_wp2_with fail
    refine (small28g _).mono ?_
    rintro e V6 ⟨G6, rfl, hG, hGl, hb6⟩
    have hB6 := ext_trans hB5 hb6
    have C5 := Lib.hid (F5.out G6 hG V6.heap.size (V6.alloc (.cells #[.int .i64 0, .int .i64 0, .int .i64 0, .int .i64 0, .slice none 0 0, .slice none 0 0, .string ⟨#[]⟩, .bool false] 66)) (ext_alloc hB6 _) (hGl.ext (ext_alloc (Below.refl _ _) _)) (World.alloc_heap_new _ _))
    go_wp2_with fail
    refine C5.out.mono ?_
    rintro e V7 ⟨rfl, hb7⟩
    have hB7 := ext_trans (ext_alloc hB6 _) hb7
    clear C5 F5 hG hGl hb6 hb7 hB5 hB6
    go_upto_region 11 with fail
    obtain ⟨N, hN⟩ : ∃ N, V7.heap.size = N := ⟨_, rfl⟩
    obtain ⟨W9, hW9⟩ : ∃ W9, (((((((V7.alloc (.cells #[.string ⟨#[103, 111]⟩, .string ⟨#[111, 110]⟩] 9)).alloc (.cells #[.string ⟨#[119, 101, 105, 116, 101, 114]⟩] 9)).alloc (.cells #[.int .i64 7, .int .i64 0, .int .i64 0, .int .i64 1, .slice (some ⟨V7.heap.size, 0, none⟩) 2 2, .slice (some ⟨V7.heap.size + 1, 0, none⟩) 1 1, .string ⟨#[118, 101, 114, 98]⟩, .bool false] 66)).alloc (.cells #[.string ⟨#[119, 101, 105, 116, 101, 114]⟩] 9)).alloc (.cells #[.int .i64 1, .int .i64 0, .int .i64 2, .int .i64 0, .slice (some ⟨V7.heap.size + 1 + 1 + 1, 0, none⟩) 1 1, .int .i64 7] 47)).alloc (.cells #[.string ⟨#[103, 101, 104]⟩] 9)).alloc (.cells #[.int .i64 1, .int .i64 0, .int .i64 1, .int .i64 3, .slice (some ⟨V7.heap.size + 1 + 1 + 1 + 1 + 1, 0, none⟩) 1 1, .int .i64 (-1)] 47)) = W9 := ⟨_, rfl⟩
    have hB9 : Below w.heap.size w W9 := by rw [← hW9]; exact ext_alloc (ext_alloc (ext_alloc (ext_alloc (ext_alloc (ext_alloc (ext_alloc hB7 _) _) _) _) _) _) _
    have f0 : W9.heap[N]? = some (.cells #[.string ⟨#[103, 111]⟩, .string ⟨#[111, 110]⟩] 9 (0, 0)) := by rw [← hW9, ← hN]; repeat (first | exact World.alloc_heap_new _ _ | exact galloc_at _ _ _ (by simp only [World.size_alloc] <;> omega) | refine (Below.heap_alloc _ _ _ (by simp only [World.size_alloc]; omega)).trans ?_)
    have f1 : W9.heap[N + 1]? = some (.cells #[.string ⟨#[119, 101, 105, 116, 101, 114]⟩] 9 (0, 0)) := by
      rw [← hW9, ← hN]
      iterate 5 refine (Below.heap_alloc _ _ _ (by simp only [World.size_alloc]; omega)).trans ?_
      exact galloc_at _ _ _ (by simp)
    have f2 : W9.heap[N + 1 + 1]? = some (.cells #[.int .i64 7, .int .i64 0, .int .i64 0, .int .i64 1, .slice (some ⟨N, 0, none⟩) 2 2, .slice (some ⟨N + 1, 0, none⟩) 1 1, .string ⟨#[118, 101, 114, 98]⟩, .bool false] 66 (0, 0)) := by rw [← hW9, ← hN]; repeat (first | exact galloc_at _ _ _ (by simp only [World.size_alloc] <;> omega) | refine (Below.heap_alloc _ _ _ (by simp only [World.size_alloc]; omega)).trans ?_)
    have f3 : W9.heap[N + 1 + 1 + 1]? = some (.cells #[.string ⟨#[119, 101, 105, 116, 101, 114]⟩] 9 (0, 0)) := by rw [← hW9, ← hN]; repeat (first | exact galloc_at _ _ _ (by simp only [World.size_alloc] <;> omega) | refine (Below.heap_alloc _ _ _ (by simp only [World.size_alloc]; omega)).trans ?_)
    have f4 : W9.heap[N + 1 + 1 + 1 + 1]? = some (.cells #[.int .i64 1, .int .i64 0, .int .i64 2, .int .i64 0, .slice (some ⟨N + 1 + 1 + 1, 0, none⟩) 1 1, .int .i64 7] 47 (0, 0)) := by rw [← hW9, ← hN]; repeat (first | exact galloc_at _ _ _ (by simp only [World.size_alloc] <;> omega) | refine (Below.heap_alloc _ _ _ (by simp only [World.size_alloc]; omega)).trans ?_)
    have f5 : W9.heap[N + 1 + 1 + 1 + 1 + 1]? = some (.cells #[.string ⟨#[103, 101, 104]⟩] 9 (0, 0)) := by rw [← hW9, ← hN]; repeat (first | exact galloc_at _ _ _ (by simp only [World.size_alloc] <;> omega) | refine (Below.heap_alloc _ _ _ (by simp only [World.size_alloc]; omega)).trans ?_)
    have f6 : W9.heap[N + 1 + 1 + 1 + 1 + 1 + 1]? = some (.cells #[.int .i64 1, .int .i64 0, .int .i64 1, .int .i64 3, .slice (some ⟨N + 1 + 1 + 1 + 1 + 1, 0, none⟩) 1 1, .int .i64 (-1)] 47 (0, 0)) := by rw [← hW9, ← hN]; exact galloc_at _ _ _ (by simp)
    have HF := Lib.hid (And.intro f0 (And.intro f1 (And.intro f3 f5)))
    have HC : Hid (∀ V, Below W9.heap.size W9 V → V.cell? ⟨N + 1 + 1, 0, none⟩ = some (.int .i64 7) ∧ V.cell? ⟨N + 1 + 1, 1, none⟩ = some (.int .i64 0) ∧ V.cell? ⟨N + 1 + 1, 2, none⟩ = some (.int .i64 0) ∧ V.cell? ⟨N + 1 + 1, 3, none⟩ = some (.int .i64 1) ∧ V.cell? ⟨N + 1 + 1, 4, none⟩ = some (.slice (some ⟨N, 0, none⟩) 2 2) ∧ V.cell? ⟨N + 1 + 1, 5, none⟩ = some (.slice (some ⟨N + 1, 0, none⟩) 1 1) ∧ V.cell? ⟨N + 1 + 1, 6, none⟩ = some (.string ⟨#[118, 101, 114, 98]⟩) ∧ V.cell? ⟨N + 1 + 1, 7, none⟩ = some (.bool false) ∧
        V.cell? ⟨N + 1 + 1 + 1 + 1, 0, none⟩ = some (.int .i64 1) ∧ V.cell? ⟨N + 1 + 1 + 1 + 1, 1, none⟩ = some (.int .i64 0) ∧ V.cell? ⟨N + 1 + 1 + 1 + 1, 2, none⟩ = some (.int .i64 2) ∧ V.cell? ⟨N + 1 + 1 + 1 + 1, 3, none⟩ = some (.int .i64 0) ∧ V.cell? ⟨N + 1 + 1 + 1 + 1, 4, none⟩ = some (.slice (some ⟨N + 1 + 1 + 1, 0, none⟩) 1 1) ∧ V.cell? ⟨N + 1 + 1 + 1 + 1, 5, none⟩ = some (.int .i64 7) ∧
        V.cell? ⟨N + 1 + 1 + 1 + 1 + 1 + 1, 0, none⟩ = some (.int .i64 1) ∧ V.cell? ⟨N + 1 + 1 + 1 + 1 + 1 + 1, 1, none⟩ = some (.int .i64 0) ∧ V.cell? ⟨N + 1 + 1 + 1 + 1 + 1 + 1, 2, none⟩ = some (.int .i64 1) ∧ V.cell? ⟨N + 1 + 1 + 1 + 1 + 1 + 1, 3, none⟩ = some (.int .i64 3) ∧ V.cell? ⟨N + 1 + 1 + 1 + 1 + 1 + 1, 4, none⟩ = some (.slice (some ⟨N + 1 + 1 + 1 + 1 + 1, 0, none⟩) 1 1) ∧ V.cell? ⟨N + 1 + 1 + 1 + 1 + 1 + 1, 5, none⟩ = some (.int .i64 (-1))) := fun V hV => by
      have g2 := (hV.block _ (lt_block f2)).trans f2
      have g4 := (hV.block _ (lt_block f4)).trans f4
      have g6 := (hV.block _ (lt_block f6)).trans f6
      exact ⟨gblk g2 0, gblk g2 1, gblk g2 2, gblk g2 3, gblk g2 4, gblk g2 5, gblk g2 6, gblk g2 7, gblk g4 0, gblk g4 1, gblk g4 2, gblk g4 3, gblk g4 4, gblk g4 5, gblk g6 0, gblk g6 1, gblk g6 2, gblk g6 3, gblk g6 4, gblk g6 5⟩
    have HN := Lib.hid hN
    clear hN
    go_cut [14] (fun f wx => f = .func (.func 64) #[] #[] ∧ wx = W9)
    case first =>
      go_wp2_with fail
      go_meet
      exact ⟨rfl, rfl⟩
    case rest =>
      obtain ⟨rfl, rfl⟩ := hcut
      have hBw : Below w.heap.size w wc := hB9
      rw [HN.out]
      clear hW9 HN hB7 f0 f1 f2 f3 f4 f5 f6
      go_wp2_with fail
      refine wpIn_wide (n := 0) |>.1 ?_
      refine wpIn_meetA (fun a v => a = (fun (f : Nat → Value) => ({ tmps := #[.bool true, u1, .int .i64 2, .slice none 0 0, .int .i64 280, .slice none 0 0, .int .i64 260, .slice none 0 0, .int .i64 1, .slice none 0 0, .int .i64 270, .pointer (some ⟨N + 1 + 1, 0, none⟩), .pointer (some ⟨N + 1 + 1 + 1 + 1, 0, none⟩), .pointer (some ⟨N + 1 + 1 + 1 + 1 + 1 + 1, 0, none⟩), .func (.func 64) #[] #[], u15, u16, u17, u18, u19, u20, u21, u22, u23, u24, u25, u26, u27, u28, u29, u30, u31, u32, u33, u34, u35, u36, u37, u38, u39, u40, u41, u42, u43, u44, u45, u46, u47, u48, u49, u50, u51, u52, u53, u54, u55, u56, u57, u58, u59, u60, u61, u62, u63, u64, u65, u66, u67, u68, (f 69), (f 70), (f 71), (f 72), (f 73), (f 74), (f 75), (f 76), (f 77), (f 78), (f 79), (f 80), (f 81), (f 82), (f 83), (f 84), (f 85), (f 86), (f 87), (f 88), (f 89), (f 90), (f 91), (f 92), (f 93), (f 94)], defers := [] } : Act)) (fun j => a.tmps.getD j undef) ∧ Below wc.heap.size wc v) ?_ ?_
      · refine wpIn_region_cls (fun V => Below wc.heap.size wc V) (by kernel_rfl) ?_
        refine wpAnyC_ready (rs := [0]) (ext_drew (Below.refl _ _)) (by kernel_rfl) (by simp) (AllC.cons rfl (fun K hK => ?_) AllC.nil)
        go_simp
        refine ⟨trivial, rfl, callsIn_wide.2 ((FR0.out _ (ext_drew hBw)).mono ?_)⟩
        rintro e V1 ⟨rfl, hb1⟩
        refine hK _ _ ?_
        clear hK K
        have hC1 : Below wc.heap.size wc V1 := ext_trans (ext_drew (Below.refl _ _)) hb1
        refine wpAnyC_take (i := 1) rfl (by kernel_rfl) (by kernel_rfl) (by kernel_rfl) (fun _ _ _ h => h) (by rfl) (fun V hV => (by go_simp <;> rfl)) ?_
        refine wpAnyC_take (i := 4) rfl (by kernel_rfl) (by kernel_rfl) (by kernel_rfl) (fun _ _ _ h => h) (by rfl) (fun V hV => (by go_simp <;> rfl)) ?_
        refine wpAnyC_take (i := 6) rfl (by kernel_rfl) (by kernel_rfl) (by kernel_rfl) (fun _ _ _ h => h) (by rfl) (fun V hV => (by go_simp <;> rfl)) ?_
        refine wpAnyC_group (A := fun vals => ({ tmps := #[.bool false, u1, .int .i64 2, .slice none 0 0, .int .i64 280, .slice none 0 0, .int .i64 260, .slice none 0 0, .int .i64 1, .slice none 0 0, .int .i64 270, .pointer (some ⟨N + 1 + 1, 0, none⟩), .pointer (some ⟨N + 1 + 1 + 1 + 1, 0, none⟩), .pointer (some ⟨N + 1 + 1 + 1 + 1 + 1 + 1, 0, none⟩), .func (.func 64) #[] #[], u15, u16, u17, u18, u19, u20, u21, u22, u23, u24, u25, u26, u27, u28, u29, u30, u31, u32, u33, u34, u35, u36, u37, u38, u39, u40, u41, u42, u43, u44, u45, u46, u47, u48, u49, u50, u51, u52, u53, u54, u55, u56, u57, u58, u59, u60, u61, u62, u63, u64, u65, u66, u67, u68, .bool true, .bool true, vals 2, vals 3, .func (.func 64) #[] #[], vals 5, .func (.func 64) #[] #[], vals 7, vals 8, u78, u79, u80, u81, u82, u83, u84, u85, u86, u87, u88, u89, u90, u91, u92, u93, u94], defers := [] } : Act)) (Phi := Phi1) [(2, []), (3, []), (5, []), (7, []), (8, [3, 5, 7])] #[true, true, true, true, true, true, true, true, true, false, false, false, false, false, false, false, false, false, false, false, false, false, false, false, false, false, false] (n := 5) (f := 18) (fun j => if j = 2 then u71 else if j = 3 then u72 else if j = 5 then u74 else if j = 7 then u76 else u77) rfl phi1_ext hC1 (by kernel_rfl) ?_ ?_
        · intro x hx
          simp only [List.mem_cons, List.not_mem_nil, or_false] at hx
          rcases hx with rfl | rfl | rfl | rfl | rfl
          · refine ⟨_, rfl, fun vals V hC _ K hK => ⟨by rfl, ?_⟩⟩
            go_simp
            exact hK _ _ (ext_alloc hC _) (ext_alloc (Below.refl _ _) _) (phi1_words V)
          · refine ⟨_, rfl, fun vals V hC _ K hK => ⟨by rfl, ?_⟩⟩
            go_simp
            refine ⟨trivial, rfl, callsIn_wide.2 ((own28_any 0 bOn V (by decide)).mono ?_)⟩
            rintro e V' ⟨x, rfl, hx, hl, hb⟩
            exact hK _ _ (ext_trans hC hb) hb ⟨x, rfl, hx, hl⟩
          · refine ⟨_, rfl, fun vals V hC _ K hK => ⟨by rfl, ?_⟩⟩
            go_simp
            refine ⟨trivial, rfl, callsIn_wide.2 ((on28_any 0 0 V (by decide)).mono ?_)⟩
            rintro e V' ⟨x, rfl, hx, hl, hb⟩
            exact hK _ _ (ext_trans hC hb) hb ⟨x, rfl, hx, hl⟩
          · refine ⟨_, rfl, fun vals V hC _ K hK => ⟨by rfl, ?_⟩⟩
            go_simp
            refine ⟨trivial, rfl, callsIn_wide.2 ((on28_any 0 1 V (by decide)).mono ?_)⟩
            rintro e V' ⟨x, rfl, hx, hl, hb⟩
            exact hK _ _ (ext_trans hC hb) hb ⟨x, rfl, hx, hl⟩
          · refine ⟨_, rfl, fun vals V hC hp K hK => ?_⟩
            obtain ⟨x, h3, hx, hxl⟩ := hp 3 (by simp)
            obtain ⟨y, h5, hy, hyl⟩ := hp 5 (by simp)
            obtain ⟨z, h7, hz, hzl⟩ := hp 7 (by simp)
            dsimp only
            rw [h3, h5, h7]
            refine ⟨by rfl, ?_⟩
            go_simp
            rw [← h3, ← h5, ← h7]
            exact hK _ _ (ext_alloc hC _) (ext_alloc (Below.refl _ _) _) ⟨_, x, y, z, rfl, items_blk (World.alloc_heap_new _ _) rfl (fun q hq => (by
              simp only [List.mem_cons, List.not_mem_nil, or_false] at hq
              rcases hq with rfl | rfl | rfl
              · exact StrS.lies.ext hxl (ext_alloc (Below.refl _ _) _)
              · exact StrS.lies.ext hyl (ext_alloc (Below.refl _ _) _)
              · exact StrS.lies.ext hzl (ext_alloc (Below.refl _ _) _))) rfl (by decide), hx, hy, hz⟩
        · intro vals V hC hF
          obtain ⟨b, h2, hb2⟩ := hF (2, []) (by simp)
          obtain ⟨d, x, y, z, h8, hI, hx, hy, hz⟩ := hF (8, [3, 5, 7]) (by simp)
          dsimp only at h2 h8 ⊢
          rw [h2, h8]
          have cR := Lib.hid (FR1.out V b d x y z (ext_trans hBw hC) hb2 hI hx hy hz)
          clear h2 h8 hb2 hI hx hy hz hF
          generalize vals 3 = v72
          generalize vals 5 = v74
          generalize vals 7 = v76
          refine wpAnyC_ready (rs := [9]) hC (by kernel_rfl) (by simp) (AllC.cons rfl (fun K hK => ?_) AllC.nil)
          go_simp
          refine ⟨trivial, rfl, callsIn_wide.2 (cR.out.mono ?_)⟩
          rintro e V2 ⟨rfl, hb2⟩
          refine hK _ _ ?_
          clear hK K
          have hC2 : Below wc.heap.size wc V2 := ext_trans hC hb2
          refine wpAnyC_take (i := 10) rfl (by kernel_rfl) (by kernel_rfl) (by kernel_rfl) (fun _ _ _ h => h) (by rfl) (fun V hV => (by go_simp <;> rfl)) ?_
          refine wpAnyC_take (i := 11) rfl (by kernel_rfl) (by kernel_rfl) (by kernel_rfl) (fun _ _ _ h => h) (by rfl) (fun V hV => (by go_simp <;> rfl)) ?_
          refine wpAnyC_take (i := 12) rfl (by kernel_rfl) (by kernel_rfl) (by kernel_rfl) (fun _ _ _ h => h) (by rfl) (fun V hV => (by obtain ⟨p0, p1, p2, p3, p4, p5, p6, p7, q0, q1, q2, q3, q4, q5, g0, g1, g2, g3, g4, g5⟩ := HC.out V hV; go_simp <;> rfl)) ?_
          refine wpAnyC_take (i := 17) rfl (by kernel_rfl) (by kernel_rfl) (by kernel_rfl) (fun _ _ _ h => h) (by rfl) (fun V hV => (by obtain ⟨p0, p1, p2, p3, p4, p5, p6, p7, q0, q1, q2, q3, q4, q5, g0, g1, g2, g3, g4, g5⟩ := HC.out V hV; go_simp <;> rfl)) ?_
          refine wpAnyC_take (i := 18) rfl (by kernel_rfl) (by kernel_rfl) (by kernel_rfl) (fun _ _ _ h => h) (by rfl) (fun V hV => (by obtain ⟨p0, p1, p2, p3, p4, p5, p6, p7, q0, q1, q2, q3, q4, q5, g0, g1, g2, g3, g4, g5⟩ := HC.out V hV; go_simp <;> rfl)) ?_
          refine wpAnyC_take (i := 19) rfl (by kernel_rfl) (by kernel_rfl) (by kernel_rfl) (fun _ _ _ h => h) (by rfl) (fun V hV => (by go_simp <;> rfl)) ?_
          refine wpAnyC_take (i := 21) rfl (by kernel_rfl) (by kernel_rfl) (by kernel_rfl) (fun _ _ _ h => h) (by rfl) (fun V hV => (by go_simp <;> rfl)) ?_
          refine wpAnyC_group (A := fun vals => ({ tmps := #[.bool false, u1, .int .i64 2, .slice none 0 0, .int .i64 280, .slice none 0 0, .int .i64 260, .slice none 0 0, .int .i64 1, .slice none 0 0, .int .i64 270, .pointer (some ⟨N + 1 + 1, 0, none⟩), .pointer (some ⟨N + 1 + 1 + 1 + 1, 0, none⟩), .pointer (some ⟨N + 1 + 1 + 1 + 1 + 1 + 1, 0, none⟩), .func (.func 64) #[] #[], u15, u16, u17, u18, u19, u20, u21, u22, u23, u24, u25, u26, u27, u28, u29, u30, u31, u32, u33, u34, u35, u36, u37, u38, u39, u40, u41, u42, u43, u44, u45, u46, u47, u48, u49, u50, u51, u52, u53, u54, u55, u56, u57, u58, u59, u60, u61, u62, u63, u64, u65, u66, u67, u68, .bool true, .bool true, .slice (some ⟨b, 0, none⟩) 1 1, v72, .func (.func 64) #[] #[], v74, .func (.func 64) #[] #[], v76, .slice (some ⟨d, 0, none⟩) 3 3, .bool true, .bool true, .bool true, .agg #[.int .i64 7, .int .i64 0, .int .i64 0, .int .i64 1, .slice (some ⟨N, 0, none⟩) 2 2, .slice (some ⟨N + 1, 0, none⟩) 1 1, .string ⟨#[118, 101, 114, 98]⟩, .bool false], vals 13, vals 14, vals 15, vals 16, .agg #[.int .i64 1, .int .i64 0, .int .i64 1, .int .i64 3, .slice (some ⟨N + 1 + 1 + 1 + 1 + 1, 0, none⟩) 1 1, .int .i64 (-1)], .agg #[.int .i64 1, .int .i64 0, .int .i64 2, .int .i64 0, .slice (some ⟨N + 1 + 1 + 1, 0, none⟩) 1 1, .int .i64 7], .func (.func 64) #[] #[], vals 20, .func (.func 64) #[] #[], vals 22, vals 23, u93, u94], defers := [] } : Act)) (Phi := Phi2) [(13, []), (14, []), (15, []), (16, []), (20, []), (22, []), (23, [15, 16, 20, 22])] #[true, true, true, true, true, true, true, true, true, true, true, true, true, true, true, true, true, true, true, true, true, true, true, true, false, false, false] (n := 7) (f := 3) (fun j => if j = 13 then u82 else if j = 14 then u83 else if j = 15 then u84 else if j = 16 then u85 else if j = 20 then u89 else if j = 22 then u91 else u92) rfl phi2_ext hC2 (by kernel_rfl) ?_ ?_
          · intro x hx
            simp only [List.mem_cons, List.not_mem_nil, or_false] at hx
            rcases hx with rfl | rfl | rfl | rfl | rfl | rfl | rfl
            · refine ⟨_, rfl, fun vals V hC _ K hK => ⟨by rfl, ?_⟩⟩
              go_simp
              have g0 := (hC.block _ (lt_block HF.out.1)).trans HF.out.1
              have g1 := (hC.block _ (lt_block HF.out.2.1)).trans HF.out.2.1
              exact hK _ _ (ext_alloc hC _) (ext_alloc (Below.refl _ _) _) ⟨_, some ⟨N, 0, none⟩, some ⟨N + 1, 0, none⟩, rfl, ⟨grd_blk (World.alloc_heap_new _ _) rfl, fun q hq => (by
                obtain rfl : q = pointT (some ⟨N, 0, none⟩) (some ⟨N + 1, 0, none⟩) := by simpa using hq
                exact ⟨StrS.lies.ext (str_blk (xs := [bGo, bOn]) g0 rfl (by decide)) (ext_alloc (Below.refl _ _) _), StrS.lies.ext (str_blk (xs := [bWeiter]) g1 rfl (by decide)) (ext_alloc (Below.refl _ _) _)⟩)⟩⟩
            · refine ⟨_, rfl, fun vals V hC _ K hK => ⟨by rfl, ?_⟩⟩
              go_simp
              exact hK _ _ (ext_alloc hC _) (ext_alloc (Below.refl _ _) _) ⟨_, rfl, World.alloc_heap_new _ _⟩
            · refine ⟨_, rfl, fun vals V hC _ K hK => ⟨by rfl, ?_⟩⟩
              go_simp
              refine ⟨trivial, rfl, callsIn_wide.2 ((own28_any 0 bGo V (by decide)).mono ?_)⟩
              rintro e V' ⟨x, rfl, hx, hl, hb⟩
              exact hK _ _ (ext_trans hC hb) hb ⟨x, rfl, hx, hl⟩
            · refine ⟨_, rfl, fun vals V hC _ K hK => ⟨by rfl, ?_⟩⟩
              go_simp
              refine ⟨trivial, rfl, callsIn_wide.2 ((own28_any 1 bOn V (by decide)).mono ?_)⟩
              rintro e V' ⟨x, rfl, hx, hl, hb⟩
              exact hK _ _ (ext_trans hC hb) hb ⟨x, rfl, hx, hl⟩
            · refine ⟨_, rfl, fun vals V hC _ K hK => ⟨by rfl, ?_⟩⟩
              go_simp
              refine ⟨trivial, rfl, callsIn_wide.2 ((on28_any 1 0 V (by decide)).mono ?_)⟩
              rintro e V' ⟨x, rfl, hx, hl, hb⟩
              exact hK _ _ (ext_trans hC hb) hb ⟨x, rfl, hx, hl⟩
            · refine ⟨_, rfl, fun vals V hC _ K hK => ⟨by rfl, ?_⟩⟩
              go_simp
              refine ⟨trivial, rfl, callsIn_wide.2 ((on28_any 1 1 V (by decide)).mono ?_)⟩
              rintro e V' ⟨x, rfl, hx, hl, hb⟩
              exact hK _ _ (ext_trans hC hb) hb ⟨x, rfl, hx, hl⟩
            · refine ⟨_, rfl, fun vals V hC hp K hK => ?_⟩
              obtain ⟨x1, h1, hx1, hl1⟩ := hp 15 (by simp)
              obtain ⟨x2, h2, hx2, hl2⟩ := hp 16 (by simp)
              obtain ⟨x5, h5, hx5, hl5⟩ := hp 20 (by simp)
              obtain ⟨x6, h6, hx6, hl6⟩ := hp 22 (by simp)
              have g3 := (hC.block _ (lt_block HF.out.2.2.1)).trans HF.out.2.2.1
              have g5 := (hC.block _ (lt_block HF.out.2.2.2)).trans HF.out.2.2.2
              dsimp only
              rw [h1, h2, h5, h6]
              refine ⟨by rfl, ?_⟩
              go_simp
              rw [← h1, ← h2, ← h5, ← h6]
              exact hK _ _ (ext_alloc hC _) (ext_alloc (Below.refl _ _) _) ⟨_, [x1, x2, ⟨1, 0, 1, 3, ⟨some ⟨N + 1 + 1 + 1 + 1 + 1, 0, none⟩, 1, [bGeh]⟩, -1⟩, ⟨1, 0, 2, 0, ⟨some ⟨N + 1 + 1 + 1, 0, none⟩, 1, [bWeiter]⟩, 7⟩, x5, x6], rfl, items_blk (World.alloc_heap_new _ _) rfl (fun q hq => (by
                simp only [List.mem_cons, List.not_mem_nil, or_false] at hq
                rcases hq with rfl | rfl | rfl | rfl | rfl | rfl
                · exact StrS.lies.ext hl1 (ext_alloc (Below.refl _ _) _)
                · exact StrS.lies.ext hl2 (ext_alloc (Below.refl _ _) _)
                · exact StrS.lies.ext (str_blk (xs := [bGeh]) g5 rfl (by decide)) (ext_alloc (Below.refl _ _) _)
                · exact StrS.lies.ext (str_blk (xs := [bWeiter]) g3 rfl (by decide)) (ext_alloc (Below.refl _ _) _)
                · exact StrS.lies.ext hl5 (ext_alloc (Below.refl _ _) _)
                · exact StrS.lies.ext hl6 (ext_alloc (Below.refl _ _) _))) rfl (by decide), by simp only [List.map_cons, List.map_nil, hx1, hx2, hx5, hx6]; rfl⟩
          · intro vals V3 hC3 hF3
            obtain ⟨bt, p, q, h13, hT3⟩ := hF3 (13, []) (by simp)
            obtain ⟨bw, h14, hw3⟩ := hF3 (14, []) (by simp)
            obtain ⟨bi, its, h23, hI3, hm3⟩ := hF3 (23, [15, 16, 20, 22]) (by simp)
            dsimp only at h13 h14 h23 ⊢
            rw [h13, h14, h23]
            have cR2 := Lib.hid (FR2.out V3 bt p q bw bi its (ext_trans hBw hC3) hT3 hw3 hI3 hm3)
            clear h13 h14 h23 hT3 hw3 hI3 hm3 hF3
            generalize vals 15 = v84
            generalize vals 16 = v85
            generalize vals 20 = v89
            generalize vals 22 = v91
            refine wpAnyC_ready (rs := [24]) hC3 (by kernel_rfl) (by simp) (AllC.cons rfl (fun K hK => ?_) AllC.nil)
            go_simp
            refine ⟨trivial, rfl, callsIn_wide.2 (cR2.out.mono ?_)⟩
            rintro e V4 ⟨rfl, hb4⟩
            refine hK _ _ ?_
            clear hK K
            have hC4 : Below wc.heap.size wc V4 := ext_trans hC3 hb4
            refine wpAnyC_take (i := 25) rfl (by kernel_rfl) (by kernel_rfl) (by kernel_rfl) (fun _ _ _ h => h) (by rfl) (fun V hV => (by go_simp <;> rfl)) ?_
            refine wpAnyC_take (i := 26) rfl (by kernel_rfl) (by kernel_rfl) (by kernel_rfl) (fun _ _ _ h => h) (by rfl) (fun V hV => (by go_simp <;> rfl)) ?_
            exact wpAnyC_done hC4 (by kernel_rfl) ⟨rfl, hC4⟩ _
      · rintro a v ⟨ha, hb⟩
        rw [ha]
        have hBf := ext_trans hBw hb
        clear ha
        go_wp2_with fail
        go_ret
        exact ⟨rfl, hBf⟩
end Go.Proofs.YthojaplnimoacaaGreatDoor
