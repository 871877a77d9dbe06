/- The reference's package of displays: what is right, searching, comparing. -/
import Derived.Test.YtneanannicacnaaDoorRef9b
import Derived.Test.YtneanannicacnaaDoorDisp12
import Derived.Deep.RegionWith
namespace Go.Proofs.YtneanannicacnaaDoor
open Go.RowKit Go.Han
attribute [local irreducible] wpStill wpQuiet
set_option maxRecDepth 100000

theorem run_neq_spot (a b a' b' : Int) (s s' : ByteArray) (w : World) : (binOp .neq 24 (.agg #[.int .i64 a, .int .i64 b, .string s]) (.agg #[.int .i64 a', .int .i64 b', .string s'])).run Tryd.prog w = .ok (.bool (!((⟨a, b, s⟩ : Spot) == ⟨a', b', s'⟩))) w := by
  have hb := spot_beq ⟨a, b, s⟩ a' b' s'
  rw [Bool.true_and] at hb
  rw [hb]
  by_cases e1 : a = a'
  · by_cases e2 : b = b'
    · by_cases e3 : s.toList = s'.toList
      · simp [go_sem, e1, e2, e3]
      · simp [go_sem, e1, e2, e3]
    · simp [go_sem, e1, e2]
  · simp [go_sem, e1]
theorem run_equalIn_spot (a b a' b' : Int) (s s' : ByteArray) (w : World) : (Op.equalIn 10000 24 (.agg #[.int .i64 a, .int .i64 b, .string s]) (.agg #[.int .i64 a', .int .i64 b', .string s'])).run Tryd.prog w = .ok ((⟨a, b, s⟩ : Spot) == ⟨a', b', s'⟩) w := by
  have hb := spot_beq ⟨a, b, s⟩ a' b' s'
  rw [Bool.true_and] at hb
  rw [hb]
  by_cases e1 : a = a'
  · by_cases e2 : b = b'
    · by_cases e3 : s.toList = s'.toList
      · simp [go_sem, e1, e2, e3]
      · simp [go_sem, e1, e2, e3]
    · simp [go_sem, e1, e2]
  · simp [go_sem, e1]

theorem id49_any (n : Int) (w : World) :
    Calls Tryd.prog 91 #[.int .i64 n] w fun e w' => e = .returned (.bool (idB n)) ∧ w = w' := by
  go_enter Tryd.func91, Tryd.ntmps91
  go_wp2
  all_goals go_ret
  · simp [idB, *]
  · have : ¬ 0 ≤ n := by omega
    simp [idB, *]
theorem time49_any (n : Int) (w : World) :
    Calls Tryd.prog 90 #[.int .i64 n] w fun e w' => e = .returned (.bool (timeB n)) ∧ w = w' := by
  go_enter Tryd.func90, Tryd.ntmps90
  go_wp2
  all_goals go_ret
  · simp [timeB, *]
  · have : ¬ 0 ≤ n := by omega
    simp [timeB, *]
theorem right49_any (x : Spot) (w : World) :
    Calls Tryd.prog 55 #[x.val] w fun e w' => e = .returned (.bool x.ok) ∧ Below w.heap.size w w' := by
  obtain ⟨i, v, s⟩ := x
  have hB : Below w.heap.size w (w.alloc (.cells #[.int .i64 i, .int .i64 v, .string s] 24)) := (Below.refl _ _).alloc (Nat.le_refl _) _
  have Hok : Hid (Spot.ok ⟨i, v, s⟩ = (idB i && idB v && wordB s)) := rfl
  unfold Spot.val
  go_enter Tryd.func55, Tryd.ntmps55
  go_wp2_with fail
  refine (id49_any _ _).mono ?_
  rintro e w' ⟨rfl, rfl⟩
  generalize idB i = b1 at *
  cases b1
  · go_wp2
    go_ret
    exact ⟨by rw [Hok.out]; rfl, hB⟩
  go_wp2_with fail
  refine (id49_any _ _).mono ?_
  rintro e w' ⟨rfl, rfl⟩
  generalize idB v = b2 at *
  cases b2
  · go_wp2
    go_ret
    exact ⟨by rw [Hok.out]; rfl, hB⟩
  go_wp2_with fail
  refine (word9_any s _).mono ?_
  rintro e w2 ⟨rfl, hb2⟩
  go_wp2
  go_ret
  exact ⟨by rw [Hok.out]; rfl, ext_trans hB hb2⟩

/-- Where an Id is; -1: nowhere. -/
def findR (l : List Spot) (n : Int) : Int := match l.findIdx? (fun x => x.id == n) with | some k => (k : Int) | none => -1
theorem findR_at (l : List Spot) (n : Int) (k : Nat) (hk : k < l.length) (h : ∀ (j : Nat) (hj : j < l.length), j < k → l[j].id ≠ n) (he : l[k].id = n) : findR l n = k := by
  unfold findR
  have : l.findIdx? (fun x => x.id == n) = some k := by
    rw [List.findIdx?_eq_some_iff_getElem]
    exact ⟨hk, by simpa using he, fun j hj => by simpa using h j (by omega) hj⟩
  rw [this]
theorem findR_none (l : List Spot) (n : Int) (h : ∀ (j : Nat) (hj : j < l.length), l[j].id ≠ n) : findR l n = -1 := by
  unfold findR
  have : l.findIdx? (fun x => x.id == n) = none := by
    rw [List.findIdx?_eq_none_iff]
    intro x hx
    obtain ⟨j, hj, rfl⟩ := List.mem_iff_getElem.1 hx
    simpa using h j hj
  rw [this]
theorem find49_any (A : Option Addr) (c : Nat) (l : List Spot) (n : Int) (w : World) (hr : Rd w A (flat l)) (hm : l.length ≤ 9223372036854775807) :
    Calls Tryd.prog 28 #[.slice A l.length c, .int .i64 n] w fun e w' => e = .returned (.int .i64 (findR l n)) ∧ w = w' := by
  go_enter Tryd.func28, Tryd.ntmps28
  go_wp2_with fail
  go_loop [5] (fun i => ∃ k : Nat, k ≤ l.length ∧ i = .int .i64 k ∧ Hid (∀ (j : Nat) (hj : j < l.length), j < k → l[j].id ≠ n)) (fun i => l.length - (intOf i).toNat)
  case atStart => exact ⟨0, Nat.zero_le _, rfl, fun j hj h => by omega⟩
  case round =>
    obtain ⟨k, hk, rfl, HR⟩ := hrel
    by_cases hlt : k < l.length
    · obtain ⟨b, off, rfl, hb, hc⟩ := hr.elem Spot.size_cells (by omega) hlt
      have h1 := hc 0 _ rfl
      simp only [Nat.add_zero] at h1
      clear hc hr
      by_cases he : l[k].id = n
      · have HF := Lib.hid (findR_at l n k hlt HR.out he)
        have he2 : (l[k].id == n) = true := by simpa using he
        clear he HR
        go_wp2_with fail
        go_ret
        exact ⟨by rw [HF.out]; rfl, rfl⟩
      · have HN := Lib.hid he
        have he2 : (l[k].id == n) = false := by simpa using he
        clear he
        go_wp2_with fail
        go_round
        case rel =>
          refine ⟨k + 1, by omega, by go_num, fun j hj hjk => ?_⟩
          rcases Nat.lt_or_ge j k with h | h
          · exact HR.out j hj h
          · obtain rfl : j = k := by omega
            exact HN.out
        case measure => simp [intOf]; omega
    · have HF := Lib.hid (findR_none l n (fun j hj => HR.out j hj (by omega)))
      clear HR
      go_wp2_with fail
      go_ret
      exact ⟨by rw [HF.out]; rfl, rfl⟩

set_option maxHeartbeats 400000 in
theorem same49_any (A B : Option Addr) (c d : Nat) (l l' : List Spot) (w : World) (hr : Rd w A (flat l)) (hr' : Rd w B (flat l')) (hm : l.length ≤ 9223372036854775807) :
    Calls Tryd.prog 21 #[.slice A l.length c, .slice B l'.length d] w fun e w' => e = .returned (.bool (decide (l = l'))) ∧ Below w.heap.size w w' := by
  by_cases hl : l.length = l'.length
  · have hne : ((l.length : Int) != (l'.length : Int)) = false := by simp [hl]
    have Hl := Lib.hid hl
    clear hl
    go_enter Tryd.func21, Tryd.ntmps21
    go_wp2_with fail
    go_loopw [5] (fun i wr => ∃ k : Nat, k ≤ l.length ∧ i = .int .i64 k ∧ Below w.heap.size w wr ∧ Hid (l.take k = l'.take k)) (fun i _ => l.length - (intOf i).toNat)
    case atStart => exact ⟨0, Nat.zero_le _, rfl, Below.refl _ _, rfl⟩
    case round =>
      obtain ⟨k, hk, rfl, hB, HR⟩ := hrel
      by_cases hlt : k < l.length
      · have hlt' : k < l'.length := by have := Hl.out; omega
        obtain ⟨b, off, rfl, hb, hc⟩ := hr.elem Spot.size_cells (by omega) hlt
        obtain ⟨b', off', rfl, hb', hc'⟩ := hr'.elem Spot.size_cells (by omega) hlt'
        have h1 := (hB.cell (p := ⟨b, off + k * 3 + 0, none⟩) hb).trans (hc 0 _ rfl)
        have h2 := (hB.cell (p := ⟨b, off + k * 3 + 1, none⟩) hb).trans (hc 1 _ rfl)
        have h3 := (hB.cell (p := ⟨b, off + k * 3 + 2, none⟩) hb).trans (hc 2 _ rfl)
        have h1' := (hB.cell (p := ⟨b', off' + k * 3 + 0, none⟩) hb').trans (hc' 0 _ rfl)
        have h2' := (hB.cell (p := ⟨b', off' + k * 3 + 1, none⟩) hb').trans (hc' 1 _ rfl)
        have h3' := (hB.cell (p := ⟨b', off' + k * 3 + 2, none⟩) hb').trans (hc' 2 _ rfl)
        simp only [Nat.add_zero] at h1 h1'
        have hq := fun (w : World) => run_equalIn_spot l[k].id l[k].ver l'[k].id l'[k].ver l[k].text l'[k].text w
        have htk : l.take (k + 1) = l.take k ++ [l[k]] := List.take_succ_eq_append_getElem hlt
        have htk' : l'.take (k + 1) = l'.take k ++ [l'[k]] := List.take_succ_eq_append_getElem hlt'
        have Htk := Lib.hid htk
        have Htk' := Lib.hid htk'
        have hf : Hid (l = l' → l[k] = l'[k]) := by rintro rfl; rfl
        clear hc hr hc' hr' htk htk'
        generalize l[k] = x at *
        generalize l'[k] = y at *
        obtain ⟨a, v, s⟩ := x
        obtain ⟨a', v', s'⟩ := y
        simp only at hq h1 h2 h3 h1' h2' h3'
        cases hxy : ((⟨a, v, s⟩ : Spot) == ⟨a', v', s'⟩)
        · rw [hxy] at hq
          have HF : Hid (decide (l = l') = false) := decide_eq_false (fun h => by have := hf.out h; rw [this] at hxy; simp at hxy)
          clear hxy
          go_wp2_with fail
          go_still (by kernel_rfl)
          go_wp2
          go_ret
          exact ⟨by rw [HF.out]; rfl, hB.drew⟩
        · rw [hxy] at hq
          have HE : Hid ((⟨a, v, s⟩ : Spot) = ⟨a', v', s'⟩) := by show _ = _; simpa using hxy
          clear hxy
          go_wp2_with fail
          go_still (by kernel_rfl)
          go_wp2
          go_roundw
          case rel => exact ⟨k + 1, by omega, by go_num, hB.drew, by show _ = _; rw [Htk.out, Htk'.out, HR.out, HE.out]⟩
          case measure => simp [intOf]; omega
      · have HF : Hid (decide (l = l') = true) := by
          refine decide_eq_true ?_
          obtain rfl : k = l.length := by omega
          have h := HR.out
          rw [List.take_length, List.take_of_length_le (by have := Hl.out; omega)] at h
          exact h
        clear HR
        go_wp2_with fail
        go_ret
        exact ⟨by rw [HF.out]; rfl, hB⟩
  · have hne : ((l.length : Int) != (l'.length : Int)) = true := by simp; omega
    have HF : Hid (decide (l = l') = false) := decide_eq_false (fun h => hl (by rw [h]))
    clear hl
    go_enter Tryd.func21, Tryd.ntmps21
    go_wp2_with fail
    go_ret
    exact ⟨by rw [HF.out]; rfl, Below.refl _ _⟩
end Go.Proofs.YtneanannicacnaaDoor
