/- The reference's package of displays: right displays and changes; sizes. -/
import Derived.Test.YtneanannicacnaaDoorRef49a
import Derived.Test.YtneanannicacnaaDoorQuiet
import Derived.IntWalk
namespace Go.Proofs.YtneanannicacnaaDoor
open Go.RowKit Go.Han
attribute [local irreducible] wpStill wpQuiet
set_option maxRecDepth 100000

theorem rightc49_any (c : Change) (w : World) :
    Calls Tryd.prog 53 #[c.val] w fun e w' => e = .returned (.bool c.ok) ∧ Below w.heap.size w w' := by
  obtain ⟨t, kd, ⟨i, v, s⟩⟩ := c
  have hB : Below w.heap.size w (w.alloc (.cells #[.int .i64 t, .int .i64 kd, .int .i64 i, .int .i64 v, .string s] 26)) := (Below.refl _ _).alloc (Nat.le_refl _) _
  have Hok : Hid (Change.ok ⟨t, kd, ⟨i, v, s⟩⟩ = (kindB kd && timeB t && Spot.ok ⟨i, v, s⟩)) := rfl
  have Hk : Hid (kindB kd = (decide (1 ≤ kd) && decide (kd ≤ 3))) := rfl
  unfold Change.val
  simp only
  go_enter Tryd.func53, Tryd.ntmps53
  go_wp2_with fail
  refine (time49_any _ _).mono ?_
  rintro e w' ⟨rfl, rfl⟩
  generalize timeB t = b1 at *
  cases b1
  · go_wp2
    go_ret
    exact ⟨by rw [Hok.out]; simp, hB⟩
  by_cases h1 : 1 ≤ kd
  · by_cases h3 : kd ≤ 3
    · go_wp2_with fail
      refine (right49_any ⟨i, v, s⟩ _).mono ?_
      rintro e w2 ⟨rfl, hb2⟩
      have HK : Hid (kindB kd = true) := by show _ = _; rw [Hk.out]; simp [h1, h3]
      go_wp2
      go_ret
      exact ⟨by rw [Hok.out, HK.out]; rfl, ext_trans hB hb2⟩
    · have HK : Hid (kindB kd = false) := by show _ = _; rw [Hk.out]; simp; omega
      have d1 : decide (1 ≤ kd) = true := by simpa using h1
      have d3 : decide (kd ≤ 3) = false := by simpa using h3
      go_wp2
      go_ret
      exact ⟨by rw [Hok.out, HK.out]; rfl, hB⟩
  · have HK : Hid (kindB kd = false) := by show _ = _; rw [Hk.out]; simp; omega
    have d1 : decide (1 ≤ kd) = false := by simpa using h1
    go_wp2
    go_ret
    exact ⟨by rw [Hok.out, HK.out]; rfl, hB⟩

/-- Whether there are few spots, or too many. -/
def fewB (l : List Spot) : Bool := (l.take 70).all (fun x => decide (x.text.size ≤ 200)) && (decide (l.length ≤ 60) || (decide (1024 < l.length) && decide (l.length ≤ 1100)))
theorem few49_any (A : Option Addr) (c : Nat) (l : List Spot) (w : World) (hr : Rd w A (flat l)) (hm : l.length ≤ 9223372036854775807) :
    Calls Tryd.prog 16 #[.slice A l.length c] w fun e w' => e = .returned (.bool (fewB l)) ∧ w = w' := by
  have Hf : Hid (fewB l = ((l.take 70).all (fun x => decide (x.text.size ≤ 200)) && (decide (l.length ≤ 60) || (decide (1024 < l.length) && decide (l.length ≤ 1100))))) := rfl
  go_enter Tryd.func16, Tryd.ntmps16
  go_wp2_with fail
  go_loop [3] (fun i => ∃ k : Nat, k ≤ l.length ∧ k ≤ 70 ∧ i = .int .i64 k ∧ Hid (∀ (j : Nat) (hj : j < l.length), j < k → l[j].text.size ≤ 200)) (fun i => l.length - (intOf i).toNat)
  case atStart => exact ⟨0, Nat.zero_le _, Nat.zero_le _, rfl, fun j hj h => by omega⟩
  case round =>
    obtain ⟨k, hk, hk7, rfl, HR⟩ := hrel
    have hend : (k = l.length ∨ k = 70) → Hid (fewB l = (decide (l.length ≤ 60) || (decide (1024 < l.length) && decide (l.length ≤ 1100)))) := by
      intro h
      show _ = _
      rw [Hf.out]
      have : (l.take 70).all (fun x => decide (x.text.size ≤ 200)) = true := by
        rw [List.all_eq_true]
        intro x hx
        obtain ⟨j, hj, rfl⟩ := List.mem_iff_getElem.1 hx
        simp at hj
        rw [List.getElem_take]
        simpa using HR.out j (by omega) (by omega)
      rw [this, Bool.true_and]
    by_cases hlt : k < l.length
    · by_cases h70 : k < 70
      · obtain ⟨b, off, rfl, hb, hc⟩ := hr.elem Spot.size_cells (by omega) hlt
        have h3 := hc 2 _ rfl
        clear hc hr hend
        by_cases hs : l[k].text.size ≤ 200
        · have HS := Lib.hid hs
          have hs1 : ¬ (200 : Int) < l[k].text.size := by omega
          clear hs
          go_wp2_with fail
          go_round
          case rel =>
            refine ⟨k + 1, by omega, by omega, by go_num, fun j hj hjk => ?_⟩
            rcases Nat.lt_or_ge j k with h | h
            · exact HR.out j hj h
            · obtain rfl : j = k := by omega
              exact HS.out
          case measure => simp [intOf]; omega
        · have hs1 : (200 : Int) < l[k].text.size := by omega
          have HF : Hid (fewB l = false) := by
            show _ = _
            rw [Hf.out]
            have : (l.take 70).all (fun x => decide (x.text.size ≤ 200)) = false := by
              rw [List.all_eq_false]
              exact ⟨l[k], List.mem_take_iff_getElem.2 ⟨k, by omega, rfl⟩, by simpa using hs⟩
            rw [this, Bool.false_and]
          clear hs
          go_wp2_with fail
          go_ret
          exact ⟨by rw [HF.out]; rfl, rfl⟩
      · have HF := hend (.inr (by omega))
        clear hend HR hr
        by_cases g1 : l.length ≤ 60
        · omega
        have d1 : decide (l.length ≤ 60) = false := by simpa using g1
        have d7 : decide (k < 70) = false := by simpa using h70
        have i7 : ¬ (k : Int) < 70 := by omega
        have i1 : ¬ (l.length : Int) ≤ 60 := by omega
        by_cases g2 : 1024 < l.length
        · go_wp2
          all_goals go_ret
          all_goals (refine ⟨?_, rfl⟩; rw [HF.out]; first | (simp [*]; done) | (simp [*]; omega))
        · have i2 : ¬ (1024 : Int) < l.length := by omega
          go_wp2
          all_goals go_ret
          all_goals (refine ⟨?_, rfl⟩; rw [HF.out]; first | (simp [*]; done) | (simp [*]; omega))
    · have HF := hend (.inl (by omega))
      clear hend HR hr
      by_cases g1 : l.length ≤ 60
      · go_wp2
        all_goals go_ret
        all_goals (refine ⟨?_, rfl⟩; rw [HF.out]; first | (simp [*]; done) | (simp [*]; omega))
      · have i1 : ¬ (l.length : Int) ≤ 60 := by omega
        by_cases g2 : 1024 < l.length
        · go_wp2
          all_goals go_ret
          all_goals (refine ⟨?_, rfl⟩; rw [HF.out]; first | (simp [*]; done) | (simp [*]; omega))
        · have i2 : ¬ (1024 : Int) < l.length := by omega
          go_wp2
          all_goals go_ret
          all_goals (refine ⟨?_, rfl⟩; rw [HF.out]; first | (simp [*]; done) | (simp [*]; omega))

/-- Whether there are few changes, or too many. -/
def fewC (l : List Change) : Bool := (l.take 110).all (fun x => decide (x.spot.text.size ≤ 200)) && (decide (l.length ≤ 100) || (decide (4096 < l.length) && decide (l.length ≤ 4200)))
theorem fewc49_any (A : Option Addr) (c : Nat) (l : List Change) (w : World) (hr : Rd w A (cflat l)) (hm : l.length ≤ 9223372036854775807) :
    Calls Tryd.prog 22 #[.slice A l.length c] w fun e w' => e = .returned (.bool (fewC l)) ∧ w = w' := by
  have Hf : Hid (fewC l = ((l.take 110).all (fun x => decide (x.spot.text.size ≤ 200)) && (decide (l.length ≤ 100) || (decide (4096 < l.length) && decide (l.length ≤ 4200))))) := rfl
  go_enter Tryd.func22, Tryd.ntmps22
  go_wp2_with fail
  go_loop [3] (fun i => ∃ k : Nat, k ≤ l.length ∧ k ≤ 110 ∧ i = .int .i64 k ∧ Hid (∀ (j : Nat) (hj : j < l.length), j < k → l[j].spot.text.size ≤ 200)) (fun i => l.length - (intOf i).toNat)
  case atStart => exact ⟨0, Nat.zero_le _, Nat.zero_le _, rfl, fun j hj h => by omega⟩
  case round =>
    obtain ⟨k, hk, hk7, rfl, HR⟩ := hrel
    have hend : (k = l.length ∨ k = 110) → Hid (fewC l = (decide (l.length ≤ 100) || (decide (4096 < l.length) && decide (l.length ≤ 4200)))) := by
      intro h
      show _ = _
      rw [Hf.out]
      have : (l.take 110).all (fun x => decide (x.spot.text.size ≤ 200)) = true := by
        rw [List.all_eq_true]
        intro x hx
        obtain ⟨j, hj, rfl⟩ := List.mem_iff_getElem.1 hx
        simp at hj
        rw [List.getElem_take]
        simpa using HR.out j (by omega) (by omega)
      rw [this, Bool.true_and]
    by_cases hlt : k < l.length
    · by_cases h70 : k < 110
      · obtain ⟨b, off, rfl, hb, hc⟩ := hr.elem Change.size_cells (by omega) hlt
        have h3 := hc 4 _ rfl
        clear hc hr hend
        by_cases hs : l[k].spot.text.size ≤ 200
        · have HS := Lib.hid hs
          have hs1 : ¬ (200 : Int) < l[k].spot.text.size := by omega
          clear hs
          go_wp2_with fail
          go_round
          case rel =>
            refine ⟨k + 1, by omega, by omega, by go_num, fun j hj hjk => ?_⟩
            rcases Nat.lt_or_ge j k with h | h
            · exact HR.out j hj h
            · obtain rfl : j = k := by omega
              exact HS.out
          case measure => simp [intOf]; omega
        · have hs1 : (200 : Int) < l[k].spot.text.size := by omega
          have HF : Hid (fewC l = false) := by
            show _ = _
            rw [Hf.out]
            have : (l.take 110).all (fun x => decide (x.spot.text.size ≤ 200)) = false := by
              rw [List.all_eq_false]
              exact ⟨l[k], List.mem_take_iff_getElem.2 ⟨k, by omega, rfl⟩, by simpa using hs⟩
            rw [this, Bool.false_and]
          clear hs
          go_wp2_with fail
          go_ret
          exact ⟨by rw [HF.out]; rfl, rfl⟩
      · have HF := hend (.inr (by omega))
        clear hend HR hr
        by_cases g1 : l.length ≤ 100
        · omega
        have d1 : decide (l.length ≤ 100) = false := by simpa using g1
        have d7 : decide (k < 110) = false := by simpa using h70
        have i7 : ¬ (k : Int) < 110 := by omega
        have i1 : ¬ (l.length : Int) ≤ 100 := by omega
        by_cases g2 : 4096 < l.length
        · go_wp2
          all_goals go_ret
          all_goals (refine ⟨?_, rfl⟩; rw [HF.out]; first | (simp [*]; done) | (simp [*]; omega))
        · have i2 : ¬ (4096 : Int) < l.length := by omega
          go_wp2
          all_goals go_ret
          all_goals (refine ⟨?_, rfl⟩; rw [HF.out]; first | (simp [*]; done) | (simp [*]; omega))
    · have HF := hend (.inl (by omega))
      clear hend HR hr
      by_cases g1 : l.length ≤ 100
      · go_wp2
        all_goals go_ret
        all_goals (refine ⟨?_, rfl⟩; rw [HF.out]; first | (simp [*]; done) | (simp [*]; omega))
      · have i1 : ¬ (l.length : Int) ≤ 100 := by omega
        by_cases g2 : 4096 < l.length
        · go_wp2
          all_goals go_ret
          all_goals (refine ⟨?_, rfl⟩; rw [HF.out]; first | (simp [*]; done) | (simp [*]; omega))
        · have i2 : ¬ (4096 : Int) < l.length := by omega
          go_wp2
          all_goals go_ret
          all_goals (refine ⟨?_, rfl⟩; rw [HF.out]; first | (simp [*]; done) | (simp [*]; omega))


/-- The Id before place k. -/
def lastI (l : List Spot) (k : Nat) : Int := if k = 0 then -1 else match l[k - 1]? with | some x => x.id | none => -1
theorem lastI_succ (l : List Spot) (k : Nat) (h : k < l.length) : lastI l (k + 1) = l[k].id := by
  unfold lastI
  rw [if_neg (by omega), Nat.add_sub_cancel, List.getElem?_eq_getElem h]
set_option maxHeartbeats 1000000 in
theorem check49_any (A : Option Addr) (c : Nat) (l : List Spot) (w : World) (hr : Rd w A (flat l)) (hm : l.length ≤ 9223372036854775807) :
    Calls Tryd.prog 20 #[.slice A l.length c] w fun e w' => e = .returned (.int .i64 (checkE l)) ∧ Below w.heap.size w w' := by
  by_cases hl : l.length ≤ 1024
  · have h1 : ¬ (1024 : Int) < l.length := by omega
    go_enter Tryd.func20, Tryd.ntmps20
    go_wp2_with fail
    go_loopw [3] (fun i wr => ∃ (k : Nat) (last : Int), k ≤ l.length ∧ i = .int .i64 k ∧ Below w.heap.size w wr ∧ Hid (checkFrom (-1) l = checkFrom last (l.drop k)) ∧ Hid (last = lastI l k)) (fun i _ => l.length - (intOf i).toNat)
    case atStart => exact ⟨0, -1, Nat.zero_le _, rfl, Below.refl _ _, rfl, rfl⟩
    case round =>
      obtain ⟨k, last, hk, rfl, hB, HR, HL⟩ := hrel
      have hz := hB.size
      by_cases hlt : k < l.length
      · obtain ⟨b, off, rfl, hb, hc⟩ := hr.elem Spot.size_cells (by omega) hlt
        have h1 := (hB.cell (p := ⟨b, off + k * 3 + 0, none⟩) hb).trans (hc 0 _ rfl)
        have h2 := (hB.cell (p := ⟨b, off + k * 3 + 1, none⟩) hb).trans (hc 1 _ rfl)
        have h3 := (hB.cell (p := ⟨b, off + k * 3 + 2, none⟩) hb).trans (hc 2 _ rfl)
        simp only [Nat.add_zero] at h1
        have Hd := Lib.hid (checkFrom_drop l k hlt last)
        have hbw : b < wr.heap.size := Nat.lt_of_lt_of_le hb hz
        have hcE : ∀ b : Bool, b = (l[k].ok && decide (last < l[k].id)) → checkE l = if b then (if checkFrom l[k].id (l.drop (k + 1)) then 0 else 490) else 490 := by
          rintro b rfl
          unfold checkE
          rw [if_neg (by omega), HR.out, Hd.out]
          cases l[k].ok <;> simp
          by_cases h : last < l[k].id <;> simp [h]
        have HcE := Lib.hid hcE
        have cr := right49_any l[k] 
        cases hok : l[k].ok
        · have HF : Hid (checkE l = 490) := by
            show _ = _
            rw [HcE.out false (by rw [hok]; rfl)]; rfl
          rw [hok] at cr
          have Cr := Lib.hid cr
          clear hcE hok cr HcE hc hr
          generalize l[k] = x at *
          obtain ⟨a, v, s⟩ := x
          unfold Spot.val at Cr
          simp only at h1 h2 h3 Cr
          have c1 := fun p => cell_ext (w := wr) (a := ⟨b, off + k * 3, none⟩) hbw h1 p
          have c2 := fun p => cell_ext (w := wr) (a := ⟨b, off + k * 3 + 1, none⟩) hbw h2 p
          have c3 := fun p => cell_ext (w := wr) (a := ⟨b, off + k * 3 + 2, none⟩) hbw h3 p
          go_wp2_with fail
          refine wp_region_ext (by kernel_rfl) (by kernel_rfl) ?_
          repeat (quiet_step ((go_at_call 55; exact Calls.ext_of (Cr.out _))))
          refine wpQuiet_nil ?_
          intro _ hw'
          obtain ⟨p, rfl⟩ := hw'
          go_wp2
          go_ret
          exact ⟨by rw [HF.out]; rfl, hB.trans (p.ext.mono hz)⟩
        · rw [hok] at cr
          have Cr := Lib.hid cr
          have Hok := Lib.hid hok
          have hpos := ok_id hok
          clear hok cr hcE
          have HL2 : Hid (l[k].id = lastI l (k + 1)) := (lastI_succ l k hlt).symm
          rcases Nat.eq_zero_or_pos k with rfl | hk0
          · have hl0 : last = -1 := HL.out
            have HF : Hid (checkFrom (-1) l = checkFrom l[0].id (l.drop (0 + 1))) := by
              show _ = _
              rw [HR.out, Hd.out, Hok.out, hl0]
              simp; omega
            clear HR Hd
            subst hl0
            clear hc hr HcE HL Hok
            generalize l[0] = x at *
            obtain ⟨a, v, s⟩ := x
            unfold Spot.val at Cr
            simp only [Nat.zero_mul, Nat.add_zero] at h1 h2 h3 Cr
            have c1 := fun p => cell_ext (w := wr) (a := ⟨b, off, none⟩) hbw h1 p
            have c2 := fun p => cell_ext (w := wr) (a := ⟨b, off + 1, none⟩) hbw h2 p
            have c3 := fun p => cell_ext (w := wr) (a := ⟨b, off + 2, none⟩) hbw h3 p
            go_wp2_with fail
            refine wp_region_ext (by kernel_rfl) (by kernel_rfl) ?_
            repeat (quiet_step ((go_at_call 55; exact Calls.ext_of (Cr.out _))))
            refine wpQuiet_nil ?_
            intro _ hw'
            obtain ⟨p, rfl⟩ := hw'
            go_wp2
            go_roundw
            case rel => exact ⟨1, a, by omega, rfl, hB.trans (p.ext.mono hz), HF, HL2⟩
            case measure => simp [intOf]; omega
          · have hl1 : k - 1 < l.length := by omega
            have hlast : last = l[k - 1].id := by
              have := lastI_succ l (k - 1) hl1
              rw [Nat.sub_add_cancel hk0] at this
              rw [HL.out, this]
            obtain ⟨b', off', hbe, hb', hc'⟩ := hr.elem Spot.size_cells (by omega) hl1
            cases hbe
            have h1' := (hB.cell (p := ⟨b, off + (k - 1) * 3 + 0, none⟩) hb).trans (hc' 0 _ rfl)
            simp only [Nat.add_zero] at h1'
            have hk0' : (0 : Int) < (k : Int) := by omega
            have ek : ((k : Int) - 1) = ((k - 1 : Nat) : Int) := by omega
            have Hek := Lib.hid ek
            rw [← hlast] at h1'
            have HF : last < l[k].id → Hid (checkFrom (-1) l = checkFrom l[k].id (l.drop (k + 1))) := by
              intro h
              show _ = _
              rw [HR.out, Hd.out, Hok.out]
              simp [h]
            have HE : ¬ last < l[k].id → Hid (checkE l = 490) := by
              intro h
              show _ = _
              rw [HcE.out false (by rw [decide_eq_false h]; simp)]; rfl
            clear hc hr hc' HL Hok HcE HR Hd hlast ek
            generalize l[k] = x at *
            obtain ⟨a, v, s⟩ := x
            unfold Spot.val at Cr
            simp only at h1 h2 h3 Cr HF HE HL2
            have c1 := fun p => cell_ext (w := wr) (a := ⟨b, off + k * 3, none⟩) hbw h1 p
            have c2 := fun p => cell_ext (w := wr) (a := ⟨b, off + k * 3 + 1, none⟩) hbw h2 p
            have c3 := fun p => cell_ext (w := wr) (a := ⟨b, off + k * 3 + 2, none⟩) hbw h3 p
            have c4 := fun p => cell_ext (w := wr) (a := ⟨b, off + (k - 1) * 3, none⟩) hbw h1' p
            by_cases hla : last < a
            · have HF2 := HF hla
              have g1 : decide (a ≤ last) = false := by simp; omega
              clear HF HE
              have w1 : IntKind.i64.wrap ((k : Int) - 1) = (k : Int) - 1 := IntWalk.i64_in _ (by omega)
              have w2 : (0 : Int) ≤ (k : Int) - 1 := by omega
              have w3 : (1 : Int) ≤ (k : Int) := by omega
              have w4 : (k : Int) - 1 < l.length := by omega
              have w5 : ((k : Int) - 1).toNat = k - 1 := by omega
              go_wp2_with fail
              refine wp_region_ext (by kernel_rfl) (by kernel_rfl) ?_
              repeat (quiet_step ((go_at_call 55; exact Calls.ext_of (Cr.out _))))
              refine wpQuiet_nil ?_
              intro _ hw'
              obtain ⟨p, rfl⟩ := hw'
              clear w1 w2 w3 w4 w5
              go_wp2
              go_roundw
              case rel => exact ⟨k + 1, a, by omega, by go_num, hB.trans (p.ext.mono hz), HF2, HL2⟩
              case measure => simp [intOf]; omega
            · have HF2 := HE hla
              have g1 : decide (a ≤ last) = true := by simp; omega
              clear HF HE
              have w1 : IntKind.i64.wrap ((k : Int) - 1) = (k : Int) - 1 := IntWalk.i64_in _ (by omega)
              have w2 : (0 : Int) ≤ (k : Int) - 1 := by omega
              have w3 : (1 : Int) ≤ (k : Int) := by omega
              have w4 : (k : Int) - 1 < l.length := by omega
              have w5 : ((k : Int) - 1).toNat = k - 1 := by omega
              go_wp2_with fail
              refine wp_region_ext (by kernel_rfl) (by kernel_rfl) ?_
              repeat (quiet_step ((go_at_call 55; exact Calls.ext_of (Cr.out _))))
              refine wpQuiet_nil ?_
              intro _ hw'
              obtain ⟨p, rfl⟩ := hw'
              clear w1 w2 w3 w4 w5
              go_wp2
              go_ret
              exact ⟨by rw [HF2.out]; rfl, hB.trans (p.ext.mono hz)⟩
      · have HF : Hid (checkE l = 0) := by
          show _ = _
          have : k = l.length := by omega
          unfold checkE
          rw [if_neg (by omega), HR.out, this]; simp [checkFrom]
        clear HL HR
        go_wp2_with fail
        go_ret
        exact ⟨by rw [HF.out]; rfl, hB⟩
  · have HF : Hid (checkE l = 2) := by show _ = _; unfold checkE; rw [if_pos (by omega)]
    have h1 : (1024 : Int) < l.length := by omega
    go_enter Tryd.func20, Tryd.ntmps20
    go_wp2_with fail
    go_ret
    exact ⟨by rw [HF.out]; rfl, Below.refl _ _⟩
end Go.Proofs.YtneanannicacnaaDoor
