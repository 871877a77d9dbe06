/- The reference's package of displays: the error of changes; whether a change fits. -/
import Derived.Test.YtneanannicacnaaDoorRef49b
namespace Go.Proofs.YtneanannicacnaaDoor
open Go.RowKit Go.Han
attribute [local irreducible] wpStill wpQuiet
set_option maxRecDepth 100000

/-- The error of changes. -/
def changesE (l : List Change) : Int := if 4096 < l.length then 2 else if examFrom 0 l then 0 else 490
theorem exam_drop (l : List Change) (k : Nat) (h : k < l.length) (last : Int) : examFrom last (l.drop k) = (l[k].ok && decide (last ≤ l[k].at_) && examFrom l[k].at_ (l.drop (k + 1))) := by
  rw [List.drop_eq_getElem_cons h]; rfl
theorem ok_time {c : Change} (h : c.ok = true) : 0 ≤ c.at_ := by
  unfold Change.ok timeB at h
  simp only [Bool.and_eq_true, decide_eq_true_eq] at h
  exact h.1.2.1
/-- The time before place k. -/
def lastT (l : List Change) (k : Nat) : Int := if k = 0 then 0 else match l[k - 1]? with | some x => x.at_ | none => -1
theorem lastT_succ (l : List Change) (k : Nat) (h : k < l.length) : lastT l (k + 1) = l[k].at_ := by
  unfold lastT
  rw [if_neg (by omega), Nat.add_sub_cancel, List.getElem?_eq_getElem h]
set_option maxHeartbeats 1000000 in
theorem changes49_any (A : Option Addr) (c : Nat) (l : List Change) (w : World) (hr : Rd w A (cflat l)) (hm : l.length ≤ 9223372036854775807) :
    Calls Tryd.prog 94 #[.slice A l.length c] w fun e w' => e = .returned (.int .i64 (changesE l)) ∧ Below w.heap.size w w' := by
  by_cases hl : l.length ≤ 4096
  · have h1 : ¬ (4096 : Int) < l.length := by omega
    go_enter Tryd.func94, Tryd.ntmps94
    go_wp2_with fail
    go_loopw [3] (fun i wr => ∃ (k : Nat) (last : Int), k ≤ l.length ∧ i = .int .i64 k ∧ Below w.heap.size w wr ∧ Hid (examFrom 0 l = examFrom last (l.drop k)) ∧ Hid (last = lastT l k)) (fun i _ => l.length - (intOf i).toNat)
    case atStart => exact ⟨0, 0, Nat.zero_le _, rfl, Below.refl _ _, rfl, rfl⟩
    case round =>
      obtain ⟨k, last, hk, rfl, hB, HR, HL⟩ := hrel
      have hz := hB.size
      by_cases hlt : k < l.length
      · obtain ⟨b, off, rfl, hb, hc⟩ := hr.elem Change.size_cells (by omega) hlt
        have h1 := (hB.cell (p := ⟨b, off + k * 5 + 0, none⟩) hb).trans (hc 0 _ rfl)
        have h2 := (hB.cell (p := ⟨b, off + k * 5 + 1, none⟩) hb).trans (hc 1 _ rfl)
        have h3 := (hB.cell (p := ⟨b, off + k * 5 + 2, none⟩) hb).trans (hc 2 _ rfl)
        have h4 := (hB.cell (p := ⟨b, off + k * 5 + 3, none⟩) hb).trans (hc 3 _ rfl)
        have h5 := (hB.cell (p := ⟨b, off + k * 5 + 4, none⟩) hb).trans (hc 4 _ rfl)
        simp only [Nat.add_zero] at h1
        have Hd := Lib.hid (exam_drop l k hlt last)
        have hbw : b < wr.heap.size := Nat.lt_of_lt_of_le hb hz
        have hcE : ∀ b : Bool, b = (l[k].ok && decide (last ≤ l[k].at_)) → changesE l = if b then (if examFrom l[k].at_ (l.drop (k + 1)) then 0 else 490) else 490 := by
          rintro b rfl
          unfold changesE
          rw [if_neg (by omega), HR.out, Hd.out]
          cases l[k].ok <;> simp
          by_cases h : last ≤ l[k].at_ <;> simp [h]
        have HcE := Lib.hid hcE
        have cr := rightc49_any l[k] 
        cases hok : l[k].ok
        · have HF : Hid (changesE l = 490) := by
            show _ = _
            rw [HcE.out false (by rw [hok]; rfl)]; rfl
          rw [hok] at cr
          have Cr := Lib.hid cr
          clear hcE hok cr HcE hc hr
          generalize l[k] = x at *
          obtain ⟨a, kd, ⟨xi, v, s⟩⟩ := x
          unfold Change.val at Cr
          simp only at h1 h2 h3 h4 h5 Cr
          have c1 := fun p => cell_ext (w := wr) (a := ⟨b, off + k * 5, none⟩) hbw h1 p
          have c2 := fun p => cell_ext (w := wr) (a := ⟨b, off + k * 5 + 1, none⟩) hbw h2 p
          have c3 := fun p => cell_ext (w := wr) (a := ⟨b, off + k * 5 + 2, none⟩) hbw h3 p
          have c4' := fun p => cell_ext (w := wr) (a := ⟨b, off + k * 5 + 3, none⟩) hbw h4 p
          have c5' := fun p => cell_ext (w := wr) (a := ⟨b, off + k * 5 + 4, none⟩) hbw h5 p
          go_wp2_with fail
          refine wp_region_ext (by kernel_rfl) (by kernel_rfl) ?_
          repeat (quiet_step ((go_at_call 53; exact Calls.ext_of (Cr.out _))))
          refine wpQuiet_nil ?_
          intro _ hw'
          obtain ⟨p, rfl⟩ := hw'
          go_wp2
          go_ret
          exact ⟨by rw [HF.out]; rfl, hB.trans (p.ext.mono hz)⟩
        · rw [hok] at cr
          have Cr := Lib.hid cr
          have Hok := Lib.hid hok
          have hpos := ok_time hok
          clear hok cr hcE
          have HL2 : Hid (l[k].at_ = lastT l (k + 1)) := (lastT_succ l k hlt).symm
          rcases Nat.eq_zero_or_pos k with rfl | hk0
          · have hl0 : last = 0 := HL.out
            have HF : Hid (examFrom 0 l = examFrom l[0].at_ (l.drop (0 + 1))) := by
              show _ = _
              rw [HR.out, Hd.out, Hok.out, hl0]
              simp; omega
            clear HR Hd
            subst hl0
            clear hc hr HcE HL Hok
            generalize l[0] = x at *
            obtain ⟨a, kd, ⟨xi, v, s⟩⟩ := x
            unfold Change.val at Cr
            simp only [Nat.zero_mul, Nat.add_zero] at h1 h2 h3 h4 h5 Cr
            have c1 := fun p => cell_ext (w := wr) (a := ⟨b, off, none⟩) hbw h1 p
            have c2 := fun p => cell_ext (w := wr) (a := ⟨b, off + 1, none⟩) hbw h2 p
            have c3 := fun p => cell_ext (w := wr) (a := ⟨b, off + 2, none⟩) hbw h3 p
            have c4' := fun p => cell_ext (w := wr) (a := ⟨b, off + 3, none⟩) hbw h4 p
            have c5' := fun p => cell_ext (w := wr) (a := ⟨b, off + 4, none⟩) hbw h5 p
            go_wp2_with fail
            refine wp_region_ext (by kernel_rfl) (by kernel_rfl) ?_
            repeat (quiet_step ((go_at_call 53; exact Calls.ext_of (Cr.out _))))
            refine wpQuiet_nil ?_
            intro _ hw'
            obtain ⟨p, rfl⟩ := hw'
            go_wp2
            go_roundw
            case rel => exact ⟨1, a, by omega, rfl, hB.trans (p.ext.mono hz), HF, HL2⟩
            case measure => simp [intOf]; omega
          · have hl1 : k - 1 < l.length := by omega
            have hlast : last = l[k - 1].at_ := by
              have := lastT_succ l (k - 1) hl1
              rw [Nat.sub_add_cancel hk0] at this
              rw [HL.out, this]
            obtain ⟨b', off', hbe, hb', hc'⟩ := hr.elem Change.size_cells (by omega) hl1
            cases hbe
            have h1' := (hB.cell (p := ⟨b, off + (k - 1) * 5 + 0, none⟩) hb).trans (hc' 0 _ rfl)
            simp only [Nat.add_zero] at h1'
            have hk0' : (0 : Int) < (k : Int) := by omega
            have ek : ((k : Int) - 1) = ((k - 1 : Nat) : Int) := by omega
            have Hek := Lib.hid ek
            rw [← hlast] at h1'
            have HF : last ≤ l[k].at_ → Hid (examFrom 0 l = examFrom l[k].at_ (l.drop (k + 1))) := by
              intro h
              show _ = _
              rw [HR.out, Hd.out, Hok.out]
              simp [h]
            have HE : ¬ last ≤ l[k].at_ → Hid (changesE l = 490) := by
              intro h
              show _ = _
              rw [HcE.out false (by rw [decide_eq_false h]; simp)]; rfl
            clear hc hr hc' HL Hok HcE HR Hd hlast ek
            generalize l[k] = x at *
            obtain ⟨a, kd, ⟨xi, v, s⟩⟩ := x
            unfold Change.val at Cr
            simp only at h1 h2 h3 h4 h5 Cr HF HE HL2
            have c1 := fun p => cell_ext (w := wr) (a := ⟨b, off + k * 5, none⟩) hbw h1 p
            have c2 := fun p => cell_ext (w := wr) (a := ⟨b, off + k * 5 + 1, none⟩) hbw h2 p
            have c3 := fun p => cell_ext (w := wr) (a := ⟨b, off + k * 5 + 2, none⟩) hbw h3 p
            have c4' := fun p => cell_ext (w := wr) (a := ⟨b, off + k * 5 + 3, none⟩) hbw h4 p
            have c5' := fun p => cell_ext (w := wr) (a := ⟨b, off + k * 5 + 4, none⟩) hbw h5 p
            have c4 := fun p => cell_ext (w := wr) (a := ⟨b, off + (k - 1) * 5, none⟩) hbw h1' p
            by_cases hla : last ≤ a
            · have HF2 := HF hla
              have g1 : decide (a < last) = false := by simp; omega
              clear HF HE
              have w1 : IntKind.i64.wrap ((k : Int) - 1) = (k : Int) - 1 := IntWalk.i64_in _ (by omega)
              have w2 : (0 : Int) ≤ (k : Int) - 1 := by omega
              have w3 : (1 : Int) ≤ (k : Int) := by omega
              have w4 : (k : Int) - 1 < l.length := by omega
              have w5 : ((k : Int) - 1).toNat = k - 1 := by omega
              go_wp2_with fail
              refine wp_region_ext (by kernel_rfl) (by kernel_rfl) ?_
              repeat (quiet_step ((go_at_call 53; exact Calls.ext_of (Cr.out _))))
              refine wpQuiet_nil ?_
              intro _ hw'
              obtain ⟨p, rfl⟩ := hw'
              clear w1 w2 w3 w4 w5
              go_wp2
              go_roundw
              case rel => exact ⟨k + 1, a, by omega, by go_num, hB.trans (p.ext.mono hz), HF2, HL2⟩
              case measure => simp [intOf]; omega
            · have HF2 := HE hla
              have g1 : decide (a < last) = true := by simp; omega
              clear HF HE
              have w1 : IntKind.i64.wrap ((k : Int) - 1) = (k : Int) - 1 := IntWalk.i64_in _ (by omega)
              have w2 : (0 : Int) ≤ (k : Int) - 1 := by omega
              have w3 : (1 : Int) ≤ (k : Int) := by omega
              have w4 : (k : Int) - 1 < l.length := by omega
              have w5 : ((k : Int) - 1).toNat = k - 1 := by omega
              go_wp2_with fail
              refine wp_region_ext (by kernel_rfl) (by kernel_rfl) ?_
              repeat (quiet_step ((go_at_call 53; exact Calls.ext_of (Cr.out _))))
              refine wpQuiet_nil ?_
              intro _ hw'
              obtain ⟨p, rfl⟩ := hw'
              clear w1 w2 w3 w4 w5
              go_wp2
              go_ret
              exact ⟨by rw [HF2.out]; rfl, hB.trans (p.ext.mono hz)⟩
      · have HF : Hid (changesE l = 0) := by
          show _ = _
          have : k = l.length := by omega
          unfold changesE
          rw [if_neg (by omega), HR.out, this]; simp [examFrom]
        clear HL HR
        go_wp2_with fail
        go_ret
        exact ⟨by rw [HF.out]; rfl, hB⟩
  · have HF : Hid (changesE l = 2) := by show _ = _; unfold changesE; rw [if_pos (by omega)]
    have h1 : (4096 : Int) < l.length := by omega
    go_enter Tryd.func94, Tryd.ntmps94
    go_wp2_with fail
    go_ret
    exact ⟨by rw [HF.out]; rfl, Below.refl _ _⟩
end Go.Proofs.YtneanannicacnaaDoor
