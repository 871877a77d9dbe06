/- The statement AuditLater: whatever its arguments, the law returns true and its arguments read as they did. Conditions: none beyond the statement's own. -/
import Derived.Test.YtccmomebpdiimaaM6
import Derived.Test.YtccmomebpdiimaaLaw39f
import Derived.SevenTiedAt
namespace Go.Proofs.Ytccmomebpdiimaa
open Go.RowKit Go.Han Go.ChangeShapes Go.WideShapes Go.ChangeAt
set_option maxRecDepth 100000

theorem auditLater_lifted (os : Os) (started : os.Started) (H : Type) (enc : TypeId × Value → H) :
    ReturnsInHanded {} Try.checked os 7 .any (Rows.auditLaterSpec.pre6 enc Try.prog Try.f7 [] false)
      (Rows.auditLaterSpec.post enc Try.prog Try.f7 false true false false) := by
  have e : Rows.auditLaterSpec.pre6 enc Try.prog Try.f7 [] false = fun w args => (Rows.auditLaterSpec.pre enc Try.prog Try.f7 [] false w args ∧ True) ∧ sizedMet enc Try.prog Try.f7 (OpenSpec.ofChange Rows.auditLaterSpec) false w args := by
    funext w args; rw [and_true]; rfl
  rw [e]
  refine returnsInHanded_of_change_and (C := Try.checked) (X := fun _ _ => True) (fun _ _ _ _ h => h) own_knob started (by kernel_rfl) Try.func7
    (ChangeSpec.witness_shaped (enc := enc) (C := Try.checked) (os := os) (X := fun _ _ => True) false (World.laidAll Try.prog os laidL) #[.slice none 0 0, .slice none 0 0, .int .i64 0, .agg #[.int .i64 0, .int .i64 0, .int .i64 0, .int .i64 0, .int .i64 0]] 8 (World.laidAll_os _ _ _)
      (World.shaped_of_ZipB (by kernel_rfl) (by kernel_rfl)) (by kernel_rfl) (by kernel_rfl) (by kernel_rfl) trivial) ?_
  intro W base args ds gs before hval0 hW _ _ hL _
  have hval : ∀ (j : Nat) t v, Try.f7.params[j]? = some t → args[j]? = some v → Value.okWide Try.prog W .any base t v := hval0
  have hW' := hW
  obtain ⟨p, q, hA0, hV, rfl, _, _⟩ := hW
  have hA : DataW.TrodAll enc Try.prog W 0 (fun _ => true) true Try.f7.params.toList args.toList ds p := hA0
  clear hA0 hval0
  obtain ⟨rfl, rfl⟩ := trodVars_none hV
  have hK := hA
  rw [Try.params7] at hA hval
  obtain ⟨v0, v1, v2, v3, d0, d1, d2, d3, p0, p1, p2, p3, rfl, rfl, h0, h1, h2, h3⟩ := args_four hA
  obtain ⟨fu0, hf0⟩ := h0
  obtain ⟨A0, cp0, l0, hl0, hr0, hAn0, hm0⟩ := open_rows House.cells 10 ⟨0, 0, 0, 0, 0, 0, 0, 0, 0, 0⟩ Try.underlying22 (by kernel_rfl) (by decide) House.size_cells (fun _ _ _ h => trod_house h) hf0
  obtain ⟨a0, n0, c0, rfl⟩ := okWide_slice Try.underlying22 (hval 0 22 v0 rfl rfl)
  obtain ⟨rfl, rfl, rfl⟩ : a0 = A0 ∧ n0 = l0.length ∧ c0 = cp0 := by simpa [Value.cells] using hl0
  obtain ⟨fu1, hf1⟩ := h1
  obtain ⟨A1, cp1, l1, hl1, hr1, hAn1, hm1⟩ := open_rows Sight.cells 5 ⟨0, 0, 0, 0, 0⟩ Try.underlying23 (by kernel_rfl) (by decide) Sight.size_cells (fun _ _ _ h => trod_sight h) hf1
  obtain ⟨a1, n1, c1, rfl⟩ := okWide_slice Try.underlying23 (hval 1 23 v1 rfl rfl)
  obtain ⟨rfl, rfl, rfl⟩ : a1 = A1 ∧ n1 = l1.length ∧ c1 = cp1 := by simpa [Value.cells] using hl1
  obtain ⟨t2, rfl, _, _, wt2⟩ := open_int Try.underlying3 (hval 2 3 v2 rfl rfl) h2
  obtain ⟨fu3, hf3⟩ := h3
  obtain ⟨c3, hc3⟩ := trod_sight hf3
  obtain ⟨cs3, rfl, _⟩ := okWide_struct Try.underlying34 (hval 3 34 v3 rfl rfl)
  obtain rfl : cs3 = c3.cells.toArray := by
    have h1 : cs3.toList = c3.cells := by simpa [Value.cells] using hc3
    rw [← h1]
  simp only [List.append_nil] at hW'
  have hlt : ∀ x ∈ p, x.block < W.heap.size := fun x hx => hW'.lt x hx
  refine (AuditLater_any _ _ l0 _ _ l1 t2 c3 W ⟨hr0, (by unfold maxLen at hm0; omega), hr1, (by unfold maxLen at hm1; omega)⟩).mono ?_
  rintro e W' ⟨rfl, hb⟩
  exact ⟨_, rfl, post_below (pa := p) (pv := []) hW' (fun _ _ _ => trodAll_mk1 (shut_bool Try.underlying4 _)) (fun sp hsp => trodAll_below laid_out hb (by kernel_rfl) hK hlt hsp) (fun _ _ => rfl) (by simp) hb (ok_one (by kernel_rfl) rfl (okWide_bool_mk Try.underlying4 _))⟩

theorem auditLater_row : Rows.AuditLaterSaid :=
  OpenClaim.holds_of_wide 7 Try.f7 rfl rfl rfl rfl rfl rfl rfl ⟨rfl, rfl, rfl, rfl, rfl⟩ rfl rfl rfl rfl rfl (by kernel_rfl) Try.func7 (by kernel_rfl)
    (of_decide_eq_true (by kernel_rfl)) (by unfold Func.isWrapper; first | (rw [if_pos (by decide +kernel)]; kernel_rfl) | (rw [if_neg (by decide +kernel)]; exact ⟨rfl, rfl⟩))
    (fun os started H enc _ => by rw [OpenClaim.pre_of_none rfl]; exact auditLater_lifted os started H enc)
#print axioms auditLater_row
end Go.Proofs.Ytccmomebpdiimaa
