/- The statement ReleasesMore: whatever its arguments, the law returns true and its arguments read as they did. Conditions: none beyond the statement's own. -/
import Derived.Test.YtmindojbkedmlaaM8
import Derived.Test.YtmindojbkedmlaaLaw38d
import Derived.SevenTiedAt
namespace Go.Proofs.Ytmindojbkedmlaa
open Go.RowKit Go.Han Go.ChangeShapes Go.WideShapes Go.ChangeAt
set_option maxRecDepth 100000

theorem releasesMore_lifted (os : Os) (started : os.Started) (H : Type) (enc : TypeId × Value → H) :
    ReturnsInHanded {} Try.checked os 8 .any (Rows.releasesMoreSpec.pre6 enc Try.prog Try.f8 [] false)
      (Rows.releasesMoreSpec.post enc Try.prog Try.f8 false true false false) := by
  have e : Rows.releasesMoreSpec.pre6 enc Try.prog Try.f8 [] false = fun w args => (Rows.releasesMoreSpec.pre enc Try.prog Try.f8 [] false w args ∧ True) ∧ sizedMet enc Try.prog Try.f8 (OpenSpec.ofChange Rows.releasesMoreSpec) false w args := by
    funext w args; rw [and_true]; rfl
  rw [e]
  refine returnsInHanded_of_change_and (C := Try.checked) (X := fun _ _ => True) (fun _ _ _ _ h => h) own_knob started (by kernel_rfl) Try.func8
    (ChangeSpec.witness_shaped (enc := enc) (C := Try.checked) (os := os) (X := fun _ _ => True) false (World.laidAll Try.prog os laidL) #[.slice none 0 0, .agg #[.int .i64 0, .int .i64 0, .int .i64 0, .int .i64 0, .int .i64 0, .int .i64 0, .int .i64 0, .int .i64 0, .int .i64 0, .int .i64 0], .int .i64 0, .int .i64 0, .int .i64 0, .int .i64 0] 8 (World.laidAll_os _ _ _)
      (World.shaped_of_ZipB (by kernel_rfl) (by kernel_rfl)) (by kernel_rfl) (by kernel_rfl) (by kernel_rfl) trivial) ?_
  intro W base args ds gs before hval0 hW _ _ hL _
  have hval : ∀ (j : Nat) t v, Try.f8.params[j]? = some t → args[j]? = some v → Value.okWide Try.prog W .any base t v := hval0
  have hW' := hW
  obtain ⟨p, q, hA0, hV, rfl, _, _⟩ := hW
  have hA : DataW.TrodAll enc Try.prog W 0 (fun _ => true) true Try.f8.params.toList args.toList ds p := hA0
  clear hA0 hval0
  obtain ⟨rfl, rfl⟩ := trodVars_none hV
  have hK := hA
  rw [Try.params8] at hA hval
  obtain ⟨v0, v1, v2, v3, v4, v5, d0, d1, d2, d3, d4, d5, p0, p1, p2, p3, p4, p5, rfl, rfl, h0, h1, h2, h3, h4, h5⟩ := args_six hA
  obtain ⟨fu0, hf0⟩ := h0
  obtain ⟨A0, cp0, l0, hl0, hr0, hAn0, hm0⟩ := open_rows House.cells 10 ⟨0, 0, 0, 0, 0, 0, 0, 0, 0, 0⟩ Try.underlying22 (by kernel_rfl) (by decide) House.size_cells (fun _ _ _ h => trod_house h) hf0
  obtain ⟨a0, n0, c0, rfl⟩ := okWide_slice Try.underlying22 (hval 0 22 v0 rfl rfl)
  obtain ⟨rfl, rfl, rfl⟩ : a0 = A0 ∧ n0 = l0.length ∧ c0 = cp0 := by simpa [Value.cells] using hl0
  obtain ⟨fu1, hf1⟩ := h1
  obtain ⟨c1, hc1⟩ := trod_house hf1
  obtain ⟨cs1, rfl, _⟩ := okWide_struct Try.underlying52 (hval 1 52 v1 rfl rfl)
  obtain rfl : cs1 = c1.cells.toArray := by
    have h1 : cs1.toList = c1.cells := by simpa [Value.cells] using hc1
    rw [← h1]
  obtain ⟨t2, rfl, _, _, wt2⟩ := open_int Try.underlying3 (hval 2 3 v2 rfl rfl) h2
  obtain ⟨t3, rfl, _, _, wt3⟩ := open_int Try.underlying3 (hval 3 3 v3 rfl rfl) h3
  obtain ⟨t4, rfl, _, _, wt4⟩ := open_int Try.underlying3 (hval 4 3 v4 rfl rfl) h4
  obtain ⟨t5, rfl, _, _, wt5⟩ := open_int Try.underlying3 (hval 5 3 v5 rfl rfl) h5
  simp only [List.append_nil] at hW'
  have hlt : ∀ x ∈ p, x.block < W.heap.size := fun x hx => hW'.lt x hx
  refine (ReleasesMore_any _ _ l0 c1 t2 t3 t4 t5 W ⟨hr0, (by unfold maxLen at hm0; omega)⟩).mono ?_
  rintro e W' ⟨rfl, hb⟩
  exact ⟨_, rfl, post_below (pa := p) (pv := []) hW' (fun _ _ _ => trodAll_mk1 (shut_bool Try.underlying4 _)) (fun sp hsp => trodAll_below laid_out hb (by kernel_rfl) hK hlt hsp) (fun _ _ => rfl) (by simp) hb (ok_one (by kernel_rfl) rfl (okWide_bool_mk Try.underlying4 _))⟩

theorem releasesMore_row : Rows.ReleasesMoreSaid :=
  OpenClaim.holds_of_wide 8 Try.f8 rfl rfl rfl rfl rfl rfl rfl ⟨rfl, rfl, rfl, rfl, rfl⟩ rfl rfl rfl rfl rfl (by kernel_rfl) Try.func8 (by kernel_rfl)
    (of_decide_eq_true (by kernel_rfl)) (by unfold Func.isWrapper; first | (rw [if_pos (by decide +kernel)]; kernel_rfl) | (rw [if_neg (by decide +kernel)]; exact ⟨rfl, rfl⟩))
    (fun os started H enc _ => by rw [OpenClaim.pre_of_none rfl]; exact releasesMore_lifted os started H enc)
#print axioms releasesMore_row
end Go.Proofs.Ytmindojbkedmlaa
