/- The statement PatchesPlayed: whatever its arguments, the law returns true and its arguments read as they did. Conditions: none beyond the statement's own (the listed tables are laid as the program's text lays them). -/
import Derived.Test.YtfbhfimejcdopaaDoorM8
import Derived.Test.YtfbhfimejcdopaaDoorLaw51e
import Derived.Test.YtfbhfimejcdopaaDoorCards
import Derived.SevenTiedAt
namespace Go.Proofs.YtfbhfimejcdopaaDoor
open Go.RowKit Go.Han Go.ChangeShapes Go.WideShapes Go.ChangeAt
set_option maxRecDepth 100000

theorem patchesPlayed_lifted (os : Os) (started : os.Started) (H : Type) (enc : TypeId × Value → H) :
    ReturnsInHanded {} Tryd.checked os 10 .any (fun w args => (Rows.patchesPlayedSpec.pre enc Tryd.prog Tryd.f10 [] false w args ∧ laidMetH Tryd.prog laidL w) ∧ sizedMet enc Tryd.prog Tryd.f10 (OpenSpec.ofChange Rows.patchesPlayedSpec) false w args)
      (Rows.patchesPlayedSpec.post enc Tryd.prog Tryd.f10 false true false false) := by
  refine returnsInHanded_of_change_and (C := Tryd.checked) (X := fun w _ => laidMetH Tryd.prog laidL w) (fun _ _ _ hh h => h.of_heap hh) own_knob started (by kernel_rfl) Tryd.func10
    (ChangeSpec.witness_shaped (enc := enc) (C := Tryd.checked) (os := os) (X := fun w _ => laidMetH Tryd.prog laidL w) false (World.laidAll Tryd.prog os laidL) #[.slice none 0 0, .slice none 0 0, .int .i64 0] 8 (World.laidAll_os _ _ _)
      (World.shaped_of_ZipB (by kernel_rfl) (by kernel_rfl)) (by kernel_rfl) (by kernel_rfl) (by kernel_rfl) (witness_laid os _)) ?_
  intro W base args ds gs before hval0 hW _ _ hL _
  have hval : ∀ (j : Nat) t v, Tryd.f10.params[j]? = some t → args[j]? = some v → Value.okWide Tryd.prog W .any base t v := hval0
  have hW' := hW
  obtain ⟨p, q, hA0, hV, rfl, _, _⟩ := hW
  have hA : DataW.TrodAll enc Tryd.prog W 0 (fun _ => true) true Tryd.f10.params.toList args.toList ds p := hA0
  clear hA0 hval0
  obtain ⟨rfl, rfl⟩ := trodVars_none hV
  have hK := hA
  rw [Tryd.params10] at hA hval
  obtain ⟨v0, v1, v2, d0, d1, d2, p0, p1, p2, rfl, rfl, h0, h1, h2⟩ := args_three hA
  obtain ⟨fu0, hf0⟩ := h0
  obtain ⟨A0, cp0, l0, hl0, hr0, hAn0, hm0⟩ := open_rows Change.cells 5 ⟨0, 0, ⟨0, 0, ⟨#[]⟩⟩⟩ Tryd.underlying46 (by kernel_rfl) (by decide) Change.size_cells (fun _ _ _ h => trod_change h) hf0
  obtain ⟨a0, n0, c0, rfl⟩ := okWide_slice Tryd.underlying46 (hval 0 46 v0 rfl rfl)
  obtain ⟨rfl, rfl, rfl⟩ : a0 = A0 ∧ n0 = l0.length ∧ c0 = cp0 := by simpa [Value.cells] using hl0
  obtain ⟨fu1, hf1⟩ := h1
  obtain ⟨A1, cp1, l1, hl1, hr1, hAn1, hm1⟩ := open_rows Spot.cells 3 ⟨0, 0, ⟨#[]⟩⟩ Tryd.underlying45 (by kernel_rfl) (by decide) Spot.size_cells (fun _ _ _ h => trod_spot h) hf1
  obtain ⟨a1, n1, c1, rfl⟩ := okWide_slice Tryd.underlying45 (hval 1 45 v1 rfl rfl)
  obtain ⟨rfl, rfl, rfl⟩ : a1 = A1 ∧ n1 = l1.length ∧ c1 = cp1 := by simpa [Value.cells] using hl1
  obtain ⟨t2, rfl, _, _, wt2⟩ := open_int Tryd.underlying3 (hval 2 3 v2 rfl rfl) h2
  simp only [List.append_nil] at hW'
  have hlt : ∀ x ∈ p, x.block < W.heap.size := fun x hx => hW'.lt x hx
  refine (PatchesPlayed_any _ _ l0 _ _ l1 t2 W (tabs_of hL) hr0 (by unfold maxLen at hm0; omega) hr1 hAn1 (by unfold maxLen at hm1; omega)).mono ?_
  rintro e W' ⟨rfl, hb⟩
  exact ⟨_, rfl, post_below (pa := p) (pv := []) hW' (fun _ _ _ => trodAll_mk1 (shut_bool Tryd.underlying4 _)) (fun sp hsp => trodAll_below laid_out hb (by kernel_rfl) hK hlt hsp) (fun _ _ => rfl) (by simp) hb (ok_one (by kernel_rfl) rfl (okWide_bool_mk Tryd.underlying4 _))⟩

theorem patchesPlayed_row : Rows.PatchesPlayedSaid :=
  OpenClaim.holds_of_wide 10 Tryd.f10 rfl rfl rfl rfl rfl rfl rfl ⟨rfl, rfl, rfl, rfl, rfl⟩ rfl rfl rfl rfl rfl (by kernel_rfl) Tryd.func10 (by kernel_rfl)
    (of_decide_eq_true (by kernel_rfl)) (by unfold Func.isWrapper; first | (rw [if_pos (by decide +kernel)]; kernel_rfl) | (rw [if_neg (by decide +kernel)]; exact ⟨rfl, rfl⟩))
    (fun os started H enc _ => patchesPlayed_lifted os started H enc)

theorem patchesPlayed_holds : Rows.PatchesPlayedCardSaid :=
  Claim7.holds_tied_plain_at .later [] [.data, .pinned] true (true, "747dfdeab4891a8d1b589ecffabd794814266b92f128e9c1d9158d03aeb55e17") true
    patchesPlayed_row (fun _ h => by cases h) (by kernel_rfl) (fun _ h => by cases h) patchesPlayed_row_tie rfl ⟨rfl, rfl⟩ (by kernel_rfl) rfl
    (fun f fn hf hfn => by
      obtain rfl : f = 10 := Option.some.inj ((show Tryd.prog.funcNamed "hansard/hansardlaw51.PatchesPlayed" = some 10 by kernel_rfl).symm.trans hf) |>.symm
      obtain rfl : fn = Tryd.f10 := (Option.some.inj (Tryd.func10.symm.trans hfn)).symm
      exact ⟨by kernel_rfl, fun j t ht => by
        rw [Tryd.params10] at ht
        have hm : t ∈ [46, 45, 3] := by simpa using Array.mem_of_getElem? ht
        have hall : ([46, 45, 3].all fun u => !Tryd.prog.wantsStandIn u) = true := by kernel_rfl
        exact (show Tryd.prog.wantsStandIn t = false by simpa using List.all_eq_true.1 hall t hm)⟩)
    (by kernel_rfl)
#print axioms patchesPlayed_holds
end Go.Proofs.YtfbhfimejcdopaaDoor
