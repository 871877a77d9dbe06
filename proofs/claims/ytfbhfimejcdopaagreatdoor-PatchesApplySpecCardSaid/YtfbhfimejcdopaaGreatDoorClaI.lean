/- The statement PatchesApplySpec: whatever its arguments, the law returns true and its arguments read as they did. Conditions: none beyond the statement's own (the listed tables are laid as the program's text lays them). -/
import Derived.Test.YtfbhfimejcdopaaGreatDoorN8
import Derived.Test.YtfbhfimejcdopaaGreatDoorCards
import Derived.SevenTiedAt
namespace Go.Proofs.YtfbhfimejcdopaaGreatDoor
open Go.RowKit Go.Han Go.ChangeShapes Go.WideShapes Go.ChangeAt
set_option maxRecDepth 100000

theorem patchesApplySpec_lifted (os : Os) (started : os.Started) (H : Type) (enc : TypeId × Value → H) :
    ReturnsInHanded {} Tryz.checked os 4 .any (fun w args => (Rows.patchesApplySpecSpec.pre enc Tryz.prog Tryz.f4 [] false w args ∧ laidMetH Tryz.prog laidL w) ∧ sizedMet enc Tryz.prog Tryz.f4 (OpenSpec.ofChange Rows.patchesApplySpecSpec) false w args)
      (Rows.patchesApplySpecSpec.post enc Tryz.prog Tryz.f4 false true false false) := by
  refine returnsInHanded_of_change_and (C := Tryz.checked) (X := fun w _ => laidMetH Tryz.prog laidL w) (fun _ _ _ hh h => h.of_heap hh) own_knob started (by kernel_rfl) Tryz.func4
    (ChangeSpec.witness_shaped (enc := enc) (C := Tryz.checked) (os := os) (X := fun w _ => laidMetH Tryz.prog laidL w) false (World.laidAll Tryz.prog os laidL) #[.slice none 0 0, .slice none 0 0, .slice none 0 0] 8 (World.laidAll_os _ _ _)
      (World.shaped_of_ZipB (by kernel_rfl) (by kernel_rfl)) (by kernel_rfl) (by kernel_rfl) (by kernel_rfl) (witness_laid os _)) ?_
  intro W base args ds gs before hval0 hW _ _ hL _
  have hval : ∀ (j : Nat) t v, Tryz.f4.params[j]? = some t → args[j]? = some v → Value.okWide Tryz.prog W .any base t v := hval0
  have hW' := hW
  obtain ⟨p, q, hA0, hV, rfl, _, _⟩ := hW
  have hA : DataW.TrodAll enc Tryz.prog W 0 (fun _ => true) true Tryz.f4.params.toList args.toList ds p := hA0
  clear hA0 hval0
  obtain ⟨rfl, rfl⟩ := trodVars_none hV
  have hK := hA
  rw [Tryz.params4] at hA hval
  obtain ⟨v0, v1, v2, d0, d1, d2, p0, p1, p2, rfl, rfl, h0, h1, h2⟩ := args_three hA
  obtain ⟨fu0, hf0⟩ := h0
  obtain ⟨A0, cp0, l0, hl0, hr0, hAn0, hm0⟩ := open_rows Spot.cells 3 ⟨0, 0, ⟨#[]⟩⟩ Tryz.underlying22 (by kernel_rfl) (by decide) Spot.size_cells (fun _ _ _ h => trod_spot h) hf0
  obtain ⟨a0, n0, c0, rfl⟩ := okWide_slice Tryz.underlying22 (hval 0 22 v0 rfl rfl)
  obtain ⟨rfl, rfl, rfl⟩ : a0 = A0 ∧ n0 = l0.length ∧ c0 = cp0 := by simpa [Value.cells] using hl0
  obtain ⟨fu1, hf1⟩ := h1
  obtain ⟨A1, cp1, l1, hl1, hr1, hAn1, hm1⟩ := open_rows Change.cells 5 ⟨0, 0, ⟨0, 0, ⟨#[]⟩⟩⟩ Tryz.underlying25 (by kernel_rfl) (by decide) Change.size_cells (fun _ _ _ h => trod_change h) hf1
  obtain ⟨a1, n1, c1, rfl⟩ := okWide_slice Tryz.underlying25 (hval 1 25 v1 rfl rfl)
  obtain ⟨rfl, rfl, rfl⟩ : a1 = A1 ∧ n1 = l1.length ∧ c1 = cp1 := by simpa [Value.cells] using hl1
  obtain ⟨fu2, hf2⟩ := h2
  obtain ⟨A2, cp2, l2, hl2, hr2, hAn2, hm2⟩ := open_rows Change.cells 5 ⟨0, 0, ⟨0, 0, ⟨#[]⟩⟩⟩ Tryz.underlying25 (by kernel_rfl) (by decide) Change.size_cells (fun _ _ _ h => trod_change h) hf2
  obtain ⟨a2, n2, c2, rfl⟩ := okWide_slice Tryz.underlying25 (hval 2 25 v2 rfl rfl)
  obtain ⟨rfl, rfl, rfl⟩ : a2 = A2 ∧ n2 = l2.length ∧ c2 = cp2 := by simpa [Value.cells] using hl2
  simp only [List.append_nil] at hW'
  have hlt : ∀ x ∈ p, x.block < W.heap.size := fun x hx => hW'.lt x hx
  refine (PatchesApplySpec_any _ _ l0 _ _ l1 _ _ l2 W (tabs_of hL) hr0 hAn0 (by unfold maxLen at hm0; omega) hr1 (by unfold maxLen at hm1; omega) hr2 (by unfold maxLen at hm2; omega)).mono ?_
  rintro e W' ⟨rfl, hb⟩
  exact ⟨_, rfl, post_below (pa := p) (pv := []) hW' (fun _ _ _ => trodAll_mk1 (shut_bool Tryz.underlying4 _)) (fun sp hsp => trodAll_below laid_out hb (by kernel_rfl) hK hlt hsp) (fun _ _ => rfl) (by simp) hb (ok_one (by kernel_rfl) rfl (okWide_bool_mk Tryz.underlying4 _))⟩

theorem patchesApplySpec_row : Rows.PatchesApplySpecSaid :=
  OpenClaim.holds_of_wide 4 Tryz.f4 rfl rfl rfl rfl rfl rfl rfl ⟨rfl, rfl, rfl, rfl, rfl⟩ rfl rfl rfl rfl rfl (by kernel_rfl) Tryz.func4 (by kernel_rfl)
    (of_decide_eq_true (by kernel_rfl)) (by unfold Func.isWrapper; first | (rw [if_pos (by decide +kernel)]; kernel_rfl) | (rw [if_neg (by decide +kernel)]; exact ⟨rfl, rfl⟩))
    (fun os started H enc _ => patchesApplySpec_lifted os started H enc)

theorem patchesApplySpec_holds : Rows.PatchesApplySpecCardSaid :=
  Claim7.holds_tied_plain_at .later [] [.data, .pinned] true (true, "b7f26843b54ee2cbe47bef4572a8e81c03137d409a9f8f71849bd5bfd1078856") true
    patchesApplySpec_row (fun _ h => by cases h) (by kernel_rfl) (fun _ h => by cases h) patchesApplySpec_row_tie rfl ⟨rfl, rfl⟩ (by kernel_rfl) rfl
    (fun f fn hf hfn => by
      obtain rfl : f = 4 := Option.some.inj ((show Tryz.prog.funcNamed "hansard/hansardlaw51.PatchesApplySpec" = some 4 by kernel_rfl).symm.trans hf) |>.symm
      obtain rfl : fn = Tryz.f4 := (Option.some.inj (Tryz.func4.symm.trans hfn)).symm
      exact ⟨by kernel_rfl, fun j t ht => by
        rw [Tryz.params4] at ht
        have hm : t ∈ [22, 25, 25] := by simpa using Array.mem_of_getElem? ht
        have hall : ([22, 25, 25].all fun u => !Tryz.prog.wantsStandIn u) = true := by kernel_rfl
        exact (show Tryz.prog.wantsStandIn t = false by simpa using List.all_eq_true.1 hall t hm)⟩)
    (by kernel_rfl)
#print axioms patchesApplySpec_holds
end Go.Proofs.YtfbhfimejcdopaaGreatDoor
