/- The statement ChangesDiffSpec: whatever its arguments, the law returns true and its arguments read as they did. Conditions: none beyond the statement's own (the listed tables are laid as the program's text lays them). -/
import Derived.Test.YtmindojbkedmlaaDoorM8
import Derived.Test.YtmindojbkedmlaaDoorLaw34f
import Derived.Test.YtmindojbkedmlaaDoorCards
import Derived.SevenTiedAt
namespace Go.Proofs.YtmindojbkedmlaaDoor
open Go.RowKit Go.Han Go.ChangeShapes Go.WideShapes Go.ChangeAt
set_option maxRecDepth 100000

theorem changesDiffSpec_lifted (os : Os) (started : os.Started) (H : Type) (enc : TypeId × Value → H) :
    ReturnsInHanded {} Tryd.checked os 4 .any (fun w args => (Rows.changesDiffSpecSpec.pre enc Tryd.prog Tryd.f4 [] false w args ∧ laidMetH Tryd.prog laidL w) ∧ sizedMet enc Tryd.prog Tryd.f4 (OpenSpec.ofChange Rows.changesDiffSpecSpec) false w args)
      (Rows.changesDiffSpecSpec.post enc Tryd.prog Tryd.f4 false true false false) := by
  refine returnsInHanded_of_change_and (C := Tryd.checked) (X := fun w _ => laidMetH Tryd.prog laidL w) (fun _ _ _ hh h => h.of_heap hh) own_knob started (by kernel_rfl) Tryd.func4
    (ChangeSpec.witness_shaped (enc := enc) (C := Tryd.checked) (os := os) (X := fun w _ => laidMetH Tryd.prog laidL w) false (World.laidAll Tryd.prog os laidL) #[.slice none 0 0, .slice none 0 0] 8 (World.laidAll_os _ _ _)
      (World.shaped_of_ZipB (by kernel_rfl) (by kernel_rfl)) (by kernel_rfl) (by kernel_rfl) (by kernel_rfl) (witness_laid os _)) ?_
  intro W base args ds gs before hval0 hW _ _ hL _
  have hval : ∀ (j : Nat) t v, Tryd.f4.params[j]? = some t → args[j]? = some v → Value.okWide Tryd.prog W .any base t v := hval0
  have hW' := hW
  obtain ⟨p, q, hA0, hV, rfl, _, _⟩ := hW
  have hA : DataW.TrodAll enc Tryd.prog W 0 (fun _ => true) true Tryd.f4.params.toList args.toList ds p := hA0
  clear hA0 hval0
  obtain ⟨rfl, rfl⟩ := trodVars_none hV
  have hK := hA
  rw [Tryd.params4] at hA hval
  obtain ⟨v0, v1, d0, d1, p0, p1, rfl, rfl, h0, h1⟩ := args_two hA
  obtain ⟨fu0, hf0⟩ := h0
  obtain ⟨A0, cp0, l0, hl0, hr0, hm0⟩ := open_tgts hf0
  obtain ⟨a0, n0, c0, rfl⟩ := okWide_slice Tryd.underlying36 (hval 0 36 v0 rfl rfl)
  obtain ⟨rfl, rfl, rfl⟩ : a0 = A0 ∧ n0 = l0.length ∧ c0 = cp0 := by simpa [Value.cells] using hl0
  obtain ⟨fu1, hf1⟩ := h1
  obtain ⟨A1, cp1, l1, hl1, hr1, hm1⟩ := open_tgts hf1
  obtain ⟨a1, n1, c1, rfl⟩ := okWide_slice Tryd.underlying36 (hval 1 36 v1 rfl rfl)
  obtain ⟨rfl, rfl, rfl⟩ : a1 = A1 ∧ n1 = l1.length ∧ c1 = cp1 := by simpa [Value.cells] using hl1
  simp only [List.append_nil] at hW'
  have hlt : ∀ x ∈ p, x.block < W.heap.size := fun x hx => hW'.lt x hx
  refine (ChangesDiffSpec_any _ _ l0 _ _ l1 W (tabs_of hL) hr0 hr1 (by unfold maxLen at hm0; omega) (by unfold maxLen at hm1; omega)).mono ?_
  rintro e W' ⟨rfl, hb⟩
  exact ⟨_, rfl, post_below (pa := p) (pv := []) hW' (fun _ _ _ => trodAll_mk1 (shut_bool Tryd.underlying4 _)) (fun sp hsp => trodAll_below laid_out hb (by kernel_rfl) hK hlt hsp) (fun _ _ => rfl) (by simp) hb (ok_one (by kernel_rfl) rfl (okWide_bool_mk Tryd.underlying4 _))⟩

theorem changesDiffSpec_row : Rows.ChangesDiffSpecSaid :=
  OpenClaim.holds_of_wide 4 Tryd.f4 rfl rfl rfl rfl rfl rfl rfl ⟨rfl, rfl, rfl, rfl, rfl⟩ rfl rfl rfl rfl rfl (by kernel_rfl) Tryd.func4 (by kernel_rfl)
    (of_decide_eq_true (by kernel_rfl)) (by unfold Func.isWrapper; first | (rw [if_pos (by decide +kernel)]; kernel_rfl) | (rw [if_neg (by decide +kernel)]; exact ⟨rfl, rfl⟩))
    (fun os started H enc _ => changesDiffSpec_lifted os started H enc)

theorem changesDiffSpec_holds : Rows.ChangesDiffSpecCardSaid :=
  Claim7.holds_tied_plain_at .later [] [.data, .pinned] true (true, "0f5ae192745ffca593a29e6f88c729dee16bc974b3d4c7a5938d0c073e0f448b") true
    changesDiffSpec_row (fun _ h => by cases h) (by kernel_rfl) (fun _ h => by cases h) changesDiffSpec_row_tie rfl ⟨rfl, rfl⟩ (by kernel_rfl) rfl
    (fun f fn hf hfn => by
      obtain rfl : f = 4 := Option.some.inj ((show Tryd.prog.funcNamed "hansard/hansardlaw34.ChangesDiffSpec" = some 4 by kernel_rfl).symm.trans hf) |>.symm
      obtain rfl : fn = Tryd.f4 := (Option.some.inj (Tryd.func4.symm.trans hfn)).symm
      exact ⟨by kernel_rfl, fun j t ht => by
        rw [Tryd.params4] at ht
        have hm : t ∈ [36, 36] := by simpa using Array.mem_of_getElem? ht
        have hall : ([36, 36].all fun u => !Tryd.prog.wantsStandIn u) = true := by kernel_rfl
        exact (show Tryd.prog.wantsStandIn t = false by simpa using List.all_eq_true.1 hall t hm)⟩)
    (by kernel_rfl)
#print axioms changesDiffSpec_holds
end Go.Proofs.YtmindojbkedmlaaDoor
