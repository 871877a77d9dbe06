/- The statement GlossaryLongest: whatever its arguments, the law returns true and its arguments read as they did. Conditions: none beyond the statement's own (the listed tables are laid as the program's text lays them). -/
import Derived.Test.YtneanannicacnaaDoorOpen3
import Derived.Test.YtneanannicacnaaDoorLaw27e
import Derived.Test.YtneanannicacnaaDoorCards
import Derived.SevenTiedAt
namespace Go.Proofs.YtneanannicacnaaDoor
open Go.RowKit Go.Han Go.ChangeShapes Go.WideShapes Go.ChangeAt
set_option maxRecDepth 100000

theorem glossaryLongest_lifted (os : Os) (started : os.Started) (H : Type) (enc : TypeId × Value → H) :
    ReturnsInHanded {} Tryd.checked os 14 .any (fun w args => (Rows.glossaryLongestSpec.pre enc Tryd.prog Tryd.f14 [] false w args ∧ laidMetH Tryd.prog laidL w) ∧ sizedMet enc Tryd.prog Tryd.f14 (OpenSpec.ofChange Rows.glossaryLongestSpec) false w args)
      (Rows.glossaryLongestSpec.post enc Tryd.prog Tryd.f14 false true false false) := by
  refine returnsInHanded_of_change_and (C := Tryd.checked) (X := fun w _ => laidMetH Tryd.prog laidL w) (fun _ _ _ hh h => h.of_heap hh) own_knob started (by kernel_rfl) Tryd.func14
    (ChangeSpec.witness_shaped (enc := enc) (C := Tryd.checked) (os := os) (X := fun w _ => laidMetH Tryd.prog laidL w) false (World.laidAll Tryd.prog os laidL) #[.slice none 0 0, .int .i64 0, .slice none 0 0, .int .i64 0, .int .i64 0, .int .i64 0] 8 (World.laidAll_os _ _ _)
      (World.shaped_of_ZipB (by kernel_rfl) (by kernel_rfl)) (by kernel_rfl) (by kernel_rfl) (by kernel_rfl) (witness_laid os _)) ?_
  intro W base args ds gs before hval0 hW _ _ hL _
  have hval : ∀ (j : Nat) t v, Tryd.f14.params[j]? = some t → args[j]? = some v → Value.okWide Tryd.prog W .any base t v := hval0
  have hW' := hW
  obtain ⟨p, q, hA0, hV, rfl, _, _⟩ := hW
  have hA : DataW.TrodAll enc Tryd.prog W 0 (fun _ => true) true Tryd.f14.params.toList args.toList ds p := hA0
  clear hA0 hval0
  obtain ⟨rfl, rfl⟩ := trodVars_none hV
  have hK := hA
  rw [Tryd.params14] at hA hval
  obtain ⟨v0, v1, v2, v3, v4, v5, d0, d1, d2, d3, d4, d5, p0, p1, p2, p3, p4, p5, rfl, rfl, h0, h1, h2, h3, h4, h5⟩ := args_six hA
  obtain ⟨fu0, hf0⟩ := h0
  obtain ⟨A0, cp0, l0, hl0, hr0, hAn0, hm0⟩ := open_terms hf0
  obtain ⟨a0, n0, c0, rfl⟩ := okWide_slice Tryd.underlying48 (hval 0 48 v0 rfl rfl)
  obtain ⟨rfl, rfl, rfl⟩ : a0 = A0 ∧ n0 = l0.length ∧ c0 = cp0 := by simpa [Value.cells] using hl0
  obtain ⟨t1, rfl, _, _, wt1⟩ := open_int Tryd.underlying3 (hval 1 3 v1 rfl rfl) h1
  obtain ⟨fu2, hf2⟩ := h2
  obtain ⟨s2, hs2, hli2⟩ := trod_strs hf2
  obtain ⟨a2, n2, c2, rfl⟩ := okWide_slice Tryd.underlying49 (hval 2 49 v2 rfl rfl)
  obtain ⟨rfl, rfl, rfl⟩ : a2 = s2.addr ∧ n2 = s2.xs.length ∧ c2 = s2.cap := by simpa [Value.cells, StrS.val] using hs2
  obtain ⟨t3, rfl, _, _, wt3⟩ := open_int Tryd.underlying3 (hval 3 3 v3 rfl rfl) h3
  obtain ⟨t4, rfl, _, _, wt4⟩ := open_int Tryd.underlying3 (hval 4 3 v4 rfl rfl) h4
  obtain ⟨t5, rfl, _, _, wt5⟩ := open_int Tryd.underlying3 (hval 5 3 v5 rfl rfl) h5
  simp only [List.append_nil] at hW'
  have hlt : ∀ x ∈ p, x.block < W.heap.size := fun x hx => hW'.lt x hx
  refine (GlossaryLongest_any _ _ l0 t1 s2 t3 t4 t5 W (tabs_of hL) hr0 hli2 (by unfold maxLen at hm0; omega)).mono ?_
  rintro e W' ⟨rfl, hb⟩
  exact ⟨_, rfl, post_below (pa := p) (pv := []) hW' (fun _ _ _ => trodAll_mk1 (shut_bool Tryd.underlying4 _)) (fun sp hsp => trodAll_below laid_out hb (by kernel_rfl) hK hlt hsp) (fun _ _ => rfl) (by simp) hb (ok_one (by kernel_rfl) rfl (okWide_bool_mk Tryd.underlying4 _))⟩

theorem glossaryLongest_row : Rows.GlossaryLongestSaid :=
  OpenClaim.holds_of_wide 14 Tryd.f14 rfl rfl rfl rfl rfl rfl rfl ⟨rfl, rfl, rfl, rfl, rfl⟩ rfl rfl rfl rfl rfl (by kernel_rfl) Tryd.func14 (by kernel_rfl)
    (of_decide_eq_true (by kernel_rfl)) (by unfold Func.isWrapper; first | (rw [if_pos (by decide +kernel)]; kernel_rfl) | (rw [if_neg (by decide +kernel)]; exact ⟨rfl, rfl⟩))
    (fun os started H enc _ => glossaryLongest_lifted os started H enc)

theorem glossaryLongest_holds : Rows.GlossaryLongestCardSaid :=
  Claim7.holds_tied_plain_at .later [] [.data, .pinned] true (true, "7938b59571ee72207ed0614b0955c6d6fa5104d34e43f7cb9935f3e7b387163f") true
    glossaryLongest_row (fun _ h => by cases h) (by kernel_rfl) (fun _ h => by cases h) glossaryLongest_row_tie rfl ⟨rfl, rfl⟩ (by kernel_rfl) rfl
    (fun f fn hf hfn => by
      obtain rfl : f = 14 := Option.some.inj ((show Tryd.prog.funcNamed "hansard/hansardlaw27.GlossaryLongest" = some 14 by kernel_rfl).symm.trans hf) |>.symm
      obtain rfl : fn = Tryd.f14 := (Option.some.inj (Tryd.func14.symm.trans hfn)).symm
      exact ⟨by kernel_rfl, fun j t ht => by
        rw [Tryd.params14] at ht
        have hm : t ∈ [48, 3, 49, 3, 3, 3] := by simpa using Array.mem_of_getElem? ht
        have hall : ([48, 3, 49, 3, 3, 3].all fun u => !Tryd.prog.wantsStandIn u) = true := by kernel_rfl
        exact (show Tryd.prog.wantsStandIn t = false by simpa using List.all_eq_true.1 hall t hm)⟩)
    (by kernel_rfl)
#print axioms glossaryLongest_holds
end Go.Proofs.YtneanannicacnaaDoor
