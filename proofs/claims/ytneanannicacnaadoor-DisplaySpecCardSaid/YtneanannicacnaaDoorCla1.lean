/- The statement DisplaySpec: whatever the display and the change, the law returns true and its arguments read as they did. Conditions: none beyond the statement's own (the listed tables are laid as the program's text lays them). -/
import Derived.Test.YtneanannicacnaaDoorOpen
import Derived.Test.YtneanannicacnaaDoorLaw49b
import Derived.Test.YtneanannicacnaaDoorCards
import Derived.SevenTiedAt
namespace Go.Proofs.YtneanannicacnaaDoor
open Go.RowKit Go.Han Go.ChangeShapes Go.WideShapes Go.ChangeAt
set_option maxRecDepth 100000

theorem laid_out : laidOutB Tryd.prog = true := by kernel_rfl
theorem witness_laid (os : Os) (args : Array Value) : laidMetH Tryd.prog laidL ((World.laidAll Tryd.prog os laidL).forCall (fun _ _ => 0) ⟨#[], args, []⟩).memory := by
  rw [MakeChecks.laidMetH_plain _ _ _ (by kernel_rfl)]
  exact laidMet_laidAll _ (by kernel_rfl) (by kernel_rfl)

theorem displaySpec_lifted (os : Os) (started : os.Started) (H : Type) (enc : TypeId × Value → H) :
    ReturnsInHanded {} Tryd.checked os 3 .any (fun w args => (Rows.displaySpecSpec.pre enc Tryd.prog Tryd.f3 [] false w args ∧ laidMetH Tryd.prog laidL w) ∧ sizedMet enc Tryd.prog Tryd.f3 (OpenSpec.ofChange Rows.displaySpecSpec) false w args)
      (Rows.displaySpecSpec.post enc Tryd.prog Tryd.f3 false true false false) := by
  refine returnsInHanded_of_change_and (C := Tryd.checked) (X := fun w _ => laidMetH Tryd.prog laidL w) (fun _ _ _ hh h => h.of_heap hh) own_knob started (by kernel_rfl) Tryd.func3
    (ChangeSpec.witness_shaped (enc := enc) (C := Tryd.checked) (os := os) (X := fun w _ => laidMetH Tryd.prog laidL w) false (World.laidAll Tryd.prog os laidL) #[.slice none 0 0, .agg #[.int .i64 0, .int .i64 0, .int .i64 0, .int .i64 0, .string ⟨#[]⟩]] 8 (World.laidAll_os _ _ _)
      (World.shaped_of_ZipB (by kernel_rfl) (by kernel_rfl)) (by kernel_rfl) (by kernel_rfl) (by kernel_rfl) (witness_laid os _)) ?_
  intro W base args ds gs before hval0 hW _ _ hL _
  have hval : ∀ (j : Nat) t v, Tryd.f3.params[j]? = some t → args[j]? = some v → Value.okWide Tryd.prog W .any base t v := hval0
  have hW' := hW
  obtain ⟨p, q, hA0, hV, rfl, _, _⟩ := hW
  have hA : DataW.TrodAll enc Tryd.prog W 0 (fun _ => true) true Tryd.f3.params.toList args.toList ds p := hA0
  rw [Tryd.params3] at hA hval
  obtain ⟨v0, v1, d0, d1, p0, p1, rfl, rfl, rfl, h0, h1⟩ := trodAll_two hA
  obtain ⟨rfl, rfl⟩ := trodVars_none hV
  obtain ⟨fu, hf⟩ := h0
  obtain ⟨A, cp, l, hl, hr, hAn, hm⟩ := open_rows Spot.cells 3 ⟨0, 0, ⟨#[]⟩⟩ Tryd.underlying22 (by kernel_rfl) (by decide) Spot.size_cells (fun _ _ _ h => trod_spot h) hf
  obtain ⟨fu1, hf1⟩ := h1
  obtain ⟨c, hc⟩ := trod_change hf1
  have k0 := hval 0 22 v0 rfl rfl
  have k1 := hval 1 26 v1 rfl rfl
  obtain ⟨a', n', c', rfl⟩ := okWide_slice Tryd.underlying22 k0
  obtain ⟨cs, rfl, _⟩ := okWide_struct Tryd.underlying26 k1
  obtain ⟨rfl, rfl, rfl⟩ : a' = A ∧ n' = l.length ∧ c' = cp := by simpa [Value.cells] using hl
  obtain rfl : cs = #[.int .i64 c.at_, .int .i64 c.kind, .int .i64 c.spot.id, .int .i64 c.spot.ver, .string c.spot.text] := by
    have : cs.toList = c.cells := by simpa [Value.cells] using hc
    have h2 : cs = c.cells.toArray := by rw [← this]
    rw [h2]; rfl
  clear hval hval0 k0 k1 hl hc
  simp only [List.append_nil] at hW'
  have hlt : ∀ x ∈ p0 ++ p1, x.block < W.heap.size := fun x hx => hW'.lt x (by simpa using hx)
  refine (DisplaySpec_any _ _ l c W (tabs_of hL) hr hAn (by unfold maxLen at hm; omega)).mono ?_
  rintro e W' ⟨rfl, hb⟩
  refine ⟨_, rfl, post_below (pa := p0 ++ p1) (pv := []) hW' (fun _ _ _ => trodAll_mk1 (shut_bool Tryd.underlying4 _)) (fun sp hsp => ?_) (fun _ _ => rfl) (by simp) hb (ok_one (by kernel_rfl) rfl (okWide_bool_mk Tryd.underlying4 _))⟩
  exact trodAll_mk2 (WideElems.Trod_stays laid_out (by kernel_rfl) (of_decide_eq_true (by kernel_rfl)) ⟨fu, hf⟩ (fun x hx => hb.same (hlt x (by simp [hx]))) (fun x hx => hsp x (by simp [hx])))
    (WideElems.Trod_stays laid_out (by kernel_rfl) (of_decide_eq_true (by kernel_rfl)) ⟨fu1, hf1⟩ (fun x hx => hb.same (hlt x (by simp [hx]))) (fun x hx => hsp x (by simp [hx])))

theorem displaySpec_row : Rows.DisplaySpecSaid :=
  OpenClaim.holds_of_wide 3 Tryd.f3 rfl rfl rfl rfl rfl rfl rfl ⟨rfl, rfl, rfl, rfl, rfl⟩ rfl rfl rfl rfl rfl (by kernel_rfl) Tryd.func3 (by kernel_rfl)
    (of_decide_eq_true (by kernel_rfl)) (by unfold Func.isWrapper; first | (rw [if_pos (by decide +kernel)]; kernel_rfl) | (rw [if_neg (by decide +kernel)]; exact ⟨rfl, rfl⟩))
    (fun os started H enc _ => displaySpec_lifted os started H enc)

theorem displaySpec_holds : Rows.DisplaySpecCardSaid :=
  Claim7.holds_tied_plain_at .later [] [.data, .pinned] true (true, "7938b59571ee72207ed0614b0955c6d6fa5104d34e43f7cb9935f3e7b387163f") true
    displaySpec_row (fun _ h => by cases h) (by kernel_rfl) (fun _ h => by cases h) displaySpec_row_tie rfl ⟨rfl, rfl⟩ (by kernel_rfl) rfl
    (fun f fn hf hfn => by
      obtain rfl : f = 3 := Option.some.inj ((show Tryd.prog.funcNamed "hansard/hansardlaw49.DisplaySpec" = some 3 by kernel_rfl).symm.trans hf) |>.symm
      obtain rfl : fn = Tryd.f3 := (Option.some.inj (Tryd.func3.symm.trans hfn)).symm
      exact ⟨by kernel_rfl, fun j t ht => by
        rw [Tryd.params3] at ht
        have hm : t ∈ [22, 26] := by simpa using Array.mem_of_getElem? ht
        have hall : ([22, 26].all fun u => !Tryd.prog.wantsStandIn u) = true := by kernel_rfl
        exact (show Tryd.prog.wantsStandIn t = false by simpa using List.all_eq_true.1 hall t hm)⟩)
    (by kernel_rfl)
#print axioms displaySpec_holds
end Go.Proofs.YtneanannicacnaaDoor
