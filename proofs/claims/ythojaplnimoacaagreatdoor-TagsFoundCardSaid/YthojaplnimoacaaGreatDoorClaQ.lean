/- The statement TagsFound: whatever its arguments, the law returns true and its arguments read as they did. Conditions: none beyond the statement's own (the listed tables are laid as the program's text lays them). -/
import Derived.Test.YthojaplnimoacaaGreatDoorM13
import Derived.Test.YthojaplnimoacaaGreatDoorM22
import Derived.Test.YthojaplnimoacaaGreatDoorM19
import Derived.Test.YthojaplnimoacaaGreatDoorCards
import Derived.SevenTiedAt
namespace Go.Proofs.YthojaplnimoacaaGreatDoor
open Go.RowKit Go.Han Go.ChangeShapes Go.WideShapes Go.ChangeAt
set_option maxRecDepth 100000

theorem tagsFound_lifted (os : Os) (started : os.Started) (H : Type) (enc : TypeId × Value → H) :
    ReturnsInHanded {} Tryz.checked os 13 .any (fun w args => (Rows.tagsFoundSpec.pre enc Tryz.prog Tryz.f13 [] false w args ∧ laidMetH Tryz.prog laidL w) ∧ sizedMet enc Tryz.prog Tryz.f13 (OpenSpec.ofChange Rows.tagsFoundSpec) false w args)
      (Rows.tagsFoundSpec.post enc Tryz.prog Tryz.f13 false true false false) := by
  refine returnsInHanded_of_change_and (C := Tryz.checked) (X := fun w _ => laidMetH Tryz.prog laidL w) (fun _ _ _ hh h => h.of_heap hh) own_knob started (by kernel_rfl) Tryz.func13
    (ChangeSpec.witness_shaped (enc := enc) (C := Tryz.checked) (os := os) (X := fun w _ => laidMetH Tryz.prog laidL w) false (World.laidAll Tryz.prog os laidL) #[.agg #[.string ⟨#[]⟩, .slice none 0 0, .string ⟨#[]⟩, .int .i64 0, .slice none 0 0, .slice none 0 0], .slice none 0 0, .int .i64 0, .slice none 0 0, .int .i64 0, .int .i64 0] 8 (World.laidAll_os _ _ _)
      (World.shaped_of_ZipB (by kernel_rfl) (by kernel_rfl)) (by kernel_rfl) (by kernel_rfl) (by kernel_rfl) (witness_laid os _)) ?_
  intro W base args ds gs before hval0 hW _ _ hL _
  have hval : ∀ (j : Nat) t v, Tryz.f13.params[j]? = some t → args[j]? = some v → Value.okWide Tryz.prog W .any base t v := hval0
  have hW' := hW
  obtain ⟨p, q, hA0, hV, rfl, _, _⟩ := hW
  have hA : DataW.TrodAll enc Tryz.prog W 0 (fun _ => true) true Tryz.f13.params.toList args.toList ds p := hA0
  clear hA0 hval0
  obtain ⟨rfl, rfl⟩ := trodVars_none hV
  have hK := hA
  rw [Tryz.params13] at hA hval
  obtain ⟨v0, v1, v2, v3, v4, v5, d0, d1, d2, d3, d4, d5, p0, p1, p2, p3, p4, p5, rfl, rfl, h0, h1, h2, h3, h4, h5⟩ := args_six hA
  obtain ⟨fu0, hf0⟩ := h0
  obtain ⟨c0, hc0, hli0⟩ := trod_gram hf0
  obtain ⟨cs0, rfl, _⟩ := okWide_struct Tryz.underlying26 (hval 0 26 v0 rfl rfl)
  obtain rfl : cs0 = c0.cells.toArray := by
    have h1 : cs0.toList = c0.cells := by simpa [Value.cells] using hc0
    rw [← h1]
  obtain ⟨fu1, hf1⟩ := h1
  obtain ⟨A1, cp1, l1, hl1, hr1, hAn1, hm1⟩ := open_terms hf1
  obtain ⟨a1, n1, c1, rfl⟩ := okWide_slice Tryz.underlying53 (hval 1 53 v1 rfl rfl)
  obtain ⟨rfl, rfl, rfl⟩ : a1 = A1 ∧ n1 = l1.length ∧ c1 = cp1 := by simpa [Value.cells] using hl1
  obtain ⟨t2, rfl, _, _, wt2⟩ := open_int Tryz.underlying3 (hval 2 3 v2 rfl rfl) h2
  obtain ⟨fu3, hf3⟩ := h3
  obtain ⟨s3, hs3, hli3⟩ := trod_strs hf3
  obtain ⟨a3, n3, c3, rfl⟩ := okWide_slice Tryz.underlying22 (hval 3 22 v3 rfl rfl)
  obtain ⟨rfl, rfl, rfl⟩ : a3 = s3.addr ∧ n3 = s3.xs.length ∧ c3 = s3.cap := by simpa [Value.cells, StrS.val] using hs3
  obtain ⟨t4, rfl, _, _, wt4⟩ := open_int Tryz.underlying3 (hval 4 3 v4 rfl rfl) h4
  obtain ⟨t5, rfl, _, _, wt5⟩ := open_int Tryz.underlying3 (hval 5 3 v5 rfl rfl) h5
  simp only [List.append_nil] at hW'
  have hlt : ∀ x ∈ p, x.block < W.heap.size := fun x hx => hW'.lt x hx
  refine (TagsFound_any sane28_any c0 _ _ l1 t2 s3 t4 t5 W (tabsG_of hL) hli0.1 hli0.2 hr1 (by unfold maxLen at hm1; omega) hli3).mono ?_
  rintro e W' ⟨rfl, hb⟩
  exact ⟨_, rfl, post_below (pa := p) (pv := []) hW' (fun _ _ _ => trodAll_mk1 (shut_bool Tryz.underlying4 _)) (fun sp hsp => trodAll_below laid_out hb (by kernel_rfl) hK hlt hsp) (fun _ _ => rfl) (by simp) hb (ok_one (by kernel_rfl) rfl (okWide_bool_mk Tryz.underlying4 _))⟩

theorem tagsFound_a1 : (Rows.tagsFoundRow.inPlace == Program.inPlace Tryz.pinned.checked.prog 13) = true := by kernel_rfl
theorem tagsFound_a2 : (Rows.tagsFoundRow.unfollowed == Program.unfollowed Tryz.pinned.checked.prog 13) = true := by kernel_rfl
theorem tagsFound_a3 : (Rows.tagsFoundRow.recurses == Program.recurses Tryz.pinned.checked.prog 13) = true := by kernel_rfl
theorem tagsFound_a4 : (Rows.tagsFoundRow.named == Program.varsNamed Tryz.pinned.checked.prog 13) = true := by kernel_rfl
theorem tagsFound_a5 : laidOutB Tryz.pinned.checked.prog = true := by kernel_rfl
theorem tagsFound_jf : joinedFacts Tryz.pinned.checked.prog 13 Tryz.f13 Rows.tagsFoundSpec Rows.tagsFoundRow = true := by
  unfold joinedFacts
  rw [tagsFound_a1, tagsFound_a2, tagsFound_a3, tagsFound_a4, tagsFound_a5]
  kernel_rfl
theorem tagsFound_row : Rows.TagsFoundSaid :=
  OpenClaim.holds_of_wide 13 Tryz.f13 rfl rfl rfl rfl rfl rfl rfl ⟨rfl, rfl, rfl, rfl, rfl⟩ rfl rfl rfl rfl rfl (by kernel_rfl) Tryz.func13 tagsFound_jf
    (of_decide_eq_true (by kernel_rfl)) (by unfold Func.isWrapper; first | (rw [if_pos (by decide +kernel)]; kernel_rfl) | (rw [if_neg (by decide +kernel)]; exact ⟨rfl, rfl⟩))
    (fun os started H enc _ => tagsFound_lifted os started H enc)

theorem tagsFound_holds : Rows.TagsFoundCardSaid :=
  Claim7.holds_tied_plain_at .later [] [.data, .listed, .data, .pinned] true (true, "30698be7890dba548eeda11c348ff460acc937c0db29686212c6c56c895cf292") true
    tagsFound_row (fun _ h => by cases h) (by kernel_rfl) (fun _ h => by cases h) tagsFound_row_tie rfl ⟨rfl, rfl⟩ (by kernel_rfl) rfl
    (fun f fn hf hfn => by
      obtain rfl : f = 13 := Option.some.inj ((show Tryz.prog.funcNamed "hansard/hansardlaw28.TagsFound" = some 13 by kernel_rfl).symm.trans hf) |>.symm
      obtain rfl : fn = Tryz.f13 := (Option.some.inj (Tryz.func13.symm.trans hfn)).symm
      exact ⟨by kernel_rfl, fun j t ht => by
        rw [Tryz.params13] at ht
        have hm : t ∈ [26, 53, 3, 22, 3, 3] := by simpa using Array.mem_of_getElem? ht
        have hall : ([26, 53, 3, 22, 3, 3].all fun u => !Tryz.prog.wantsStandIn u) = true := by kernel_rfl
        exact (show Tryz.prog.wantsStandIn t = false by simpa using List.all_eq_true.1 hall t hm)⟩)
    (by kernel_rfl)
#print axioms tagsFound_holds
end Go.Proofs.YthojaplnimoacaaGreatDoor
