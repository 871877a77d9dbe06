/- The statement ChartOrder: whatever its arguments, the law returns true and its arguments read as they did. Conditions: none beyond the statement's own (the listed tables are laid as the program's text lays them). -/
import Derived.Test.YthojaplnimoacaaGreatDoorM13
import Derived.Test.YthojaplnimoacaaGreatDoorM25
import Derived.Test.YthojaplnimoacaaGreatDoorCards
import Derived.SevenTiedAt
namespace Go.Proofs.YthojaplnimoacaaGreatDoor
open Go.RowKit Go.Han Go.ChangeShapes Go.WideShapes Go.ChangeAt
set_option maxRecDepth 100000

theorem chartOrder_lifted (os : Os) (started : os.Started) (H : Type) (enc : TypeId × Value → H) :
  ReturnsInHanded {} Tryz.checked os 8 .any (fun w args => (Rows.chartOrderSpec.pre enc Tryz.prog Tryz.f8 [] false w args ∧ laidMetH Tryz.prog laidL w) ∧ sizedMet enc Tryz.prog Tryz.f8 (OpenSpec.ofChange Rows.chartOrderSpec) false w args)
   (Rows.chartOrderSpec.post enc Tryz.prog Tryz.f8 false true false false) := by
 refine returnsInHanded_of_change_and (C := Tryz.checked) (X := fun w _ => laidMetH Tryz.prog laidL w) (fun _ _ _ hh h => h.of_heap hh) own_knob started (by kernel_rfl) Tryz.func8
  (ChangeSpec.witness_shaped (enc := enc) (C := Tryz.checked) (os := os) (X := fun w _ => laidMetH Tryz.prog laidL w) false (World.laidAll Tryz.prog os laidL) #[.agg #[.string ⟨#[]⟩, .slice none 0 0, .string ⟨#[]⟩, .int .i64 0, .slice none 0 0, .slice none 0 0], .slice none 0 0, .int .i64 0, .int .u8 0, .int .u8 0] 8 (World.laidAll_os _ _ _)
   (World.shaped_of_ZipB (by kernel_rfl) (by kernel_rfl)) (by kernel_rfl) (by kernel_rfl) (by kernel_rfl) (witness_laid os _)) ?_
 intro W base args ds gs before hval0 hW _ _ hL _
 have hval : ∀ (j : Nat) t v, Tryz.f8.params[j]? = some t → args[j]? = some v → Value.okWide Tryz.prog W .any base t v := hval0
 have hW' := hW
 obtain ⟨p, q, hA0, hV, rfl, _, _⟩ := hW
 have hA : DataW.TrodAll enc Tryz.prog W 0 (fun _ => true) true Tryz.f8.params.toList args.toList ds p := hA0
 clear hA0 hval0
 obtain ⟨rfl, rfl⟩ := trodVars_none hV
 have hK := hA
 rw [Tryz.params8] at hA hval
 obtain ⟨v0, v1, v2, v3, v4, d0, d1, d2, d3, d4, p0, p1, p2, p3, p4, rfl, rfl, h0, h1, h2, h3, h4⟩ := args_five hA
 obtain ⟨fu0, hf0⟩ := h0
 obtain ⟨c0, hc0, hli0⟩ := trod_gram hf0
 obtain ⟨cs0, rfl, _⟩ := okWide_struct Tryz.underlying26 (hval 0 26 v0 rfl rfl)
 obtain rfl : cs0 = c0.cells.toArray := by
  have h1 : cs0.toList = c0.cells := by simpa [Value.cells] using hc0
  rw [← h1]
 obtain ⟨fu1, hf1⟩ := h1
 obtain ⟨s1, hs1, hli1, hlt1⟩ := open_items hf1
 obtain ⟨a1, n1, c1, rfl⟩ := okWide_slice Tryz.underlying27 (hval 1 27 v1 rfl rfl)
 obtain ⟨rfl, rfl, rfl⟩ : a1 = s1.addr ∧ n1 = s1.xs.length ∧ c1 = s1.cap := by simpa [Value.cells, SlS.val] using hs1
 obtain ⟨t2, rfl, _, _, wt2⟩ := open_int Tryz.underlying3 (hval 2 3 v2 rfl rfl) h2
 obtain ⟨t3, rfl, _, _, wt3⟩ := open_int Tryz.underlying5 (hval 3 5 v3 rfl rfl) h3
 obtain ⟨m3, rfl, hu3⟩ : ∃ m : Nat, t3 = (m : Int) ∧ m ≤ 255 := ⟨t3.toNat, (u8_bound wt3).1, (u8_bound wt3).2⟩
 obtain ⟨t4, rfl, _, _, wt4⟩ := open_int Tryz.underlying5 (hval 4 5 v4 rfl rfl) h4
 obtain ⟨m4, rfl, hu4⟩ : ∃ m : Nat, t4 = (m : Int) ∧ m ≤ 255 := ⟨t4.toNat, (u8_bound wt4).1, (u8_bound wt4).2⟩
 simp only [List.append_nil] at hW'
 have hlt : ∀ x ∈ p, x.block < W.heap.size := fun x hx => hW'.lt x hx
 refine (ChartOrder_any c0 s1 t2 m3 m4 W (tabsG_of hL) hli0.1 hli0.2 ⟨hli1, hlt1⟩ hu3 hu4).mono ?_
 rintro e W' ⟨rfl, hb⟩
 exact ⟨_, rfl, post_below (pa := p) (pv := []) hW' (fun _ _ _ => trodAll_mk1 (shut_bool Tryz.underlying4 _)) (fun sp hsp => trodAll_below laid_out hb (by kernel_rfl) hK hlt hsp) (fun _ _ => rfl) (by simp) hb (ok_one (by kernel_rfl) rfl (okWide_bool_mk Tryz.underlying4 _))⟩

theorem chartOrder_a1 : (Rows.chartOrderRow.inPlace == Program.inPlace Tryz.pinned.checked.prog 8) = true := by kernel_rfl
theorem chartOrder_a2 : (Rows.chartOrderRow.unfollowed == Program.unfollowed Tryz.pinned.checked.prog 8) = true := by kernel_rfl
theorem chartOrder_a3 : (Rows.chartOrderRow.recurses == Program.recurses Tryz.pinned.checked.prog 8) = true := by kernel_rfl
theorem chartOrder_a4 : (Rows.chartOrderRow.named == Program.varsNamed Tryz.pinned.checked.prog 8) = true := by kernel_rfl
theorem chartOrder_a5 : laidOutB Tryz.pinned.checked.prog = true := by kernel_rfl
theorem chartOrder_jf : joinedFacts Tryz.pinned.checked.prog 8 Tryz.f8 Rows.chartOrderSpec Rows.chartOrderRow = true := by
 unfold joinedFacts
 rw [chartOrder_a1, chartOrder_a2, chartOrder_a3, chartOrder_a4, chartOrder_a5]
 kernel_rfl
theorem chartOrder_row : Rows.ChartOrderSaid :=
 OpenClaim.holds_of_wide 8 Tryz.f8 rfl rfl rfl rfl rfl rfl rfl ⟨rfl, rfl, rfl, rfl, rfl⟩ rfl rfl rfl rfl rfl (by kernel_rfl) Tryz.func8 chartOrder_jf
  (of_decide_eq_true (by kernel_rfl)) (by unfold Func.isWrapper; first | (rw [if_pos (by decide +kernel)]; kernel_rfl) | (rw [if_neg (by decide +kernel)]; exact ⟨rfl, rfl⟩))
  (fun os started H enc _ => chartOrder_lifted os started H enc)

theorem chartOrder_holds : Rows.ChartOrderCardSaid :=
 Claim7.holds_tied_plain_at .later [] [.data, .listed, .data, .pinned] true (true, "30698be7890dba548eeda11c348ff460acc937c0db29686212c6c56c895cf292") true
  chartOrder_row (fun _ h => by cases h) (by kernel_rfl) (fun _ h => by cases h) chartOrder_row_tie rfl ⟨rfl, rfl⟩ (by kernel_rfl) rfl
  (fun f fn hf hfn => by
   obtain rfl : f = 8 := Option.some.inj ((show Tryz.prog.funcNamed "hansard/hansardlaw29.ChartOrder" = some 8 by kernel_rfl).symm.trans hf) |>.symm
   obtain rfl : fn = Tryz.f8 := (Option.some.inj (Tryz.func8.symm.trans hfn)).symm
   exact ⟨by kernel_rfl, fun j t ht => by
    rw [Tryz.params8] at ht
    have hm : t ∈ [26, 27, 3, 5, 5] := by simpa using Array.mem_of_getElem? ht
    have hall : ([26, 27, 3, 5, 5].all fun u => !Tryz.prog.wantsStandIn u) = true := by kernel_rfl
    exact (show Tryz.prog.wantsStandIn t = false by simpa using List.all_eq_true.1 hall t hm)⟩)
  (by kernel_rfl)
#print axioms chartOrder_holds
end Go.Proofs.YthojaplnimoacaaGreatDoor
