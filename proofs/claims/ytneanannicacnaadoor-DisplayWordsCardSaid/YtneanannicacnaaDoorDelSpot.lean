/- slices.Delete of one element at hansard/api.Spot: out of a slice of one's own. -/
import Derived.Test.YtneanannicacnaaDoorRow2
import Derived.Test.YtneanannicacnaaDoorInsSpot
namespace Go.Proofs.YtneanannicacnaaDoor
open Go.RowKit Go.Han
attribute [local irreducible] wpStill wpQuiet

theorem zero1_spot : ((Tryd.prog.info? 24).bind (·.zero)).map (fun z => (Builtin.zeroCells z.cells 1).toList.all (·.oneCell')) = some true := by kernel_rfl

def DelPost_spot (base n : Nat) (v : Value) (zs : List Value) (w : World) (e : Ending) (w' : World) : Prop :=
  ∃ v', e = .returned v' ∧ w'.ownsRow base 24 3 v' n zs ∧ w.grownBy w' v.ownBlock ∧ v'.ownBlock = v.ownBlock

set_option maxRecDepth 100000 in
set_option maxHeartbeats 1000000 in
theorem delete_spot (base k i : Nat) (v : Value) (xs : List Value) (w : World) (hown : w.ownsRow base 24 3 v (k + 1) xs) (hin : i ≤ k) (hx1 : ∀ u ∈ xs, u.oneCell' = true) (hn : k + 1 ≤ 1000000) :
    Calls Tryd.prog 84 #[v, .int .i64 i, .int .i64 ((i : Int) + 1)] w (DelPost_spot base k v (xs.take (i * 3) ++ xs.drop ((i + 1) * 3)) w) := by
  obtain ⟨i0, z, hi0, hz0, hs0, hb0, hzs⟩ := parts_spot
  have hz1' : ∀ v ∈ (Builtin.zeroCells z.cells 1).toList, v.oneCell' = true := by
    have h := zero1_spot
    rw [hi0] at h
    simp only [Option.bind_some, hz0, Option.map_some, Option.some.injEq] at h
    exact List.all_eq_true.1 h
  have hxl := hown.1
  obtain ⟨g, c, cur, rfl, hbg, hrow, hnc, hcm, hcs, htk⟩ : ∃ g cap cur, v = .slice (some ⟨g, 0, none⟩) (k + 1) cap ∧ base ≤ g ∧ w.heap[g]? = some (.cells cur 24 (0, 0)) ∧ k + 1 ≤ cap ∧ cap ≤ maxLen ∧ cur.size = cap * 3 ∧ cur.toList.take ((k + 1) * 3) = xs := by
    rcases hown.2 with ⟨_, h0⟩ | h
    · omega
    · exact h
  have hR : Row w g 24 (xs ++ cur.toList.drop ((k + 1) * 3)) := by
    unfold Row
    rw [← htk, List.take_append_drop]
    exact hrow
  have hRl : (xs ++ cur.toList.drop ((k + 1) * 3)).length = c * 3 := by
    rw [← htk, List.take_append_drop, Array.length_toList]; exact hcs
  generalize cur.toList.drop ((k + 1) * 3) = R at *
  clear hrow hcs htk cur hown
  unfold maxLen at hcm
  have Hcm := Lib.hid hcm
  have hnci : ((k : Int) + 1) ≤ (c : Int) := by omega
  have hi1 : (i : Int) ≤ (i : Int) + 1 := by omega
  have hi2 : (i : Int) + 1 ≤ (k : Int) + 1 := by omega
  have hi0' : (0 : Int) ≤ (i : Int) + 1 := by omega
  have hw2 : ((i : Int) + 1).toNat = i + 1 := by omega
  have hii : ¬ ((i : Int) = (i : Int) + 1) := by omega
  have hik : i ≤ k + 1 := by omega
  have hic : i ≤ c := by omega
  have hic2 : i + 1 ≤ c := by omega
  have hic3 : (i : Int) + 1 ≤ (c : Int) := by omega
  have hA : Rd w (if c = i + 1 then some ⟨g, 0, none⟩ else some ⟨g, (i + 1) * 3, none⟩) (xs.drop ((i + 1) * 3)) := by
    by_cases h : c = i + 1
    · have : xs.drop ((i + 1) * 3) = [] := List.drop_of_length_le (by rw [hxl]; exact Nat.mul_le_mul_right _ (by omega))
      rw [this]; exact .inl rfl
    · rw [if_neg h]
      refine hR.rd _ fun j u hu => ?_
      rw [List.getElem?_drop] at hu
      rw [List.getElem?_append_left (List.getElem?_eq_some_iff.1 hu).1]
      exact hu
  obtain ⟨A, hAe⟩ : ∃ A : Option Addr, (if c = i + 1 then some ⟨g, 0, none⟩ else some ⟨g, (i + 1) * 3, none⟩) = A := ⟨_, rfl⟩
  rw [hAe] at hA
  go_enter Tryd.func84, Tryd.ntmps84
  go_wp2_with fail
  go_still_tail 6, (by kernel_rfl)
  change wpList _ _ _ _ _ w.drew
  generalize hwd : w.drew = w2
  have hR2 : Row w2 g 24 (xs ++ R) := by rw [← hwd]; exact hR
  have hA2 : Rd w2 A (xs.drop ((i + 1) * 3)) := by rw [← hwd]; exact hA
  have hbd : w.grownBy w2 (some g) := by rw [← hwd]; exact ⟨rfl, rfl, rfl, Nat.le_refl _, fun _ _ _ => rfl⟩
  clear hwd hR hA
  have hdl : (xs.drop ((i + 1) * 3)).length = (k - i) * 3 := by
    rw [List.length_drop, hxl, ← Nat.sub_mul]; congr 1; omega
  have hki : i + (k - i) = k := by omega
  have hkS : i * 3 + (k - i) * 3 = k * 3 := by rw [← Nat.add_mul, hki]
  have hkS1 : (k + 1) * 3 = k * 3 + 3 := Nat.succ_mul _ _
  have hcS : (k + 1) * 3 ≤ c * 3 := Nat.mul_le_mul_right _ hnc
  have hikS : i * 3 ≤ k * 3 := Nat.mul_le_mul_right _ hin
  have hkc1 : ¬ c = k := by omega
  have hk1 : k ≤ k + 1 := by omega
  have hkc : k ≤ c := by omega
  have hcl : (splice (xs ++ R) (i * 3) (xs.drop ((i + 1) * 3))).length = c * 3 := by
    unfold splice
    simp only [List.length_append, List.length_take, hxl] at hRl ⊢
    rw [List.length_drop (l := xs ++ R), List.length_append, hxl, hdl]
    omega
  refine wpList_append_rows w2 rfl (.tmp 22) (.tmp 25) 22 rfl 24 3 Tryd.underlying22 hi0 hs0 g i c A (k - i) (c - (i + 1)) (xs ++ R) (xs.drop ((i + 1) * 3)) rfl rfl hR2 hdl hA2 (by omega) (by rw [hdl, hRl]; omega) (fun u hu => hx1 u (List.mem_of_mem_drop hu)) fun w3 hR3 hg3 hs3 => ?_
  rw [hki]
  clear hAe hA2 hR2
  go_wp2_with (with_reducible (refine wpList_clear_rows w3 rfl (.tmp 31) 22 rfl 24 3 Tryd.underlying22 hi0 hz0 hzs g (k * 3) 1 (c - k) (by decide) _ ?_ hR3 ?_ hz1' fun w4 zs hR4 hzl hg4 hs4 => ?_))
  all_goals try (rfl; done)
  · rw [hcl]; omega
  · go_ret
    have hzl' : zs.length = 3 := by omega
    have hdl' : (xs.take (i * 3) ++ xs.drop ((i + 1) * 3)).length = k * 3 := by
      rw [List.length_append, hdl, List.length_take, hxl]; omega
    refine ⟨_, rfl, ⟨hdl', .inr ⟨g, c, _, rfl, hbg, hR4, hkc, by unfold maxLen; exact Hcm.out, ?_, ?_⟩⟩, (hbd.trans hg3).trans hg4, rfl⟩
    · generalize splice (xs ++ R) (i * 3) (xs.drop ((i + 1) * 3)) = L at hcl
      unfold splice
      simp only [List.size_toArray, List.length_append, List.length_take, List.length_drop, hcl, hzl']
      omega
    · have e1 : splice (xs ++ R) (i * 3) (xs.drop ((i + 1) * 3)) = (xs.take (i * 3) ++ xs.drop ((i + 1) * 3)) ++ (xs ++ R).drop (i * 3 + (xs.drop ((i + 1) * 3)).length) := by
        unfold splice
        rw [List.take_append_of_le_length (by omega), List.append_assoc]
      rw [e1, splice_at _ _ _ _ hdl']
      exact List.take_left' hdl'
end Go.Proofs.YtneanannicacnaaDoor
