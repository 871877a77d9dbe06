/- Package display: the six functions of the map of kinds. -/
import Derived.Test.YtneanannicacnaaDoorDisp4
namespace Go.Proofs.YtneanannicacnaaDoor
open Go.RowKit Go.Han
attribute [local irreducible] wpStill wpQuiet

def TestPost (b : Bool) (w : World) (e : Ending) (w' : World) : Prop := e = .returned (.bool b) ∧ Below w.heap.size w w'
def EditPost (base : Nat) (v : Value) (l' : List Spot) (w : World) (e : Ending) (w' : World) : Prop :=
  ∃ v', e = .returned v' ∧ Own w' base v' l' ∧ w.grownBy w' v.ownBlock ∧ (v'.ownBlock = v.ownBlock ∨ ∃ k, v'.ownBlock = some k ∧ w.heap.size ≤ k)

theorem own_lt {w : World} {base : Nat} {v : Value} {l : List Spot} (h : Own w base v l) : ∀ g, v.ownBlock = some g → g < w.heap.size := by
  intro g hg
  rcases h.2 with ⟨rfl, _⟩ | ⟨g', c, cur, rfl, _, hb, _⟩
  · cases hg
  · simp [Value.ownBlock] at hg; subst hg; exact lt_block hb
theorem own_ext {w w' : World} {base : Nat} {v : Value} {l : List Spot} (h : Own w base v l) (hb : Below w.heap.size w w') : Own w' base v l :=
  ownsRow_of_block h fun g hg => hb.block g (own_lt h g hg)
/-- First only new blocks, then what 'row' lets turn. -/
theorem ext_grown {a b c : World} {row : Option Nat} (h : Below a.heap.size a b) (k : b.grownBy c row) : a.grownBy c row :=
  ⟨k.os.trans h.os, k.tape.trans h.tape, k.output.trans h.output, Nat.le_trans h.size k.size, fun i hi hne => (k.block i (Nat.lt_of_lt_of_le hi h.size) hne).trans (h.block i hi)⟩

theorem kinds1_any (v1 v2 : Value) (t : Bool) (x : Spot) (w : World) : Calls Tryd.prog 79 #[v1, v2, .bool t, x.val] w (TestPost (!t) w) := by
  obtain ⟨i, v, s⟩ := x
  unfold Spot.val
  simp only
  go_enter Tryd.func79, Tryd.ntmps79
  go_wp2
  go_ret
  exact ⟨rfl, (Below.refl _ _).alloc (Nat.le_refl _) _⟩

theorem flat_put (l : List Spot) (k : Nat) (x : Spot) (hk : k ≤ l.length) : putIn (flat l) (k * 3) x.cells = flat (l.take k ++ x :: l.drop k) := by
  have h1 : flat l = flat (l.take k) ++ flat (l.drop k) := by
    unfold flat; rw [← List.flatMap_append, List.take_append_drop]
  have hl : (flat (l.take k)).length = k * 3 := by rw [flat_length, List.length_take, Nat.min_eq_left hk]
  unfold putIn
  rw [h1, List.take_left' hl, List.drop_left' hl]
  unfold flat
  rw [List.flatMap_append, List.flatMap_cons]
theorem flat_del (l : List Spot) (k : Nat) (hk : k < l.length) : (flat l).take (k * 3) ++ (flat l).drop ((k + 1) * 3) = flat (l.take k ++ l.drop (k + 1)) := by
  have h1 : flat l = flat (l.take k) ++ flat (l.drop k) := by
    unfold flat; rw [← List.flatMap_append, List.take_append_drop]
  have h2 : flat l = flat (l.take (k + 1)) ++ flat (l.drop (k + 1)) := by
    unfold flat; rw [← List.flatMap_append, List.take_append_drop]
  have hl : (flat (l.take k)).length = k * 3 := by rw [flat_length, List.length_take, Nat.min_eq_left (by omega)]
  have hl2 : (flat (l.take (k + 1))).length = (k + 1) * 3 := by rw [flat_length, List.length_take, Nat.min_eq_left (by omega)]
  have e1 : (flat l).take (k * 3) = flat (l.take k) := by rw [h1]; exact List.take_left' hl
  have e2 : (flat l).drop ((k + 1) * 3) = flat (l.drop (k + 1)) := by rw [h2]; exact List.drop_left' hl2
  rw [e1, e2]
  unfold flat
  rw [List.flatMap_append]

set_option maxRecDepth 100000 in
theorem kinds2_any (base k : Nat) (v : Value) (l : List Spot) (x : Spot) (w : World) (hown : Own w base v l) (hk : k ≤ l.length) (hn : l.length ≤ 1000000) (hbase : base ≤ w.heap.size) :
    Calls Tryd.prog 80 #[v, .int .i64 k, x.val] w (EditPost base v (l.take k ++ x :: l.drop k) w) := by
  obtain ⟨i, vr, s⟩ := x
  unfold Spot.val
  simp only
  go_enter Tryd.func80, Tryd.ntmps80
  go_wp2_with fail
  generalize hW1 : (w.alloc (.cells #[.int .i64 i, .int .i64 vr, .string s] 24)).alloc (.cells #[.int .i64 i, .int .i64 vr, .string s] 24) = W1
  have hB1 : Below w.heap.size w W1 := by rw [← hW1]; exact ((Below.refl _ _).alloc (Nat.le_refl _) _).alloc (by simp) _
  have hv1 : Row W1 (w.heap.size + 1) 24 (Spot.cells ⟨i, vr, s⟩) := by
    rw [← hW1]
    have h := World.alloc_heap_new (w.alloc (.cells #[.int .i64 i, .int .i64 vr, .string s] 24)) (.cells #[.int .i64 i, .int .i64 vr, .string s] 24)
    have hz : (w.alloc (.cells #[.int .i64 i, .int .i64 vr, .string s] 24)).heap.size = w.heap.size + 1 := by simp
    rw [hz] at h
    exact h
  have hz1 : W1.heap.size = w.heap.size + 2 := by rw [← hW1]; simp
  clear hW1
  have hown1 := own_ext hown hB1
  refine (insert_spot base l.length k (w.heap.size + 1) v (flat l) (Spot.cells ⟨i, vr, s⟩) W1 hown1 hk hv1 rfl (by intro u hu; simp [Spot.cells] at hu; rcases hu with rfl | rfl | rfl <;> rfl) (flat_one l) (by intro h; have := own_lt hown _ h; omega) hn (by omega)).mono ?_
  rintro e w2 ⟨v', rfl, hown2, hg2, hat⟩
  rw [flat_put l k ⟨i, vr, s⟩ hk] at hown2
  go_wp2
  go_ret
  refine ⟨v', rfl, ?_, ext_grown hB1 hg2, ?_⟩
  · unfold Own
    rw [show (l.take k ++ (⟨i, vr, s⟩ : Spot) :: l.drop k).length = l.length + 1 by simp; omega]
    exact hown2
  · rcases hat with h | ⟨j, h1, h2⟩
    · exact .inl h
    · exact .inr ⟨j, h1, by omega⟩

set_option maxRecDepth 100000 in
theorem kinds4_any (base k : Nat) (v : Value) (l : List Spot) (x : Spot) (w : World) (hown : Own w base v l) (hk : k < l.length) (hn : l.length ≤ 1000000) :
    Calls Tryd.prog 83 #[v, .int .i64 k, x.val] w (EditPost base v (l.take k ++ l.drop (k + 1)) w) := by
  obtain ⟨i, vr, s⟩ := x
  unfold Spot.val
  simp only
  have hw1 : IntKind.i64.wrap ((k : Int) + 1) = (k : Int) + 1 := by rw [IntKind.wrap_i64]; omega
  go_enter Tryd.func83, Tryd.ntmps83
  go_wp2_with fail
  generalize hW1 : w.alloc (.cells #[.int .i64 i, .int .i64 vr, .string s] 24) = W1
  have hB1 : Below w.heap.size w W1 := by rw [← hW1]; exact (Below.refl _ _).alloc (Nat.le_refl _) _
  clear hW1
  obtain ⟨n, hln⟩ : ∃ n, l.length = n + 1 := ⟨l.length - 1, by omega⟩
  have hown1 := own_ext hown hB1
  unfold Own at hown1
  rw [hln] at hown1
  refine (delete_spot base n k v (flat l) W1 hown1 (by omega) (flat_one l) (by omega)).mono ?_
  rintro e w2 ⟨v', rfl, hown2, hg2, hat⟩
  rw [flat_del l k hk] at hown2
  go_wp2
  go_ret
  refine ⟨v', rfl, ?_, ext_grown hB1 hg2, .inl hat⟩
  unfold Own
  rw [show (l.take k ++ l.drop (k + 1)).length = n by simp; omega]
  exact hown2

set_option maxRecDepth 100000 in
theorem kinds6_any (base k : Nat) (v : Value) (l : List Spot) (x : Spot) (w : World) (hown : Own w base v l) (hk : k < l.length) :
    Calls Tryd.prog 86 #[v, .int .i64 k, x.val] w (EditPost base v (l.take k ++ x :: l.drop (k + 1)) w) := by
  obtain ⟨i, vr, s⟩ := x
  obtain ⟨g, c, cur, rfl, hbg, hrow, hnc, hcm, hcs, htk⟩ : ∃ g cap cur, v = .slice (some ⟨g, 0, none⟩) l.length cap ∧ base ≤ g ∧ w.heap[g]? = some (.cells cur 24 (0, 0)) ∧ l.length ≤ cap ∧ cap ≤ maxLen ∧ cur.size = cap * 3 ∧ cur.toList.take (l.length * 3) = flat l := by
    rcases hown.2 with ⟨_, h0⟩ | h
    · omega
    · exact h
  unfold Spot.val
  simp only
  obtain ⟨i0, z, hi0, hz0, hs0, hb0, hzs⟩ := parts_spot
  generalize hR : cur.toList.drop (l.length * 3) = R
  have hrow' : Row w g 24 (flat l ++ R) := by
    unfold Row; rw [← htk, ← hR, List.take_append_drop]; exact hrow
  have hRl : (flat l ++ R).length = c * 3 := by
    rw [← htk, ← hR, List.take_append_drop, Array.length_toList]; exact hcs
  clear hrow hcs htk hR cur hown
  have Hcm := Lib.hid hcm
  clear hcm
  have hkc : k < c := by omega
  have hlS : (k + 1) * 3 ≤ l.length * 3 := Nat.mul_le_mul_right _ hk
  have hlc : l.length * 3 ≤ c * 3 := Nat.mul_le_mul_right _ hnc
  generalize hW1 : w.alloc (.cells #[.int .i64 i, .int .i64 vr, .string s] 24) = W1
  have hB1 : Below w.heap.size w W1 := by rw [← hW1]; exact (Below.refl _ _).alloc (Nat.le_refl _) _
  have hrow1 := hrow'.ext hB1
  have c0 : W1.cell? ⟨w.heap.size, 0, none⟩ = some (.int .i64 i) := by rw [← hW1]; simp [go_sem]
  have c1 : W1.cell? ⟨w.heap.size, 1, none⟩ = some (.int .i64 vr) := by rw [← hW1]; simp [go_sem]
  have c2 : W1.cell? ⟨w.heap.size, 2, none⟩ = some (.string s) := by rw [← hW1]; simp [go_sem]
  go_enter Tryd.func86, Tryd.ntmps86
  go_wp2_with (with_reducible (refine wpList_store_rows W1 rfl (.tmp 10) (.tmp 9) 24 rfl 24 3 hi0 hs0 g (k * 3) #[.int .i64 i, .int .i64 vr, .string s] _ ?_ ?_ hrow1 rfl ?_ ?_ fun w2 hR2 hg2 hs2 => ?_))
  · rfl
  · rfl
  · rw [hRl]; omega
  · exact ⟨rfl, rfl, rfl⟩
  · go_ret
    have hfl : (flat l).length = l.length * 3 := flat_length l
    have hnew : (flat (l.take k ++ (⟨i, vr, s⟩ : Spot) :: l.drop (k + 1))).length = l.length * 3 := by
      rw [flat_length]; congr 1; simp; omega
    have e1 : splice (flat l ++ R) (k * 3) [.int .i64 i, .int .i64 vr, .string s] = flat (l.take k ++ (⟨i, vr, s⟩ : Spot) :: l.drop (k + 1)) ++ R := by
      have h3 : flat l = flat (l.take k) ++ (Spot.cells l[k] ++ flat (l.drop (k + 1))) := by
        unfold flat
        rw [← List.flatMap_cons, ← List.flatMap_append, List.getElem_cons_drop, List.take_append_drop]
      have hl : (flat (l.take k)).length = k * 3 := by rw [flat_length, List.length_take, Nat.min_eq_left (by omega)]
      rw [h3, List.append_assoc, splice_at _ _ _ _ hl]
      unfold flat
      rw [List.flatMap_append, List.flatMap_cons]
      simp [Spot.cells]
    change Row w2 g _ (splice (flat l ++ R) (k * 3) [.int .i64 i, .int .i64 vr, .string s]) at hR2
    rw [e1] at hR2
    refine ⟨_, rfl, ⟨by rw [hnew]; congr 1; simp; omega, .inr ⟨g, c, _, ?_, hbg, hR2, by simp; omega, Hcm.out, ?_, ?_⟩⟩, ext_grown hB1 hg2, .inl rfl⟩
    · congr 1; simp; omega
    · rw [List.size_toArray, List.length_append, hnew, ← hfl, ← List.length_append, hRl]
    · rw [show (l.take k ++ (⟨i, vr, s⟩ : Spot) :: l.drop (k + 1)).length = l.length by simp; omega]
      exact List.take_left' hnew

theorem spot_beq (y : Spot) (i vr : Int) (s : ByteArray) : (true && (y == (⟨i, vr, s⟩ : Spot))) = (decide (y.id = i) && decide (y.ver = vr) && decide (y.text.toList = s.toList)) := by
  obtain ⟨a, b, c⟩ := y
  rw [Bool.eq_iff_iff]
  simp
  constructor
  · rintro ⟨rfl, rfl, rfl⟩; exact ⟨⟨rfl, rfl⟩, rfl⟩
  · rintro ⟨⟨rfl, rfl⟩, h⟩; exact ⟨rfl, rfl, by rw [ByteArray.toList_eq, ByteArray.toList_eq] at h; exact ByteArray.ext (Array.toList_inj.1 h)⟩
theorem kinds3_any (k : Nat) (l : List Spot) (x : Spot) (t : Bool) (w : World) (A : Option Addr) (c : Nat) (hr : Rd w A (flat l)) (ht : t = true → k < l.length) :
    Calls Tryd.prog 82 #[.slice A l.length c, .int .i64 k, .bool t, x.val] w (TestPost (t && (l[k]? == some x)) w) := by
  obtain ⟨i, vr, s⟩ := x
  unfold Spot.val
  simp only
  cases t with
  | false =>
    clear hr ht
    go_enter Tryd.func82, Tryd.ntmps82
    go_wp2
    go_still (by kernel_rfl)
    go_wp2
    go_ret
    exact ⟨rfl, ((Below.refl _ _).alloc (Nat.le_refl _) _).drew⟩
  | true =>
    have hk := ht rfl
    clear ht
    obtain ⟨b, off, rfl, hb, hc⟩ := hr.elem Spot.size_cells (by omega) hk
    generalize hW1 : w.alloc (.cells #[.int .i64 i, .int .i64 vr, .string s] 24) = W1
    have hB1 : Below w.heap.size w W1 := by rw [← hW1]; exact (Below.refl _ _).alloc (Nat.le_refl _) _
    have c0 : W1.cell? ⟨w.heap.size, 0, none⟩ = some (.int .i64 i) := by rw [← hW1]; simp [go_sem]
    have c1 : W1.cell? ⟨w.heap.size, 1, none⟩ = some (.int .i64 vr) := by rw [← hW1]; simp [go_sem]
    have c2 : W1.cell? ⟨w.heap.size, 2, none⟩ = some (.string s) := by rw [← hW1]; simp [go_sem]
    have h1 := (hB1.cell (p := ⟨b, off + k * 3 + 0, none⟩) hb).trans (hc 0 _ rfl)
    have h2 := (hB1.cell (p := ⟨b, off + k * 3 + 1, none⟩) hb).trans (hc 1 _ rfl)
    have h3 := (hB1.cell (p := ⟨b, off + k * 3 + 2, none⟩) hb).trans (hc 2 _ rfl)
    simp only [Nat.add_zero] at h1
    have hE : Hid ((l[k]? == some (⟨i, vr, s⟩ : Spot)) = (l[k] == (⟨i, vr, s⟩ : Spot))) := by
      show _ = _
      rw [List.getElem?_eq_getElem hk]; rfl
    rw [hE.out]
    clear hc hr hE
    generalize l[k] = y at *
    obtain ⟨bb, hbb⟩ : ∃ bb, (true && (y == (⟨i, vr, s⟩ : Spot))) = bb := ⟨_, rfl⟩
    rw [hbb]
    have Hbb := Lib.hid hbb
    clear hbb
    by_cases e1 : y.id = i
    · by_cases e2 : y.ver = vr
      · by_cases e3 : y.text.toList = s.toList
        · go_enter Tryd.func82, Tryd.ntmps82
          go_wp2_with fail
          go_still (by kernel_rfl)
          go_wp2
          go_ret
          refine ⟨?_, hB1.drew⟩
          rw [← Hbb.out, spot_beq, e1, e2, e3]; simp
        · go_enter Tryd.func82, Tryd.ntmps82
          go_wp2_with fail
          go_still (by kernel_rfl)
          go_wp2
          go_ret
          refine ⟨?_, hB1.drew⟩
          rw [← Hbb.out, spot_beq]; simp [e3]
      · go_enter Tryd.func82, Tryd.ntmps82
        go_wp2_with fail
        go_still (by kernel_rfl)
        go_wp2
        go_ret
        refine ⟨?_, hB1.drew⟩
        rw [← Hbb.out, spot_beq]; simp [e2]
    · go_enter Tryd.func82, Tryd.ntmps82
      go_wp2_with fail
      go_still (by kernel_rfl)
      go_wp2
      go_ret
      refine ⟨?_, hB1.drew⟩
      rw [← Hbb.out, spot_beq]; simp [e1]

theorem kinds5_any (k : Nat) (l : List Spot) (x : Spot) (t : Bool) (w : World) (A : Option Addr) (c : Nat) (hr : Rd w A (flat l)) (ht : t = true → k < l.length) :
    Calls Tryd.prog 85 #[.slice A l.length c, .int .i64 k, .bool t, x.val] w (TestPost (t && (match l[k]? with | some y => !(y.ver == x.ver) | none => false)) w) := by
  obtain ⟨i, vr, s⟩ := x
  unfold Spot.val
  simp only
  cases t with
  | false =>
    clear hr ht
    rw [Bool.false_and]
    go_enter Tryd.func85, Tryd.ntmps85
    go_wp2
    go_still (by kernel_rfl)
    go_wp2
    go_ret
    exact ⟨rfl, ((Below.refl _ _).alloc (Nat.le_refl _) _).drew⟩
  | true =>
    have hk := ht rfl
    clear ht
    obtain ⟨b, off, rfl, hb, hc⟩ := hr.elem Spot.size_cells (by omega) hk
    generalize hW1 : w.alloc (.cells #[.int .i64 i, .int .i64 vr, .string s] 24) = W1
    have hB1 : Below w.heap.size w W1 := by rw [← hW1]; exact (Below.refl _ _).alloc (Nat.le_refl _) _
    have c1 : W1.cell? ⟨w.heap.size, 1, none⟩ = some (.int .i64 vr) := by rw [← hW1]; simp [go_sem]
    have h2 := (hB1.cell (p := ⟨b, off + k * 3 + 1, none⟩) hb).trans (hc 1 _ rfl)
    rw [List.getElem?_eq_getElem hk]
    clear hc hr
    generalize l[k] = y at *
    go_enter Tryd.func85, Tryd.ntmps85
    go_wp2_with fail
    go_still (by kernel_rfl)
    go_wp2
    go_ret
    exact ⟨rfl, hB1.drew⟩
end Go.Proofs.YtneanannicacnaaDoor
