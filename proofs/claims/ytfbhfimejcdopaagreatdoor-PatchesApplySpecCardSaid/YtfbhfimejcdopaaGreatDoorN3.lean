/- Texts of this claim, one after the other: Disp4, Disp5, Disp6, Disp7, Disp8. -/
import Derived.Test.YtfbhfimejcdopaaGreatDoorN2
import Derived.Laws.CopyOwn
import Derived.Lib.SliceRun
import Derived.Deep.RegionWith
/- Package display: clone, delete, the kinds. -/
namespace Go.Proofs.YtfbhfimejcdopaaGreatDoor
open Go.RowKit Go.Han
attribute [local irreducible] wpStill wpQuiet

def flat (l : List Spot) : List Value := l.flatMap Spot.cells
theorem flat_length (l : List Spot) : (flat l).length = l.length * 3 := flat_len Spot.cells 3 Spot.size_cells l
theorem flat_one (l : List Spot) : ∀ u ∈ flat l, u.oneCell' = true := by
  intro u hu
  unfold flat at hu
  obtain ⟨x, _, hx⟩ := List.mem_flatMap.1 hu
  simp [Spot.cells] at hx
  rcases hx with rfl | rfl | rfl <;> rfl

/-- A slice of spots of one's own. -/
def Own (w : World) (base : Nat) (v : Value) (l : List Spot) : Prop := w.ownsRow base 37 3 v l.length (flat l)
def ClonePost (l : List Spot) (w : World) (e : Ending) (w' : World) : Prop :=
  ∃ v', e = .returned v' ∧ Own w' w.heap.size v' l ∧ Below w.heap.size w w'

set_option maxRecDepth 100000 in
set_option maxHeartbeats 1000000 in
theorem clone_any (A : Option Addr) (c : Nat) (l : List Spot) (w : World) (hr : Rd w A (flat l)) (hA : A = none → l = []) (hm : l.length ≤ 1000000) :
    Calls Tryz.prog 41 #[.slice A l.length c] w (ClonePost l w) := by
  obtain ⟨i0, z, hi0, hz0, hs0, hb0, hzs⟩ := parts_spot
  have q22 : ∀ (w : World) (a : Option Addr) (n c n' c' : Nat), (binOp .eql 22 (.slice a n c) (.slice none n' c')).run Tryz.prog w = .ok (.bool a.isNone) w := fun w a n c n' c' => Lib.run_eql_slice_nil w _ _ a n c n' c' Tryz.underlying22
  cases A with
  | none =>
    have hl := hA rfl
    subst hl
    go_enter Tryz.func41, Tryz.ntmps41
    go_wp2
    go_ret
    exact ⟨_, rfl, ⟨by simp [flat], .inl ⟨rfl, rfl⟩⟩, Below.refl _ _⟩
  | some a =>
    have hcs : ∀ (j : Nat) (u : Value), (flat l)[j]? = some u → w.cell? (a.add j) = some u := by
      intro j u hu
      rcases hr with h | ⟨b, off, he, _, hc⟩
      · rw [h] at hu; cases hu
      · cases he
        rw [add_none]; exact hc j u hu
    have Hcs := Lib.hid hcs
    clear hcs hr hA
    go_enter Tryz.func41, Tryz.ntmps41
    go_wp2_with (at_builtin; refine wpList_append_own _ rfl _ _ 22 rfl w.heap.size 37 i0 z 3 32 Tryz.underlying22 hi0 hz0 hs0 hb0 hzs (by decide) _ _ _ rfl (World.ownsRow_made w #[] 0 (Nat.le_refl _) (Nat.zero_le _) rfl) a l.length c (flat l) rfl (flat_length l) (fun j u hu => Lib.cell?_alloc_some _ (Hcs.out j u hu)) (flat_one l) (by unfold maxLen; omega) (by omega) (by simp) ?_)
    intro v' w1 hown hgrow hnil
    go_wp2
    go_ret
    refine ⟨v', rfl, by simpa [Own] using hown, ?_⟩
    exact ((Below.refl _ w).alloc (Nat.le_refl _) _).grown hgrow (by simp) (by intro k hk; simp [Value.ownBlock] at hk; omega)
end Go.Proofs.YtfbhfimejcdopaaGreatDoor

/- Package display: the six functions of the map of kinds. -/
namespace Go.Proofs.YtfbhfimejcdopaaGreatDoor
open Go.RowKit Go.Han
attribute [local irreducible] wpStill wpQuiet

def TestPost (b : Bool) (w : World) (e : Ending) (w' : World) : Prop := e = .returned (.bool b) ∧ Below w.heap.size w w'
def EditPost (base : Nat) (v : Value) (l' : List Spot) (w : World) (e : Ending) (w' : World) : Prop :=
  ∃ v', e = .returned v' ∧ Own w' base v' l' ∧ w.grownBy w' v.ownBlock ∧ (v'.ownBlock = v.ownBlock ∨ ∃ k, v'.ownBlock = some k ∧ w.heap.size ≤ k)

theorem own_lt {w : World} {base : Nat} {v : Value} {l : List Spot} (h : Own w base v l) : ∀ g, v.ownBlock = some g → g < w.heap.size := by
  intro g hg
  rcases h.2 with ⟨rfl, _⟩ | ⟨g', c, cur, rfl, _, hb, _⟩
  · cases hg
  · simp [Value.ownBlock] at hg; subst hg; exact lt_block hb
theorem own_ext {w w' : World} {base : Nat} {v : Value} {l : List Spot} (h : Own w base v l) (hb : Below w.heap.size w w') : Own w' base v l :=
  ownsRow_of_block h fun g hg => hb.block g (own_lt h g hg)
/-- First only new blocks, then what 'row' lets turn. -/
theorem ext_grown {a b c : World} {row : Option Nat} (h : Below a.heap.size a b) (k : b.grownBy c row) : a.grownBy c row :=
  ⟨k.os.trans h.os, k.tape.trans h.tape, k.output.trans h.output, Nat.le_trans h.size k.size, fun i hi hne => (k.block i (Nat.lt_of_lt_of_le hi h.size) hne).trans (h.block i hi)⟩

theorem kinds1_any (v1 v2 : Value) (t : Bool) (x : Spot) (w : World) : Calls Tryz.prog 53 #[v1, v2, .bool t, x.val] w (TestPost (!t) w) := by
  obtain ⟨i, v, s⟩ := x
  unfold Spot.val
  simp only
  go_enter Tryz.func53, Tryz.ntmps53
  go_wp2
  go_ret
  exact ⟨rfl, (Below.refl _ _).alloc (Nat.le_refl _) _⟩

theorem flat_put (l : List Spot) (k : Nat) (x : Spot) (hk : k ≤ l.length) : putIn (flat l) (k * 3) x.cells = flat (l.take k ++ x :: l.drop k) := by
  have h1 : flat l = flat (l.take k) ++ flat (l.drop k) := by
    unfold flat; rw [← List.flatMap_append, List.take_append_drop]
  have hl : (flat (l.take k)).length = k * 3 := by rw [flat_length, List.length_take, Nat.min_eq_left hk]
  unfold putIn
  rw [h1, List.take_left' hl, List.drop_left' hl]
  unfold flat
  rw [List.flatMap_append, List.flatMap_cons]
theorem flat_del (l : List Spot) (k : Nat) (hk : k < l.length) : (flat l).take (k * 3) ++ (flat l).drop ((k + 1) * 3) = flat (l.take k ++ l.drop (k + 1)) := by
  have h1 : flat l = flat (l.take k) ++ flat (l.drop k) := by
    unfold flat; rw [← List.flatMap_append, List.take_append_drop]
  have h2 : flat l = flat (l.take (k + 1)) ++ flat (l.drop (k + 1)) := by
    unfold flat; rw [← List.flatMap_append, List.take_append_drop]
  have hl : (flat (l.take k)).length = k * 3 := by rw [flat_length, List.length_take, Nat.min_eq_left (by omega)]
  have hl2 : (flat (l.take (k + 1))).length = (k + 1) * 3 := by rw [flat_length, List.length_take, Nat.min_eq_left (by omega)]
  have e1 : (flat l).take (k * 3) = flat (l.take k) := by rw [h1]; exact List.take_left' hl
  have e2 : (flat l).drop ((k + 1) * 3) = flat (l.drop (k + 1)) := by rw [h2]; exact List.drop_left' hl2
  rw [e1, e2]
  unfold flat
  rw [List.flatMap_append]

set_option maxRecDepth 100000 in
theorem kinds2_any (base k : Nat) (v : Value) (l : List Spot) (x : Spot) (w : World) (hown : Own w base v l) (hk : k ≤ l.length) (hn : l.length ≤ 1000000) (hbase : base ≤ w.heap.size) :
    Calls Tryz.prog 54 #[v, .int .i64 k, x.val] w (EditPost base v (l.take k ++ x :: l.drop k) w) := by
  obtain ⟨i, vr, s⟩ := x
  unfold Spot.val
  simp only
  go_enter Tryz.func54, Tryz.ntmps54
  go_wp2_with fail
  generalize hW1 : (w.alloc (.cells #[.int .i64 i, .int .i64 vr, .string s] 37)).alloc (.cells #[.int .i64 i, .int .i64 vr, .string s] 37) = W1
  have hB1 : Below w.heap.size w W1 := by rw [← hW1]; exact ((Below.refl _ _).alloc (Nat.le_refl _) _).alloc (by simp) _
  have hv1 : Row W1 (w.heap.size + 1) 37 (Spot.cells ⟨i, vr, s⟩) := by
    rw [← hW1]
    have h := World.alloc_heap_new (w.alloc (.cells #[.int .i64 i, .int .i64 vr, .string s] 37)) (.cells #[.int .i64 i, .int .i64 vr, .string s] 37)
    have hz : (w.alloc (.cells #[.int .i64 i, .int .i64 vr, .string s] 37)).heap.size = w.heap.size + 1 := by simp
    rw [hz] at h
    exact h
  have hz1 : W1.heap.size = w.heap.size + 2 := by rw [← hW1]; simp
  clear hW1
  have hown1 := own_ext hown hB1
  refine (insert_spot base l.length k (w.heap.size + 1) v (flat l) (Spot.cells ⟨i, vr, s⟩) W1 hown1 hk hv1 rfl (by intro u hu; simp [Spot.cells] at hu; rcases hu with rfl | rfl | rfl <;> rfl) (flat_one l) (by intro h; have := own_lt hown _ h; omega) hn (by omega)).mono ?_
  rintro e w2 ⟨v', rfl, hown2, hg2, hat⟩
  rw [flat_put l k ⟨i, vr, s⟩ hk] at hown2
  go_wp2
  go_ret
  refine ⟨v', rfl, ?_, ext_grown hB1 hg2, ?_⟩
  · unfold Own
    rw [show (l.take k ++ (⟨i, vr, s⟩ : Spot) :: l.drop k).length = l.length + 1 by simp; omega]
    exact hown2
  · rcases hat with h | ⟨j, h1, h2⟩
    · exact .inl h
    · exact .inr ⟨j, h1, by omega⟩

set_option maxRecDepth 100000 in
theorem kinds4_any (base k : Nat) (v : Value) (l : List Spot) (x : Spot) (w : World) (hown : Own w base v l) (hk : k < l.length) (hn : l.length ≤ 1000000) :
    Calls Tryz.prog 57 #[v, .int .i64 k, x.val] w (EditPost base v (l.take k ++ l.drop (k + 1)) w) := by
  obtain ⟨i, vr, s⟩ := x
  unfold Spot.val
  simp only
  have hw1 : IntKind.i64.wrap ((k : Int) + 1) = (k : Int) + 1 := by rw [IntKind.wrap_i64]; omega
  go_enter Tryz.func57, Tryz.ntmps57
  go_wp2_with fail
  generalize hW1 : w.alloc (.cells #[.int .i64 i, .int .i64 vr, .string s] 37) = W1
  have hB1 : Below w.heap.size w W1 := by rw [← hW1]; exact (Below.refl _ _).alloc (Nat.le_refl _) _
  clear hW1
  obtain ⟨n, hln⟩ : ∃ n, l.length = n + 1 := ⟨l.length - 1, by omega⟩
  have hown1 := own_ext hown hB1
  unfold Own at hown1
  rw [hln] at hown1
  refine (delete_spot base n k v (flat l) W1 hown1 (by omega) (flat_one l) (by omega)).mono ?_
  rintro e w2 ⟨v', rfl, hown2, hg2, hat⟩
  rw [flat_del l k hk] at hown2
  go_wp2
  go_ret
  refine ⟨v', rfl, ?_, ext_grown hB1 hg2, .inl hat⟩
  unfold Own
  rw [show (l.take k ++ l.drop (k + 1)).length = n by simp; omega]
  exact hown2

set_option maxRecDepth 100000 in
theorem kinds6_any (base k : Nat) (v : Value) (l : List Spot) (x : Spot) (w : World) (hown : Own w base v l) (hk : k < l.length) :
    Calls Tryz.prog 60 #[v, .int .i64 k, x.val] w (EditPost base v (l.take k ++ x :: l.drop (k + 1)) w) := by
  obtain ⟨i, vr, s⟩ := x
  obtain ⟨g, c, cur, rfl, hbg, hrow, hnc, hcm, hcs, htk⟩ : ∃ g cap cur, v = .slice (some ⟨g, 0, none⟩) l.length cap ∧ base ≤ g ∧ w.heap[g]? = some (.cells cur 37 (0, 0)) ∧ l.length ≤ cap ∧ cap ≤ maxLen ∧ cur.size = cap * 3 ∧ cur.toList.take (l.length * 3) = flat l := by
    rcases hown.2 with ⟨_, h0⟩ | h
    · omega
    · exact h
  unfold Spot.val
  simp only
  obtain ⟨i0, z, hi0, hz0, hs0, hb0, hzs⟩ := parts_spot
  generalize hR : cur.toList.drop (l.length * 3) = R
  have hrow' : Row w g 37 (flat l ++ R) := by
    unfold Row; rw [← htk, ← hR, List.take_append_drop]; exact hrow
  have hRl : (flat l ++ R).length = c * 3 := by
    rw [← htk, ← hR, List.take_append_drop, Array.length_toList]; exact hcs
  clear hrow hcs htk hR cur hown
  have Hcm := Lib.hid hcm
  clear hcm
  have hkc : k < c := by omega
  have hlS : (k + 1) * 3 ≤ l.length * 3 := Nat.mul_le_mul_right _ hk
  have hlc : l.length * 3 ≤ c * 3 := Nat.mul_le_mul_right _ hnc
  generalize hW1 : w.alloc (.cells #[.int .i64 i, .int .i64 vr, .string s] 37) = W1
  have hB1 : Below w.heap.size w W1 := by rw [← hW1]; exact (Below.refl _ _).alloc (Nat.le_refl _) _
  have hrow1 := hrow'.ext hB1
  have c0 : W1.cell? ⟨w.heap.size, 0, none⟩ = some (.int .i64 i) := by rw [← hW1]; simp [go_sem]
  have c1 : W1.cell? ⟨w.heap.size, 1, none⟩ = some (.int .i64 vr) := by rw [← hW1]; simp [go_sem]
  have c2 : W1.cell? ⟨w.heap.size, 2, none⟩ = some (.string s) := by rw [← hW1]; simp [go_sem]
  go_enter Tryz.func60, Tryz.ntmps60
  go_wp2_with (with_reducible (refine wpList_store_rows W1 rfl (.tmp 10) (.tmp 9) 37 rfl 37 3 hi0 hs0 g (k * 3) #[.int .i64 i, .int .i64 vr, .string s] _ ?_ ?_ hrow1 rfl ?_ ?_ fun w2 hR2 hg2 hs2 => ?_))
  · rfl
  · rfl
  · rw [hRl]; omega
  · exact ⟨rfl, rfl, rfl⟩
  · go_ret
    have hfl : (flat l).length = l.length * 3 := flat_length l
    have hnew : (flat (l.take k ++ (⟨i, vr, s⟩ : Spot) :: l.drop (k + 1))).length = l.length * 3 := by
      rw [flat_length]; congr 1; simp; omega
    have e1 : splice (flat l ++ R) (k * 3) [.int .i64 i, .int .i64 vr, .string s] = flat (l.take k ++ (⟨i, vr, s⟩ : Spot) :: l.drop (k + 1)) ++ R := by
      have h3 : flat l = flat (l.take k) ++ (Spot.cells l[k] ++ flat (l.drop (k + 1))) := by
        unfold flat
        rw [← List.flatMap_cons, ← List.flatMap_append, List.getElem_cons_drop, List.take_append_drop]
      have hl : (flat (l.take k)).length = k * 3 := by rw [flat_length, List.length_take, Nat.min_eq_left (by omega)]
      rw [h3, List.append_assoc, splice_at _ _ _ _ hl]
      unfold flat
      rw [List.flatMap_append, List.flatMap_cons]
      simp [Spot.cells]
    change Row w2 g _ (splice (flat l ++ R) (k * 3) [.int .i64 i, .int .i64 vr, .string s]) at hR2
    rw [e1] at hR2
    refine ⟨_, rfl, ⟨by rw [hnew]; congr 1; simp; omega, .inr ⟨g, c, _, ?_, hbg, hR2, by simp; omega, Hcm.out, ?_, ?_⟩⟩, ext_grown hB1 hg2, .inl rfl⟩
    · congr 1; simp; omega
    · rw [List.size_toArray, List.length_append, hnew, ← hfl, ← List.length_append, hRl]
    · rw [show (l.take k ++ (⟨i, vr, s⟩ : Spot) :: l.drop (k + 1)).length = l.length by simp; omega]
      exact List.take_left' hnew

theorem spot_beq (y : Spot) (i vr : Int) (s : ByteArray) : (true && (y == (⟨i, vr, s⟩ : Spot))) = (decide (y.id = i) && decide (y.ver = vr) && decide (y.text.toList = s.toList)) := by
  obtain ⟨a, b, c⟩ := y
  rw [Bool.eq_iff_iff]
  simp
  constructor
  · rintro ⟨rfl, rfl, rfl⟩; exact ⟨⟨rfl, rfl⟩, rfl⟩
  · rintro ⟨⟨rfl, rfl⟩, h⟩; exact ⟨rfl, rfl, by rw [ByteArray.toList_eq, ByteArray.toList_eq] at h; exact ByteArray.ext (Array.toList_inj.1 h)⟩
theorem kinds3_any (k : Nat) (l : List Spot) (x : Spot) (t : Bool) (w : World) (A : Option Addr) (c : Nat) (hr : Rd w A (flat l)) (ht : t = true → k < l.length) :
    Calls Tryz.prog 56 #[.slice A l.length c, .int .i64 k, .bool t, x.val] w (TestPost (t && (l[k]? == some x)) w) := by
  obtain ⟨i, vr, s⟩ := x
  unfold Spot.val
  simp only
  cases t with
  | false =>
    clear hr ht
    go_enter Tryz.func56, Tryz.ntmps56
    go_wp2
    go_still (by kernel_rfl)
    go_wp2
    go_ret
    exact ⟨rfl, ((Below.refl _ _).alloc (Nat.le_refl _) _).drew⟩
  | true =>
    have hk := ht rfl
    clear ht
    obtain ⟨b, off, rfl, hb, hc⟩ := hr.elem Spot.size_cells (by omega) hk
    generalize hW1 : w.alloc (.cells #[.int .i64 i, .int .i64 vr, .string s] 37) = W1
    have hB1 : Below w.heap.size w W1 := by rw [← hW1]; exact (Below.refl _ _).alloc (Nat.le_refl _) _
    have c0 : W1.cell? ⟨w.heap.size, 0, none⟩ = some (.int .i64 i) := by rw [← hW1]; simp [go_sem]
    have c1 : W1.cell? ⟨w.heap.size, 1, none⟩ = some (.int .i64 vr) := by rw [← hW1]; simp [go_sem]
    have c2 : W1.cell? ⟨w.heap.size, 2, none⟩ = some (.string s) := by rw [← hW1]; simp [go_sem]
    have h1 := (hB1.cell (p := ⟨b, off + k * 3 + 0, none⟩) hb).trans (hc 0 _ rfl)
    have h2 := (hB1.cell (p := ⟨b, off + k * 3 + 1, none⟩) hb).trans (hc 1 _ rfl)
    have h3 := (hB1.cell (p := ⟨b, off + k * 3 + 2, none⟩) hb).trans (hc 2 _ rfl)
    simp only [Nat.add_zero] at h1
    have hE : Hid ((l[k]? == some (⟨i, vr, s⟩ : Spot)) = (l[k] == (⟨i, vr, s⟩ : Spot))) := by
      show _ = _
      rw [List.getElem?_eq_getElem hk]; rfl
    rw [hE.out]
    clear hc hr hE
    generalize l[k] = y at *
    obtain ⟨bb, hbb⟩ : ∃ bb, (true && (y == (⟨i, vr, s⟩ : Spot))) = bb := ⟨_, rfl⟩
    rw [hbb]
    have Hbb := Lib.hid hbb
    clear hbb
    by_cases e1 : y.id = i
    · by_cases e2 : y.ver = vr
      · by_cases e3 : y.text.toList = s.toList
        · go_enter Tryz.func56, Tryz.ntmps56
          go_wp2_with fail
          go_still (by kernel_rfl)
          go_wp2
          go_ret
          refine ⟨?_, hB1.drew⟩
          rw [← Hbb.out, spot_beq, e1, e2, e3]; simp
        · go_enter Tryz.func56, Tryz.ntmps56
          go_wp2_with fail
          go_still (by kernel_rfl)
          go_wp2
          go_ret
          refine ⟨?_, hB1.drew⟩
          rw [← Hbb.out, spot_beq]; simp [e3]
      · go_enter Tryz.func56, Tryz.ntmps56
        go_wp2_with fail
        go_still (by kernel_rfl)
        go_wp2
        go_ret
        refine ⟨?_, hB1.drew⟩
        rw [← Hbb.out, spot_beq]; simp [e2]
    · go_enter Tryz.func56, Tryz.ntmps56
      go_wp2_with fail
      go_still (by kernel_rfl)
      go_wp2
      go_ret
      refine ⟨?_, hB1.drew⟩
      rw [← Hbb.out, spot_beq]; simp [e1]

theorem kinds5_any (k : Nat) (l : List Spot) (x : Spot) (t : Bool) (w : World) (A : Option Addr) (c : Nat) (hr : Rd w A (flat l)) (ht : t = true → k < l.length) :
    Calls Tryz.prog 59 #[.slice A l.length c, .int .i64 k, .bool t, x.val] w (TestPost (t && (match l[k]? with | some y => !(y.ver == x.ver) | none => false)) w) := by
  obtain ⟨i, vr, s⟩ := x
  unfold Spot.val
  simp only
  cases t with
  | false =>
    clear hr ht
    rw [Bool.false_and]
    go_enter Tryz.func59, Tryz.ntmps59
    go_wp2
    go_still (by kernel_rfl)
    go_wp2
    go_ret
    exact ⟨rfl, ((Below.refl _ _).alloc (Nat.le_refl _) _).drew⟩
  | true =>
    have hk := ht rfl
    clear ht
    obtain ⟨b, off, rfl, hb, hc⟩ := hr.elem Spot.size_cells (by omega) hk
    generalize hW1 : w.alloc (.cells #[.int .i64 i, .int .i64 vr, .string s] 37) = W1
    have hB1 : Below w.heap.size w W1 := by rw [← hW1]; exact (Below.refl _ _).alloc (Nat.le_refl _) _
    have c1 : W1.cell? ⟨w.heap.size, 1, none⟩ = some (.int .i64 vr) := by rw [← hW1]; simp [go_sem]
    have h2 := (hB1.cell (p := ⟨b, off + k * 3 + 1, none⟩) hb).trans (hc 1 _ rfl)
    rw [List.getElem?_eq_getElem hk]
    clear hc hr
    generalize l[k] = y at *
    go_enter Tryz.func59, Tryz.ntmps59
    go_wp2_with fail
    go_still (by kernel_rfl)
    go_wp2
    go_ret
    exact ⟨rfl, hB1.drew⟩
end Go.Proofs.YtfbhfimejcdopaaGreatDoor

/- Package display: perform. -/
namespace Go.Proofs.YtfbhfimejcdopaaGreatDoor
open Go.RowKit Go.Han
attribute [local irreducible] wpStill wpQuiet

theorem own_form {w : World} {base : Nat} {v : Value} {l : List Spot} (h : Own w base v l) : ∃ A c, v = .slice A l.length c ∧ Rd w A (flat l) ∧ (A = none → l = []) := by
  obtain ⟨A, c, rfl, _, _, hl, hr⟩ := SlOf.of_own h
  refine ⟨A, c, rfl, hr, ?_⟩
  rintro rfl
  rcases hr with h | ⟨b, off, h, _⟩
  · have := flat_length l
    rw [h] at this
    exact List.eq_nil_of_length_eq_zero (by simp at this; omega)
  · cases h

def PerfPost (base : Nat) (v : Value) (ok : Bool) (l' : List Spot) (w : World) (e : Ending) (w' : World) : Prop :=
  (ok = false ∧ e = .panicked (errChain 490) ∧ w.grownBy w' v.ownBlock) ∨ (ok = true ∧ 1024 < l'.length ∧ e = .panicked (errChain 2) ∧ w.grownBy w' v.ownBlock) ∨ (ok = true ∧ l'.length ≤ 1024 ∧ EditPost base v l' w e w')

theorem below_grownBy {w w' : World} (h : Below w.heap.size w w') (row : Option Nat) : w.grownBy w' row := ⟨h.os, h.tape, h.output, h.size, fun i hi _ => h.block i hi⟩

set_option maxRecDepth 100000 in
set_option maxHeartbeats 1000000 in
theorem perform_gen (base g f1 f2 : Nat) (v : Value) (l : List Spot) (c : Change) (tb : Nat → Bool → Bool) (ed : Nat → List Spot) (w : World) (hown : Own w base v l) (hs : Asc l) (hn : l.length ≤ 1024) (hbase : base ≤ w.heap.size) (hg : KMap w g)
    (hl : ∀ W, KMap W g → (Instr.lookup 69 (.map (some g)) (.int .i64 c.kind) false).run Tryz.prog W = .ok (.agg #[.func (.func f1) #[] #[], .func (.func f2) #[] #[]]) W)
    (e1 : ∀ args w, (callFunc f1 args).run Tryz.prog w = .ok (.enter f1 args) w) (e2 : ∀ args w, (callFunc f2 args).run Tryz.prog w = .ok (.enter f2 args) w)
    (htest : ∀ W k t, Own W base v l → (t = true → k < l.length) → Calls Tryz.prog f1 #[v, .int .i64 k, .bool t, c.spot.val] W (TestPost (tb k t) W))
    (hedit : ∀ W k t, Own W base v l → base ≤ W.heap.size → k ≤ l.length → (t = true → k < l.length) → tb k t = true → Calls Tryz.prog f2 #[v, .int .i64 k, c.spot.val] W (EditPost base v (ed k) W))
    (hel : ∀ k, (ed k).length ≤ l.length + 1) :
    Calls Tryz.prog 40 #[v, c.val, .map (some g)] w (fun e w' => ∃ k, Cut c.spot.id l k ∧ PerfPost base v (tb k (headB c.spot.id l k)) (ed k) w e w') := by
  obtain ⟨t, kd, ⟨i, vr, s⟩⟩ := c
  obtain ⟨A, cp, rfl, hr, hA⟩ := own_form hown
  obtain ⟨W1, hW1⟩ : ∃ W1, w.alloc (.cells #[.int .i64 t, .int .i64 kd, .int .i64 i, .int .i64 vr, .string s] 40) = W1 := ⟨_, rfl⟩
  have hB1 : Below w.heap.size w W1 := by rw [← hW1]; exact (Below.refl _ _).alloc (Nat.le_refl _) _
  have hz1 : W1.heap.size = w.heap.size + 1 := by rw [← hW1]; simp
  have c1 : W1.cell? ⟨w.heap.size, 1, none⟩ = some (.int .i64 kd) := by rw [← hW1]; simp [go_sem]
  have c2 : W1.cell? ⟨w.heap.size, 2, none⟩ = some (.int .i64 i) := by rw [← hW1]; simp [go_sem]
  have c3 : W1.cell? ⟨w.heap.size, 3, none⟩ = some (.int .i64 vr) := by rw [← hW1]; simp [go_sem]
  have c4 : W1.cell? ⟨w.heap.size, 4, none⟩ = some (.string s) := by rw [← hW1]; simp [go_sem]
  have hl1 := hl W1 (hg.ext hB1)
  obtain ⟨W2, hW2⟩ : ∃ W2, W1.alloc (.cells #[.func (.func f1) #[] #[], .func (.func f2) #[] #[]] 87) = W2 := ⟨_, rfl⟩
  have hb2 : Below W1.heap.size W1 W2 := by rw [← hW2]; exact (Below.refl _ _).alloc (Nat.le_refl _) _
  have hB2 : Below w.heap.size w W2 := ext_trans hB1 hb2
  have hz2 : W2.heap.size = w.heap.size + 2 := by rw [← hW2]; simp [hz1]
  obtain ⟨hc2, _⟩ := bcell hb2
  have d2 := (hc2 w.heap.size 2 (by omega)).trans c2
  have d3 := (hc2 w.heap.size 3 (by omega)).trans c3
  have d4 := (hc2 w.heap.size 4 (by omega)).trans c4
  have k0 : W2.cell? ⟨w.heap.size + 1, 0, none⟩ = some (.func (.func f1) #[] #[]) := by rw [← hW2, ← hz1]; simp [go_sem]
  have k1 : W2.cell? ⟨w.heap.size + 1, 1, none⟩ = some (.func (.func f2) #[] #[]) := by rw [← hW2, ← hz1]; simp [go_sem]
  clear c2 c3 c4 hc2
  unfold Change.val
  simp only [Spot.val] at hl1 htest hedit ⊢
  go_enter Tryz.func40, Tryz.ntmps40
  go_wp2_with fail
  refine (search_any i A cp l W2 (hr.ext hB2) (by omega) hs).mono ?_
  rintro e W3 ⟨hb3, k, hcut, he⟩
  have hB3 := ext_trans hB2 hb3
  obtain ⟨hc3, _⟩ := bcell hb3
  rw [← hc3 _ _ (by omega)] at d2 d3 d4 k0 k1
  have hz3 := hb3.size
  have hown3 := own_ext hown hB3
  have Hcut := Lib.hid hcut
  clear hc3 hcut
  have hth : headB i l k = true → k < l.length := by
    intro h
    unfold headB at h
    rcases Nat.lt_or_ge k l.length with h2 | h2
    · exact h2
    · rw [List.getElem?_eq_none h2] at h; cases h
  obtain ⟨th, hthe⟩ : ∃ th, headB i l k = th := ⟨_, rfl⟩
  rw [hthe] at hth he
  subst he
  have Hth := Lib.hid hthe
  clear hthe
  have Hl := Lib.hid hl
  clear hl hl1 hW1 hW2 c1
  have Htest := Lib.hid (htest W3 k th hown3 hth)
  have Hedit := Lib.hid hedit
  clear htest hedit
  obtain ⟨tv, htv⟩ : ∃ tv, tb k th = tv := ⟨_, rfl⟩
  rw [htv] at Htest
  go_wp2_with fail
  refine (Htest.out).mono ?_
  rintro e W4 ⟨rfl, hb4⟩
  have hB4 := ext_trans hB3 hb4
  obtain ⟨hc4, _⟩ := bcell hb4
  rw [← hc4 _ _ (by omega)] at d2 d3 d4 k0 k1
  have hz4 := hb4.size
  have hown4 := own_ext hown hB4
  clear hc4 Htest
  cases tv with
  | false =>
    go_wp2_with fail
    refine (need_f _ _ _ rfl).mono ?_
    rintro e w' ⟨rfl, rfl⟩
    exact ⟨rfl, k, Hcut.out, .inl ⟨by rw [Hth.out]; exact htv, rfl, below_grownBy hB4 _⟩⟩
  | true =>
    go_wp2_with fail
    refine (need_t _ _ _ rfl).mono ?_
    rintro e w' ⟨rfl, rfl⟩
    go_wp2_with fail
    refine (Hedit.out W4 k th hown4 (by omega) Hcut.out.le hth htv).mono ?_
    rintro e W5 ⟨v', rfl, hown5, hg5, hat5⟩
    obtain ⟨A', cp', rfl, hr5, _⟩ := own_form hown5
    have hgB := ext_grown hB4 hg5
    have hln := hel k
    by_cases hlen : (ed k).length ≤ 1024
    · go_wp2_with fail
      refine (need_t _ _ _ (by simp; omega)).mono ?_
      rintro e w' ⟨rfl, rfl⟩
      go_wp2
      go_ret
      refine ⟨k, Hcut.out, .inr (.inr ⟨by rw [Hth.out]; exact htv, hlen, _, rfl, hown5, hgB, ?_⟩)⟩
      rcases hat5 with h | ⟨j, h1, h2⟩
      · exact .inl h
      · exact .inr ⟨j, h1, by omega⟩
    · go_wp2_with fail
      refine (need_f _ _ _ (by simp; omega)).mono ?_
      rintro e w' ⟨rfl, rfl⟩
      exact ⟨rfl, k, Hcut.out, .inr (.inl ⟨by rw [Hth.out]; exact htv, by omega, rfl, hgB⟩)⟩
end Go.Proofs.YtfbhfimejcdopaaGreatDoor

/- Package display: Do. -/
namespace Go.Proofs.YtfbhfimejcdopaaGreatDoor
open Go.RowKit Go.Han
attribute [local irreducible] wpStill wpQuiet

def posB (n : Int) (l : List Spot) : Nat := (l.takeWhile (fun x => decide (x.id < n))).length
theorem cut_pos (n : Int) : ∀ (l : List Spot) (k : Nat), Cut n l k → k = posB n l
  | [], k, h => by have := h.le; simp at this; simp [this, posB]
  | x :: l, 0, h => by
    have := h.hi 0 (by simp) (Nat.le_refl _)
    simp at this
    unfold posB
    rw [List.takeWhile_cons_of_neg (by simp; omega)]; rfl
  | x :: l, k + 1, h => by
    have h0 := h.lo 0 (by simp) (by omega)
    simp at h0
    have := cut_pos n l k ⟨by have := h.le; simp at this; exact this, fun t ht hk => by have := h.lo (t + 1) (by simp; exact ht) (by omega); simpa using this, fun t ht hk => by have := h.hi (t + 1) (by simp; exact ht) (by omega); simpa using this⟩
    unfold posB at this ⊢
    rw [List.takeWhile_cons_of_pos (by simp; exact h0), List.length_cons, ← this]

def testB (c : Change) (l : List Spot) (k : Nat) (th : Bool) : Bool :=
  if c.kind = 1 then !th else if c.kind = 2 then th && (l[k]? == some c.spot) else th && (match l[k]? with | some y => !(y.ver == c.spot.ver) | none => false)
def editL (c : Change) (l : List Spot) (k : Nat) : List Spot :=
  if c.kind = 1 then l.take k ++ c.spot :: l.drop k else if c.kind = 2 then l.take k ++ l.drop (k + 1) else l.take k ++ c.spot :: l.drop (k + 1)
/-- Whether the change can be made on l; what l is then. -/
def fitsB (c : Change) (l : List Spot) : Bool := testB c l (posB c.spot.id l) (headB c.spot.id l (posB c.spot.id l))
def madeL (c : Change) (l : List Spot) : List Spot := editL c l (posB c.spot.id l)

theorem edit_len (c : Change) (l : List Spot) (k : Nat) : (editL c l k).length ≤ l.length + 1 := by
  unfold editL
  split
  · simp; omega
  · split
    · simp; omega
    · simp; omega

theorem perform_any (base g : Nat) (v : Value) (l : List Spot) (c : Change) (w : World) (hown : Own w base v l) (hs : Asc l) (hn : l.length ≤ 1024) (hbase : base ≤ w.heap.size) (hg : KMap w g) (hk : kindB c.kind = true) :
    Calls Tryz.prog 40 #[v, c.val, .map (some g)] w (PerfPost base v (fitsB c l) (madeL c l) w) := by
  obtain ⟨A, cp, rfl, _, _⟩ := own_form hown
  have hfr : ∀ W, Own W base (.slice A l.length cp) l → Rd W A (flat l) := by
    intro W h
    obtain ⟨A', c', he, hr, _⟩ := own_form h
    cases he; exact hr
  have hfin : ∀ (f1 f2 : Nat), (∀ W, KMap W g → (Instr.lookup 69 (.map (some g)) (.int .i64 c.kind) false).run Tryz.prog W = .ok (kVal f1 f2) W) →
      (∀ args w, (callFunc f1 args).run Tryz.prog w = .ok (.enter f1 args) w) → (∀ args w, (callFunc f2 args).run Tryz.prog w = .ok (.enter f2 args) w) →
      (∀ W k t, Own W base (.slice A l.length cp) l → (t = true → k < l.length) → Calls Tryz.prog f1 #[.slice A l.length cp, .int .i64 k, .bool t, c.spot.val] W (TestPost (testB c l k t) W)) →
      (∀ W k t, Own W base (.slice A l.length cp) l → base ≤ W.heap.size → k ≤ l.length → (t = true → k < l.length) → testB c l k t = true → Calls Tryz.prog f2 #[.slice A l.length cp, .int .i64 k, c.spot.val] W (EditPost base (.slice A l.length cp) (editL c l k) W)) →
      Calls Tryz.prog 40 #[.slice A l.length cp, c.val, .map (some g)] w (PerfPost base (.slice A l.length cp) (fitsB c l) (madeL c l) w) := by
    intro f1 f2 hl e1 e2 ht he
    refine (perform_gen base g f1 f2 _ l c (testB c l) (editL c l) w hown hs hn hbase hg hl e1 e2 ht he (edit_len c l)).mono ?_
    rintro e w' ⟨k, hc, h⟩
    have := cut_pos _ _ _ hc
    subst this
    exact h
  rcases kinds_look c.kind hg false with ⟨h, _⟩ | ⟨h, _⟩ | ⟨h, _⟩ | ⟨h, _⟩
  · refine hfin 53 54 (fun W hW => ?_) (enters_of Tryz.func53 (by kernel_rfl) rfl) (enters_of Tryz.func54 (by kernel_rfl) rfl) (fun W k t _ _ => ?_) (fun W k t ho hb hk1 _ _ => ?_)
    · rcases kinds_look c.kind hW false with ⟨_, hl⟩ | ⟨h', _⟩ | ⟨h', _⟩ | ⟨h', _⟩
      · rw [h]; simpa using hl
      · omega
      · omega
      · rw [h'] at hk; cases hk
    · have := kinds1_any (.slice A l.length cp) (.int .i64 k) t c.spot W
      unfold testB; rw [if_pos h]; exact this
    · unfold editL; rw [if_pos h]
      exact kinds2_any base k _ l c.spot W ho hk1 (by omega) hb
  · have h1 : ¬ c.kind = 1 := by omega
    refine hfin 56 57 (fun W hW => ?_) (enters_of Tryz.func56 (by kernel_rfl) rfl) (enters_of Tryz.func57 (by kernel_rfl) rfl) (fun W k t ho hkt => ?_) (fun W k t ho hb hk1 hkt htb => ?_)
    · rcases kinds_look c.kind hW false with ⟨h', _⟩ | ⟨_, hl⟩ | ⟨h', _⟩ | ⟨h', _⟩
      · omega
      · rw [h]; simpa using hl
      · omega
      · rw [h'] at hk; cases hk
    · unfold testB; rw [if_neg h1, if_pos h]
      exact kinds3_any k l c.spot t W A cp (hfr W ho) hkt
    · unfold testB at htb; rw [if_neg h1, if_pos h] at htb
      have : t = true := by cases t <;> simp_all
      unfold editL; rw [if_neg h1, if_pos h]
      exact kinds4_any base k _ l c.spot W ho (hkt this) (by omega)
  · have h1 : ¬ c.kind = 1 := by omega
    have h2 : ¬ c.kind = 2 := by omega
    refine hfin 59 60 (fun W hW => ?_) (enters_of Tryz.func59 (by kernel_rfl) rfl) (enters_of Tryz.func60 (by kernel_rfl) rfl) (fun W k t ho hkt => ?_) (fun W k t ho hb hk1 hkt htb => ?_)
    · rcases kinds_look c.kind hW false with ⟨h', _⟩ | ⟨h', _⟩ | ⟨_, hl⟩ | ⟨h', _⟩
      · omega
      · omega
      · rw [h]; simpa using hl
      · rw [h'] at hk; cases hk
    · unfold testB; rw [if_neg h1, if_neg h2]
      exact kinds5_any k l c.spot t W A cp (hfr W ho) hkt
    · unfold testB at htb; rw [if_neg h1, if_neg h2] at htb
      have : t = true := by cases t <;> simp_all
      unfold editL; rw [if_neg h1, if_neg h2]
      exact kinds6_any base k _ l c.spot W ho (hkt this)
  · rw [h] at hk; cases hk
end Go.Proofs.YtfbhfimejcdopaaGreatDoor

/- Package display: Do. -/
namespace Go.Proofs.YtfbhfimejcdopaaGreatDoor
open Go.RowKit Go.Han
attribute [local irreducible] wpStill wpQuiet

/-- What Do answers: the error, and the display. -/
def doE (l : List Spot) (c : Change) : Int := if checkE l ≠ 0 then checkE l else if c.ok = false then 490 else if fitsB c l = false then 490 else if 1024 < (madeL c l).length then 2 else 0

def DoPost (l : List Spot) (c : Change) (w : World) (e : Ending) (w' : World) : Prop :=
  Below w.heap.size w w' ∧ ((doE l c ≠ 0 ∧ e = .returned (.tuple #[.slice none 0 0, .int .i64 (doE l c)])) ∨ (doE l c = 0 ∧ ∃ v', e = .returned (.tuple #[v', .int .i64 0]) ∧ Own w' w.heap.size v' (madeL c l)))

theorem asc_of : ∀ (last : Int) (l : List Spot), checkFrom last l = true → (∀ x ∈ l, last < x.id) ∧ Asc l
  | _, [], _ => ⟨by simp, fun a b ha => absurd ha (by simp)⟩
  | last, x :: l, h => by
    simp only [checkFrom, Bool.and_eq_true, decide_eq_true_eq] at h
    obtain ⟨h1, h2⟩ := asc_of x.id l h.2
    refine ⟨fun y hy => ?_, fun a b ha hb hab => ?_⟩
    · rcases List.mem_cons.1 hy with rfl | hy
      · exact h.1.2
      · have := h1 y hy; omega
    · cases b with
      | zero => omega
      | succ b =>
        cases a with
        | zero => simpa using h1 _ (List.getElem_mem (by simpa using hb))
        | succ a => simpa using h2 a b (by simpa using ha) (by simpa using hb) (by omega)

theorem checkE_zero {l : List Spot} (h : checkE l = 0) : l.length ≤ 1024 ∧ Asc l := by
  unfold checkE at h
  by_cases h1 : 1024 < l.length
  · rw [if_pos h1] at h; omega
  · rw [if_neg h1] at h
    refine ⟨by omega, ?_⟩
    cases h2 : checkFrom (-1) l
    · rw [h2] at h; simp at h
    · exact (asc_of _ _ h2).2
theorem ok_kind {c : Change} (h : c.ok = true) : kindB c.kind = true := by
  unfold Change.ok at h
  cases h2 : kindB c.kind
  · rw [h2] at h; simp at h
  · rfl

set_option maxRecDepth 100000 in
set_option maxHeartbeats 4000000 in
theorem Do_any (A : Option Addr) (cp : Nat) (l : List Spot) (c : Change) (w : World) (hT : Tabs w) (hr : Rd w A (flat l)) (hA : A = none → l = []) (hm : l.length ≤ 9223372036854775807) :
    Calls Tryz.prog 24 #[.slice A l.length cp, c.val] w (DoPost l c w) := by
  obtain ⟨t, kd, ⟨i, vr, s⟩⟩ := c
  generalize hcc : (⟨t, kd, ⟨i, vr, s⟩⟩ : Change) = cc at *
  have hv : cc.val = .agg #[.int .i64 t, .int .i64 kd, .int .i64 i, .int .i64 vr, .string s] := by rw [← hcc]; rfl
  obtain ⟨W0, hW0⟩ : ∃ W0, w.alloc (.cells #[.int .i64 t, .int .i64 kd, .int .i64 i, .int .i64 vr, .string s] 40) = W0 := ⟨_, rfl⟩
  obtain ⟨W1, hW1⟩ : ∃ W1, W0.alloc (.cells #[.int .i64 0] 26) = W1 := ⟨_, rfl⟩
  have hz0 : W0.heap.size = w.heap.size + 1 := by rw [← hW0]; simp
  have hz1 : W1.heap.size = w.heap.size + 2 := by rw [← hW1]; simp [hz0]
  have hb0 : W1.heap[w.heap.size + 1]? = some (.cells #[.int .i64 0] 26 (0, 0)) := by rw [← hW1, ← hz0]; exact World.alloc_heap_new _ _
  have hB0 : Below w.heap.size w W0 := by rw [← hW0]; exact (Below.refl _ _).alloc (Nat.le_refl _) _
  have hB1 : Below w.heap.size w W1 := by rw [← hW1]; exact hB0.alloc (by omega) _
  rw [hv]
  go_enter_defers Tryz.func24, Tryz.ntmps24
  go_wp2_with fail
  refine (check_any A cp l W1 (utf_ext hT hB1) (hr.ext hB1) hm).mono ?_
  rintro e w2 ⟨hb2, h⟩
  have hB2 := ext_trans hB1 hb2
  have hb02 : w2.heap[w.heap.size + 1]? = _ := (hb2.block _ (by omega)).trans hb0
  have c0 : W1.cell? ⟨w.heap.size, 0, none⟩ = some (.int .i64 t) := by rw [← hW1, ← hW0]; simp [go_sem]
  have c1 : W1.cell? ⟨w.heap.size, 1, none⟩ = some (.int .i64 kd) := by rw [← hW1, ← hW0]; simp [go_sem]
  have c2 : W1.cell? ⟨w.heap.size, 2, none⟩ = some (.int .i64 i) := by rw [← hW1, ← hW0]; simp [go_sem]
  have c3 : W1.cell? ⟨w.heap.size, 3, none⟩ = some (.int .i64 vr) := by rw [← hW1, ← hW0]; simp [go_sem]
  have c4 : W1.cell? ⟨w.heap.size, 4, none⟩ = some (.string s) := by rw [← hW1, ← hW0]; simp [go_sem]
  obtain ⟨hc2, _⟩ := bcell hb2
  rw [← hc2 _ _ (by omega)] at c0 c1 c2 c3 c4
  have hz2 := hb2.size
  clear hb0 hW0 hW1 hc2
  rcases h with ⟨hn, rfl⟩ | ⟨hn, rfl⟩
  · have Hn := Lib.hid hn
    clear hn
    go_wp2_with fail
    refine (kinds_any w2).mono ?_
    rintro e w3 ⟨rfl, hw3⟩
    have hb3 : Below w2.heap.size w2 w3 := by rw [← hw3]; exact (Below.refl _ _).alloc (Nat.le_refl _) _
    have hg3 : KMap w3 w2.heap.size := by rw [← hw3]; exact World.alloc_heap_new _ _
    have hB3 := ext_trans hB2 hb3
    have hb03 : w3.heap[w.heap.size + 1]? = _ := (hb3.block _ (by omega)).trans hb02
    obtain ⟨hc3, _⟩ := bcell hb3
    rw [← hc3 _ _ (by omega)] at c0 c1 c2 c3 c4
    have hz3 := hb3.size
    clear hc3 hw3 hb02
    go_wp2_with fail
    rw [← hv]
    refine (examine_any cc w2.heap.size w3 (utf_ext hT hB3) hg3).mono ?_
    rintro e w4 ⟨hb4, h4⟩
    have hB4 := ext_trans hB3 hb4
    have hg4 := hg3.ext hb4
    have hb04 : w4.heap[w.heap.size + 1]? = _ := (hb4.block _ (by omega)).trans hb03
    obtain ⟨hc4, _⟩ := bcell hb4
    rw [← hc4 _ _ (by omega)] at c0 c1 c2 c3 c4
    have hz4 := hb4.size
    clear hc4 hb03 hg3
    rcases h4 with ⟨ho, rfl⟩ | ⟨ho, rfl⟩
    · have hok : cc.ok = true := by
        cases h : cc.ok
        · rw [h] at ho; simp at ho
        · rfl
      have Hok := Lib.hid hok
      clear hok ho
      have Hf := Lib.hid (checkE_zero Hn.out)
      have hcl : Hid (∀ W, Below w4.heap.size w4 W → Calls Tryz.prog 41 #[.slice A l.length cp] W (ClonePost l W)) := fun W h =>
        clone_any A cp l W (hr.ext (ext_trans hB4 h)) hA (by have := Hf.out.1; omega)
      clear hr
      go_wp2_with fail
      have hkeep : Hid (∀ w5, Below w4.heap.size w4.drew w5 → w5.cell? ⟨w.heap.size, 0, none⟩ = some (.int .i64 t) ∧ w5.cell? ⟨w.heap.size, 1, none⟩ = some (.int .i64 kd) ∧ w5.cell? ⟨w.heap.size, 2, none⟩ = some (.int .i64 i) ∧ w5.cell? ⟨w.heap.size, 3, none⟩ = some (.int .i64 vr) ∧ w5.cell? ⟨w.heap.size, 4, none⟩ = some (.string s) ∧ Below w4.heap.size w4 w5 ∧ w5.heap[w.heap.size + 1]? = some (.cells #[.int .i64 0] 26 (0, 0)) ∧ KMap w5 w2.heap.size) := by
        intro w5 h
        have hB : Below w4.heap.size w4 w5 := ext_trans (ext_drew (Below.refl _ _)) h
        obtain ⟨hc, _⟩ := bcell hB
        exact ⟨(hc _ _ (by omega)).trans c0, (hc _ _ (by omega)).trans c1, (hc _ _ (by omega)).trans c2, (hc _ _ (by omega)).trans c3, (hc _ _ (by omega)).trans c4, hB, (hB.block _ (by omega)).trans hb04, hg4.ext hB⟩
      have hperf : Hid (∀ W v, Own W w4.drew.heap.size v l → Below w4.heap.size w4 W → KMap W w2.heap.size → Calls Tryz.prog 40 #[v, cc.val, .map (some w2.heap.size)] W fun e w' => Below w4.heap.size w4 w' ∧ ((∃ n, n ≠ 0 ∧ doE l cc = n ∧ e = .panicked (errChain n)) ∨ (doE l cc = 0 ∧ ∃ v6, e = .returned v6 ∧ Own w' w4.heap.size v6 (madeL cc l)))) := by
        intro W v ho hB hg
        refine (perform_any w4.heap.size w2.heap.size v l cc W ho Hf.out.2 Hf.out.1 hB.size hg (ok_kind Hok.out)).mono ?_
        intro e w' h
        have hBB : ∀ w', W.grownBy w' v.ownBlock → Below w4.heap.size w4 w' := fun w' hgr => hB.grown hgr hB.size (by
          intro k hk
          rcases ho.2 with ⟨rfl, _⟩ | ⟨g', c', cur, rfl, hb, _⟩
          · cases hk
          · simp [Value.ownBlock] at hk; subst hk; exact hb)
        have hE : doE l cc = if fitsB cc l = false then 490 else if 1024 < (madeL cc l).length then 2 else 0 := by
          unfold doE; rw [Hn.out, Hok.out]; simp
        rcases h with ⟨h1, rfl, hg'⟩ | ⟨h1, h2, rfl, hg'⟩ | ⟨h1, h2, v', rfl, ho', hg', _⟩
        · exact ⟨hBB _ hg', .inl ⟨490, by decide, by rw [hE, h1]; rfl, rfl⟩⟩
        · exact ⟨hBB _ hg', .inl ⟨2, by decide, by rw [hE, h1, if_neg (by decide), if_pos h2], rfl⟩⟩
        · refine ⟨hBB _ hg', .inr ⟨by rw [hE, h1, if_neg (by decide), if_neg (by omega)], v', rfl, ho'⟩⟩
      have hkeep2 : Hid (∀ w6, Below w4.heap.size w4 w6 → w6.heap[w.heap.size + 1]? = some (.cells #[.int .i64 0] 26 (0, 0))) := fun w6 h => (h.block _ (by omega)).trans hb04
      clear hb04 hg4
      have hpan : Hid (∀ n w6, Below w4.heap.size w4 w6 → n ≠ 0 → doE l cc = n → DoPost l cc w (.returned (.tuple #[.slice none 0 0, .int .i64 n])) (w6.setCell ⟨w.heap.size + 1, 0, none⟩ (.int .i64 n))) := fun n w6 h h0 hd =>
        ⟨(ext_trans hB4 h).setCell (p := ⟨w.heap.size + 1, 0, none⟩) (by simp) _, .inl ⟨by rw [hd]; exact h0, by rw [hd]⟩⟩
      have hret : Hid (∀ v6 w6, Below w4.heap.size w4 w6 → doE l cc = 0 → Own w6 w4.heap.size v6 (madeL cc l) → DoPost l cc w (.returned (.tuple #[v6, .int .i64 0])) (w6.setCell ⟨w.heap.size + 1, 0, none⟩ (.int .i64 0))) := by
        intro v6 w6 h hd ho
        refine ⟨(ext_trans hB4 h).setCell (p := ⟨w.heap.size + 1, 0, none⟩) (by simp) _, .inr ⟨hd, v6, rfl, ?_⟩⟩
        have ho2 : Own (w6.setCell ⟨w.heap.size + 1, 0, none⟩ (.int .i64 0)) w4.heap.size v6 (madeL cc l) := ownsRow_setCell_below ho (a := ⟨w.heap.size + 1, 0, none⟩) (by show w.heap.size + 1 < w4.heap.size; omega) _
        rcases ho2 with ⟨q1, ⟨q2, q3⟩ | ⟨g', c', cur, q2, q3, q4⟩⟩
        · exact ⟨q1, .inl ⟨q2, q3⟩⟩
        · exact ⟨q1, .inr ⟨g', c', cur, q2, by omega, q4⟩⟩
      refine wp_region_any (by kernel_rfl) ?_
      refine wpAny_ready (fuel := 6) (rs := [0, 2, 3]) (by kernel_rfl) (by simp) ?_
      refine AllReady.cons rfl (fun K hK => ?_) (AllReady.cons rfl (fun K hK => ?_) (AllReady.cons rfl (fun K hK => ?_) AllReady.nil))
      · go_simp
        refine hK _ _ ?_
        clear hK K
        refine wpAny_ready (fuel := 5) (rs := [1, 2, 3]) (by kernel_rfl) (by simp) ?_
        refine AllReady.cons rfl (fun K hK => ?_) (AllReady.cons rfl (fun K hK => ?_) (AllReady.cons rfl (fun K hK => ?_) AllReady.nil))
        · go_simp
          refine (hcl.out w4.drew (ext_drew (Below.refl _ _))).mono ?_
          rintro e w5 ⟨v5, rfl, hown5, hb5⟩
          obtain ⟨c0, c1, c2, c3, c4, hB5, hb05, hg5⟩ := hkeep.out w5 hb5
          refine hK _ _ ?_
          clear hK K
          refine wpAny_ready (fuel := 4) (rs := [2, 3]) (by kernel_rfl) (by simp) ?_
          refine AllReady.cons rfl (fun K hK => ?_) (AllReady.cons rfl (fun K hK => ?_) AllReady.nil)
          · go_simp
            refine hK _ _ ?_
            clear hK K
            refine wpAny_ready (fuel := 3) (rs := [3]) (by kernel_rfl) (by simp) ?_
            refine AllReady.cons rfl (fun K hK => ?_) AllReady.nil
            · go_simp
              refine hK _ _ ?_
              clear hK K
              refine wpAny_ready (fuel := 2) (rs := [4]) (by kernel_rfl) (by simp) ?_
              refine AllReady.cons rfl (fun K hK => ?_) AllReady.nil
              · go_simp
                rw [← hv]
                refine (hperf.out w5 v5 hown5 hB5 hg5).mono ?_
                rintro e w6 ⟨hB6, h6⟩
                have hb06 := hkeep2.out w6 hB6
                rcases h6 with ⟨n, hn0, hde, rfl⟩ | ⟨hde, v6, rfl, hown6⟩
                · refine leaves_cons (f := 27) (args := #[.pointer (some ⟨w.heap.size + 1, 0, none⟩)]) (by simp) (by simp [go_sem]) ?_
                  refine (caught_pan _ _ _ _ hb06).mono ?_
                  rintro e u' w'' ⟨rfl, rfl, rfl⟩
                  simp [Leaves, settle, results, Tryz.results24, go_sem, cell_one hb06]
                  exact hpan.out n w6 hB6 hn0 hde
                have ce := cell_one hb06
                have fe := frozen_one hb06 0
                have Hown6 := Lib.hid hown6
                clear hown6
                refine hK _ _ ?_
                clear hK K
                refine wpAny_ready (fuel := 1) (rs := [5]) (by kernel_rfl) (by simp) ?_
                refine AllReady.cons rfl (fun K hK => ?_) AllReady.nil
                · go_simp
                  refine hK _ _ ?_
                  clear hK K
                  refine wpAny_ready (fuel := 0) (rs := [6]) (by kernel_rfl) (by simp) ?_
                  refine AllReady.cons rfl (fun K hK => ?_) AllReady.nil
                  · go_simp
                    refine hK _ _ ?_
                    clear hK K
                    refine wpAny_done (by kernel_rfl) ?_ _
                    have fe1 : (w6.setCell ⟨w.heap.size + 1, 0, none⟩ (.int .i64 0)).cell? ⟨w.heap.size + 1, 0, none⟩ = some (.int .i64 0) := cell_one (set_one hb06 _)
                    go_wp2
                    refine leaves_cons (f := 27) (args := #[.pointer (some ⟨w.heap.size + 1, 0, none⟩)]) (by simp) (by simp [go_sem]) ?_
                    refine (caught_ret _ _).mono ?_
                    rintro e u' w'' ⟨rfl, rfl, rfl⟩
                    simp [Leaves, settle, results, Tryz.results24, go_sem, fe1]
                    exact hret.out v6 w6 hB6 hde Hown6.out
          · go_simp
            refine hK _ _ ?_
            clear hK K
            refine wpAny_ready (fuel := 3) (rs := [2]) (by kernel_rfl) (by simp) ?_
            refine AllReady.cons rfl (fun K hK => ?_) AllReady.nil
            · go_simp
              refine hK _ _ ?_
              clear hK K
              refine wpAny_ready (fuel := 2) (rs := [4]) (by kernel_rfl) (by simp) ?_
              refine AllReady.cons rfl (fun K hK => ?_) AllReady.nil
              · go_simp
                rw [← hv]
                refine (hperf.out w5 v5 hown5 hB5 hg5).mono ?_
                rintro e w6 ⟨hB6, h6⟩
                have hb06 := hkeep2.out w6 hB6
                rcases h6 with ⟨n, hn0, hde, rfl⟩ | ⟨hde, v6, rfl, hown6⟩
                · refine leaves_cons (f := 27) (args := #[.pointer (some ⟨w.heap.size + 1, 0, none⟩)]) (by simp) (by simp [go_sem]) ?_
                  refine (caught_pan _ _ _ _ hb06).mono ?_
                  rintro e u' w'' ⟨rfl, rfl, rfl⟩
                  simp [Leaves, settle, results, Tryz.results24, go_sem, cell_one hb06]
                  exact hpan.out n w6 hB6 hn0 hde
                have ce := cell_one hb06
                have fe := frozen_one hb06 0
                have Hown6 := Lib.hid hown6
                clear hown6
                refine hK _ _ ?_
                clear hK K
                refine wpAny_ready (fuel := 1) (rs := [5]) (by kernel_rfl) (by simp) ?_
                refine AllReady.cons rfl (fun K hK => ?_) AllReady.nil
                · go_simp
                  refine hK _ _ ?_
                  clear hK K
                  refine wpAny_ready (fuel := 0) (rs := [6]) (by kernel_rfl) (by simp) ?_
                  refine AllReady.cons rfl (fun K hK => ?_) AllReady.nil
                  · go_simp
                    refine hK _ _ ?_
                    clear hK K
                    refine wpAny_done (by kernel_rfl) ?_ _
                    have fe1 : (w6.setCell ⟨w.heap.size + 1, 0, none⟩ (.int .i64 0)).cell? ⟨w.heap.size + 1, 0, none⟩ = some (.int .i64 0) := cell_one (set_one hb06 _)
                    go_wp2
                    refine leaves_cons (f := 27) (args := #[.pointer (some ⟨w.heap.size + 1, 0, none⟩)]) (by simp) (by simp [go_sem]) ?_
                    refine (caught_ret _ _).mono ?_
                    rintro e u' w'' ⟨rfl, rfl, rfl⟩
                    simp [Leaves, settle, results, Tryz.results24, go_sem, fe1]
                    exact hret.out v6 w6 hB6 hde Hown6.out
        · go_simp
          refine hK _ _ ?_
          clear hK K
          refine wpAny_ready (fuel := 4) (rs := [1, 3]) (by kernel_rfl) (by simp) ?_
          refine AllReady.cons rfl (fun K hK => ?_) (AllReady.cons rfl (fun K hK => ?_) AllReady.nil)
          · go_simp
            refine (hcl.out w4.drew (ext_drew (Below.refl _ _))).mono ?_
            rintro e w5 ⟨v5, rfl, hown5, hb5⟩
            obtain ⟨c0, c1, c2, c3, c4, hB5, hb05, hg5⟩ := hkeep.out w5 hb5
            refine hK _ _ ?_
            clear hK K
            refine wpAny_ready (fuel := 3) (rs := [3]) (by kernel_rfl) (by simp) ?_
            refine AllReady.cons rfl (fun K hK => ?_) AllReady.nil
            · go_simp
              refine hK _ _ ?_
              clear hK K
              refine wpAny_ready (fuel := 2) (rs := [4]) (by kernel_rfl) (by simp) ?_
              refine AllReady.cons rfl (fun K hK => ?_) AllReady.nil
              · go_simp
                rw [← hv]
                refine (hperf.out w5 v5 hown5 hB5 hg5).mono ?_
                rintro e w6 ⟨hB6, h6⟩
                have hb06 := hkeep2.out w6 hB6
                rcases h6 with ⟨n, hn0, hde, rfl⟩ | ⟨hde, v6, rfl, hown6⟩
                · refine leaves_cons (f := 27) (args := #[.pointer (some ⟨w.heap.size + 1, 0, none⟩)]) (by simp) (by simp [go_sem]) ?_
                  refine (caught_pan _ _ _ _ hb06).mono ?_
                  rintro e u' w'' ⟨rfl, rfl, rfl⟩
                  simp [Leaves, settle, results, Tryz.results24, go_sem, cell_one hb06]
                  exact hpan.out n w6 hB6 hn0 hde
                have ce := cell_one hb06
                have fe := frozen_one hb06 0
                have Hown6 := Lib.hid hown6
                clear hown6
                refine hK _ _ ?_
                clear hK K
                refine wpAny_ready (fuel := 1) (rs := [5]) (by kernel_rfl) (by simp) ?_
                refine AllReady.cons rfl (fun K hK => ?_) AllReady.nil
                · go_simp
                  refine hK _ _ ?_
                  clear hK K
                  refine wpAny_ready (fuel := 0) (rs := [6]) (by kernel_rfl) (by simp) ?_
                  refine AllReady.cons rfl (fun K hK => ?_) AllReady.nil
                  · go_simp
                    refine hK _ _ ?_
                    clear hK K
                    refine wpAny_done (by kernel_rfl) ?_ _
                    have fe1 : (w6.setCell ⟨w.heap.size + 1, 0, none⟩ (.int .i64 0)).cell? ⟨w.heap.size + 1, 0, none⟩ = some (.int .i64 0) := cell_one (set_one hb06 _)
                    go_wp2
                    refine leaves_cons (f := 27) (args := #[.pointer (some ⟨w.heap.size + 1, 0, none⟩)]) (by simp) (by simp [go_sem]) ?_
                    refine (caught_ret _ _).mono ?_
                    rintro e u' w'' ⟨rfl, rfl, rfl⟩
                    simp [Leaves, settle, results, Tryz.results24, go_sem, fe1]
                    exact hret.out v6 w6 hB6 hde Hown6.out
          · go_simp
            refine hK _ _ ?_
            clear hK K
            refine wpAny_ready (fuel := 3) (rs := [1]) (by kernel_rfl) (by simp) ?_
            refine AllReady.cons rfl (fun K hK => ?_) AllReady.nil
            · go_simp
              refine (hcl.out w4.drew (ext_drew (Below.refl _ _))).mono ?_
              rintro e w5 ⟨v5, rfl, hown5, hb5⟩
              obtain ⟨c0, c1, c2, c3, c4, hB5, hb05, hg5⟩ := hkeep.out w5 hb5
              refine hK _ _ ?_
              clear hK K
              refine wpAny_ready (fuel := 2) (rs := [4]) (by kernel_rfl) (by simp) ?_
              refine AllReady.cons rfl (fun K hK => ?_) AllReady.nil
              · go_simp
                rw [← hv]
                refine (hperf.out w5 v5 hown5 hB5 hg5).mono ?_
                rintro e w6 ⟨hB6, h6⟩
                have hb06 := hkeep2.out w6 hB6
                rcases h6 with ⟨n, hn0, hde, rfl⟩ | ⟨hde, v6, rfl, hown6⟩
                · refine leaves_cons (f := 27) (args := #[.pointer (some ⟨w.heap.size + 1, 0, none⟩)]) (by simp) (by simp [go_sem]) ?_
                  refine (caught_pan _ _ _ _ hb06).mono ?_
                  rintro e u' w'' ⟨rfl, rfl, rfl⟩
                  simp [Leaves, settle, results, Tryz.results24, go_sem, cell_one hb06]
                  exact hpan.out n w6 hB6 hn0 hde
                have ce := cell_one hb06
                have fe := frozen_one hb06 0
                have Hown6 := Lib.hid hown6
                clear hown6
                refine hK _ _ ?_
                clear hK K
                refine wpAny_ready (fuel := 1) (rs := [5]) (by kernel_rfl) (by simp) ?_
                refine AllReady.cons rfl (fun K hK => ?_) AllReady.nil
                · go_simp
                  refine hK _ _ ?_
                  clear hK K
                  refine wpAny_ready (fuel := 0) (rs := [6]) (by kernel_rfl) (by simp) ?_
                  refine AllReady.cons rfl (fun K hK => ?_) AllReady.nil
                  · go_simp
                    refine hK _ _ ?_
                    clear hK K
                    refine wpAny_done (by kernel_rfl) ?_ _
                    have fe1 : (w6.setCell ⟨w.heap.size + 1, 0, none⟩ (.int .i64 0)).cell? ⟨w.heap.size + 1, 0, none⟩ = some (.int .i64 0) := cell_one (set_one hb06 _)
                    go_wp2
                    refine leaves_cons (f := 27) (args := #[.pointer (some ⟨w.heap.size + 1, 0, none⟩)]) (by simp) (by simp [go_sem]) ?_
                    refine (caught_ret _ _).mono ?_
                    rintro e u' w'' ⟨rfl, rfl, rfl⟩
                    simp [Leaves, settle, results, Tryz.results24, go_sem, fe1]
                    exact hret.out v6 w6 hB6 hde Hown6.out
        · go_simp
          refine hK _ _ ?_
          clear hK K
          refine wpAny_ready (fuel := 4) (rs := [1, 2]) (by kernel_rfl) (by simp) ?_
          refine AllReady.cons rfl (fun K hK => ?_) (AllReady.cons rfl (fun K hK => ?_) AllReady.nil)
          · go_simp
            refine (hcl.out w4.drew (ext_drew (Below.refl _ _))).mono ?_
            rintro e w5 ⟨v5, rfl, hown5, hb5⟩
            obtain ⟨c0, c1, c2, c3, c4, hB5, hb05, hg5⟩ := hkeep.out w5 hb5
            refine hK _ _ ?_
            clear hK K
            refine wpAny_ready (fuel := 3) (rs := [2]) (by kernel_rfl) (by simp) ?_
            refine AllReady.cons rfl (fun K hK => ?_) AllReady.nil
            · go_simp
              refine hK _ _ ?_
              clear hK K
              refine wpAny_ready (fuel := 2) (rs := [4]) (by kernel_rfl) (by simp) ?_
              refine AllReady.cons rfl (fun K hK => ?_) AllReady.nil
              · go_simp
                rw [← hv]
                refine (hperf.out w5 v5 hown5 hB5 hg5).mono ?_
                rintro e w6 ⟨hB6, h6⟩
                have hb06 := hkeep2.out w6 hB6
                rcases h6 with ⟨n, hn0, hde, rfl⟩ | ⟨hde, v6, rfl, hown6⟩
                · refine leaves_cons (f := 27) (args := #[.pointer (some ⟨w.heap.size + 1, 0, none⟩)]) (by simp) (by simp [go_sem]) ?_
                  refine (caught_pan _ _ _ _ hb06).mono ?_
                  rintro e u' w'' ⟨rfl, rfl, rfl⟩
                  simp [Leaves, settle, results, Tryz.results24, go_sem, cell_one hb06]
                  exact hpan.out n w6 hB6 hn0 hde
                have ce := cell_one hb06
                have fe := frozen_one hb06 0
                have Hown6 := Lib.hid hown6
                clear hown6
                refine hK _ _ ?_
                clear hK K
                refine wpAny_ready (fuel := 1) (rs := [5]) (by kernel_rfl) (by simp) ?_
                refine AllReady.cons rfl (fun K hK => ?_) AllReady.nil
                · go_simp
                  refine hK _ _ ?_
                  clear hK K
                  refine wpAny_ready (fuel := 0) (rs := [6]) (by kernel_rfl) (by simp) ?_
                  refine AllReady.cons rfl (fun K hK => ?_) AllReady.nil
                  · go_simp
                    refine hK _ _ ?_
                    clear hK K
                    refine wpAny_done (by kernel_rfl) ?_ _
                    have fe1 : (w6.setCell ⟨w.heap.size + 1, 0, none⟩ (.int .i64 0)).cell? ⟨w.heap.size + 1, 0, none⟩ = some (.int .i64 0) := cell_one (set_one hb06 _)
                    go_wp2
                    refine leaves_cons (f := 27) (args := #[.pointer (some ⟨w.heap.size + 1, 0, none⟩)]) (by simp) (by simp [go_sem]) ?_
                    refine (caught_ret _ _).mono ?_
                    rintro e u' w'' ⟨rfl, rfl, rfl⟩
                    simp [Leaves, settle, results, Tryz.results24, go_sem, fe1]
                    exact hret.out v6 w6 hB6 hde Hown6.out
          · go_simp
            refine hK _ _ ?_
            clear hK K
            refine wpAny_ready (fuel := 3) (rs := [1]) (by kernel_rfl) (by simp) ?_
            refine AllReady.cons rfl (fun K hK => ?_) AllReady.nil
            · go_simp
              refine (hcl.out w4.drew (ext_drew (Below.refl _ _))).mono ?_
              rintro e w5 ⟨v5, rfl, hown5, hb5⟩
              obtain ⟨c0, c1, c2, c3, c4, hB5, hb05, hg5⟩ := hkeep.out w5 hb5
              refine hK _ _ ?_
              clear hK K
              refine wpAny_ready (fuel := 2) (rs := [4]) (by kernel_rfl) (by simp) ?_
              refine AllReady.cons rfl (fun K hK => ?_) AllReady.nil
              · go_simp
                rw [← hv]
                refine (hperf.out w5 v5 hown5 hB5 hg5).mono ?_
                rintro e w6 ⟨hB6, h6⟩
                have hb06 := hkeep2.out w6 hB6
                rcases h6 with ⟨n, hn0, hde, rfl⟩ | ⟨hde, v6, rfl, hown6⟩
                · refine leaves_cons (f := 27) (args := #[.pointer (some ⟨w.heap.size + 1, 0, none⟩)]) (by simp) (by simp [go_sem]) ?_
                  refine (caught_pan _ _ _ _ hb06).mono ?_
                  rintro e u' w'' ⟨rfl, rfl, rfl⟩
                  simp [Leaves, settle, results, Tryz.results24, go_sem, cell_one hb06]
                  exact hpan.out n w6 hB6 hn0 hde
                have ce := cell_one hb06
                have fe := frozen_one hb06 0
                have Hown6 := Lib.hid hown6
                clear hown6
                refine hK _ _ ?_
                clear hK K
                refine wpAny_ready (fuel := 1) (rs := [5]) (by kernel_rfl) (by simp) ?_
                refine AllReady.cons rfl (fun K hK => ?_) AllReady.nil
                · go_simp
                  refine hK _ _ ?_
                  clear hK K
                  refine wpAny_ready (fuel := 0) (rs := [6]) (by kernel_rfl) (by simp) ?_
                  refine AllReady.cons rfl (fun K hK => ?_) AllReady.nil
                  · go_simp
                    refine hK _ _ ?_
                    clear hK K
                    refine wpAny_done (by kernel_rfl) ?_ _
                    have fe1 : (w6.setCell ⟨w.heap.size + 1, 0, none⟩ (.int .i64 0)).cell? ⟨w.heap.size + 1, 0, none⟩ = some (.int .i64 0) := cell_one (set_one hb06 _)
                    go_wp2
                    refine leaves_cons (f := 27) (args := #[.pointer (some ⟨w.heap.size + 1, 0, none⟩)]) (by simp) (by simp [go_sem]) ?_
                    refine (caught_ret _ _).mono ?_
                    rintro e u' w'' ⟨rfl, rfl, rfl⟩
                    simp [Leaves, settle, results, Tryz.results24, go_sem, fe1]
                    exact hret.out v6 w6 hB6 hde Hown6.out
      · go_simp
        refine hK _ _ ?_
        clear hK K
        refine wpAny_ready (fuel := 5) (rs := [0, 3]) (by kernel_rfl) (by simp) ?_
        refine AllReady.cons rfl (fun K hK => ?_) (AllReady.cons rfl (fun K hK => ?_) AllReady.nil)
        · go_simp
          refine hK _ _ ?_
          clear hK K
          refine wpAny_ready (fuel := 4) (rs := [1, 3]) (by kernel_rfl) (by simp) ?_
          refine AllReady.cons rfl (fun K hK => ?_) (AllReady.cons rfl (fun K hK => ?_) AllReady.nil)
          · go_simp
            refine (hcl.out w4.drew (ext_drew (Below.refl _ _))).mono ?_
            rintro e w5 ⟨v5, rfl, hown5, hb5⟩
            obtain ⟨c0, c1, c2, c3, c4, hB5, hb05, hg5⟩ := hkeep.out w5 hb5
            refine hK _ _ ?_
            clear hK K
            refine wpAny_ready (fuel := 3) (rs := [3]) (by kernel_rfl) (by simp) ?_
            refine AllReady.cons rfl (fun K hK => ?_) AllReady.nil
            · go_simp
              refine hK _ _ ?_
              clear hK K
              refine wpAny_ready (fuel := 2) (rs := [4]) (by kernel_rfl) (by simp) ?_
              refine AllReady.cons rfl (fun K hK => ?_) AllReady.nil
              · go_simp
                rw [← hv]
                refine (hperf.out w5 v5 hown5 hB5 hg5).mono ?_
                rintro e w6 ⟨hB6, h6⟩
                have hb06 := hkeep2.out w6 hB6
                rcases h6 with ⟨n, hn0, hde, rfl⟩ | ⟨hde, v6, rfl, hown6⟩
                · refine leaves_cons (f := 27) (args := #[.pointer (some ⟨w.heap.size + 1, 0, none⟩)]) (by simp) (by simp [go_sem]) ?_
                  refine (caught_pan _ _ _ _ hb06).mono ?_
                  rintro e u' w'' ⟨rfl, rfl, rfl⟩
                  simp [Leaves, settle, results, Tryz.results24, go_sem, cell_one hb06]
                  exact hpan.out n w6 hB6 hn0 hde
                have ce := cell_one hb06
                have fe := frozen_one hb06 0
                have Hown6 := Lib.hid hown6
                clear hown6
                refine hK _ _ ?_
                clear hK K
                refine wpAny_ready (fuel := 1) (rs := [5]) (by kernel_rfl) (by simp) ?_
                refine AllReady.cons rfl (fun K hK => ?_) AllReady.nil
                · go_simp
                  refine hK _ _ ?_
                  clear hK K
                  refine wpAny_ready (fuel := 0) (rs := [6]) (by kernel_rfl) (by simp) ?_
                  refine AllReady.cons rfl (fun K hK => ?_) AllReady.nil
                  · go_simp
                    refine hK _ _ ?_
                    clear hK K
                    refine wpAny_done (by kernel_rfl) ?_ _
                    have fe1 : (w6.setCell ⟨w.heap.size + 1, 0, none⟩ (.int .i64 0)).cell? ⟨w.heap.size + 1, 0, none⟩ = some (.int .i64 0) := cell_one (set_one hb06 _)
                    go_wp2
                    refine leaves_cons (f := 27) (args := #[.pointer (some ⟨w.heap.size + 1, 0, none⟩)]) (by simp) (by simp [go_sem]) ?_
                    refine (caught_ret _ _).mono ?_
                    rintro e u' w'' ⟨rfl, rfl, rfl⟩
                    simp [Leaves, settle, results, Tryz.results24, go_sem, fe1]
                    exact hret.out v6 w6 hB6 hde Hown6.out
          · go_simp
            refine hK _ _ ?_
            clear hK K
            refine wpAny_ready (fuel := 3) (rs := [1]) (by kernel_rfl) (by simp) ?_
            refine AllReady.cons rfl (fun K hK => ?_) AllReady.nil
            · go_simp
              refine (hcl.out w4.drew (ext_drew (Below.refl _ _))).mono ?_
              rintro e w5 ⟨v5, rfl, hown5, hb5⟩
              obtain ⟨c0, c1, c2, c3, c4, hB5, hb05, hg5⟩ := hkeep.out w5 hb5
              refine hK _ _ ?_
              clear hK K
              refine wpAny_ready (fuel := 2) (rs := [4]) (by kernel_rfl) (by simp) ?_
              refine AllReady.cons rfl (fun K hK => ?_) AllReady.nil
              · go_simp
                rw [← hv]
                refine (hperf.out w5 v5 hown5 hB5 hg5).mono ?_
                rintro e w6 ⟨hB6, h6⟩
                have hb06 := hkeep2.out w6 hB6
                rcases h6 with ⟨n, hn0, hde, rfl⟩ | ⟨hde, v6, rfl, hown6⟩
                · refine leaves_cons (f := 27) (args := #[.pointer (some ⟨w.heap.size + 1, 0, none⟩)]) (by simp) (by simp [go_sem]) ?_
                  refine (caught_pan _ _ _ _ hb06).mono ?_
                  rintro e u' w'' ⟨rfl, rfl, rfl⟩
                  simp [Leaves, settle, results, Tryz.results24, go_sem, cell_one hb06]
                  exact hpan.out n w6 hB6 hn0 hde
                have ce := cell_one hb06
                have fe := frozen_one hb06 0
                have Hown6 := Lib.hid hown6
                clear hown6
                refine hK _ _ ?_
                clear hK K
                refine wpAny_ready (fuel := 1) (rs := [5]) (by kernel_rfl) (by simp) ?_
                refine AllReady.cons rfl (fun K hK => ?_) AllReady.nil
                · go_simp
                  refine hK _ _ ?_
                  clear hK K
                  refine wpAny_ready (fuel := 0) (rs := [6]) (by kernel_rfl) (by simp) ?_
                  refine AllReady.cons rfl (fun K hK => ?_) AllReady.nil
                  · go_simp
                    refine hK _ _ ?_
                    clear hK K
                    refine wpAny_done (by kernel_rfl) ?_ _
                    have fe1 : (w6.setCell ⟨w.heap.size + 1, 0, none⟩ (.int .i64 0)).cell? ⟨w.heap.size + 1, 0, none⟩ = some (.int .i64 0) := cell_one (set_one hb06 _)
                    go_wp2
                    refine leaves_cons (f := 27) (args := #[.pointer (some ⟨w.heap.size + 1, 0, none⟩)]) (by simp) (by simp [go_sem]) ?_
                    refine (caught_ret _ _).mono ?_
                    rintro e u' w'' ⟨rfl, rfl, rfl⟩
                    simp [Leaves, settle, results, Tryz.results24, go_sem, fe1]
                    exact hret.out v6 w6 hB6 hde Hown6.out
        · go_simp
          refine hK _ _ ?_
          clear hK K
          refine wpAny_ready (fuel := 4) (rs := [0]) (by kernel_rfl) (by simp) ?_
          refine AllReady.cons rfl (fun K hK => ?_) AllReady.nil
          · go_simp
            refine hK _ _ ?_
            clear hK K
            refine wpAny_ready (fuel := 3) (rs := [1]) (by kernel_rfl) (by simp) ?_
            refine AllReady.cons rfl (fun K hK => ?_) AllReady.nil
            · go_simp
              refine (hcl.out w4.drew (ext_drew (Below.refl _ _))).mono ?_
              rintro e w5 ⟨v5, rfl, hown5, hb5⟩
              obtain ⟨c0, c1, c2, c3, c4, hB5, hb05, hg5⟩ := hkeep.out w5 hb5
              refine hK _ _ ?_
              clear hK K
              refine wpAny_ready (fuel := 2) (rs := [4]) (by kernel_rfl) (by simp) ?_
              refine AllReady.cons rfl (fun K hK => ?_) AllReady.nil
              · go_simp
                rw [← hv]
                refine (hperf.out w5 v5 hown5 hB5 hg5).mono ?_
                rintro e w6 ⟨hB6, h6⟩
                have hb06 := hkeep2.out w6 hB6
                rcases h6 with ⟨n, hn0, hde, rfl⟩ | ⟨hde, v6, rfl, hown6⟩
                · refine leaves_cons (f := 27) (args := #[.pointer (some ⟨w.heap.size + 1, 0, none⟩)]) (by simp) (by simp [go_sem]) ?_
                  refine (caught_pan _ _ _ _ hb06).mono ?_
                  rintro e u' w'' ⟨rfl, rfl, rfl⟩
                  simp [Leaves, settle, results, Tryz.results24, go_sem, cell_one hb06]
                  exact hpan.out n w6 hB6 hn0 hde
                have ce := cell_one hb06
                have fe := frozen_one hb06 0
                have Hown6 := Lib.hid hown6
                clear hown6
                refine hK _ _ ?_
                clear hK K
                refine wpAny_ready (fuel := 1) (rs := [5]) (by kernel_rfl) (by simp) ?_
                refine AllReady.cons rfl (fun K hK => ?_) AllReady.nil
                · go_simp
                  refine hK _ _ ?_
                  clear hK K
                  refine wpAny_ready (fuel := 0) (rs := [6]) (by kernel_rfl) (by simp) ?_
                  refine AllReady.cons rfl (fun K hK => ?_) AllReady.nil
                  · go_simp
                    refine hK _ _ ?_
                    clear hK K
                    refine wpAny_done (by kernel_rfl) ?_ _
                    have fe1 : (w6.setCell ⟨w.heap.size + 1, 0, none⟩ (.int .i64 0)).cell? ⟨w.heap.size + 1, 0, none⟩ = some (.int .i64 0) := cell_one (set_one hb06 _)
                    go_wp2
                    refine leaves_cons (f := 27) (args := #[.pointer (some ⟨w.heap.size + 1, 0, none⟩)]) (by simp) (by simp [go_sem]) ?_
                    refine (caught_ret _ _).mono ?_
                    rintro e u' w'' ⟨rfl, rfl, rfl⟩
                    simp [Leaves, settle, results, Tryz.results24, go_sem, fe1]
                    exact hret.out v6 w6 hB6 hde Hown6.out
      · go_simp
        refine hK _ _ ?_
        clear hK K
        refine wpAny_ready (fuel := 5) (rs := [0, 2]) (by kernel_rfl) (by simp) ?_
        refine AllReady.cons rfl (fun K hK => ?_) (AllReady.cons rfl (fun K hK => ?_) AllReady.nil)
        · go_simp
          refine hK _ _ ?_
          clear hK K
          refine wpAny_ready (fuel := 4) (rs := [1, 2]) (by kernel_rfl) (by simp) ?_
          refine AllReady.cons rfl (fun K hK => ?_) (AllReady.cons rfl (fun K hK => ?_) AllReady.nil)
          · go_simp
            refine (hcl.out w4.drew (ext_drew (Below.refl _ _))).mono ?_
            rintro e w5 ⟨v5, rfl, hown5, hb5⟩
            obtain ⟨c0, c1, c2, c3, c4, hB5, hb05, hg5⟩ := hkeep.out w5 hb5
            refine hK _ _ ?_
            clear hK K
            refine wpAny_ready (fuel := 3) (rs := [2]) (by kernel_rfl) (by simp) ?_
            refine AllReady.cons rfl (fun K hK => ?_) AllReady.nil
            · go_simp
              refine hK _ _ ?_
              clear hK K
              refine wpAny_ready (fuel := 2) (rs := [4]) (by kernel_rfl) (by simp) ?_
              refine AllReady.cons rfl (fun K hK => ?_) AllReady.nil
              · go_simp
                rw [← hv]
                refine (hperf.out w5 v5 hown5 hB5 hg5).mono ?_
                rintro e w6 ⟨hB6, h6⟩
                have hb06 := hkeep2.out w6 hB6
                rcases h6 with ⟨n, hn0, hde, rfl⟩ | ⟨hde, v6, rfl, hown6⟩
                · refine leaves_cons (f := 27) (args := #[.pointer (some ⟨w.heap.size + 1, 0, none⟩)]) (by simp) (by simp [go_sem]) ?_
                  refine (caught_pan _ _ _ _ hb06).mono ?_
                  rintro e u' w'' ⟨rfl, rfl, rfl⟩
                  simp [Leaves, settle, results, Tryz.results24, go_sem, cell_one hb06]
                  exact hpan.out n w6 hB6 hn0 hde
                have ce := cell_one hb06
                have fe := frozen_one hb06 0
                have Hown6 := Lib.hid hown6
                clear hown6
                refine hK _ _ ?_
                clear hK K
                refine wpAny_ready (fuel := 1) (rs := [5]) (by kernel_rfl) (by simp) ?_
                refine AllReady.cons rfl (fun K hK => ?_) AllReady.nil
                · go_simp
                  refine hK _ _ ?_
                  clear hK K
                  refine wpAny_ready (fuel := 0) (rs := [6]) (by kernel_rfl) (by simp) ?_
                  refine AllReady.cons rfl (fun K hK => ?_) AllReady.nil
                  · go_simp
                    refine hK _ _ ?_
                    clear hK K
                    refine wpAny_done (by kernel_rfl) ?_ _
                    have fe1 : (w6.setCell ⟨w.heap.size + 1, 0, none⟩ (.int .i64 0)).cell? ⟨w.heap.size + 1, 0, none⟩ = some (.int .i64 0) := cell_one (set_one hb06 _)
                    go_wp2
                    refine leaves_cons (f := 27) (args := #[.pointer (some ⟨w.heap.size + 1, 0, none⟩)]) (by simp) (by simp [go_sem]) ?_
                    refine (caught_ret _ _).mono ?_
                    rintro e u' w'' ⟨rfl, rfl, rfl⟩
                    simp [Leaves, settle, results, Tryz.results24, go_sem, fe1]
                    exact hret.out v6 w6 hB6 hde Hown6.out
          · go_simp
            refine hK _ _ ?_
            clear hK K
            refine wpAny_ready (fuel := 3) (rs := [1]) (by kernel_rfl) (by simp) ?_
            refine AllReady.cons rfl (fun K hK => ?_) AllReady.nil
            · go_simp
              refine (hcl.out w4.drew (ext_drew (Below.refl _ _))).mono ?_
              rintro e w5 ⟨v5, rfl, hown5, hb5⟩
              obtain ⟨c0, c1, c2, c3, c4, hB5, hb05, hg5⟩ := hkeep.out w5 hb5
              refine hK _ _ ?_
              clear hK K
              refine wpAny_ready (fuel := 2) (rs := [4]) (by kernel_rfl) (by simp) ?_
              refine AllReady.cons rfl (fun K hK => ?_) AllReady.nil
              · go_simp
                rw [← hv]
                refine (hperf.out w5 v5 hown5 hB5 hg5).mono ?_
                rintro e w6 ⟨hB6, h6⟩
                have hb06 := hkeep2.out w6 hB6
                rcases h6 with ⟨n, hn0, hde, rfl⟩ | ⟨hde, v6, rfl, hown6⟩
                · refine leaves_cons (f := 27) (args := #[.pointer (some ⟨w.heap.size + 1, 0, none⟩)]) (by simp) (by simp [go_sem]) ?_
                  refine (caught_pan _ _ _ _ hb06).mono ?_
                  rintro e u' w'' ⟨rfl, rfl, rfl⟩
                  simp [Leaves, settle, results, Tryz.results24, go_sem, cell_one hb06]
                  exact hpan.out n w6 hB6 hn0 hde
                have ce := cell_one hb06
                have fe := frozen_one hb06 0
                have Hown6 := Lib.hid hown6
                clear hown6
                refine hK _ _ ?_
                clear hK K
                refine wpAny_ready (fuel := 1) (rs := [5]) (by kernel_rfl) (by simp) ?_
                refine AllReady.cons rfl (fun K hK => ?_) AllReady.nil
                · go_simp
                  refine hK _ _ ?_
                  clear hK K
                  refine wpAny_ready (fuel := 0) (rs := [6]) (by kernel_rfl) (by simp) ?_
                  refine AllReady.cons rfl (fun K hK => ?_) AllReady.nil
                  · go_simp
                    refine hK _ _ ?_
                    clear hK K
                    refine wpAny_done (by kernel_rfl) ?_ _
                    have fe1 : (w6.setCell ⟨w.heap.size + 1, 0, none⟩ (.int .i64 0)).cell? ⟨w.heap.size + 1, 0, none⟩ = some (.int .i64 0) := cell_one (set_one hb06 _)
                    go_wp2
                    refine leaves_cons (f := 27) (args := #[.pointer (some ⟨w.heap.size + 1, 0, none⟩)]) (by simp) (by simp [go_sem]) ?_
                    refine (caught_ret _ _).mono ?_
                    rintro e u' w'' ⟨rfl, rfl, rfl⟩
                    simp [Leaves, settle, results, Tryz.results24, go_sem, fe1]
                    exact hret.out v6 w6 hB6 hde Hown6.out
        · go_simp
          refine hK _ _ ?_
          clear hK K
          refine wpAny_ready (fuel := 4) (rs := [0]) (by kernel_rfl) (by simp) ?_
          refine AllReady.cons rfl (fun K hK => ?_) AllReady.nil
          · go_simp
            refine hK _ _ ?_
            clear hK K
            refine wpAny_ready (fuel := 3) (rs := [1]) (by kernel_rfl) (by simp) ?_
            refine AllReady.cons rfl (fun K hK => ?_) AllReady.nil
            · go_simp
              refine (hcl.out w4.drew (ext_drew (Below.refl _ _))).mono ?_
              rintro e w5 ⟨v5, rfl, hown5, hb5⟩
              obtain ⟨c0, c1, c2, c3, c4, hB5, hb05, hg5⟩ := hkeep.out w5 hb5
              refine hK _ _ ?_
              clear hK K
              refine wpAny_ready (fuel := 2) (rs := [4]) (by kernel_rfl) (by simp) ?_
              refine AllReady.cons rfl (fun K hK => ?_) AllReady.nil
              · go_simp
                rw [← hv]
                refine (hperf.out w5 v5 hown5 hB5 hg5).mono ?_
                rintro e w6 ⟨hB6, h6⟩
                have hb06 := hkeep2.out w6 hB6
                rcases h6 with ⟨n, hn0, hde, rfl⟩ | ⟨hde, v6, rfl, hown6⟩
                · refine leaves_cons (f := 27) (args := #[.pointer (some ⟨w.heap.size + 1, 0, none⟩)]) (by simp) (by simp [go_sem]) ?_
                  refine (caught_pan _ _ _ _ hb06).mono ?_
                  rintro e u' w'' ⟨rfl, rfl, rfl⟩
                  simp [Leaves, settle, results, Tryz.results24, go_sem, cell_one hb06]
                  exact hpan.out n w6 hB6 hn0 hde
                have ce := cell_one hb06
                have fe := frozen_one hb06 0
                have Hown6 := Lib.hid hown6
                clear hown6
                refine hK _ _ ?_
                clear hK K
                refine wpAny_ready (fuel := 1) (rs := [5]) (by kernel_rfl) (by simp) ?_
                refine AllReady.cons rfl (fun K hK => ?_) AllReady.nil
                · go_simp
                  refine hK _ _ ?_
                  clear hK K
                  refine wpAny_ready (fuel := 0) (rs := [6]) (by kernel_rfl) (by simp) ?_
                  refine AllReady.cons rfl (fun K hK => ?_) AllReady.nil
                  · go_simp
                    refine hK _ _ ?_
                    clear hK K
                    refine wpAny_done (by kernel_rfl) ?_ _
                    have fe1 : (w6.setCell ⟨w.heap.size + 1, 0, none⟩ (.int .i64 0)).cell? ⟨w.heap.size + 1, 0, none⟩ = some (.int .i64 0) := cell_one (set_one hb06 _)
                    go_wp2
                    refine leaves_cons (f := 27) (args := #[.pointer (some ⟨w.heap.size + 1, 0, none⟩)]) (by simp) (by simp [go_sem]) ?_
                    refine (caught_ret _ _).mono ?_
                    rintro e u' w'' ⟨rfl, rfl, rfl⟩
                    simp [Leaves, settle, results, Tryz.results24, go_sem, fe1]
                    exact hret.out v6 w6 hB6 hde Hown6.out
    · have hok : cc.ok = false := by
        cases h : cc.ok
        · rfl
        · rw [h] at ho; simp at ho
      rw [hok]
      refine leaves_cons (f := 27) (args := #[.pointer (some ⟨w.heap.size + 1, 0, none⟩)]) (by simp) (by simp [go_sem]) ?_
      refine (caught_pan _ _ _ _ hb04).mono ?_
      rintro e u' w'' ⟨rfl, rfl, rfl⟩
      simp [Leaves, settle, results, Tryz.results24, go_sem, cell_one hb04]
      have hd : doE l cc = 490 := by unfold doE; rw [Hn.out, hok]; simp
      exact ⟨hB4.setCell (p := ⟨w.heap.size + 1, 0, none⟩) (by simp) _, .inl ⟨by rw [hd]; decide, by rw [hd]⟩⟩
  · refine leaves_cons (f := 27) (args := #[.pointer (some ⟨w.heap.size + 1, 0, none⟩)]) (by simp) (by simp [go_sem]) ?_
    refine (caught_pan _ _ _ _ hb02).mono ?_
    rintro e u' w'' ⟨rfl, rfl, rfl⟩
    simp [Leaves, settle, results, Tryz.results24, go_sem, cell_one hb02]
    have hd : doE l cc = checkE l := by unfold doE; rw [if_pos hn]
    exact ⟨hB2.setCell (p := ⟨w.heap.size + 1, 0, none⟩) (by simp) _, .inl ⟨by rw [hd]; exact hn, by rw [hd]⟩⟩
end Go.Proofs.YtfbhfimejcdopaaGreatDoor
