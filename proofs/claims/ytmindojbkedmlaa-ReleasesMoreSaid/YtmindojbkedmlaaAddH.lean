/- Package house: Add; its parts and the plain law. -/
import Derived.Test.YtmindojbkedmlaaSrchH
import Derived.Test.YtmindojbkedmlaaInsHouse
import Derived.Test.YtmindojbkedmlaaM4
import Derived.Test.YtmindojbkedmlaaRelM
import Derived.Laws.CopyOwn
import Derived.Lib.SliceRun
import Derived.Deep.RegionWith
namespace Go.Proofs.Ytmindojbkedmlaa
open Go.RowKit Go.Han
attribute [local irreducible] wpStill wpQuiet
set_option maxRecDepth 100000

theorem hflat_length (l : List House) : (hflat l).length = l.length * 10 := flat_len House.cells 10 House.size_cells l
theorem hflat_one (l : List House) : ∀ u ∈ hflat l, u.oneCell' = true := by
  intro u hu
  obtain ⟨x, _, hx⟩ := List.mem_flatMap.1 hu
  exact house_one x u hx
def ClonePostH (l : List House) (w : World) (e : Ending) (w' : World) : Prop := ∃ v', e = .returned v' ∧ OwnH w' w.heap.size v' l ∧ Below w.heap.size w w'
set_option maxHeartbeats 1000000 in
theorem cloneH_any (A : Option Addr) (c : Nat) (l : List House) (w : World) (hr : Rd w A (hflat l)) (hA : A = none → l = []) (hm : l.length ≤ 1000000) :
    Calls Try.prog 68 #[.slice A l.length c] w (ClonePostH l w) := by
  obtain ⟨i0, z, hi0, hz0, hs0, hb0, hzs⟩ := parts_hse
  have q22 : ∀ (w : World) (a : Option Addr) (n c n' c' : Nat), (binOp .eql 22 (.slice a n c) (.slice none n' c')).run Try.prog w = .ok (.bool a.isNone) w := fun w a n c n' c' => Lib.run_eql_slice_nil w _ _ a n c n' c' Try.underlying22
  cases A with
  | none =>
    have hl := hA rfl
    subst hl
    go_enter Try.func68, Try.ntmps68
    go_wp2
    go_ret
    exact ⟨_, rfl, OwnL.nil _ _ _ _ _, Below.refl _ _⟩
  | some a =>
    have hcs : ∀ (j : Nat) (u : Value), (hflat l)[j]? = some u → w.cell? (a.add j) = some u := by
      intro j u hu
      rcases hr with h | ⟨b, off, he, _, hc⟩
      · rw [h] at hu; cases hu
      · cases he
        rw [add_none]; exact hc j u hu
    have Hcs := Lib.hid hcs
    clear hcs hr hA
    go_enter Try.func68, Try.ntmps68
    go_wp2_with (at_builtin; refine wpList_append_own _ rfl _ _ 22 rfl w.heap.size 52 i0 z 10 80 Try.underlying22 hi0 hz0 hs0 hb0 hzs (by decide) _ _ _ rfl (World.ownsRow_made w #[] 0 (Nat.le_refl _) (Nat.zero_le _) rfl) a l.length c (hflat l) rfl (hflat_length l) (fun j u hu => Lib.cell?_alloc_some _ (Hcs.out j u hu)) (hflat_one l) (by unfold maxLen; omega) (by omega) (by simp) ?_)
    intro v' w1 hown hgrow hnil
    go_wp2
    go_ret
    refine ⟨v', rfl, by simpa [OwnH, OwnL, hflat] using hown, ?_⟩
    exact ((Below.refl _ w).alloc (Nat.le_refl _) _).grown hgrow (by simp) (by intro k hk; simp [Value.ownBlock] at hk; omega)

theorem hflat_put (l : List House) (k : Nat) (x : House) (hk : k ≤ l.length) : putIn (hflat l) (k * 10) x.cells = hflat (l.take k ++ x :: l.drop k) := by
  have h1 : hflat l = hflat (l.take k) ++ hflat (l.drop k) := by
    unfold hflat; rw [← List.flatMap_append, List.take_append_drop]
  have hl : (hflat (l.take k)).length = k * 10 := by rw [hflat_length, List.length_take, Nat.min_eq_left hk]
  unfold putIn
  rw [h1, List.take_left' hl, List.drop_left' hl]
  unfold hflat
  rw [List.flatMap_append, List.flatMap_cons]
def InsPostH (base : Nat) (v : Value) (l' : List House) (w : World) (e : Ending) (w' : World) : Prop := ∃ v', e = .returned v' ∧ OwnH w' base v' l' ∧ w.grownBy w' v.ownBlock
theorem insH_any (base vb k : Nat) (v : Value) (l : List House) (x : House) (w : World) (hown : OwnH w base v l) (hk : k ≤ l.length) (hv : w.heap[vb]? = some (.cells x.cells.toArray 52 (0, 0))) (hne : v.ownBlock ≠ some vb) (hn : l.length ≤ 1000000) (hbase : base ≤ w.heap.size) :
    Calls Try.prog 67 #[v, .int .i64 k, .slice (some ⟨vb, 0, none⟩) 1 1] w (InsPostH base v (l.take k ++ x :: l.drop k) w) := by
  refine (insert_hse base l.length k vb v (hflat l) x.cells w hown hk hv rfl (house_one x) (hflat_one l) hne hn hbase).mono ?_
  rintro e w2 ⟨v', rfl, hown2, hg2, _⟩
  rw [hflat_put l k x hk] at hown2
  refine ⟨v', rfl, ?_, hg2⟩
  unfold OwnH OwnL
  rw [show (l.take k ++ x :: l.drop k).length = l.length + 1 by simp; omega]
  exact hown2

/-! ### plain -/
theorem asc_hasc : ∀ {l : List House} {p : Int}, hasc p l = true → l.Pairwise (fun x y => x.no < y.no)
  | [], _, _ => List.Pairwise.nil
  | x :: t, p, e => by
    obtain ⟨a, b, c⟩ := hasc_cons.1 e
    exact List.pairwise_cons.2 ⟨fun y hy => (hasc_ok c y hy).2, asc_hasc c⟩
theorem ascH_iff (l : List House) : AscH l ↔ l.Pairwise (fun x y => x.no < y.no) := by
  rw [List.pairwise_iff_getElem]; exact Iff.rfl
def posH (n : Int) (l : List House) : Nat := (l.takeWhile (fun x => decide (x.no < n))).length
def hasH (n : Int) (l : List House) : Bool := l.any (fun x => x.no == n)
theorem cutH_pos {n : Int} {l : List House} {k : Nat} (h : CutH n l k) : k = posH n l := by
  have h1 : l = l.take k ++ l.drop k := (List.take_append_drop k l).symm
  unfold posH
  rw [h1, List.takeWhile_append_of_pos]
  · cases hd : l.drop k with
    | nil => simp; have := congrArg List.length hd; simp at this; have := h.le; omega
    | cons y q =>
      have hk : k < l.length := by
        have := congrArg List.length hd; simp at this; omega
      have hy : l[k] = y := by
        have := List.drop_eq_getElem_cons hk
        rw [hd] at this
        exact (List.cons.inj this).1.symm
      have := h.hi k hk (Nat.le_refl _)
      rw [List.takeWhile_cons_of_neg (by rw [← hy]; simp; omega)]
      simp; omega
  · intro x hx
    obtain ⟨i, hi, rfl⟩ := List.getElem_of_mem hx
    simp at hi
    rw [List.getElem_take]
    have := h.lo i (by omega) (by omega)
    simpa using this
theorem headH_has {n : Int} {l : List House} {k : Nat} (h : CutH n l k) (hs : AscH l) : headH n l k = hasH n l := by
  unfold headH hasH
  by_cases hk : k < l.length
  · rw [List.getElem?_eq_getElem hk]
    show (l[k].no == n) = _
    by_cases e : l[k].no = n
    · rw [List.any_eq_true.2 ⟨l[k], List.getElem_mem hk, by simpa using e⟩]; simpa using e
    · rw [List.any_eq_false.2]
      · simpa using e
      · intro x hx
        obtain ⟨i, hi, rfl⟩ := List.getElem_of_mem hx
        rcases Nat.lt_trichotomy i k with h1 | h1 | h1
        · have := h.lo i hi h1; simp; omega
        · subst h1; simpa using e
        · have := hs k i hk hi h1
          have := h.hi k hk (Nat.le_refl _)
          simp; omega
  · rw [List.getElem?_eq_none (by omega)]
    show false = _
    rw [List.any_eq_false.2]
    intro x hx
    obtain ⟨i, hi, rfl⟩ := List.getElem_of_mem hx
    have := h.lo i hi (by omega)
    simp; omega
def addH (l : List House) (x : House) : List House := insH l (posH x.no l) x
def addHE (l : List House) (x : House) : Int := if hchk l ≠ 0 then hchk l else if x.ok = false then 350 else if hasH x.no l = true then 181 else if l.length = 1024 then 2 else 0
theorem hasc_ins : ∀ {l : List House} {p : Int} {x : House}, hasc p l = true → x.Ok → p < x.no → (∀ y ∈ l, y.no ≠ x.no) → hasc p (insH l (posH x.no l) x) = true
  | [], p, x, _, hx, hp, _ => by
    show hasc p [x] = true
    exact hasc_cons.2 ⟨hx, hp, rfl⟩
  | y :: t, p, x, h, hx, hp, hn => by
    obtain ⟨a, b, c⟩ := hasc_cons.1 h
    by_cases hlt : y.no < x.no
    · have e : posH x.no (y :: t) = posH x.no t + 1 := by unfold posH; rw [List.takeWhile_cons_of_pos (by simpa using hlt)]; rfl
      rw [e]
      show hasc p (y :: insH t (posH x.no t) x) = true
      exact hasc_cons.2 ⟨a, b, hasc_ins c hx hlt (fun z hz => hn z (List.mem_cons_of_mem _ hz))⟩
    · have e : posH x.no (y :: t) = 0 := by unfold posH; rw [List.takeWhile_cons_of_neg (by simpa using hlt)]; rfl
      rw [e]
      show hasc p (x :: y :: t) = true
      have := hn y (List.mem_cons_self ..)
      exact hasc_cons.2 ⟨hx, hp, hasc_cons.2 ⟨a, by omega, c⟩⟩
theorem posH_le (n : Int) (l : List House) : posH n l ≤ l.length := (List.takeWhile_prefix _).length_le
theorem insH_length {l : List House} {k : Nat} {x : House} (h : k ≤ l.length) : (insH l k x).length = l.length + 1 := by unfold insH; simp; omega
theorem addH_chk {l : List House} {x : House} (h : addHE l x = 0) : hchk l = 0 ∧ x.Ok ∧ hchk (addH l x) = 0 := by
  unfold addHE at h
  split at h
  · rename_i h0; exact absurd h h0
  · rename_i h0
    have h0 : hchk l = 0 := by simpa using h0
    split at h
    · cases h
    · rename_i h1
      split at h
      · cases h
      · rename_i h2
        split at h
        · cases h
        · rename_i h3
          obtain ⟨hl, ha⟩ := hchk_ok h0
          have hx : x.Ok := House.ok_iff.1 (by simpa using h1)
          refine ⟨h0, hx, hchk_mk ?_ ?_⟩
          · unfold addH; rw [insH_length (posH_le _ _)]; omega
          · refine hasc_ins ha hx (by have := hx.n0; omega) fun y hy hyn => h2 ?_
            unfold hasH
            exact List.any_eq_true.2 ⟨y, hy, by simpa using hyn⟩
/-- What adding a decision gives. -/
def AddHPost (l : List House) (x : House) (w : World) (e : Ending) (w' : World) : Prop :=
  Below w.heap.size w w' ∧ ((addHE l x ≠ 0 ∧ e = .returned (.tuple #[.slice none 0 0, .int .i64 (addHE l x)])) ∨ (addHE l x = 0 ∧ ∃ A c, e = .returned (.tuple #[.slice A (addH l x).length c, .int .i64 0]) ∧ Rd w' A (hflat (addH l x))))
end Go.Proofs.Ytmindojbkedmlaa
