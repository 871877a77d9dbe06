/- Package glossary: Add. -/
import Derived.Test.YtneanannicacnaaDoorSrchT
import Derived.Test.YtneanannicacnaaDoorInsTerm
import Derived.Laws.CopyOwn
import Derived.Lib.SliceRun
import Derived.Deep.RegionWith
namespace Go.Proofs.YtneanannicacnaaDoor
open Go.RowKit Go.Han
attribute [local irreducible] wpStill wpQuiet
set_option maxRecDepth 100000

theorem tflat_length (l : List Term) : (tflat l).length = l.length * 8 := flat_len Term.cells 8 Term.size_cells l
theorem term_one (x : Term) : ∀ u ∈ x.cells, u.oneCell' = true := by
  intro u hu
  simp [Term.cells, StrS.val] at hu
  rcases hu with rfl | rfl | rfl | rfl | rfl | rfl | rfl | rfl <;> rfl
theorem tflat_one (l : List Term) : ∀ u ∈ tflat l, u.oneCell' = true := by
  intro u hu
  obtain ⟨x, _, hx⟩ := List.mem_flatMap.1 hu
  exact term_one x u hx
def OwnT (w : World) (base : Nat) (v : Value) (l : List Term) : Prop := OwnL Term.cells 51 8 w base v l
def ClonePostT (l : List Term) (w : World) (e : Ending) (w' : World) : Prop := ∃ v', e = .returned v' ∧ OwnT w' w.heap.size v' l ∧ Below w.heap.size w w'
set_option maxHeartbeats 1000000 in
theorem cloneT_any (A : Option Addr) (c : Nat) (l : List Term) (w : World) (hr : Rd w A (tflat l)) (hA : A = none → l = []) (hm : l.length ≤ 1000000) :
    Calls Tryd.prog 67 #[.slice A l.length c] w (ClonePostT l w) := by
  obtain ⟨i0, z, hi0, hz0, hs0, hb0, hzs⟩ := parts_term
  have q22 : ∀ (w : World) (a : Option Addr) (n c n' c' : Nat), (binOp .eql 48 (.slice a n c) (.slice none n' c')).run Tryd.prog w = .ok (.bool a.isNone) w := fun w a n c n' c' => Lib.run_eql_slice_nil w _ _ a n c n' c' Tryd.underlying48
  cases A with
  | none =>
    have hl := hA rfl
    subst hl
    go_enter Tryd.func67, Tryd.ntmps67
    go_wp2
    go_ret
    exact ⟨_, rfl, OwnL.nil _ _ _ _ _, Below.refl _ _⟩
  | some a =>
    have hcs : ∀ (j : Nat) (u : Value), (tflat l)[j]? = some u → w.cell? (a.add j) = some u := by
      intro j u hu
      rcases hr with h | ⟨b, off, he, _, hc⟩
      · rw [h] at hu; cases hu
      · cases he
        rw [add_none]; exact hc j u hu
    have Hcs := Lib.hid hcs
    clear hcs hr hA
    go_enter Tryd.func67, Tryd.ntmps67
    go_wp2_with (at_builtin; refine wpList_append_own _ rfl _ _ 48 rfl w.heap.size 51 i0 z 8 104 Tryd.underlying48 hi0 hz0 hs0 hb0 hzs (by decide) _ _ _ rfl (World.ownsRow_made w #[] 0 (Nat.le_refl _) (Nat.zero_le _) rfl) a l.length c (tflat l) rfl (tflat_length l) (fun j u hu => Lib.cell?_alloc_some _ (Hcs.out j u hu)) (tflat_one l) (by unfold maxLen; omega) (by omega) (by simp) ?_)
    intro v' w1 hown hgrow hnil
    go_wp2
    go_ret
    refine ⟨v', rfl, by simpa [OwnT, OwnL, tflat] using hown, ?_⟩
    exact ((Below.refl _ w).alloc (Nat.le_refl _) _).grown hgrow (by simp) (by intro k hk; simp [Value.ownBlock] at hk; omega)

theorem tflat_put (l : List Term) (k : Nat) (x : Term) (hk : k ≤ l.length) : putIn (tflat l) (k * 8) x.cells = tflat (l.take k ++ x :: l.drop k) := by
  have h1 : tflat l = tflat (l.take k) ++ tflat (l.drop k) := by
    unfold tflat; rw [← List.flatMap_append, List.take_append_drop]
  have hl : (tflat (l.take k)).length = k * 8 := by rw [tflat_length, List.length_take, Nat.min_eq_left hk]
  unfold putIn
  rw [h1, List.take_left' hl, List.drop_left' hl]
  unfold tflat
  rw [List.flatMap_append, List.flatMap_cons]
def InsPostT (base : Nat) (v : Value) (l' : List Term) (w : World) (e : Ending) (w' : World) : Prop := ∃ v', e = .returned v' ∧ OwnT w' base v' l' ∧ w.grownBy w' v.ownBlock
theorem insT_any (base vb k : Nat) (v : Value) (l : List Term) (x : Term) (w : World) (hown : OwnT w base v l) (hk : k ≤ l.length) (hv : w.heap[vb]? = some (.cells x.cells.toArray 51 (0, 0))) (hne : v.ownBlock ≠ some vb) (hn : l.length ≤ 1000000) (hbase : base ≤ w.heap.size) :
    Calls Tryd.prog 66 #[v, .int .i64 k, .slice (some ⟨vb, 0, none⟩) 1 1] w (InsPostT base v (l.take k ++ x :: l.drop k) w) := by
  refine (insert_term base l.length k vb v (tflat l) x.cells w hown hk hv rfl (term_one x) (tflat_one l) hne hn hbase).mono ?_
  rintro e w2 ⟨v', rfl, hown2, hg2, _⟩
  rw [tflat_put l k x hk] at hown2
  refine ⟨v', rfl, ?_, hg2⟩
  unfold OwnT OwnL
  rw [show (l.take k ++ x :: l.drop k).length = l.length + 1 by simp; omega]
  exact hown2

/-! ### plain -/
theorem ascT_of : ∀ (last : Int) (l : List Term), chkT last l = true → (∀ x ∈ l, last < x.no) ∧ l.Pairwise (fun x y => x.no < y.no)
  | _, [], _ => ⟨by simp, List.Pairwise.nil⟩
  | last, x :: l, h => by
    unfold chkT at h
    simp only [Bool.and_eq_true, decide_eq_true_eq] at h
    obtain ⟨h1, h2⟩ := ascT_of x.no l h.2
    exact ⟨fun y hy => by
      rcases List.mem_cons.1 hy with rfl | hy
      · exact h.1.2
      · have := h1 y hy; omega, List.pairwise_cons.2 ⟨h1, h2⟩⟩
theorem chkT_ok : ∀ (last : Int) (l : List Term), chkT last l = true → ∀ x ∈ l, x.ok = true
  | _, [], _ => by simp
  | last, x :: l, h => by
    unfold chkT at h
    simp only [Bool.and_eq_true, decide_eq_true_eq] at h
    intro y hy
    rcases List.mem_cons.1 hy with rfl | hy
    · exact h.1.1
    · exact chkT_ok x.no l h.2 y hy
theorem checkT_zero {l : List Term} (h : checkT l = 0) : l.length ≤ 1024 ∧ (∀ x ∈ l, x.ok = true) ∧ l.Pairwise (fun x y => x.no < y.no) := by
  unfold checkT at h
  split at h
  · cases h
  · split at h
    · rename_i h1 h2
      exact ⟨by omega, chkT_ok _ l h2, (ascT_of _ l h2).2⟩
    · cases h
theorem ascT_iff (l : List Term) : AscT l ↔ l.Pairwise (fun x y => x.no < y.no) := by
  rw [List.pairwise_iff_getElem]; exact Iff.rfl
def posT (n : Int) (l : List Term) : Nat := (l.takeWhile (fun x => decide (x.no < n))).length
def hasT (n : Int) (l : List Term) : Bool := l.any (fun x => x.no == n)
theorem cutT_pos {n : Int} {l : List Term} {k : Nat} (h : CutT n l k) : k = posT n l := by
  have h1 : l = l.take k ++ l.drop k := (List.take_append_drop k l).symm
  unfold posT
  rw [h1, List.takeWhile_append_of_pos]
  · cases hd : l.drop k with
    | nil => simp; have := congrArg List.length hd; simp at this; have := h.le; omega
    | cons y q =>
      have hk : k < l.length := by
        have := congrArg List.length hd; simp at this; omega
      have hy : l[k] = y := by
        have := List.drop_eq_getElem_cons hk
        rw [hd] at this
        exact (List.cons.inj this).1.symm
      have := h.hi k hk (Nat.le_refl _)
      rw [List.takeWhile_cons_of_neg (by rw [← hy]; simp; omega)]
      simp; omega
  · intro x hx
    obtain ⟨i, hi, rfl⟩ := List.getElem_of_mem hx
    simp at hi
    rw [List.getElem_take]
    have := h.lo i (by omega) (by omega)
    simpa using this
theorem headT_has {n : Int} {l : List Term} {k : Nat} (h : CutT n l k) (hs : AscT l) : headT n l k = hasT n l := by
  unfold headT hasT
  by_cases hk : k < l.length
  · rw [List.getElem?_eq_getElem hk]
    show (l[k].no == n) = _
    by_cases e : l[k].no = n
    · rw [List.any_eq_true.2 ⟨l[k], List.getElem_mem hk, by simpa using e⟩]; simpa using e
    · rw [List.any_eq_false.2]
      · simpa using e
      · intro x hx
        obtain ⟨i, hi, rfl⟩ := List.getElem_of_mem hx
        rcases Nat.lt_trichotomy i k with h1 | h1 | h1
        · have := h.lo i hi h1; simp; omega
        · subst h1; simpa using e
        · have := hs k i hk hi h1
          have := h.hi k hk (Nat.le_refl _)
          simp; omega
  · rw [List.getElem?_eq_none (by omega)]
    show false = _
    rw [List.any_eq_false.2]
    intro x hx
    obtain ⟨i, hi, rfl⟩ := List.getElem_of_mem hx
    have := h.lo i hi (by omega)
    simp; omega
def addL (l : List Term) (x : Term) : List Term := l.take (posT x.no l) ++ x :: l.drop (posT x.no l)
def addE (l : List Term) (x : Term) : Int := if checkT l ≠ 0 then checkT l else if x.ok = false then 270 else if hasT x.no l = true then 181 else if l.length = 1024 then 2 else 0
/-- What adding a term gives. -/
def AddPost (l : List Term) (x : Term) (w : World) (e : Ending) (w' : World) : Prop :=
  Below w.heap.size w w' ∧ ((addE l x ≠ 0 ∧ e = .returned (.tuple #[.slice none 0 0, .int .i64 (addE l x)])) ∨ (addE l x = 0 ∧ ∃ A c, e = .returned (.tuple #[.slice A (addL l x).length c, .int .i64 0]) ∧ TermsAt w' A (addL l x) ∧ (A = none → addL l x = [])))
theorem addL_mem {l : List Term} {x y : Term} (h : y ∈ addL l x) : y = x ∨ y ∈ l := by
  unfold addL at h
  rcases List.mem_append.1 h with h | h
  · exact .inr (List.mem_of_mem_take h)
  · rcases List.mem_cons.1 h with h | h
    · exact .inl h
    · exact .inr (List.mem_of_mem_drop h)
theorem addL_length (l : List Term) (x : Term) : (addL l x).length = l.length + 1 := by
  unfold addL
  have : posT x.no l ≤ l.length := (List.takeWhile_prefix _).length_le
  simp; omega
end Go.Proofs.YtneanannicacnaaDoor
