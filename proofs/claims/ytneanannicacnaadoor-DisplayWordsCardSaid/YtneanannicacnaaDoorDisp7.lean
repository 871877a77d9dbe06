/- Package display: Do. -/
import Derived.Test.YtneanannicacnaaDoorDisp6
namespace Go.Proofs.YtneanannicacnaaDoor
open Go.RowKit Go.Han
attribute [local irreducible] wpStill wpQuiet

def posB (n : Int) (l : List Spot) : Nat := (l.takeWhile (fun x => decide (x.id < n))).length
theorem cut_pos (n : Int) : ∀ (l : List Spot) (k : Nat), Cut n l k → k = posB n l
  | [], k, h => by have := h.le; simp at this; simp [this, posB]
  | x :: l, 0, h => by
    have := h.hi 0 (by simp) (Nat.le_refl _)
    simp at this
    unfold posB
    rw [List.takeWhile_cons_of_neg (by simp; omega)]; rfl
  | x :: l, k + 1, h => by
    have h0 := h.lo 0 (by simp) (by omega)
    simp at h0
    have := cut_pos n l k ⟨by have := h.le; simp at this; exact this, fun t ht hk => by have := h.lo (t + 1) (by simp; exact ht) (by omega); simpa using this, fun t ht hk => by have := h.hi (t + 1) (by simp; exact ht) (by omega); simpa using this⟩
    unfold posB at this ⊢
    rw [List.takeWhile_cons_of_pos (by simp; exact h0), List.length_cons, ← this]

def testB (c : Change) (l : List Spot) (k : Nat) (th : Bool) : Bool :=
  if c.kind = 1 then !th else if c.kind = 2 then th && (l[k]? == some c.spot) else th && (match l[k]? with | some y => !(y.ver == c.spot.ver) | none => false)
def editL (c : Change) (l : List Spot) (k : Nat) : List Spot :=
  if c.kind = 1 then l.take k ++ c.spot :: l.drop k else if c.kind = 2 then l.take k ++ l.drop (k + 1) else l.take k ++ c.spot :: l.drop (k + 1)
/-- Whether the change can be made on l; what l is then. -/
def fitsB (c : Change) (l : List Spot) : Bool := testB c l (posB c.spot.id l) (headB c.spot.id l (posB c.spot.id l))
def madeL (c : Change) (l : List Spot) : List Spot := editL c l (posB c.spot.id l)

theorem edit_len (c : Change) (l : List Spot) (k : Nat) : (editL c l k).length ≤ l.length + 1 := by
  unfold editL
  split
  · simp; omega
  · split
    · simp; omega
    · simp; omega

theorem perform_any (base g : Nat) (v : Value) (l : List Spot) (c : Change) (w : World) (hown : Own w base v l) (hs : Asc l) (hn : l.length ≤ 1024) (hbase : base ≤ w.heap.size) (hg : KMap w g) (hk : kindB c.kind = true) :
    Calls Tryd.prog 51 #[v, c.val, .map (some g)] w (PerfPost base v (fitsB c l) (madeL c l) w) := by
  obtain ⟨A, cp, rfl, _, _⟩ := own_form hown
  have hfr : ∀ W, Own W base (.slice A l.length cp) l → Rd W A (flat l) := by
    intro W h
    obtain ⟨A', c', he, hr, _⟩ := own_form h
    cases he; exact hr
  have hfin : ∀ (f1 f2 : Nat), (∀ W, KMap W g → (Instr.lookup 73 (.map (some g)) (.int .i64 c.kind) false).run Tryd.prog W = .ok (kVal f1 f2) W) →
      (∀ args w, (callFunc f1 args).run Tryd.prog w = .ok (.enter f1 args) w) → (∀ args w, (callFunc f2 args).run Tryd.prog w = .ok (.enter f2 args) w) →
      (∀ W k t, Own W base (.slice A l.length cp) l → (t = true → k < l.length) → Calls Tryd.prog f1 #[.slice A l.length cp, .int .i64 k, .bool t, c.spot.val] W (TestPost (testB c l k t) W)) →
      (∀ W k t, Own W base (.slice A l.length cp) l → base ≤ W.heap.size → k ≤ l.length → (t = true → k < l.length) → testB c l k t = true → Calls Tryd.prog f2 #[.slice A l.length cp, .int .i64 k, c.spot.val] W (EditPost base (.slice A l.length cp) (editL c l k) W)) →
      Calls Tryd.prog 51 #[.slice A l.length cp, c.val, .map (some g)] w (PerfPost base (.slice A l.length cp) (fitsB c l) (madeL c l) w) := by
    intro f1 f2 hl e1 e2 ht he
    refine (perform_gen base g f1 f2 _ l c (testB c l) (editL c l) w hown hs hn hbase hg hl e1 e2 ht he (edit_len c l)).mono ?_
    rintro e w' ⟨k, hc, h⟩
    have := cut_pos _ _ _ hc
    subst this
    exact h
  rcases kinds_look c.kind hg false with ⟨h, _⟩ | ⟨h, _⟩ | ⟨h, _⟩ | ⟨h, _⟩
  · refine hfin 79 80 (fun W hW => ?_) (enters_of Tryd.func79 (by kernel_rfl) rfl) (enters_of Tryd.func80 (by kernel_rfl) rfl) (fun W k t _ _ => ?_) (fun W k t ho hb hk1 _ _ => ?_)
    · rcases kinds_look c.kind hW false with ⟨_, hl⟩ | ⟨h', _⟩ | ⟨h', _⟩ | ⟨h', _⟩
      · rw [h]; simpa using hl
      · omega
      · omega
      · rw [h'] at hk; cases hk
    · have := kinds1_any (.slice A l.length cp) (.int .i64 k) t c.spot W
      unfold testB; rw [if_pos h]; exact this
    · unfold editL; rw [if_pos h]
      exact kinds2_any base k _ l c.spot W ho hk1 (by omega) hb
  · have h1 : ¬ c.kind = 1 := by omega
    refine hfin 82 83 (fun W hW => ?_) (enters_of Tryd.func82 (by kernel_rfl) rfl) (enters_of Tryd.func83 (by kernel_rfl) rfl) (fun W k t ho hkt => ?_) (fun W k t ho hb hk1 hkt htb => ?_)
    · rcases kinds_look c.kind hW false with ⟨h', _⟩ | ⟨_, hl⟩ | ⟨h', _⟩ | ⟨h', _⟩
      · omega
      · rw [h]; simpa using hl
      · omega
      · rw [h'] at hk; cases hk
    · unfold testB; rw [if_neg h1, if_pos h]
      exact kinds3_any k l c.spot t W A cp (hfr W ho) hkt
    · unfold testB at htb; rw [if_neg h1, if_pos h] at htb
      have : t = true := by cases t <;> simp_all
      unfold editL; rw [if_neg h1, if_pos h]
      exact kinds4_any base k _ l c.spot W ho (hkt this) (by omega)
  · have h1 : ¬ c.kind = 1 := by omega
    have h2 : ¬ c.kind = 2 := by omega
    refine hfin 85 86 (fun W hW => ?_) (enters_of Tryd.func85 (by kernel_rfl) rfl) (enters_of Tryd.func86 (by kernel_rfl) rfl) (fun W k t ho hkt => ?_) (fun W k t ho hb hk1 hkt htb => ?_)
    · rcases kinds_look c.kind hW false with ⟨h', _⟩ | ⟨h', _⟩ | ⟨_, hl⟩ | ⟨h', _⟩
      · omega
      · omega
      · rw [h]; simpa using hl
      · rw [h'] at hk; cases hk
    · unfold testB; rw [if_neg h1, if_neg h2]
      exact kinds5_any k l c.spot t W A cp (hfr W ho) hkt
    · unfold testB at htb; rw [if_neg h1, if_neg h2] at htb
      have : t = true := by cases t <;> simp_all
      unfold editL; rw [if_neg h1, if_neg h2]
      exact kinds6_any base k _ l c.spot W ho (hkt this)
  · rw [h] at hk; cases hk
end Go.Proofs.YtneanannicacnaaDoor
