/- Texts of this claim, one after the other: PatL, True, Pat5, Step, Pat6, Pat7, Pat8, Pat9. -/
import Derived.Test.YtfbhfimejcdopaaGreatDoorN4
import Derived.Test.YtfbhfimejcdopaaGreatDoorN5
import Derived.Test.YtfbhfimejcdopaaGreatDoorN1
import Derived.Test.YtfbhfimejcdopaaGreatDoorN2
import Derived.WalkMore
import Derived.Deep.RegionLaw
import Derived.Deep.DrawnRows
import Derived.Deep.Upon
import Derived.Maps.AppendAt
import Derived.Deep.AppendLies
import Derived.RegionCalls
/- The laws of differences and of changes put together, in plain lists. No program in sight. -/
namespace Go.Proofs.YtfbhfimejcdopaaGreatDoor
open Go.RowKit Go.Han

theorem few_len {l : List Spot} (hf : fewB l = true) (hc : checkE l = 0) : l.length ≤ 60 := by
  have h1 := ((checkE_iff l).1 hc).1
  unfold fewB at hf
  simp only [Bool.and_eq_true, Bool.or_eq_true, decide_eq_true_eq] at hf
  rcases hf.2 with h | h <;> omega
theorem diffK_len (t : Int) (a b : List Spot) : ∀ U : List Int, (diffK t a b U).length ≤ U.length
  | [] => Nat.le_refl _
  | n :: U => by
    have e : diffK t a b (n :: U) = chgG t (getS n a) (getS n b) ++ diffK t a b U := List.flatMap_cons ..
    rw [e, List.length_append, List.length_cons]
    have := chgG_len t (getS n a) (getS n b)
    have := diffK_len t a b U
    omega
theorem diffL_len (t : Int) {a b : List Spot} (ha : Asc a) (hb : Asc b) : (diffL t a b).length ≤ a.length + b.length := by
  obtain ⟨h1, h2⟩ := diff_union t a b ha hb
  rw [h2]
  have := diffK_len t a b (unionI a b)
  have := union_len h1
  omega
theorem applyE_of {a r : List Spot} {p : List Change} (hc : checkE a = 0) (hl : p.length ≤ 4096) (h : appR a p = (0, r)) : applyE a p = 0 ∧ applyO a p = r := by
  have h0 : applyE a p = 0 := by unfold applyE; rw [if_neg (by simpa using hc), if_neg (by omega), h]
  exact ⟨h0, by unfold applyO; rw [if_pos h0, h]⟩

/-! ### PatchesThere -/
structure There (t : Int) (a b : List Spot) (d : List Change) : Prop where
  at_ : ∀ c ∈ d, c.at_ = t
  ids : ∀ (i : Nat) (h : i + 1 < d.length), d[i].spot.id < d[i + 1].spot.id
  len : d.length ≤ 120
  made : applyE a d = 0 ∧ applyO a d = b
  none : d = [] ↔ a = b
  least : ∀ p, applyE a p = 0 → applyO a p = b → d.length ≤ p.length
theorem there_law {a b : List Spot} {t : Int} (ha : a.length ≤ 60) (hb : b.length ≤ 60) (h : diffE a b t = 0) : There t a b (diffL t a b) := by
  obtain ⟨h1, h2, h3, h4⟩ := diffE_zero h
  obtain ⟨_, _, aa⟩ := (checkE_iff a).1 h1
  obtain ⟨_, _, ab⟩ := (checkE_iff b).1 h2
  obtain ⟨u1, u2⟩ := diff_union t a b aa ab
  obtain ⟨k1, k2⟩ := diffK_ids t a b _ u1.asc
  have hl := diffL_len t aa ab
  refine ⟨fun c hc => ?_, fun i hi => ?_, by omega, applyE_of h1 (by omega) (diff_applied h3 (by omega) h1 h2 h4), diff_nil_iff h3 (by omega) h1 h2 h4, fun p hp1 hp2 => ?_⟩
  · rw [u2] at hc; exact (k2 c hc).1
  · rw [← u2] at k1
    have := List.pairwise_iff_getElem.1 k1 i (i + 1) (by simp; omega) (by simp; omega) (by omega)
    simpa using this
  · have := (applyE_zero hp1).2.2
    rw [hp2] at this
    exact diff_least aa ab this

/-! ### PatchesTurned -/
structure TurnedC (c d : Change) : Prop where
  id : c.spot.id = d.spot.id
  kinds : (c.kind = 1 ∧ d.kind = 2 ∧ c.spot = d.spot) ∨ (c.kind = 2 ∧ d.kind = 1 ∧ c.spot = d.spot) ∨ (c.kind = 3 ∧ d.kind = 3)
theorem chg_turn (t : Int) (n : Int) (a b : List Spot) : (chgG t (getS n a) (getS n b) = [] ∧ chgG t (getS n b) (getS n a) = []) ∨ ∃ c d, chgG t (getS n a) (getS n b) = [c] ∧ chgG t (getS n b) (getS n a) = [d] ∧ TurnedC c d := by
  cases hx : getS n a <;> cases hy : getS n b
  · exact .inl ⟨rfl, rfl⟩
  · exact .inr ⟨_, _, rfl, rfl, ⟨rfl, .inl ⟨rfl, rfl, rfl⟩⟩⟩
  · exact .inr ⟨_, _, rfl, rfl, ⟨rfl, .inr (.inl ⟨rfl, rfl, rfl⟩)⟩⟩
  · rename_i x y
    by_cases hv : x.ver = y.ver
    · exact .inl ⟨if_pos hv, if_pos hv.symm⟩
    · exact .inr ⟨_, _, if_neg hv, if_neg (fun e => hv e.symm), ⟨by rw [(getS_some hx).2, (getS_some hy).2], .inr (.inr ⟨rfl, rfl⟩)⟩⟩
inductive TurnedL : List Change → List Change → Prop
  | nil : TurnedL [] []
  | cons {c d : Change} {p q : List Change} : TurnedC c d → TurnedL p q → TurnedL (c :: p) (d :: q)
theorem turned_len : ∀ {p q : List Change}, TurnedL p q → p.length = q.length
  | _, _, .nil => rfl
  | _, _, .cons _ h => by simp [turned_len h]
theorem turned_at : ∀ {p q : List Change}, TurnedL p q → ∀ (i : Nat) (h : i < p.length) (h' : i < q.length), TurnedC p[i] q[i]
  | _, _, .nil, i, h, _ => absurd h (by simp)
  | _, _, .cons hc h, 0, _, _ => hc
  | _, _, .cons hc h, i + 1, h1, h2 => turned_at h i (by simpa using h1) (by simpa using h2)
theorem diffK_turn (t : Int) (a b : List Spot) : ∀ U : List Int, TurnedL (diffK t a b U) (diffK t b a U)
  | [] => .nil
  | n :: U => by
    have e1 : diffK t a b (n :: U) = chgG t (getS n a) (getS n b) ++ diffK t a b U := List.flatMap_cons ..
    have e2 : diffK t b a (n :: U) = chgG t (getS n b) (getS n a) ++ diffK t b a U := List.flatMap_cons ..
    rw [e1, e2]
    rcases chg_turn t n a b with ⟨h1, h2⟩ | ⟨c, d, h1, h2, h3⟩
    · rw [h1, h2]; exact diffK_turn t a b U
    · rw [h1, h2]; exact .cons h3 (diffK_turn t a b U)
theorem diffL_turn (t : Int) {a b : List Spot} (ha : Asc a) (hb : Asc b) : TurnedL (diffL t a b) (diffL t b a) := by
  obtain ⟨h1, h2⟩ := diff_union t a b ha hb
  rw [h2, diffL_of hb ha (isU_swap h1)]
  exact diffK_turn t a b _
theorem check_ne {l : List Spot} : checkE l ≠ 510 := by rcases checkE_range l with h | h | h <;> rw [h] <;> decide
theorem diffE_turn (a b : List Spot) (t : Int) : (diffE a b t = 0 ↔ diffE b a t = 0) ∧ (diffE a b t = 510 ↔ diffE b a t = 510) := by
  unfold diffE
  by_cases h1 : checkE a = 0
  · rw [if_neg (by simpa using h1)]
    by_cases h2 : checkE b = 0
    · have n1 : ¬ checkE a ≠ 0 := by simpa using h1
      have n2 : ¬ checkE b ≠ 0 := by simpa using h2
      rw [if_neg n2, if_neg n2, if_neg n1, clash_symm ((checkE_iff a).1 h1).2.2 ((checkE_iff b).1 h2).2.2]
      exact ⟨Iff.rfl, Iff.rfl⟩
    · rw [if_pos h2, if_pos h2]
      exact ⟨Iff.rfl, Iff.rfl⟩
  · rw [if_pos h1]
    by_cases h2 : checkE b = 0
    · rw [if_neg (by simpa using h2), if_pos h1]
      exact ⟨Iff.rfl, Iff.rfl⟩
    · rw [if_pos h2]
      exact ⟨⟨fun h => absurd h h1, fun h => absurd h h2⟩, ⟨fun h => absurd h check_ne, fun h => absurd h check_ne⟩⟩

/-! ### PatchesThen -/
def lastAt (p q : List Change) : Int := ((p ++ q).getLast?.map (fun c => c.at_)).getD 0
def thenE (a : List Spot) (p q : List Change) : Int := if applyE a p ≠ 0 then applyE a p else if applyE (applyO a p) q ≠ 0 then applyE (applyO a p) q else if p = [] ∧ q = [] then 0 else diffE a (applyO (applyO a p) q) (lastAt p q)
def thenO (a : List Spot) (p q : List Change) : List Change := if applyE a p ≠ 0 ∨ applyE (applyO a p) q ≠ 0 ∨ (p = [] ∧ q = []) then [] else diffO a (applyO (applyO a p) q) (lastAt p q)
theorem appR_len : ∀ (p : List Change) (s r : List Spot), appR s p = (0, r) → r.length ≤ s.length + p.length
  | [], s, r, e => by simp only [appR, Prod.mk.injEq, true_and] at e; rw [e]; simp
  | c :: p, s, r, e => by
    obtain ⟨h1, h2⟩ := appR_zero e
    obtain ⟨a1, a2, a3, a4⟩ := (doE_zero_iff s c).1 h1
    have := appR_len p _ r h2
    have := made_len_le ((checkE_iff s).1 a1).2.2 a3
    simp
    omega
theorem lastAt_time {a r s : List Spot} {p q : List Change} (hp : appR a p = (0, r)) (hq : appR r q = (0, s)) (hne : ¬ (p = [] ∧ q = [])) : timeB (lastAt p q) = true := by
  have h := appR_times (p ++ q) a s ((appR_app p q a r hp).trans hq)
  unfold lastAt
  cases hl : (p ++ q).getLast? with
  | none => rw [List.getLast?_eq_none_iff, List.append_eq_nil_iff] at hl; exact absurd hl hne
  | some c => exact h c (List.mem_of_getLast? hl)
structure ThenLaw (a : List Spot) (p q : List Change) : Prop where
  err : thenE a p q ≠ 0 → thenE a p q = 510 ∧ clashB a (applyO (applyO a p) q) = true ∧ thenO a p q = [] ∧ ¬ (p = [] ∧ q = [])
  made : thenE a p q = 0 → applyE a (thenO a p q) = 0 ∧ applyO a (thenO a p q) = applyO (applyO a p) q ∧ (thenO a p q).length ≤ p.length + q.length
theorem then_law {a : List Spot} {p q : List Change} (ha : a.length ≤ 60) (hp : p.length ≤ 100) (hq : q.length ≤ 100) (h1 : applyE a p = 0) (h2 : applyE (applyO a p) q = 0) : ThenLaw a p q := by
  obtain ⟨p1, p2, p3⟩ := applyE_zero h1
  obtain ⟨q1, q2, q3⟩ := applyE_zero h2
  have l1 := appR_len _ _ _ p3
  have l2 := appR_len _ _ _ q3
  have c3 := appR_check _ _ _ q1 q3
  by_cases hne : p = [] ∧ q = []
  · have e1 : thenE a p q = 0 := by unfold thenE; rw [if_neg (by simpa using h1), if_neg (by simpa using h2), if_pos hne]
    have e2 : thenO a p q = [] := by unfold thenO; rw [if_pos (.inr (.inr hne))]
    refine ⟨fun h => absurd e1 h, fun _ => ?_⟩
    rw [e2]
    obtain ⟨rfl, rfl⟩ := hne
    have ea : appR a [] = (0, a) := rfl
    obtain ⟨g1, g2⟩ := applyE_of p1 (by simp) ea
    exact ⟨g1, by rw [g2, g2], Nat.zero_le _⟩
  · have ht := lastAt_time p3 q3 hne
    have e1 : thenE a p q = diffE a (applyO (applyO a p) q) (lastAt p q) := by unfold thenE; rw [if_neg (by simpa using h1), if_neg (by simpa using h2), if_neg hne]
    have e2 : thenO a p q = diffO a (applyO (applyO a p) q) (lastAt p q) := by unfold thenO; rw [if_neg (by rintro (h | h | h); exact h h1; exact h h2; exact hne h)]
    have e3 : diffE a (applyO (applyO a p) q) (lastAt p q) = if clashB a (applyO (applyO a p) q) = true then 510 else 0 := by
      unfold diffE
      rw [if_neg (by simpa using p1), if_neg (by simpa using c3), if_neg (by rw [ht]; simp)]
    rw [← e1] at e3
    refine ⟨fun h => ?_, fun h => ?_⟩
    · by_cases hc : clashB a (applyO (applyO a p) q) = true
      · rw [if_pos hc] at e3
        exact ⟨e3, hc, by rw [e2]; unfold diffO; rw [if_neg (by rw [← e1]; exact h)], hne⟩
      · rw [if_neg hc] at e3; exact absurd e3 h
    · have hc : clashB a (applyO (applyO a p) q) = false := by
        cases hc : clashB a (applyO (applyO a p) q)
        · rfl
        · rw [hc, if_pos rfl, h] at e3; cases e3
      have e4 : thenO a p q = diffL (lastAt p q) a (applyO (applyO a p) q) := by rw [e2]; unfold diffO; rw [if_pos (by rw [← e1]; exact h)]
      rw [e4]
      have haa := ((checkE_iff a).1 p1).2.2
      have hcc := ((checkE_iff _).1 c3).2.2
      have hl := diffL_len (lastAt p q) haa hcc
      obtain ⟨g1, g2⟩ := applyE_of p1 (by omega) (diff_applied ht (by omega) p1 c3 hc)
      refine ⟨g1, g2, ?_⟩
      have := diff_least (t := lastAt p q) haa hcc ((appR_app p q a _ p3).trans q3)
      simpa using this

end Go.Proofs.YtfbhfimejcdopaaGreatDoor

/- What a statement's walk comes to: it returns true and leaves alone what was there. -/
namespace Go.Proofs.YtfbhfimejcdopaaGreatDoor
open Go.RowKit Go.Han
def TruePost (w : World) (e : Ending) (w' : World) : Prop := e = .returned (.bool true) ∧ Below w.heap.size w w'
end Go.Proofs.YtfbhfimejcdopaaGreatDoor

/- Package patches: Apply. -/
namespace Go.Proofs.YtfbhfimejcdopaaGreatDoor
open Go.RowKit Go.Han
attribute [local irreducible] wpStill wpQuiet
set_option maxRecDepth 100000

def ApplyPost (a : List Spot) (p : List Change) (w : World) (e : Ending) (w' : World) : Prop :=
  Below w.heap.size w w' ∧ ((applyE a p ≠ 0 ∧ e = .returned (.tuple #[.slice none 0 0, .int .i64 (applyE a p)])) ∨ (applyE a p = 0 ∧ ∃ A cp, e = .returned (.tuple #[.slice A (applyO a p).length cp, .int .i64 0]) ∧ Rd w' A (flat (applyO a p)) ∧ (A = none → applyO a p = [])))
/-- Between two rounds. -/
def ApInv (a : List Spot) (p : List Change) (w : World) (b i : Value) (wr : World) : Prop :=
  ∃ (k : Nat) (s : List Spot) (A : Option Addr) (cp : Nat), k ≤ p.length ∧ i = .int .i64 k ∧ b = .slice A s.length cp ∧ Rd wr A (flat s) ∧ (A = none → s = []) ∧ checkE s = 0 ∧ Below w.heap.size w wr ∧ appR a p = appR s (p.drop k)
theorem applyE_ck {a : List Spot} {p : List Change} (h : checkE a ≠ 0) : applyE a p = checkE a := by unfold applyE; rw [if_pos h]
theorem applyE_lim {a : List Spot} {p : List Change} (h : checkE a = 0) (hl : 4096 < p.length) : applyE a p = 2 := by unfold applyE; rw [if_neg (by simpa using h), if_pos hl]
theorem applyE_run {a : List Spot} {p : List Change} (h : checkE a = 0) (hl : ¬ 4096 < p.length) : applyE a p = (appR a p).1 := by unfold applyE; rw [if_neg (by simpa using h), if_neg hl]
theorem doE_check {s : List Spot} {c : Change} (h : doE s c = 0) : checkE (madeL c s) = 0 := by
  obtain ⟨a1, a2, a3, a4⟩ := (doE_zero_iff s c).1 h
  exact made_ok a1 a2 a3 a4
theorem check_len {s : List Spot} (h : checkE s = 0) : s.length ≤ 1024 := ((checkE_iff s).1 h).1
set_option maxHeartbeats 1000000 in
theorem Apply_any (A : Option Addr) (cp : Nat) (a : List Spot) (B : Option Addr) (cq : Nat) (p : List Change) (w : World) (hT : Tabs w) (hr : Rd w A (flat a)) (hA : A = none → a = []) (hm : a.length ≤ 9223372036854775807) (hr' : Rd w B (cflat p)) (hm' : p.length ≤ 9223372036854775807) :
    Calls Tryz.prog 11 #[.slice A a.length cp, .slice B p.length cq] w (ApplyPost a p w) := by
  have HE1 := Lib.hid (applyE_ck (a := a) (p := p))
  have HE2 := Lib.hid (applyE_lim (a := a) (p := p))
  have HE3 := Lib.hid (applyE_run (a := a) (p := p))
  go_enter Tryz.func11, Tryz.ntmps11
  go_wp2_with fail
  go_step3
  go_wp2_with fail
  refine (Check_any A cp a w hT hr hm).mono ?_
  rintro e w1 ⟨rfl, hb1⟩
  by_cases hc : checkE a = 0
  · have Hc := Lib.hid hc
    rw [hc]
    clear hc
    by_cases hl : 4096 < p.length
    · have hl2 : (4096 : Int) < (p.length : Int) := by omega
      have he := Lib.hid (HE2.out Hc.out hl)
      clear hl
      go_wp2_with fail
      go_ret2
      exact ⟨hb1, .inl ⟨by rw [he.out]; decide, by rw [he.out]; rfl⟩⟩
    · have hl2 : ¬ (4096 : Int) < (p.length : Int) := by omega
      have he := Lib.hid (HE3.out Hc.out hl)
      have hz1 := hb1.size
      have Hl := Lib.hid hl
      clear hl
      go_wp2_with fail
      go_step3
      go_wp2_with fail
      go_loopw [4, 5, 19] (fun b x i wr => x = .int .i64 0 ∧ ApInv a p w b i wr) (fun _ _ i _ => p.length - (intOf i).toNat)
      case atStart => exact ⟨rfl, 0, a, A, cp, Nat.zero_le _, rfl, rfl, hr.ext hb1, hA, Hc.out, hb1, rfl⟩
      case round =>
        obtain ⟨rfl, k, s, A1, cp1, hk, rfl, rfl, hrs, hAs, hcs, hB, hap⟩ := hrel
        have hls := check_len hcs
        have Hcs := Lib.hid hcs
        have Hap := Lib.hid hap
        clear hcs hap
        by_cases hlt : k < p.length
        · obtain ⟨b, off, rfl, hb, hcl⟩ := hr'.elem Change.size_cells (by omega) hlt
          have d0 := (hB.cell (p := ⟨b, off + k * 5 + 0, none⟩) hb).trans (hcl 0 _ rfl)
          have d1 := (hB.cell (p := ⟨b, off + k * 5 + 1, none⟩) hb).trans (hcl 1 _ rfl)
          have d2 := (hB.cell (p := ⟨b, off + k * 5 + 2, none⟩) hb).trans (hcl 2 _ rfl)
          have d3 := (hB.cell (p := ⟨b, off + k * 5 + 3, none⟩) hb).trans (hcl 3 _ rfl)
          have d4 := (hB.cell (p := ⟨b, off + k * 5 + 4, none⟩) hb).trans (hcl 4 _ rfl)
          simp only [Nat.add_zero] at d0
          have hdr : p.drop k = p[k] :: p.drop (k + 1) := List.drop_eq_getElem_cons hlt
          have Hap2 : Hid (appR a p = appR s (p[k] :: p.drop (k + 1))) := by show _ = _; rw [Hap.out, hdr]
          clear hcl hdr Hap
          generalize p[k] = c at *
          obtain ⟨t, kd, ⟨i, vr, x⟩⟩ := c
          simp only at d0 d1 d2 d3 d4
          obtain ⟨cc, hcc⟩ : ∃ cc : Change, cc = ⟨t, kd, ⟨i, vr, x⟩⟩ := ⟨_, rfl⟩
          rw [← hcc] at Hap2
          have cD : Hid (∀ W (hb : Below wr.heap.size wr W), Calls Tryz.prog 24 #[.slice A1 s.length cp1, .agg #[.int .i64 t, .int .i64 kd, .int .i64 i, .int .i64 vr, .string x]] W (DoPost s cc W)) := by
            intro W hb
            have := Do_any A1 cp1 s ⟨t, kd, ⟨i, vr, x⟩⟩ W (utf_ext hT (ext_trans hB hb)) (hrs.ext hb) hAs (by omega)
            rw [← hcc] at this
            rw [hcc] at this ⊢
            exact this
          clear hcc
          go_wp2_with fail
          refine (cD.out _ (ext_alloc (Below.refl _ _) _)).mono ?_
          rintro e w3 ⟨hb3, h3⟩
          have hB3 := ext_trans hB (ext_trans (ext_alloc (Below.refl _ _) _) hb3)
          rcases h3 with ⟨hn, rfl⟩ | ⟨hn, v2, rfl, hown⟩
          · have hf : Hid (applyE a p = doE s cc) := by show _ = _; rw [he.out, Hap2.out, appR_cons, if_pos hn]
            have Hn := Lib.hid hn
            go_wp2_with fail
            go_ret2
            exact ⟨hB3, .inl ⟨by rw [hf.out]; exact Hn.out, by rw [hf.out]; rfl⟩⟩
          · obtain ⟨A2, cp2, rfl, hrd2, hnil2⟩ := own_form hown
            have hap3 : Hid (appR a p = appR (madeL cc s) (p.drop (k + 1))) := by show _ = _; rw [Hap2.out, appR_ok hn]
            have hck := doE_check hn
            clear hn hown
            go_wp2_with fail
            go_roundw
            case rel => exact ⟨rfl, k + 1, madeL cc s, A2, cp2, by omega, by go_num, rfl, hrd2, hnil2, hck, hB3, hap3.out⟩
            case measure => simp [intOf]; omega
        · obtain rfl : k = p.length := by omega
          have h0 : appR a p = (0, s) := by rw [Hap.out, List.drop_length]; rfl
          have h1 : applyE a p = 0 := by rw [he.out, h0]
          have h2 : applyO a p = s := by unfold applyO; rw [if_pos h1, h0]
          have H1 := Lib.hid h1
          have H2 := Lib.hid h2
          clear h0 h1 h2
          go_wp2_with fail
          go_ret2
          exact ⟨hB, .inr ⟨H1.out, A1, cp1, by rw [H2.out]; rfl, by rw [H2.out]; exact hrs, by rw [H2.out]; exact hAs⟩⟩
  · have hf := Lib.hid (HE1.out hc)
    have Hc := Lib.hid hc
    go_wp2_with fail
    go_ret2
    exact ⟨hb1, .inl ⟨by rw [hf.out]; exact Hc.out, by rw [hf.out]; rfl⟩⟩
end Go.Proofs.YtfbhfimejcdopaaGreatDoor

/- Appends of perhaps nothing, as a step of a region that draws its order; pieces of a slice. -/
namespace Go.Han
open Go.RowKit
section
variable {P : Program} {w : World}
theorem src_nil (size c : Nat) (tx : TypeId) {e : TypeId} (ht : P.underlying tx = some (.slice e)) : Src P size tx (.slice none 0 c) 0 [] w := by
  refine ⟨.inl ⟨e, ht⟩, fun w' => ?_, ?_, ?_, by simp, fun u hu => by cases hu⟩
  · rfl
  · rfl
  · rfl
theorem own_room {base e size n : Nat} {v : Value} {xs : List Value} (h : w.ownsRow base e size v n xs) : ∃ A cap, v = .slice A n cap ∧ n ≤ cap := by
  rcases h.2 with ⟨h1, h2⟩ | ⟨g, cap, cur, h1, _, _, h4, _⟩
  · subst h2; exact ⟨none, 0, h1, Nat.le_refl _⟩
  · exact ⟨_, cap, h1, h4⟩
theorem grownBy_same (row : Option Nat) : w.grownBy w row := gbelow_grown (Below.refl _ _) row
theorem run_append_rd (base : Nat) (t ty e : TypeId) (i : TypeInfo) (z : Value) (size bytes : Nat) (ht : P.underlying t = some (.slice e)) (hi : P.info? e = some i) (hz : i.zero = some z)
    (hsize : i.size = size) (hby : i.bytes = bytes) (hzs : z.cells.size = size) (hsz : 0 < size)
    (v : Value) (n : Nat) (xs : List Value) (hown : w.ownsRow base e size v n xs)
    (B : Option Addr) (m c : Nat) (news : List Value) (hl : news.length = m * size) (hr : Rd w B news) (h1 : ∀ u ∈ news, u.oneCell' = true)
    (h63 : n + m ≤ maxLen) (hbytes : (n + m) * bytes ≤ 140737488355328) (hbase : base ≤ w.heap.size) :
    ∃ v' w', (Builtin.append_ #[t, t] ty #[v, .slice B m c]).run P w = .ok v' w' ∧ w'.ownsRow base e size v' (n + m) (xs ++ news) ∧ w.grownBy w' v.ownBlock ∧ (v'.ownBlock = v.ownBlock ∨ v'.ownBlock = some w.heap.size) := by
  cases B with
  | none =>
    have hn : news = [] := by
      rcases hr with h | ⟨b, off, h, _⟩
      · exact h
      · cases h
    subst hn
    have hm : m = 0 := by
      rcases Nat.eq_zero_or_pos m with h | h
      · exact h
      · have := Nat.mul_pos h hsz; simp at hl; omega
    subst hm
    obtain ⟨A, cap, rfl, hle⟩ := own_room hown
    refine ⟨_, _, run_append_nothing w t t ty e i ht hi A n cap hle _ (src_nil i.size c t ht), ?_, grownBy_same _, .inl rfl⟩
    simpa using hown
  | some ad =>
    have hc : ∀ j u, news[j]? = some u → w.cell? (ad.add j) = some u := by
      intro j u hu
      rcases hr with h | ⟨b, off, h, _, hc⟩
      · rw [h] at hu; cases hu
      · cases h
        have := hc j u hu
        rw [show (⟨b, off, none⟩ : Addr).add j = ⟨b, off + j, none⟩ from by unfold Addr.add; split <;> simp_all]
        exact this
    obtain ⟨v', w', hr, h2, h3, _, h5⟩ := run_append_own_at (P := P) w base t ty e i z size bytes ht hi hz hsize hby hzs hsz v n xs hown ad m c news hl hc h1 h63 hbytes hbase
    exact ⟨v', w', hr, h2, h3, h5⟩
theorem step_append_rd {ops : Array Oper} {o : Oper} {a : Act} {K : Act → World → Prop} {Q : Exit → Act → World → Prop} {E : Prop} (hgd : o.guard = none) (s x : Operand) (t : TypeId)
    (ho : o.op = .call { callee := .builtin .append, args := #[s, x], argTypes := #[t, t] })
    (base : Nat) (e : TypeId) (i : TypeInfo) (z : Value) (size bytes : Nat) (ht : P.underlying t = some (.slice e)) (hi : P.info? e = some i) (hz : i.zero = some z)
    (hsize : i.size = size) (hby : i.bytes = bytes) (hzs : z.cells.size = size) (hsz : 0 < size)
    (v : Value) (n : Nat) (xs : List Value) (hs : a.eval s = v) (B : Option Addr) (m c : Nat) (news : List Value) (hx : a.eval x = .slice B m c)
    (hown : w.ownsRow base e size v n xs) (hl : news.length = m * size) (hr : Rd w B news) (h1 : ∀ u ∈ news, u.oneCell' = true)
    (h63 : n + m ≤ maxLen) (hbytes : (n + m) * bytes ≤ 140737488355328) (hbase : base ≤ w.heap.size)
    (h : ∀ v' w', w'.ownsRow base e size v' (n + m) (xs ++ news) → w.grownBy w' v.ownBlock → (v'.ownBlock = v.ownBlock ∨ v'.ownBlock = some w.heap.size) → K (a.put o.dst v') w') :
    if Region.wanted o (yielded ops a.tmps) = true then Oper.wp P o a w K Q else E := by
  have hw : Region.wanted o (yielded ops a.tmps) = true := by simp [Region.wanted, hgd]
  rw [if_pos hw]
  obtain ⟨v', w', hrun, h2, h3, h5⟩ := run_append_rd (P := P) (w := w) base t o.type e i z size bytes ht hi hz hsize hby hzs hsz v n xs hown B m c news hl hr h1 h63 hbytes hbase
  unfold Oper.wp execOp
  simp only [ho, resolve, invoke, builtin, Sem.run_bind, Sem.run_pure, Result.andThen_ok, List.map_toArray, List.map_cons, List.map_nil, hs, hx, hrun]
  exact h v' w' h2 h3 h5
/-- append of perhaps nothing, in a region that does not draw. -/
theorem wpList_append_rd {ops : Array Oper} {rest : List Oper} {o : Oper} {a : Act} {Q : Exit → Act → World → Prop} (hgd : o.guard = none) (s x : Operand) (t : TypeId)
    (ho : o.op = .call { callee := .builtin .append, args := #[s, x], argTypes := #[t, t] })
    (base : Nat) (e : TypeId) (i : TypeInfo) (z : Value) (size bytes : Nat) (ht : P.underlying t = some (.slice e)) (hi : P.info? e = some i) (hz : i.zero = some z)
    (hsize : i.size = size) (hby : i.bytes = bytes) (hzs : z.cells.size = size) (hsz : 0 < size)
    (v : Value) (n : Nat) (xs : List Value) (hs : a.eval s = v) (B : Option Addr) (m c : Nat) (news : List Value) (hx : a.eval x = .slice B m c)
    (hown : w.ownsRow base e size v n xs) (hl : news.length = m * size) (hr : Rd w B news) (h1 : ∀ u ∈ news, u.oneCell' = true)
    (h63 : n + m ≤ maxLen) (hbytes : (n + m) * bytes ≤ 140737488355328) (hbase : base ≤ w.heap.size)
    (h : ∀ v' w', w'.ownsRow base e size v' (n + m) (xs ++ news) → w.grownBy w' v.ownBlock → (v'.ownBlock = v.ownBlock ∨ v'.ownBlock = some w.heap.size) → wpList P ops Q rest (a.put o.dst v') w') :
    wpList P ops Q (o :: rest) a w := by
  refine wpList_plain hgd fun K hK => ?_
  obtain ⟨v', w', hrun, h2, h3, h5⟩ := run_append_rd (P := P) (w := w) base t o.type e i z size bytes ht hi hz hsize hby hzs hsz v n xs hown B m c news hl hr h1 h63 hbytes hbase
  unfold Oper.wp execOp
  simp only [ho, resolve, invoke, builtin, Sem.run_bind, Sem.run_pure, Result.andThen_ok, List.map_toArray, List.map_cons, List.map_nil, hs, hx, hrun]
  exact hK _ _ (h v' w' h2 h3 h5)
/-- A new slice of no elements. -/
theorem own_empty {base e size b : Nat} (h : w.heap[b]? = some (.cells #[] e (0, 0))) (hb : base ≤ b) : w.ownsRow base e size (.slice (some ⟨b, 0, none⟩) 0 0) 0 [] :=
  ⟨by simp, .inr ⟨b, 0, #[], rfl, hb, h, Nat.le_refl _, Nat.zero_le _, by simp, by simp⟩⟩
/-- Where a piece lies. -/
def subA (A : Option Addr) (cp i s : Nat) : Option Addr := if cp = i then A else A.map (·.add (i * s))
theorem Rd.cut {α : Type} {f : α → List Value} {s : Nat} (hs : 0 < s) (hf : ∀ y, (f y).length = s) {A : Option Addr} {l : List α} (h : Rd w A (l.flatMap f)) {cp i n : Nat} (hin : i + n ≤ l.length) (hcp : l.length ≤ cp) :
    Rd w (subA A cp i s) (((l.drop i).take n).flatMap f) := by
  unfold subA
  by_cases hc : cp = i
  · obtain rfl : n = 0 := by omega
    simp only [List.take_zero]
    exact Rd.nil _ _
  · rw [if_neg hc]
    rcases h with h0 | ⟨b, off, he, hb, hcl⟩
    · have hl : l = [] := by
        cases l with
        | nil => rfl
        | cons x l =>
          have := congrArg List.length h0
          simp [hf] at this
          omega
      rw [hl]; simp only [List.drop_nil, List.take_nil]; exact Rd.nil _ _
    · refine .inr ⟨b, off + i * s, by rw [he]; simp [Addr.add], hb, fun j u hu => ?_⟩
      rw [Nat.add_assoc]
      refine hcl (i * s + j) u ?_
      have h1 : l.flatMap f = (l.take i).flatMap f ++ (((l.drop i).take n).flatMap f ++ ((l.drop i).drop n).flatMap f) := by
        rw [← List.flatMap_append, List.take_append_drop, ← List.flatMap_append, List.take_append_drop]
      have h2 : ((l.take i).flatMap f).length = i * s := by rw [flat_len f s hf, List.length_take, Nat.min_eq_left (by omega)]
      rw [h1, List.getElem?_append_right (by omega), h2, Nat.add_sub_cancel_left, List.getElem?_append_left (List.getElem?_eq_some_iff.1 hu).1]
      exact hu
end
end Go.Han

/- Package patches: slices.Grow, slices.Concat at changes. -/
namespace Go.Proofs.YtfbhfimejcdopaaGreatDoor
open Go.RowKit Go.Han
attribute [local irreducible] wpStill wpQuiet
set_option maxRecDepth 100000

theorem info_change : (Tryz.prog.info? 40).map (fun i => (i.zero, i.size, i.bytes)) = some (some (.agg #[.int .i64 0, .int .i64 0, .int .i64 0, .int .i64 0, .string ⟨#[]⟩]), 5, 48) := by kernel_rfl
theorem cflat_one (l : List Change) : ∀ u ∈ cflat l, u.oneCell' = true := by
  intro u hu
  obtain ⟨c, _, hc⟩ := List.mem_flatMap.1 hu
  unfold Change.cells at hc
  simp only [List.mem_cons, List.not_mem_nil, or_false] at hc
  rcases hc with rfl | rfl | rfl | rfl | rfl <;> rfl
theorem cflat_len (l : List Change) : (cflat l).length = l.length * 5 := by
  induction l with
  | nil => rfl
  | cons x l ih => unfold cflat at ih ⊢; rw [List.flatMap_cons, List.length_append, ih, Change.size_cells, List.length_cons]; omega
def GrowPost (_ : Nat) (w : World) (e : Ending) (w' : World) : Prop :=
  ∃ v, e = .returned v ∧ OwnL Change.cells 40 5 w' w.heap.size v [] ∧ Below w.heap.size w w'
set_option maxHeartbeats 1000000 in
theorem grow_any (n : Nat) (w : World) (h0 : 0 < n) (hn : n ≤ 10000) : Calls Tryz.prog 44 #[.slice none 0 0, .int .i64 n] w (GrowPost n w) := by
  obtain ⟨i0, hi0, hz0, hs0, hb0⟩ := info_parts info_change
  have h0' : (0 : Int) < n := by omega
  have h1' : ¬ (n : Int) < 0 := by omega
  go_enter Tryz.func44, Tryz.ntmps44
  go_wp2_with (at_builtin; go_loud (refine wpList_append_zeros w rfl (.tmp 20) (.tmp 21) 25 3 rfl 40 i0 _ 5 48 .i64 .i64 Tryz.underlying25 Tryz.underlying3 hi0 hz0 hs0 hb0 rfl (by decide) none 0 0 n [] rfl ?hx1 rfl (Rd.nil _ _) h0 (by omega) (by unfold maxLen; omega) (by omega) ?hx3))
  case hx3 =>
    intro cap w1 R1 hR1 hl1 hc1 hm1 hb1 hz1
    have hcm1 : cap ≤ 9223372036854775807 := by unfold maxLen at hm1; omega
    have Hm := Lib.hid hm1
    clear hm1
    go_wp2_with fail
    go_ret
    refine ⟨_, rfl, ⟨by simp, .inr ⟨_, cap, _, rfl, Nat.le_refl _, hR1, by simp, Hm.out, by simpa using hl1, by simp⟩⟩, hb1⟩

/-! ### Concat -/
def ConcatPost (p q : List Change) (w : World) (e : Ending) (w' : World) : Prop :=
  ∃ v, e = .returned v ∧ OwnL Change.cells 40 5 w' w.heap.size v (p ++ q) ∧ Below w.heap.size w w'
def lens2 (p q : List Change) (k : Nat) : Nat := if k = 0 then 0 else if k = 1 then p.length else p.length + q.length
def pre2 (p q : List Change) (k : Nat) : List Change := if k = 0 then [] else if k = 1 then p else p ++ q
set_option maxHeartbeats 2000000 in
theorem concat_any (g : Nat) (B C : Option Addr) (c d : Nat) (p q : List Change) (w : World) (hg : w.heap[g]? = some (.cells #[.slice B p.length c, .slice C q.length d] 25 (0, 0))) (hp : Rd w B (cflat p)) (hq : Rd w C (cflat q)) (h0 : 0 < p.length + q.length) (hn : p.length + q.length ≤ 10000) :
    Calls Tryz.prog 26 #[.slice (some ⟨g, 0, none⟩) 2 2] w (ConcatPost p q w) := by
  obtain ⟨i0, hi0, hz0, hs0, hb0⟩ := info_parts info_change
  have g0 := gblk hg 0
  have g1 := gblk hg 1
  have hgl := lt_block hg
  have hp1 : p.length ≤ 10000 := by omega
  have hq1 : q.length ≤ 10000 := by omega
  go_enter Tryz.func26, Tryz.ntmps26
  go_wp2_with fail
  go_loop [3, 11] (fun s i => ∃ k : Nat, k ≤ 2 ∧ i = .int .i64 k ∧ s = .int .i64 (lens2 p q k)) (fun _ i => 2 - (intOf i).toNat)
  case atStart => exact ⟨0, by omega, rfl, rfl⟩
  case round =>
    obtain ⟨k, hk, rfl, rfl⟩ := hrel
    rcases (show k = 0 ∨ k = 1 ∨ k = 2 by omega) with rfl | rfl | rfl
    · have e0 : lens2 p q 0 = 0 := rfl
      rw [e0]
      go_wp2_with fail
      go_round
      case rel => exact ⟨1, by omega, by go_num, by show _ = Value.int .i64 (p.length : Nat); go_num⟩
      case measure => simp [intOf]
    · have e0 : lens2 p q 1 = p.length := rfl
      rw [e0]
      go_wp2_with fail
      go_round
      case rel => exact ⟨2, by omega, by go_num, by show _ = Value.int .i64 ((p.length + q.length : Nat)); go_num⟩
      case measure => simp [intOf]
    · have e0 : lens2 p q 2 = p.length + q.length := rfl
      rw [e0]
      go_wp2_with fail
      refine (grow_any _ w h0 hn).mono ?_
      rintro e w1 ⟨v1, rfl, hv1, hb1⟩
      go_wp2_with fail
      go_loopw [6, 27] (fun v i wr => ∃ k : Nat, k ≤ 2 ∧ i = .int .i64 k ∧ OwnL Change.cells 40 5 wr w.heap.size v (pre2 p q k) ∧ Below w.heap.size w wr) (fun _ i _ => 2 - (intOf i).toNat)
      case atStart => exact ⟨0, by omega, rfl, hv1, hb1⟩
      case round =>
        obtain ⟨k, hk, rfl, hv, hB⟩ := hrel
        have hz := hB.size
        rcases (show k = 0 ∨ k = 1 ∨ k = 2 by omega) with rfl | rfl | rfl
        · have x0 := (hB.cell (p := ⟨g, 0, none⟩) hgl).trans g0
          change OwnL _ _ _ _ _ _ [] at hv
          go_wp2_with (at_builtin; refine wpList_append_rd rfl _ _ 25 rfl w.heap.size 40 i0 _ 5 48 Tryz.underlying25 hi0 hz0 hs0 hb0 rfl (by decide) _ _ _ rfl B p.length c (cflat p) rfl hv (cflat_len p) (hp.ext hB) (cflat_one p) (by unfold maxLen; simp; omega) (by simp; omega) hz ?_; intro v2 w2 hown2 hgrow2 _)
          have hB2 := below_own hB hv (Nat.le_refl _) hgrow2
          go_roundw
          case rel => exact ⟨1, by omega, by go_num, by unfold OwnL; simpa [pre2, cflat] using hown2, hB2⟩
          case measure => simp [intOf]
        · have x0 := (hB.cell (p := ⟨g, 1, none⟩) hgl).trans g1
          change OwnL _ _ _ _ _ _ p at hv
          go_wp2_with (at_builtin; refine wpList_append_rd rfl _ _ 25 rfl w.heap.size 40 i0 _ 5 48 Tryz.underlying25 hi0 hz0 hs0 hb0 rfl (by decide) _ _ _ rfl C q.length d (cflat q) rfl hv (cflat_len q) (hq.ext hB) (cflat_one q) (by unfold maxLen; omega) (by omega) hz ?_; intro v2 w2 hown2 hgrow2 _)
          have hB2 := below_own hB hv (Nat.le_refl _) hgrow2
          go_roundw
          case rel => exact ⟨2, by omega, by go_num, by unfold OwnL; simpa [pre2, cflat] using hown2, hB2⟩
          case measure => simp [intOf]
        · change OwnL _ _ _ _ _ _ (p ++ q) at hv
          go_wp2_with fail
          go_ret
          exact ⟨_, rfl, hv, hB⟩
end Go.Proofs.YtfbhfimejcdopaaGreatDoor

/- Package patches: what Diff adds, and what it adds it by. -/
namespace Go.Proofs.YtfbhfimejcdopaaGreatDoor
open Go.RowKit Go.Han
attribute [local irreducible] wpStill wpQuiet
set_option maxRecDepth 100000

def PairV.o (p : PairV) : Option Spot := if p.was = true then some p.old else none
def PairV.s (p : PairV) : Option Spot := if p.is_ = true then some p.now else none
theorem getD_ite (o : Option Spot) (z : Spot) : (if o.isSome = true then some (o.getD z) else none) = o := by cases o <;> rfl
theorem pairOf_o (a b : List Spot) (n : Int) : (pairOf a b n).o = getS n a := getD_ite _ _
theorem pairOf_s (a b : List Spot) (n : Int) : (pairOf a b n).s = getS n b := getD_ite _ _
def chgP (t : Int) (p : PairV) : List Change := chgG t p.o p.s
def clashP (p : PairV) : Bool := clashG p.o p.s
theorem chgP_pair (t : Int) (a b : List Spot) (n : Int) : chgP t (pairOf a b n) = chgG t (getS n a) (getS n b) := by unfold chgP; rw [pairOf_o, pairOf_s]
theorem diffK_pairs (t : Int) (a b : List Spot) (U : List Int) : (U.map (pairOf a b)).flatMap (chgP t) = diffK t a b U := by
  unfold diffK
  rw [List.flatMap_map]
  exact flatMap_same (fun n _ => chgP_pair t a b n)
theorem chgP_len (t : Int) (p : PairV) : (chgP t p).length ≤ 1 := chgG_len t _ _
/-- What is true of the pairs that come. -/
structure PairOk (p : PairV) : Prop where
  some_ : p.was = true ∨ p.is_ = true
  same : p.was = true → p.is_ = true → p.old.id = p.now.id
theorem pair_ok {a b : List Spot} (ha : Asc a) (hb : Asc b) {p : PairV} (h : p ∈ (unionI a b).map (pairOf a b)) : PairOk p := by
  obtain ⟨n, hn, rfl⟩ := List.mem_map.1 h
  refine ⟨((diff_union 0 a b ha hb).1.mem n).1 hn, fun h1 h2 => ?_⟩
  change (getS n a).isSome = true at h1
  change (getS n b).isSome = true at h2
  obtain ⟨x, hx⟩ := Option.isSome_iff_exists.1 h1
  obtain ⟨y, hy⟩ := Option.isSome_iff_exists.1 h2
  show ((getS n a).getD spot0).id = ((getS n b).getD spot0).id
  rw [hx, hy]
  exact (getS_some hx).2.trans (getS_some hy).2.symm
theorem clash_pairs {a b : List Spot} {p : PairV} (h : p ∈ (unionI a b).map (pairOf a b)) (hc : clashP p = true) : clashB a b = true := by
  obtain ⟨n, hn, rfl⟩ := List.mem_map.1 h
  unfold clashP at hc
  rw [pairOf_o, pairOf_s] at hc
  cases h' : clashB a b
  · rw [clash_of h' n] at hc; cases hc
  · rfl
theorem clash_pairs_no {a b : List Spot} (ha : Asc a) (hb : Asc b) (h : ∀ p ∈ (unionI a b).map (pairOf a b), clashP p = false) : clashB a b = false := by
  cases h' : clashB a b
  · rfl
  · obtain ⟨x, hx, hc⟩ := clash_some h'
    have hg := getS_mem ha hx
    have := h (pairOf a b x.id) (List.mem_map.2 ⟨x.id, ((diff_union 0 a b ha hb).1.mem _).2 (.inl (by rw [hg]; rfl)), rfl⟩)
    unfold clashP at this
    rw [pairOf_o, pairOf_s, hg, hc] at this
    cases this

/-! ### add -/
structure Added (bp base : Nat) (v : Value) (l : List Change) (w : World) (w' : World) : Prop where
  os : w'.os = w.os
  tape : w'.tape = w.tape
  output : w'.output = w.output
  size : w.heap.size ≤ w'.heap.size
  block : ∀ k, k < w.heap.size → k ≠ bp → v.ownBlock ≠ some k → w'.heap[k]? = w.heap[k]?
  now : ∃ v', w'.heap[bp]? = some (.cells #[v'] 25 (0, 0)) ∧ OwnL Change.cells 40 5 w' base v' l ∧ (v'.ownBlock = v.ownBlock ∨ ∃ g, v'.ownBlock = some g ∧ w.heap.size ≤ g)
theorem chg_one (c : Change) : ∀ u ∈ c.cells, u.oneCell' = true := by
  intro u hu
  unfold Change.cells at hu
  simp only [List.mem_cons, List.not_mem_nil, or_false] at hu
  rcases hu with rfl | rfl | rfl | rfl | rfl <;> rfl
set_option maxHeartbeats 2000000 in
theorem add51_any (bp bt base : Nat) (v : Value) (l : List Change) (t kd : Int) (x : Spot) (w : World) (hbp : w.heap[bp]? = some (.cells #[v] 25 (0, 0))) (hbt : w.heap[bt]? = some (.cells #[.int .i64 t] 3 (0, 0)))
    (hown : OwnL Change.cells 40 5 w base v l) (hl : l.length ≤ 100000) (hne : v.ownBlock ≠ some bp) (hbb : base ≤ w.heap.size) :
    Calls Tryz.prog 19 #[.int .i64 kd, .agg #[.int .i64 x.id, .int .i64 x.ver, .string x.text], .pointer (some ⟨bp, 0, none⟩), .pointer (some ⟨bt, 0, none⟩)] w fun e w' => e = .returned (.tuple #[]) ∧ Added bp base v (l ++ [⟨t, kd, x⟩]) w w' := by
  obtain ⟨i0, hi0, hz0, hs0, hb0⟩ := info_parts info_change
  have np := lt_block hbp
  have nt := lt_block hbt
  have c0 := fun o => cell_one ((Below.heap_alloc w o bp np).trans hbp)
  have c1 := fun o => cell_one ((Below.heap_alloc w o bt nt).trans hbt)
  obtain ⟨W2, hW2⟩ : ∃ W2, (w.alloc (.cells #[.int .i64 x.id, .int .i64 x.ver, .string x.text] 37)).alloc (.cells #[.int .i64 t, .int .i64 kd, .int .i64 x.id, .int .i64 x.ver, .string x.text] 40) = W2 := ⟨_, rfl⟩
  have hB2 : Below w.heap.size w W2 := by rw [← hW2]; exact ext_alloc (ext_alloc (Below.refl _ _) _) _
  have hz2 : W2.heap.size = w.heap.size + 2 := by rw [← hW2]; simp
  have hx2 : W2.heap[w.heap.size + 1]? = some (.cells #[.int .i64 t, .int .i64 kd, .int .i64 x.id, .int .i64 x.ver, .string x.text] 40 (0, 0)) := by rw [← hW2]; exact galloc_at _ _ _ (by simp)
  have hrx : Rd W2 (some ⟨w.heap.size + 1, 0, none⟩) (Change.cells ⟨t, kd, x⟩) := grd_blk hx2 rfl
  have hown2 := hown.ext hB2
  have A1 : l.length + 1 ≤ maxLen := by unfold maxLen; omega
  have A2 : (l.length + 1) * 48 ≤ 140737488355328 := by omega
  have A3 : base ≤ W2.heap.size := by omega
  have hbp2 := (hB2.block bp np).trans hbp
  have Hown := Lib.hid hown
  have Hne := Lib.hid hne
  have HB2 := Lib.hid hB2
  clear hbp hbt hown hne hl hbb hx2
  go_enter Tryz.func19, Tryz.ntmps19
  go_wp2_with (at_builtin; refine wpList_append_rd rfl _ _ 25 rfl base 40 i0 _ 5 48 Tryz.underlying25 hi0 hz0 hs0 hb0 rfl (by decide) _ _ _ rfl (some ⟨w.heap.size + 1, 0, none⟩) 1 1 (Change.cells ⟨t, kd, x⟩) rfl hown2 rfl hrx (chg_one _) A1 A2 A3 ?_; intro v3 w3 hown3 hgrow3 hat3; obtain ⟨A3, cp3, rfl, hle3⟩ := own_room hown3; have hbp3 := (hgrow3.block bp (by omega) (fun e => Hne.out e.symm)).trans hbp2; have cb := cell_one hbp3; have fb := frozen_one hbp3 0)
  go_end0
  have hne3 : ∀ g, (Value.slice A3 (l.length + 1) cp3).ownBlock = some g → g ≠ bp := by
    rintro g hg rfl
    rcases hat3 with h | h
    · exact Hne.out (h.symm.trans hg)
    · rw [h] at hg; have := Option.some.inj hg; omega
  refine ⟨rfl, hgrow3.os.trans HB2.out.os, hgrow3.tape.trans HB2.out.tape, hgrow3.output.trans HB2.out.output, ?_, fun k hk hkb hkv => ?_, _, set_one hbp3 _, ?_, ?_⟩
  · have := hgrow3.size; simp; omega
  · exact (Below.heap_setCell _ _ _ _ hkb).trans ((hgrow3.block k (by omega) (fun e => hkv e.symm)).trans (HB2.out.block k hk))
  · exact (OwnL.snoc (f := Change.cells) ⟨t, kd, x⟩ hown3).block (fun g hg => Below.heap_setCell _ _ _ _ (hne3 g hg))
  · rcases hat3 with h | h
    · exact .inl h
    · exact .inr ⟨_, h, by omega⟩
end Go.Proofs.YtfbhfimejcdopaaGreatDoor

/- Package patches: Diff. -/
namespace Go.Proofs.YtfbhfimejcdopaaGreatDoor
open Go.RowKit Go.Han
attribute [local irreducible] wpStill wpQuiet
attribute [local go_sem] Oper.semAt_some
set_option maxRecDepth 100000

def DiffPost (a b : List Spot) (t : Int) (w : World) (e : Ending) (w' : World) : Prop :=
  Below w.heap.size w w' ∧ ((diffE a b t ≠ 0 ∧ e = .returned (.tuple #[.slice none 0 0, .int .i64 (diffE a b t)])) ∨ (diffE a b t = 0 ∧ ∃ v, e = .returned (.tuple #[v, .int .i64 0]) ∧ OwnL Change.cells 40 5 w' w.heap.size v (diffL t a b)))
/-- The three boxes: the time, the changes, the error. -/
structure St (t : Int) (w W : World) (p e : Value) : Prop where
  below : Below w.heap.size w W
  k0 : W.heap[w.heap.size]? = some (.cells #[.int .i64 t] 3 (0, 0))
  k1 : W.heap[w.heap.size + 1]? = some (.cells #[p] 25 (0, 0))
  k2 : W.heap[w.heap.size + 1 + 1]? = some (.cells #[e] 26 (0, 0))
theorem St.next {t : Int} {w W W' : World} {p e : Value} (h : St t w W p e) (hb : Below W.heap.size W W') : St t w W' p e :=
  ⟨ext_trans h.below hb, (hb.block _ (lt_block h.k0)).trans h.k0, (hb.block _ (lt_block h.k1)).trans h.k1, (hb.block _ (lt_block h.k2)).trans h.k2⟩
theorem St.setE {t : Int} {w W : World} {p e : Value} (h : St t w W p e) (v : Value) : St t w (W.setCell ⟨w.heap.size + 1 + 1, 0, none⟩ v) p v :=
  ⟨h.below.setCell (p := ⟨w.heap.size + 1 + 1, 0, none⟩) (by show w.heap.size ≤ w.heap.size + 1 + 1; omega) v, (Below.heap_setCell _ _ _ _ (by show w.heap.size ≠ w.heap.size + 1 + 1; omega)).trans h.k0, (Below.heap_setCell _ _ _ _ (by show w.heap.size + 1 ≠ w.heap.size + 1 + 1; omega)).trans h.k1, set_one h.k2 v⟩
theorem St.setP {t : Int} {w W : World} {p e : Value} (h : St t w W p e) (v : Value) : St t w (W.setCell ⟨w.heap.size + 1, 0, none⟩ v) v e :=
  ⟨h.below.setCell (p := ⟨w.heap.size + 1, 0, none⟩) (by simp) v, (Below.heap_setCell _ _ _ _ (by simp)).trans h.k0, set_one h.k1 v, (Below.heap_setCell _ _ _ _ (by simp)).trans h.k2⟩

theorem leavesM_now {P : Program} {fn : Func} {tmps : Array Value} {R : Ending → World → Prop} {W : World} {v : Value} (hres : (results fn tmps).run P W = .ok v W) (hR : R (.returned v) W) :
    LeavesInM Fence.wide 0 P fn tmps R [] .returning W := ⟨v, hres, hR⟩
theorem St.iter {t : Int} {w W W' : World} {p e : Value} {B0 : Nat} {own : Nat → Prop} (h : St t w W p e) (st : IterStep B0 (fun _ => False) own W W') (hB : w.heap.size < B0) (o1 : own (w.heap.size + 1)) (o2 : own (w.heap.size + 1 + 1)) : St t w W' p e :=
  ⟨⟨st.os.trans h.below.os, st.tape.trans h.below.tape, st.output.trans h.below.output, Nat.le_trans h.below.size st.size, fun k hk => (st.block k (Nat.lt_of_lt_of_le hk h.below.size) (.inl ⟨by omega, fun h => h⟩)).trans (h.below.block k hk)⟩,
   (st.block _ (lt_block h.k0) (.inl ⟨by omega, fun h => h⟩)).trans h.k0, (st.block _ (lt_block h.k1) (.inr o1)).trans h.k1, (st.block _ (lt_block h.k2) (.inr o2)).trans h.k2⟩
def addF (w : World) : Obj := .cells #[.func (.func 19) #[] #[.pointer (some ⟨w.heap.size + 1, 0, none⟩), .pointer (some ⟨w.heap.size, 0, none⟩)]] 43 (0, 0)
/-- Between two rounds. -/
def DInv (t : Int) (w : World) (b8 B0 : Nat) (own : Nat → Prop) (pre : List PairV) (W : World) : Prop :=
  ∃ v, (∀ k, own k ↔ (k = w.heap.size + 1 ∨ k = w.heap.size + 1 + 1 ∨ v.ownBlock = some k)) ∧ St t w W v (.int .i64 0) ∧ OwnL Change.cells 40 5 W B0 v (pre.flatMap (chgP t)) ∧ (∀ p ∈ pre, clashP p = false) ∧ W.heap[b8]? = some (addF w)
theorem d_stable (t : Int) (w : World) (b8 B0 : Nat) (h8 : b8 < B0) (h3 : w.heap.size + 1 + 1 < B0) : Stable B0 (fun _ => False) (DInv t w b8 B0) := by
  rintro own pre W W' ⟨v, ho, hs, hrow, hc, hb⟩ st
  exact ⟨v, ho, hs.iter st (by omega) ((ho _).2 (.inl rfl)) ((ho _).2 (.inr (.inl rfl))), hrow.block (fun g hg => st.block g (hrow.lt g hg).2 (.inr ((ho g).2 (.inr (.inr hg))))), hc, (st.block _ (lt_block hb) (.inl ⟨h8, fun h => h⟩)).trans hb⟩
/-- Where a clash was found. -/
def DIx (t : Int) (w : World) (a b : List Spot) (c : Code) (own : Nat → Prop) (_ : List PairV) (W : World) : Prop :=
  c = .ret ∧ own (w.heap.size + 1) ∧ own (w.heap.size + 1 + 1) ∧ St t w W (.slice none 0 0) (.int .i64 510) ∧ clashB a b = true
theorem dx_stable (t : Int) (w : World) (B0 : Nat) (a b : List Spot) (c : Code) (h3 : w.heap.size + 1 + 1 < B0) : Stable B0 (fun _ => False) (DIx t w a b c) := by
  rintro own pre W W' ⟨hc, o1, o2, hs, hcl⟩ st
  exact ⟨hc, o1, o2, hs.iter st (by omega) o1 o2, hcl⟩
def pairCells (x : PairV) : Array Value := #[.int .i64 x.old.id, .int .i64 x.old.ver, .string x.old.text, .int .i64 x.now.id, .int .i64 x.now.ver, .string x.now.text, .bool x.was, .bool x.is_]
/-- Ahead of a round. -/
def DAsg (t : Int) (w : World) (b8 B0 : Nat) (F : Value → Value → Array Value) (x : PairV) (a' : Act) (own : Nat → Prop) (pre : List PairV) (W : World) : Prop :=
  ∃ b own1, a' = { tmps := F (.pointer (some ⟨b, 0, none⟩)) (.agg (pairCells x)), defers := [] } ∧ (∀ k, own k ↔ (own1 k ∨ k = b)) ∧ W.heap[b]? = some (.cells (pairCells x) 48 (0, 0)) ∧ B0 ≤ b ∧ DInv t w b8 B0 own1 pre W
theorem flat_len1 (t : Int) : ∀ pre : List PairV, (pre.flatMap (chgP t)).length ≤ pre.length
  | [] => Nat.le_refl _
  | p :: pre => by
    rw [List.flatMap_cons, List.length_append, List.length_cons]
    have := chgP_len t p
    have := flat_len1 t pre
    omega
theorem d_add {t : Int} {w : World} {b8 B0 : Nat} {own own1 : Nat → Prop} {pre : List PairV} {x : PairV} {W W' : World} {v : Value} {c : Change} (hc : chgP t x = [c]) (hx : clashP x = false) (hsub : ∀ k, own1 k → own k)
    (ho : ∀ k, own1 k ↔ (k = w.heap.size + 1 ∨ k = w.heap.size + 1 + 1 ∨ v.ownBlock = some k)) (hs : St t w W v (.int .i64 0)) (hrow : OwnL Change.cells 40 5 W B0 v (pre.flatMap (chgP t)))
    (hcl : ∀ p ∈ pre, clashP p = false) (hb : W.heap[b8]? = some (addF w)) (h8 : b8 < B0) (h3 : w.heap.size + 1 + 1 < b8) (h : Added (w.heap.size + 1) B0 v (pre.flatMap (chgP t) ++ [c]) W W') :
    ∃ own', BodyStep own own' W W' ∧ DInv t w b8 B0 own' (pre ++ [x]) W' := by
  obtain ⟨v', hv', hr', hat⟩ := h.now
  have hlow : ∀ k, k < B0 → v.ownBlock ≠ some k := fun k hk e => by have := (hrow.lt k e).1; omega
  refine ⟨fun k => k = w.heap.size + 1 ∨ k = w.heap.size + 1 + 1 ∨ v'.ownBlock = some k, ⟨h.os, h.tape, h.output, h.size, fun k hk hno => h.block k hk ?_ ?_, fun k hk => ?_, fun k hk => ?_⟩, v', fun k => Iff.rfl, ⟨⟨h.os.trans hs.below.os, h.tape.trans hs.below.tape, h.output.trans hs.below.output, Nat.le_trans hs.below.size h.size, fun k hk => (h.block k (Nat.lt_of_lt_of_le hk hs.below.size) (by omega) (hlow k (by omega))).trans (hs.below.block k hk)⟩, ?_, hv', ?_⟩, ?_, ?_, ?_⟩
  · intro e; exact hno (hsub k ((ho k).2 (.inl e)))
  · intro e; exact hno (hsub k ((ho k).2 (.inr (.inr e))))
  · rcases hk with e | e | e
    · exact .inl (hsub k ((ho k).2 (.inl e)))
    · exact .inl (hsub k ((ho k).2 (.inr (.inl e))))
    · rcases hat with h1 | ⟨g, h1, h2⟩
      · exact .inl (hsub k ((ho k).2 (.inr (.inr (h1.symm.trans e)))))
      · rw [h1] at e; cases e; exact .inr h2
  · rcases hk with e | e | e
    · subst e; exact lt_block hv'
    · subst e; exact Nat.lt_of_lt_of_le (lt_block hs.k2) h.size
    · exact (hr'.lt k e).2
  · exact (h.block _ (lt_block hs.k0) (by omega) (hlow _ (by omega))).trans hs.k0
  · exact (h.block _ (lt_block hs.k2) (by omega) (hlow _ (by omega))).trans hs.k2
  · rw [List.flatMap_append, List.flatMap_cons, List.flatMap_nil, List.append_nil, hc]; exact hr'
  · intro p hp
    rcases List.mem_append.1 hp with hp | hp
    · exact hcl p hp
    · rw [List.mem_singleton] at hp; subst hp; exact hx
  · exact (h.block _ (lt_block hb) (by omega) (hlow _ h8)).trans hb
theorem d_same {t : Int} {w : World} {b8 B0 : Nat} {own1 : Nat → Prop} {pre : List PairV} {x : PairV} {W : World} (hc : chgP t x = []) (hx : clashP x = false) (h : DInv t w b8 B0 own1 pre W) : DInv t w b8 B0 own1 (pre ++ [x]) W := by
  obtain ⟨v, ho, hs, hrow, hcl, hb⟩ := h
  refine ⟨v, ho, hs, ?_, ?_, hb⟩
  · rw [List.flatMap_append, List.flatMap_cons, List.flatMap_nil, List.append_nil, hc, List.append_nil]; exact hrow
  · intro p hp
    rcases List.mem_append.1 hp with hp | hp
    · exact hcl p hp
    · rw [List.mem_singleton] at hp; subst hp; exact hx
theorem below_put {w W : World} {B D : Nat} (h : Below B w W) (hD : B ≤ D) (o : Obj) : Below B w (W.putObj D o) := ⟨h.os, h.tape, h.output, by rw [World.putObj_size]; exact h.size, fun k hk => (World.putObj_heap_other (by omega)).trans (h.block k hk)⟩
theorem timeB_neg {t : Int} (h : t < 0) : timeB t = false := by unfold timeB; rw [decide_eq_false (by omega)]; rfl
theorem timeB_big {t : Int} (h : 1099511627776 ≤ t) : timeB t = false := by unfold timeB; rw [decide_eq_false (p := t < 1099511627776) (by omega)]; simp
theorem timeB_ok {t : Int} (h : 0 ≤ t) (h' : t < 1099511627776) : timeB t = true := by unfold timeB; rw [decide_eq_true h, decide_eq_true h']; rfl
theorem diffE_a {a b : List Spot} {t : Int} (h : checkE a ≠ 0) : diffE a b t = checkE a := by unfold diffE; rw [if_pos h]
theorem diffE_b {a b : List Spot} {t : Int} (h : checkE a = 0) (h' : checkE b ≠ 0) : diffE a b t = checkE b := by unfold diffE; rw [if_neg (by simpa using h), if_pos h']
theorem diffE_t {a b : List Spot} {t : Int} (h : checkE a = 0) (h' : checkE b = 0) (ht : timeB t = false) : diffE a b t = 1 := by unfold diffE; rw [if_neg (by simpa using h), if_neg (by simpa using h'), if_pos ht]
theorem diffE_c {a b : List Spot} {t : Int} (h : checkE a = 0) (h' : checkE b = 0) (ht : timeB t = true) : diffE a b t = if clashB a b = true then 510 else 0 := by unfold diffE; rw [if_neg (by simpa using h), if_neg (by simpa using h'), if_neg (by rw [ht]; simp)]
theorem flat_nil {l : List Spot} (h : flat l = []) : l = [] := by
  cases l with
  | nil => rfl
  | cons x l => have := congrArg List.length h; simp [flat, Spot.cells] at this
theorem rd_low {w W : World} {A : Option Addr} {xs : List Value} (h : Rd w A xs) (hz : w.heap.size ≤ W.heap.size) (hl : ∀ k, k < w.heap.size → W.heap[k]? = w.heap[k]?) : Rd W A xs := by
  rcases h with h | ⟨b, off, he, hb, hc⟩
  · exact .inl h
  · exact .inr ⟨b, off, he, by omega, fun j u hu => (World.cell?_of_block (w := w) (a := ⟨b, off + j, none⟩) (hl b hb)).trans (hc j u hu)⟩
set_option maxHeartbeats 2000000 in
theorem Diff51_any (A : Option Addr) (cp : Nat) (a : List Spot) (B : Option Addr) (cq : Nat) (b : List Spot) (t : Int) (w : World) (hT : Tabs w) (hr : Rd w A (flat a)) (hm : a.length ≤ 9223372036854775807) (hr' : Rd w B (flat b)) (hm' : b.length ≤ 9223372036854775807) :
    Calls Tryz.prog 7 #[.slice A a.length cp, .slice B b.length cq, .int .i64 t] w (DiffPost a b t w) := by
  have cA := Lib.hid (fun W (h : Below w.heap.size w W) => Check_any A cp a W (utf_ext hT h) (hr.ext h) hm)
  have cB := Lib.hid (fun W (h : Below w.heap.size w W) => Check_any B cq b W (utf_ext hT h) (hr'.ext h) hm')
  have HR := Lib.hid hr
  have HR' := Lib.hid hr'
  clear hT hr hr'
  have hmf : ∀ (fn : Fn) (first cap : Array Value) (w : World), (Instr.makeFunc fn first cap).run Tryz.prog w = .ok (.func fn first cap) w := fun _ _ _ _ => rfl
  refine calls_of_wpAt Tryz.func7 rfl ?_
  simp only [Tryz.ntmps7, List.size_toArray, List.length_cons, List.length_nil, Nat.reduceAdd, Nat.reduceSub, Array.replicate_succ, Array.replicate_zero, List.push_toArray, List.append_toArray, List.nil_append, List.cons_append]
  refine wpAt_seq_wp fun K1 hK1 => ?_
  go_wp2_with fail
  obtain ⟨W0, hW0⟩ : ∃ W0, ((w.alloc (.cells #[.int .i64 t] 3)).alloc (.cells #[.slice none 0 0] 25)).alloc (.cells #[.int .i64 0] 26) = W0 := ⟨_, rfl⟩
  have hs0 : St t w W0 (.slice none 0 0) (.int .i64 0) := by
    rw [← hW0]
    refine ⟨ext_alloc (ext_alloc (ext_alloc (Below.refl _ _) _) _) _, ?_, ?_, ?_⟩
    · exact (Below.heap_alloc _ _ _ (by simp; omega)).trans ((Below.heap_alloc _ _ _ (by simp)).trans (galloc_at _ _ _ rfl))
    · exact (Below.heap_alloc _ _ _ (by simp)).trans (galloc_at _ _ _ (by simp))
    · exact galloc_at _ _ _ (by simp)
  rw [hW0]
  refine wpAt_seq_wp fun K2 hK2 => ?_
  go_wp2_with fail
  refine (cA.out W0 hs0.below).mono ?_
  rintro e W1 ⟨rfl, hb1⟩
  have hs1 := hs0.next hb1
  have c2 := cell_one hs1.k2
  have f2 := frozen_one hs1.k2 0
  have c1 := cell_one hs1.k1
  have f1 := frozen_one hs1.k1 0
  by_cases hca : checkE a = 0
  · have Hca := Lib.hid hca
    rw [hca]
    have hs1' := hs1.setE (.int .i64 0)
    obtain ⟨W2, hW2⟩ : ∃ W2, W1.setCell ⟨w.heap.size + 1 + 1, 0, none⟩ (.int .i64 0) = W2 := ⟨_, rfl⟩
    rw [hW2] at hs1'
    have c2' := cell_one hs1'.k2
    clear hca
    go_wp2_with fail
    refine wpAt_seq_wp fun K3 hK3 => ?_
    go_wp2_with fail
    refine (cB.out W2 hs1'.below).mono ?_
    rintro e W3 ⟨rfl, hb3⟩
    have hs3 := hs1'.next hb3
    clear c1 c2 f1 f2 hs1 hb1 hs1' hb3 hs0 c2'
    have c2 := cell_one hs3.k2
    have f2 := frozen_one hs3.k2 0
    have c1 := cell_one hs3.k1
    have f1 := frozen_one hs3.k1 0
    by_cases hcb : checkE b = 0
    · have Hcb := Lib.hid hcb
      rw [hcb]
      have hs3' := hs3.setE (.int .i64 0)
      obtain ⟨W4, hW4⟩ : ∃ W4, W3.setCell ⟨w.heap.size + 1 + 1, 0, none⟩ (.int .i64 0) = W4 := ⟨_, rfl⟩
      rw [hW4] at hs3'
      have c2' := cell_one hs3'.k2
      clear hcb
      go_wp2_with fail
      clear c1 c2 f1 f2 hs3 hW2 hW0 c2'
      have c0 := cell_one hs3'.k0
      have c1 := cell_one hs3'.k1
      have f1 := frozen_one hs3'.k1 0
      have c2 := cell_one hs3'.k2
      have f2 := frozen_one hs3'.k2 0
      refine wpAt_seq_wp fun K4 hK4 => ?_
      by_cases ht1 : t < 0
      · have HF := Lib.hid (diffE_t Hca.out Hcb.out (timeB_neg ht1))
        have g1 : decide (t < 0) = true := decide_eq_true ht1
        clear ht1
        go_wp2_with fail
        have hfin := (hs3'.setP (.slice none 0 0)).setE (.int .i64 1)
        refine leavesM_now (v := .tuple #[.slice none 0 0, .int .i64 1]) ?_ ⟨hfin.below, .inl ⟨by rw [HF.out]; decide, by rw [HF.out]⟩⟩
        have g1 := cell_one hfin.k1
        have g2 := cell_one hfin.k2
        simp [results, Tryz.results7, go_sem, g1, g2]
      have g1 : decide (t < 0) = false := decide_eq_false ht1
      by_cases ht2 : 1099511627776 ≤ t
      · have HF := Lib.hid (diffE_t Hca.out Hcb.out (timeB_big ht2))
        have g2 : decide (t ≥ 1099511627776) = true := decide_eq_true ht2
        clear ht1 ht2
        go_wp2_with fail
        have hfin := (hs3'.setP (.slice none 0 0)).setE (.int .i64 1)
        refine leavesM_now (v := .tuple #[.slice none 0 0, .int .i64 1]) ?_ ⟨hfin.below, .inl ⟨by rw [HF.out]; decide, by rw [HF.out]⟩⟩
        have g1 := cell_one hfin.k1
        have g2 := cell_one hfin.k2
        simp [results, Tryz.results7, go_sem, g1, g2]
      have g2 : decide (t ≥ 1099511627776) = false := decide_eq_false ht2
      have HF := Lib.hid (diffE_c (t := t) Hca.out Hcb.out (timeB_ok (by omega) (by omega)))
      have HTB : Hid (timeB t = true) := timeB_ok (by omega) (by omega)
      clear ht1 ht2 hmf
      go_wp2_with fail
      clear g1 g2
      have hmf : ∀ (fn : Fn) (first cap : Array Value) (w : World), (Instr.makeFunc fn first cap).run Tryz.prog w = .ok (.func fn first cap) w := fun _ _ _ _ => rfl
      refine wpAt_seq_wp fun K5 hK5 => ?_
      go_wp2_with fail
      obtain ⟨W5, hW5⟩ : ∃ W5, W4.alloc (.cells #[.func (.func 19) #[] #[.pointer (some ⟨w.heap.size + 1, 0, none⟩), .pointer (some ⟨w.heap.size, 0, none⟩)]] 43) = W5 := ⟨_, rfl⟩
      have hb45 : Below W4.heap.size W4 W5 := by rw [← hW5]; exact ext_alloc (Below.refl _ _) _
      have hz5 : W5.heap.size = W4.heap.size + 1 := by rw [← hW5]; simp
      have hx5 : W5.heap[W4.heap.size]? = some (.cells #[.func (.func 19) #[] #[.pointer (some ⟨w.heap.size + 1, 0, none⟩), .pointer (some ⟨w.heap.size, 0, none⟩)]] 43 (0, 0)) := by rw [← hW5]; exact World.alloc_heap_new _ _
      rw [hW5]
      have hs5 := hs3'.next hb45
      clear hW4 hW5 hmf c0 c1 c2 f1 f2
      refine wpAt_seq ?_
      refine wpAt_seq_wp fun K6 hK6 => ?_
      go_wp2_with fail
      refine (pairs_any A a.length cp B b.length cq W5).mono ?_
      rintro e W6 ⟨rfl, hW6⟩
      have hb56 : Below W5.heap.size W5 W6 := by rw [← hW6]; exact ext_alloc (ext_alloc (Below.refl _ _) _) _
      have hz6 : W6.heap.size = W5.heap.size + 2 := by rw [← hW6]; simp
      have hp1 : W6.heap[W5.heap.size]? = some (.cells #[.slice A a.length cp] 22 (0, 0)) := by rw [← hW6]; exact (Below.heap_alloc _ _ _ (by simp)).trans (galloc_at _ _ _ rfl)
      have hp2 : W6.heap[W5.heap.size + 1]? = some (.cells #[.slice B b.length cq] 22 (0, 0)) := by rw [← hW6]; exact galloc_at _ _ _ (by simp)
      have hs6 := hs5.next hb56
      have hx6 := (hb56.block _ (lt_block hx5)).trans hx5
      clear hW6
      go_wp2_with fail
      refine wpAt_block ?_
      rw [hz5] at hp1 hp2 hz6
      have hA6 := HR.out.ext hs6.below
      have hB6 := HR'.out.ext hs6.below
      have hlt2 := lt_block hs6.k2
      have hlt2' := lt_block hs3'.k2
      have hAb : ∀ a', A = some a' → a ≠ [] → a'.block < w.heap.size := by
        intro a' ha' hne
        rcases HR.out with h0 | ⟨bb, off, he, hb, _⟩
        · exact absurd (flat_nil h0) hne
        · rw [he] at ha'; cases ha'; exact hb
      have hBb : ∀ a', B = some a' → b ≠ [] → a'.block < w.heap.size := by
        intro a' ha' hne
        rcases HR'.out with h0 | ⟨bb, off, he, hb, _⟩
        · exact absurd (flat_nil h0) hne
        · rw [he] at ha'; cases ha'; exact hb
      have hK : ∀ W : World, (∀ k, (k < W6.heap.size ∧ k ≠ w.heap.size + 1 ∧ k ≠ w.heap.size + 1 + 1) → W.heap[k]? = W6.heap[k]?) → W.heap[W4.heap.size + 1]? = some (.cells #[.slice A a.length cp] 22 (0, 0)) ∧ W.heap[W4.heap.size + 1 + 1]? = some (.cells #[.slice B b.length cq] 22 (0, 0)) ∧ Rd W A (flat a) ∧ Rd W B (flat b) := by
        intro W hW
        have r2 := (hW (W4.heap.size + 1 + 1) ⟨by omega, by omega, by omega⟩).trans hp2
        have hszW : w.heap.size ≤ W.heap.size := by have := lt_block r2; omega
        have hlow : ∀ k, k < w.heap.size → W.heap[k]? = w.heap[k]? := fun k hk => (hW k ⟨by omega, by omega, by omega⟩).trans (hs6.below.block k hk)
        exact ⟨(hW (W4.heap.size + 1) ⟨by omega, by omega, by omega⟩).trans hp1, r2, rd_low HR.out hszW hlow, rd_low HR'.out hszW hlow⟩
      have hit := pairs1 (W4.heap.size + 1) (W4.heap.size + 1 + 1) A B cp cq a b (fun k => k < W6.heap.size ∧ k ≠ w.heap.size + 1 ∧ k ≠ w.heap.size + 1 + 1) W6 hK Hca.out Hcb.out
      have haa := ((checkE_iff a).1 Hca.out).2.2
      have hbb := ((checkE_iff b).1 Hcb.out).2.2
      have hok := Lib.hid (fun p h => pair_ok haa hbb (p := p) h)
      have HUL := Lib.hid (union_le Hca.out Hcb.out)
      clear hK hp1 hp2 hA6 hB6
      refine wp_rangeP (xs := (unionI a b).map (pairOf a b)) (pe := none) (R := fun k => k < W6.heap.size ∧ k ≠ w.heap.size + 1 ∧ k ≠ w.heap.size + 1 + 1) (M := fun _ => False) (w0 := W6) Tryz.func7 rfl
        (enters_of Tryz.func29 (by kernel_rfl) rfl) hit (fun k hk => ⟨hk.1, rfl⟩) (fun _ => rfl)
        (DInv t w W4.heap.size W6.heap.size) (DIx t w a b) (fun _ _ => False)
        (d_stable _ _ _ _ (by omega) (by omega)) (fun c => dx_stable _ _ _ _ _ c (by omega)) (fun k => k = w.heap.size + 1 ∨ k = w.heap.size + 1 + 1) ?_ ?_
        (DAsg t w W4.heap.size W6.heap.size (fun p v => #[.slice A a.length cp, .slice B b.length cq, .int .i64 t, undef, undef, .pointer (some ⟨w.heap.size, 0, none⟩), .pointer (some ⟨w.heap.size + 1, 0, none⟩), .pointer (some ⟨w.heap.size + 1 + 1, 0, none⟩), .pointer (some ⟨W4.heap.size, 0, none⟩), p, .slice A a.length cp, .int .i64 0, .int .i64 0, .bool false, undef, .slice B b.length cq, .int .i64 0, .int .i64 0, .bool false, undef, .int .i64 t, .bool false, .bool false, .int .i64 t, .bool false, .bool false, .func (.func 19) #[] #[.pointer (some ⟨w.heap.size + 1, 0, none⟩), .pointer (some ⟨w.heap.size, 0, none⟩)], .slice A a.length cp, .slice B b.length cq, .func (.func 29) #[] #[.pointer (some ⟨W4.heap.size + 1, 0, none⟩), .pointer (some ⟨W4.heap.size + 1 + 1, 0, none⟩)], v, undef, undef, undef, undef, undef, undef, undef, undef, undef, undef, undef, undef, undef, undef, undef, undef, undef, undef, undef, undef, undef, undef, undef, undef, undef, undef, undef, undef, undef, undef, undef, undef, undef, undef, undef])) ?_ ?_ ?_ ?_ ?_ ?_ ?_
      · rintro k (rfl | rfl)
        · exact ⟨by omega, fun h => h.2.1 rfl⟩
        · exact ⟨by omega, fun h => h.2.2 rfl⟩
      · exact ⟨_, fun k => by simp [Value.ownBlock], hs6, OwnL.nil _ _ _ _ _, by simp, hx6⟩
      · rintro x a' own pre W W' ⟨b', own1, ha, ho, hb, hB, hI⟩ st
        exact ⟨b', own1, ha, ho, (st.block b' (lt_block hb) (.inr ((ho b').2 (.inr rfl)))).trans hb, hB, d_stable _ _ _ _ (by omega) (by omega) own1 pre W W' hI ⟨st.os, st.tape, st.output, st.size, fun k hk h => st.block k hk (h.imp id (fun h => (ho k).2 (.inl h)))⟩⟩
      · rintro l1 own pre x W hI hl1 hl2 ho hpre
        refine wpIn_mono (Q := Exit.then (fun a' W' => ∃ own', BodyStep own own' W W' ∧ DAsg t w W4.heap.size W6.heap.size (fun p v => #[.slice A a.length cp, .slice B b.length cq, .int .i64 t, undef, undef, .pointer (some ⟨w.heap.size, 0, none⟩), .pointer (some ⟨w.heap.size + 1, 0, none⟩), .pointer (some ⟨w.heap.size + 1 + 1, 0, none⟩), .pointer (some ⟨W4.heap.size, 0, none⟩), p, .slice A a.length cp, .int .i64 0, .int .i64 0, .bool false, undef, .slice B b.length cq, .int .i64 0, .int .i64 0, .bool false, undef, .int .i64 t, .bool false, .bool false, .int .i64 t, .bool false, .bool false, .func (.func 19) #[] #[.pointer (some ⟨w.heap.size + 1, 0, none⟩), .pointer (some ⟨w.heap.size, 0, none⟩)], .slice A a.length cp, .slice B b.length cq, .func (.func 29) #[] #[.pointer (some ⟨W4.heap.size + 1, 0, none⟩), .pointer (some ⟨W4.heap.size + 1 + 1, 0, none⟩)], v, undef, undef, undef, undef, undef, undef, undef, undef, undef, undef, undef, undef, undef, undef, undef, undef, undef, undef, undef, undef, undef, undef, undef, undef, undef, undef, undef, undef, undef, undef, undef, undef, undef, undef, undef]) x a' own' pre W') (fun _ _ _ => False)) ?_ (fun e a w h => h)
        have hlv : ∀ k, own k → k < W.heap.size := fun k hk => (ho k hk).2.1
        unfold encP
        gi_wp2
        refine ⟨fun k => own k ∨ k = W.heap.size, BodyStep.turn ((BodyStep.refl hlv).alloc _) ?_ ?_, W.heap.size, own, rfl, fun k => Iff.rfl, World.alloc_heap_new _ _, by omega, ?_⟩
        · rintro k (h | h)
          · exact .inl h
          · exact .inr (by omega)
        · rintro k (h | h)
          · have := hlv k h; simp; omega
          · simp; omega
        · exact d_stable _ _ _ W6.heap.size (by omega) (by omega) own pre W _ hI ((IterStep.refl _ _ _ _).alloc _)
      · rintro l1 own pre x a' W ⟨b', own1, rfl, hoi, hb, hB', hI⟩ hl1 hl2 ho hpre
        have hlv : ∀ k, own k → k < W.heap.size := fun k hk => (ho k hk).2.1
        have hsub : ∀ k, own1 k → own k := fun k hk => (hoi k).2 (.inl hk)
        have hlv1 : ∀ k, own1 k → k < W.heap.size := fun k hk => hlv k (hsub k hk)
        have hpo := hok.out x (hpre.subset (by simp))
        have hxcl := Lib.hid (fun h => clash_pairs (a := a) (b := b) (p := x) (hpre.subset (by simp)) h)
        have hl3 := hpre.length_le
        rw [List.length_append, List.length_map] at hl3
        have hfl := flat_len1 t pre
        have hul := HUL.out
        have HI := Lib.hid hI
        have Hst1 : Hid (BodyStep own own1 W W) := BodyStep.turn (BodyStep.refl hlv) (fun k hk => .inl (hsub k hk)) hlv1
        obtain ⟨v, hov, hs, hrow, hcl, h8⟩ := hI
        have hne : v.ownBlock ≠ some (w.heap.size + 1) := fun e => by have := (hrow.lt _ e).1; omega
        have hlW : W6.heap.size ≤ W.heap.size := by omega
        have cAdd := Lib.hid (fun kd y => add51_any (w.heap.size + 1) w.heap.size W6.heap.size v (pre.flatMap (chgP t)) t kd y W hs.k1 hs.k0 hrow (by omega) hne hlW)
        have hadd := Lib.hid (fun c hc hx W' hA => d_add (c := c) (W' := W') (x := x) hc hx hsub hov hs hrow hcl h8 (by omega) (by omega) hA)
        have c8 : W.cell? ⟨W4.heap.size, 0, none⟩ = some (.func (.func 19) #[] #[.pointer (some ⟨w.heap.size + 1, 0, none⟩), .pointer (some ⟨w.heap.size, 0, none⟩)]) := cell_one h8
        have hsame := Lib.hid (fun h1 h2 => d_same (x := x) h1 h2 HI.out)
        have k1 := hs.k1
        have k2 := hs.k2
        have Hs := Lib.hid hs
        have Ho1 : Hid (own (w.heap.size + 1) ∧ own (w.heap.size + 1 + 1)) := ⟨hsub _ ((hov _).2 (.inl rfl)), hsub _ ((hov _).2 (.inr (.inl rfl)))⟩
        clear hov hrow hcl h8 hs hpre hit hfl hl3 hul hne haa hbb
        have e0 := gblk hb 0
        have e1 := gblk hb 1
        have e2 := gblk hb 2
        have e3 := gblk hb 3
        have e4 := gblk hb 4
        have e5 := gblk hb 5
        have e6 := gblk hb 6
        have e7 := gblk hb 7
        obtain ⟨⟨i1, v1, s1⟩, ⟨i2, v2, s2⟩, q1, q2⟩ := x
        simp only [pairCells] at e0 e1 e2 e3 e4 e5 e6 e7
        obtain ⟨hsome, hsameid⟩ := hpo
        simp only at hsome hsameid
        cases q2
        · obtain rfl : q1 = true := by simpa using hsome
          have h1 := Lib.hid (hadd.out ⟨t, 2, ⟨i1, v1, s1⟩⟩ rfl rfl)
          clear hadd hsame hsome hsameid
          simp only [pairCells]
          gi_wp2_with fail
          refine ⟨trivial, rfl, (callsIn_wide.2 (cAdd.out 2 ⟨i1, v1, s1⟩)).mono ?_⟩
          rintro e W' ⟨rfl, hA⟩
          gi_wp2_with fail
          exact h1.out W' hA
        cases q1
        · have h1 := Lib.hid (hadd.out ⟨t, 1, ⟨i2, v2, s2⟩⟩ rfl rfl)
          clear hadd hsame hsome hsameid
          simp only [pairCells]
          gi_wp2_with fail
          refine ⟨trivial, rfl, (callsIn_wide.2 (cAdd.out 1 ⟨i2, v2, s2⟩)).mono ?_⟩
          rintro e W' ⟨rfl, hA⟩
          gi_wp2_with fail
          exact h1.out W' hA
        have hid : i1 = i2 := hsameid rfl rfl
        subst hid
        by_cases hv : v1 = v2
        · subst hv
          have hv2 : (v1 != v1) = false := by simp
          by_cases ht : s1 = s2
          · subst ht
            have h1 := Lib.hid (hsame.out (by show (if v1 = v1 then [] else _) = []; rw [if_pos rfl]) (by show (decide (v1 = v1) && !decide (s1 = s1)) = false; simp))
            have hq := fun w => run_equalIn_spot i1 v1 i1 v1 s1 s1 w
            have hqq : ((⟨i1, v1, s1⟩ : Spot) == ⟨i1, v1, s1⟩) = true := by simp
            rw [hqq] at hq
            clear hadd hsame hsome hsameid hqq
            simp only [pairCells]
            gi_wp2_with fail
            exact ⟨own1, Hst1.out, h1.out⟩
          · have hcl := Lib.hid (hxcl.out (by show (decide (v1 = v1) && !decide (s1 = s2)) = true; simp [ht]))
            have hq := fun w => run_equalIn_spot i1 v1 i1 v1 s1 s2 w
            have hqq : ((⟨i1, v1, s1⟩ : Spot) == ⟨i1, v1, s2⟩) = false := by simpa using ht
            rw [hqq] at hq
            have f1 := frozen_one k1 0
            have f2 := frozen_one k2 0
            have c1 := cell_one k1
            have c2 := cell_one k2
            clear hadd hsame hsome hsameid hqq ht
            simp only [pairCells]
            gi_wp2_with fail
            have hst := ((BodyStep.refl hlv).setCell (p := ⟨w.heap.size + 1, 0, none⟩) (.inl Ho1.out.1) (.slice none 0 0)).setCell (p := ⟨w.heap.size + 1 + 1, 0, none⟩) (.inl Ho1.out.2) (.int .i64 510)
            exact ⟨own, hst, rfl, Ho1.out.1, Ho1.out.2, (Hs.out.setP _).setE _, hcl.out⟩
        · have hv2 : (v1 == v2) = false := by simpa using hv
          have h1 := Lib.hid (hadd.out ⟨t, 3, ⟨i1, v2, s2⟩⟩ (by show (if v1 = v2 then [] else _) = _; rw [if_neg hv]) (by show (decide (v1 = v2) && _) = false; rw [decide_eq_false hv]; rfl))
          clear hadd hsame hsome hsameid hv
          simp only [pairCells]
          gi_wp2_with fail
          refine ⟨trivial, rfl, (callsIn_wide.2 (cAdd.out 3 ⟨i1, v2, s2⟩)).mono ?_⟩
          rintro e W' ⟨rfl, hA⟩
          gi_wp2_with fail
          exact h1.out W' hA
      · rintro D own W hD hpn ⟨v, hov, hs, hrow, hcl, h8⟩ hdef
        have hcb := clash_pairs_no haa hbb hcl
        have hdl : diffL t a b = ((unionI a b).map (pairOf a b)).flatMap (chgP t) := by rw [diffK_pairs]; exact (diff_union t a b haa hbb).2
        unfold OwnL at hrow
        rw [← hdl] at hrow
        obtain ⟨An, cn, rfl, _⟩ := own_room hrow
        have c1 := cell_one hs.k1
        have c2 := cell_one hs.k2
        have f1 := frozen_one hs.k1 0
        have f2 := frozen_one hs.k2 0
        have Hs := Lib.hid hs
        have Hcb := Lib.hid hcb
        have Hdl := Lib.hid hdl
        have Hrow := Lib.hid hrow
        have Hdef := Lib.hid hdef
        have HZ := Lib.hid (show diffE a b t = 0 by rw [HF.out, hcb]; rfl)
        clear hs hcb hdl hrow hdef hov hcl h8 hit
        refine wpAt_wp ?_
        go_wp2_with fail
        have hfin := (Hs.out.setP (.slice An (diffL t a b).length cn)).setE (.int .i64 0)
        have hD1 : D ≠ w.heap.size + 1 := by omega
        have hD2 : D ≠ w.heap.size + 1 + 1 := by omega
        have eD : ((W.setCell ⟨w.heap.size + 1, 0, none⟩ (.slice An (diffL t a b).length cn)).setCell ⟨w.heap.size + 1 + 1, 0, none⟩ (.int .i64 0)).heap[D]? = some (.deferred (some [])) := (Below.heap_setCell _ _ _ _ hD2).trans ((Below.heap_setCell _ _ _ _ hD1).trans Hdef.out)
        have hro : OwnL Change.cells 40 5 ((W.setCell ⟨w.heap.size + 1, 0, none⟩ (.slice An (diffL t a b).length cn)).setCell ⟨w.heap.size + 1 + 1, 0, none⟩ (.int .i64 0)) W6.heap.size (.slice An (diffL t a b).length cn) (diffL t a b) :=
          OwnL.block (f := Change.cells) Hrow.out (fun g hg => by
            have := (World.ownsRow.lt Hrow.out g hg).1
            exact (Below.heap_setCell _ _ _ _ (by show g ≠ w.heap.size + 1 + 1; omega)).trans (Below.heap_setCell _ _ _ _ (by show g ≠ w.heap.size + 1; omega)))
        generalize (W.setCell ⟨w.heap.size + 1, 0, none⟩ (.slice An (diffL t a b).length cn)).setCell ⟨w.heap.size + 1 + 1, 0, none⟩ (.int .i64 0) = W8 at *
        have x1 := cell_one ((World.putObj_heap_other (w := W8) (r := D) (k := w.heap.size + 1) (o := .deferred none) (by omega)).trans hfin.k1)
        have x2 := cell_one ((World.putObj_heap_other (w := W8) (r := D) (k := w.heap.size + 1 + 1) (o := .deferred none) (by omega)).trans hfin.k2)
        refine leavesM_ret (W := W8) (v := .tuple #[.slice An (diffL t a b).length cn, .int .i64 0]) eD ?_ ⟨below_put hfin.below (by omega) _, .inr ⟨HZ.out, _, rfl, ?_⟩⟩
        · simp [results, Tryz.results7, go_sem, x1, x2]
        · have h9 : OwnL Change.cells 40 5 (W8.putObj D (.deferred none)) W6.heap.size (.slice An (diffL t a b).length cn) (diffL t a b) := ownsRow_putObj hro (.deferred none) eD rfl
          exact OwnL.mono h9 (by omega)
      · rintro D own c pre W hD hpre ⟨rfl, o1, o2, hs, hcl⟩ hdef
        have Hs := Lib.hid hs
        have HZ := Lib.hid (show diffE a b t = 510 by rw [HF.out, hcl]; rfl)
        have hlow := lt_block hs6.k2
        clear hs hcl hit
        refine wpAt_wp ?_
        go_wp2_with fail
        have x1 := cell_one ((World.putObj_heap_other (w := W) (r := D) (k := w.heap.size + 1) (o := .deferred none) (by omega)).trans Hs.out.k1)
        have x2 := cell_one ((World.putObj_heap_other (w := W) (r := D) (k := w.heap.size + 1 + 1) (o := .deferred none) (by omega)).trans Hs.out.k2)
        refine leavesM_ret (W := W) (v := .tuple #[.slice none 0 0, .int .i64 510]) hdef ?_ ⟨below_put Hs.out.below (by omega) _, .inl ⟨by rw [HZ.out]; decide, by rw [HZ.out]⟩⟩
        simp [results, Tryz.results7, go_sem, x1, x2]
      · rintro D ch W hD h
        exact h.elim
      · rintro D own ch W hD hpn
        cases hpn
    · have n2 : (checkE b == 0) = false := by simpa using hcb
      have HF := Lib.hid (diffE_b (t := t) Hca.out hcb)
      have Hcb := Lib.hid hcb
      clear hcb
      go_wp2_with fail
      go_region
      all_goals
        go_wp2
        have hfin := (((hs3.setE (.int .i64 (checkE b))).setP (.slice none 0 0)).setE (.int .i64 (checkE b)))
        refine leavesM_now (v := .tuple #[.slice none 0 0, .int .i64 (checkE b)]) ?_ ⟨hfin.below.drew, .inl ⟨by rw [HF.out]; exact Hcb.out, by rw [HF.out]⟩⟩
        have g1 := cell_one hfin.k1
        have g2 := cell_one hfin.k2
        simp [results, Tryz.results7, go_sem, g1, g2]
  · have n1 : (checkE a == 0) = false := by simpa using hca
    have HF : Hid (diffE a b t = checkE a) := by show _ = _; exact diffE_a hca
    have Hca := Lib.hid hca
    clear hca
    go_wp2_with fail
    go_region
    all_goals
      go_wp2
      have hfin := (((hs1.setE (.int .i64 (checkE a))).setP (.slice none 0 0)).setE (.int .i64 (checkE a)))
      refine leavesM_now (v := .tuple #[.slice none 0 0, .int .i64 (checkE a)]) ?_ ⟨hfin.below.drew, .inl ⟨by rw [HF.out]; exact Hca.out, by rw [HF.out]⟩⟩
      have g1 := cell_one hfin.k1
      have g2 := cell_one hfin.k2
      simp [results, Tryz.results7, go_sem, g1, g2]
end Go.Proofs.YtfbhfimejcdopaaGreatDoor

/- Package patches: Then. -/
namespace Go.Proofs.YtfbhfimejcdopaaGreatDoor
open Go.RowKit Go.Han
attribute [local irreducible] wpStill wpQuiet
set_option maxRecDepth 100000

def ThenPost (a : List Spot) (p q : List Change) (w : World) (e : Ending) (w' : World) : Prop :=
  Below w.heap.size w w' ∧ ((thenE a p q ≠ 0 ∧ e = .returned (.tuple #[.slice none 0 0, .int .i64 (thenE a p q)])) ∨ (thenE a p q = 0 ∧ ∃ A cp, e = .returned (.tuple #[.slice A (thenO a p q).length cp, .int .i64 0]) ∧ Rd w' A (cflat (thenO a p q))))
theorem lastAt_eq {p q : List Change} {n : Nat} (hn : p.length + q.length = n + 1) : ∃ (h : n < (p ++ q).length), lastAt p q = (p ++ q)[n].at_ := by
  have h : n < (p ++ q).length := by simp; omega
  refine ⟨h, ?_⟩
  unfold lastAt
  rw [List.getLast?_eq_getElem?]
  have e : (p ++ q).length - 1 = n := by simp; omega
  rw [e, List.getElem?_eq_getElem h]
  rfl
theorem applyO_check {a : List Spot} {p : List Change} (h : applyE a p = 0) : checkE (applyO a p) = 0 := by
  obtain ⟨h1, _, h3⟩ := applyE_zero h
  exact appR_check _ _ _ h1 h3
set_option maxHeartbeats 2000000 in
theorem Then_any (A : Option Addr) (cp : Nat) (a : List Spot) (B : Option Addr) (cb : Nat) (p : List Change) (C : Option Addr) (cc : Nat) (q : List Change) (w : World) (hT : Tabs w) (hr : Rd w A (flat a)) (hA : A = none → a = []) (hm : a.length ≤ 9223372036854775807)
    (hrp : Rd w B (cflat p)) (hmp : p.length ≤ 9223372036854775807) (hrq : Rd w C (cflat q)) (hmq : q.length ≤ 9223372036854775807) :
    Calls Tryz.prog 13 #[.slice A a.length cp, .slice B p.length cb, .slice C q.length cc] w (ThenPost a p q w) := by
  have cP := Lib.hid (fun W (h : Below w.heap.size w W) => Apply_any A cp a B cb p W (utf_ext hT h) (hr.ext h) hA hm (hrp.ext h) hmp)
  have cQ := Lib.hid (fun W (h : Below w.heap.size w W) A' cp' l (h1 : Rd W A' (flat l)) h2 h3 => Apply_any A' cp' l C cc q W (utf_ext hT h) h1 h2 h3 (hrq.ext h) hmq)
  have cD := Lib.hid (fun W (h : Below w.heap.size w W) A' cp' l t (h1 : Rd W A' (flat l)) h3 => Diff51_any A cp a A' cp' l t W (utf_ext hT h) (hr.ext h) hm h1 h3)
  have Hrp := Lib.hid hrp
  have Hrq := Lib.hid hrq
  clear hr hA hrp hrq
  go_enter Tryz.func13, Tryz.ntmps13
  go_wp2_with fail
  refine (cP.out w (Below.refl _ _)).mono ?_
  rintro e w1 ⟨hb1, h1⟩
  rcases h1 with ⟨hn, rfl⟩ | ⟨hn, A1, cp1, rfl, hr1, hA1⟩
  · have n1 : (applyE a p == 0) = false := by simpa using hn
    have HF : Hid (thenE a p q = applyE a p) := by show _ = _; unfold thenE; rw [if_pos hn]
    have Hn := Lib.hid hn
    clear hn
    go_wp2_with fail
    go_ret2
    exact ⟨hb1, .inl ⟨by rw [HF.out]; exact Hn.out, by rw [HF.out]; rfl⟩⟩
  have hck := check_len (applyO_check hn)
  have Hn := Lib.hid hn
  have cQ1 := Lib.hid (cQ.out w1 hb1 A1 cp1 _ hr1 hA1 (by omega))
  clear hn
  go_wp2_with fail
  refine cQ1.out.mono ?_
  rintro e w2 ⟨hb2, h2⟩
  have hB2 := ext_trans hb1 hb2
  rcases h2 with ⟨hn2, rfl⟩ | ⟨hn2, A2, cp2, rfl, hr2, hA2⟩
  · have n1 : (applyE (applyO a p) q == 0) = false := by simpa using hn2
    have HF : Hid (thenE a p q = applyE (applyO a p) q) := by show _ = _; unfold thenE; rw [if_neg (by simpa using Hn.out), if_pos hn2]
    have Hn2 := Lib.hid hn2
    clear hn2 cQ1
    go_wp2_with fail
    go_ret2
    exact ⟨hB2, .inl ⟨by rw [HF.out]; exact Hn2.out, by rw [HF.out]; rfl⟩⟩
  have hck2 := check_len (applyO_check hn2)
  obtain ⟨_, hlp, _⟩ := applyE_zero Hn.out
  obtain ⟨_, hlq, _⟩ := applyE_zero hn2
  have Hn2 := Lib.hid hn2
  clear hn2 cQ1 hmp hmq
  by_cases h0 : p.length + q.length = 0
  · have hp0 : p = [] := List.eq_nil_of_length_eq_zero (by omega)
    have hq0 : q = [] := List.eq_nil_of_length_eq_zero (by omega)
    have HF : Hid (thenE a p q = 0) := by show _ = _; unfold thenE; rw [if_neg (by simpa using Hn.out), if_neg (by simpa using Hn2.out), if_pos ⟨hp0, hq0⟩]
    have HO : Hid (thenO a p q = []) := by show _ = _; unfold thenO; rw [if_pos (.inr (.inr ⟨hp0, hq0⟩))]
    have z : ((p.length : Int) + (q.length : Int)) = 0 := by omega
    have z2 : IntKind.i64.wrap ((p.length : Int) + (q.length : Int)) = 0 := by rw [z]; rfl
    clear hp0 hq0 h0
    go_wp2_with fail
    go_ret2
    exact ⟨hB2, .inr ⟨HF.out, none, 0, by rw [HO.out]; rfl, by rw [HO.out]; exact Rd.nil _ _⟩⟩
  · have hne : ¬ (p = [] ∧ q = []) := fun h => h0 (by rw [h.1, h.2]; rfl)
    have HF : Hid (thenE a p q = diffE a (applyO (applyO a p) q) (lastAt p q)) := by show _ = _; unfold thenE; rw [if_neg (by simpa using Hn.out), if_neg (by simpa using Hn2.out), if_neg hne]
    have HO : Hid (thenO a p q = diffO a (applyO (applyO a p) q) (lastAt p q)) := by show _ = _; unfold thenO; rw [if_neg (by rintro (h | h | h); exact h Hn.out; exact h Hn2.out; exact hne h)]
    obtain ⟨n, hn⟩ : ∃ n, p.length + q.length = n + 1 := ⟨p.length + q.length - 1, by omega⟩
    obtain ⟨hnl, hla⟩ := lastAt_eq hn
    have z0 : ((p.length : Int) + (q.length : Int)) = (n : Int) + 1 := by omega
    have z1 : IntKind.i64.wrap ((p.length : Int) + (q.length : Int)) = (n : Int) + 1 := by rw [z0, IntKind.wrap_i64]; omega
    have z2 : ((n : Int) + 1 == 0) = false := by simp; omega
    have Hla := Lib.hid hla
    have hlen : (p ++ q).length = n + 1 := by simp; omega
    obtain ⟨W3, hW3⟩ : ∃ W3, w2.alloc (.cells #[.slice B p.length cb, .slice C q.length cc] 25) = W3 := ⟨_, rfl⟩
    have hb3 : Below w2.heap.size w2 W3 := by rw [← hW3]; exact ext_alloc (Below.refl _ _) _
    have hx3 : W3.heap[w2.heap.size]? = some (.cells #[.slice B p.length cb, .slice C q.length cc] 25 (0, 0)) := by rw [← hW3]; exact World.alloc_heap_new _ _
    have hB3 := ext_trans hB2 hb3
    have cC := Lib.hid (concat_any w2.heap.size B C cb cc p q W3 hx3 (Hrp.out.ext hB3) (Hrq.out.ext hB3) (by omega) (by omega))
    have hr23 := hr2.ext hb3
    clear hla h0 hne hx3 hr2
    go_wp2_with fail
    refine cC.out.mono ?_
    rintro e w4 ⟨v, rfl, hown, hb4⟩
    have hB4 := ext_trans hB3 hb4
    obtain ⟨A4, c4, rfl, hr4, _⟩ := hown.form (by decide)
    obtain ⟨b4, off4, rfl, hb4', hc4⟩ := hr4.elem (f := Change.cells) Change.size_cells (by omega) hnl
    have x0 := hc4 0 _ rfl
    simp only [Nat.add_zero] at x0
    have cDD := Lib.hid (cD.out w4 hB4 A2 cp2 _ (lastAt p q) (hr23.ext hb4) (by omega))
    rw [hlen]
    rw [← Hla.out] at x0
    clear hc4 hr4 hown cC cD
    generalize lastAt p q = t at *
    go_wp2_with fail
    refine cDD.out.mono ?_
    rintro e w5 ⟨hb5, h5⟩
    have hB5 := ext_trans hB4 hb5
    rcases h5 with ⟨hn5, rfl⟩ | ⟨hn5, v5, rfl, hown5⟩
    · have Hn5 := Lib.hid hn5
      clear hn5
      go_wp2_with fail
      go_ret2
      exact ⟨hB5, .inl ⟨by rw [HF.out]; exact Hn5.out, by rw [HF.out]; rfl⟩⟩
    · obtain ⟨A5, c5, rfl, hr5, _⟩ := hown5.form (by decide)
      have Hn5 := Lib.hid hn5
      have e5 : diffO a (applyO (applyO a p) q) t = diffL t a (applyO (applyO a p) q) := by unfold diffO; rw [if_pos hn5]
      have HO5 := Lib.hid (HO.out.trans e5)
      clear hn5 e5 hown5
      go_wp2_with fail
      go_ret2
      exact ⟨hB5, .inr ⟨by rw [HF.out]; exact Hn5.out, A5, c5, by rw [HO5.out]; rfl, by rw [HO5.out]; exact hr5⟩⟩
end Go.Proofs.YtfbhfimejcdopaaGreatDoor
