/- Texts of this claim, one after the other: ChaT, ChaU, ChaE, R29a, SrchT, Row, InsTerm, AddT. -/
import Derived.Test.YthojaplnimoacaaGreatDoorM9
import Derived.Test.YthojaplnimoacaaGreatDoorM2
import Derived.Test.YthojaplnimoacaaGreatDoorM4
import Derived.Test.YthojaplnimoacaaGreatDoorM3
import Derived.Test.YthojaplnimoacaaGreatDoorShelf
import Derived.Test.YthojaplnimoacaaGreatDoorM1
import Derived.Deep.LoopGhost
import Derived.Laws.CopyOwn
import Derived.Laws.CopyRow
import Derived.Deep.AppendLies
import Derived.Lib.AppendZerosOnto
import Derived.Lib.Overlaps
import Derived.StillTailTactics
import Derived.Lib.SliceRun
import Derived.Deep.RegionWith
/- Trees, their order, and the order of the derivations. Conditions: none; plain facts. -/
namespace Go.Proofs.YthojaplnimoacaaGreatDoor
open Go.RowKit Go.Han
set_option maxRecDepth 100000

/-! ### trees -/
@[simp] def TreeV.rule : TreeV → Int | .node r _ _ _ _ => r
@[simp] def TreeV.item : TreeV → Int | .node _ j _ _ _ => j
@[simp] def TreeV.frm : TreeV → Int | .node _ _ i _ _ => i
@[simp] def TreeV.unt : TreeV → Int | .node _ _ _ k _ => k
@[simp] def TreeV.kids : TreeV → List TreeV | .node _ _ _ _ l => l
mutual
def nodesV : TreeV → Nat
 | .node _ _ _ _ l => 1 + nodesVs l
def nodesVs : List TreeV → Nat
 | [] => 0
 | t :: l => nodesV t + nodesVs l
end
abbrev KidV := Int × Int × (Int → Int × Bool)
def liesV (st : Int → ByteArray → Bool) : List PartG → List KidV → Int → Int → Int → Int × Bool
 | [], ks, i, k, c => (c, decide (ks = []) && decide (i = k))
 | p :: ps, ks, i, k, c =>
  if p.text.size ≠ 0 then (if i < k ∧ st i p.text = true then liesV st ps ks (i + 1) k c else (0, false))
  else match ks with
   | [] => (0, false)
   | x :: ks' => if x.1 = i then (if (x.2.2 p.no).2 then liesV st ps ks' x.2.1 k (c + (x.2.2 p.no).1) else (0, false)) else (0, false)
mutual
def derivV (g : Gram) (items : List ItemG) : TreeV → Int → Int × Bool
 | .node r j i k kids, c =>
  if r = -1 then (if j < 0 ∨ (items.length : Int) ≤ j ∨ 0 < kids.length then (0, false) else match items[j.toNat]? with | some x => (x.cost, decide (x.cat = c) && decide (x.frm = i) && decide (x.unt = k)) | none => (0, false))
  else if j ≠ -1 ∨ r < 0 ∨ (g.rules.xs.length : Int) ≤ r then (0, false)
  else match g.rules.xs[r.toNat]? with
   | none => (0, false)
   | some x => if x.no = c then liesV (wordAt items) x.parts.xs (derivVs g items kids) i k x.cost else (0, false)
def derivVs (g : Gram) (items : List ItemG) : List TreeV → List KidV
 | [] => []
 | t :: l => (t.frm, t.unt, derivV g items t) :: derivVs g items l
end
mutual
def sameV : TreeV → TreeV → Bool
 | .node r j i k l, t => decide (r = t.rule) && decide (j = t.item) && decide (i = t.frm) && decide (k = t.unt) && sameVs l t.kids
def sameVs : List TreeV → List TreeV → Bool
 | [], [] => true
 | x :: l, y :: m => sameV x y && sameVs l m
 | _, _ => false
end
mutual
def beforeV : TreeV → TreeV → Bool
 | .node r j _ _ l, t =>
  if decide (r = -1) ≠ decide (t.rule = -1) then decide (r = -1)
  else if r ≠ t.rule then decide (r < t.rule)
  else if j ≠ t.item then decide (j < t.item)
  else beforeVs l t.kids
def beforeVs : List TreeV → List TreeV → Bool
 | x :: l, y :: m => if x.unt ≠ y.unt then decide (x.unt < y.unt) else if sameV x y then beforeVs l m else beforeV x y
 | _, _ => false
end
mutual
theorem sameV_iff : ∀ a b : TreeV, sameV a b = true ↔ a = b
 | .node r j i k l, .node r' j' i' k' l' => by
  unfold sameV
  show (decide (r = r') && decide (j = j') && decide (i = i') && decide (k = k') && sameVs l l') = true ↔ _
  rw [Bool.and_eq_true, sameVs_iff l l', TreeV.node.injEq]
  simp only [Bool.and_eq_true, decide_eq_true_eq]
  constructor
  ·
   rintro ⟨⟨⟨⟨h1, h2⟩, h3⟩, h4⟩, h5⟩; exact ⟨h1, h2, h3, h4, h5⟩
  ·
   rintro ⟨h1, h2, h3, h4, h5⟩; exact ⟨⟨⟨⟨h1, h2⟩, h3⟩, h4⟩, h5⟩
theorem sameVs_iff : ∀ a b : List TreeV, sameVs a b = true ↔ a = b
 | [], [] => by simp [sameVs]
 | [], y :: m => by simp [sameVs]
 | x :: l, [] => by simp [sameVs]
 | x :: l, y :: m => by
  unfold sameVs
  rw [Bool.and_eq_true, sameV_iff x y, sameVs_iff l m, List.cons.injEq]
end
theorem beforeV_eq (r j i k : Int) (l : List TreeV) (r' j' i' k' : Int) (l' : List TreeV) : beforeV (.node r j i k l) (.node r' j' i' k' l') = if decide (r = -1) ≠ decide (r' = -1) then decide (r = -1) else if r ≠ r' then decide (r < r') else if j ≠ j' then decide (j < j') else beforeVs l l' := by
 unfold beforeV; rfl
theorem beforeVs_eq (x : TreeV) (l : List TreeV) (y : TreeV) (m : List TreeV) : beforeVs (x :: l) (y :: m) = if x.unt ≠ y.unt then decide (x.unt < y.unt) else if sameV x y = true then beforeVs l m else beforeV x y := by
 rw [beforeVs]
mutual
theorem beforeV_asym : ∀ a b : TreeV, beforeV a b = true → beforeV b a = false
 | .node r j i k l, .node r' j' i' k' l' => by
  rw [beforeV_eq, beforeV_eq]
  have h := beforeVs_asym l l'
  by_cases h3 : r = r'
  ·
   subst h3
   by_cases h4 : j = j'
   ·
    subst h4; simpa using h
   ·
    have h5 : ¬ j' = j := fun e => h4 e.symm
    simp [h4, h5]; omega
  ·
   have h5 : ¬ r' = r := fun e => h3 e.symm
   by_cases h1 : r = -1
   ·
    have h2 : ¬ r' = -1 := fun e => h3 (h1.trans e.symm)
    simp [h1, h2]
   ·
    by_cases h2 : r' = -1
    ·
     simp [h1, h2]
    ·
     simp [h1, h2, h3, h5]; omega
theorem beforeVs_asym : ∀ a b : List TreeV, beforeVs a b = true → beforeVs b a = false
 | [], _ => by intro h; unfold beforeVs at h; cases h
 | x :: l, [] => by intro _; rfl
 | x :: l, y :: m => by
  rw [beforeVs_eq, beforeVs_eq]
  have h1 := beforeV_asym x y
  have h2 := beforeVs_asym l m
  by_cases hu : x.unt = y.unt
  ·
   by_cases hs : x = y
   ·
    subst hs
    have e : sameV x x = true := (sameV_iff x x).2 rfl
    simpa [e] using h2
   ·
    have e1 : sameV x y = false := by
     cases h : sameV x y
     ·
      rfl
     ·
      exact absurd ((sameV_iff x y).1 h) hs
    have e2 : sameV y x = false := by
     cases h : sameV y x
     ·
      rfl
     ·
      exact absurd ((sameV_iff y x).1 h).symm hs
    simp only [ne_eq, hu, not_true_eq_false, if_false, e1, e2, Bool.false_eq_true]
    exact h1
  ·
   have hu' : ¬ y.unt = x.unt := fun e => hu e.symm
   simp only [ne_eq, hu, hu', not_false_eq_true, if_true, decide_eq_true_eq, decide_eq_false_iff_not]
   omega
end
theorem beforeV_irrefl (a : TreeV) : beforeV a a = false := by
 cases h : beforeV a a
 ·
  rfl
 ·
  rw [beforeV_asym a a h] at h; cases h
/-! ### the order of the derivations -/
theorem itemsL_mem {c i k : Int} {x : Dv} : ∀ {j : Nat} {l : List ItemG}, x ∈ itemsL c i k j l ↔ ∃ (n : Nat) (y : ItemG), l[n]? = some y ∧ y.cat = c ∧ y.frm = i ∧ y.unt = k ∧ x = (y.cost, leafT (j + n) i k)
 | j, [] => by simp [itemsL]
 | j, y :: l => by
  unfold itemsL
  rw [List.mem_append, itemsL_mem (j := j + 1) (l := l)]
  constructor
  ·
   rintro (h | ⟨n, z, h1, h2, h3, h4, h5⟩)
   ·
    split at h
    ·
     rename_i hc
     exact ⟨0, y, rfl, hc.1, hc.2.1, hc.2.2, by simpa using h⟩
    ·
     cases h
   ·
    exact ⟨n + 1, z, by simpa using h1, h2, h3, h4, by rw [h5]; congr 2; omega⟩
  ·
   rintro ⟨n, z, h1, h2, h3, h4, h5⟩
   cases n with
   | zero =>
    simp at h1; subst h1
    left
    rw [if_pos ⟨h2, h3, h4⟩]; simpa using h5
   | succ n => exact .inr ⟨n, z, by simpa using h1, h2, h3, h4, by rw [h5]; congr 2; omega⟩
theorem rulesL_mem {st : Int → ByteArray → Bool} {A : Int → Nat → Nat → List Dv} {c : Int} {i k : Nat} {x : Dv} : ∀ {j : Nat} {l : List RuleG}, x ∈ rulesL st A c i k j l ↔ ∃ (n : Nat) (r : RuleG), l[n]? = some r ∧ r.no = c ∧ x ∈ ruleL st A (j + n) r i k
 | j, [] => by simp [rulesL]
 | j, y :: l => by
  unfold rulesL
  rw [List.mem_append, rulesL_mem (j := j + 1) (l := l)]
  constructor
  ·
   rintro (h | ⟨n, z, h1, h2, h3⟩)
   ·
    split at h
    ·
     rename_i hc
     exact ⟨0, y, rfl, hc, h⟩
    ·
     cases h
   ·
    exact ⟨n + 1, z, by simpa using h1, h2, by rw [show j + (n + 1) = j + 1 + n by omega]; exact h3⟩
  ·
   rintro ⟨n, z, h1, h2, h3⟩
   cases n with
   | zero =>
    simp at h1; subst h1
    left
    rw [if_pos h2]; exact h3
   | succ n => exact .inr ⟨n, z, by simpa using h1, h2, by rw [show j + 1 + n = j + (n + 1) by omega]; exact h3⟩
theorem ruleL_mem {st : Int → ByteArray → Bool} {A : Int → Nat → Nat → List Dv} {j : Nat} {r : RuleG} {i k : Nat} {x : Dv} : x ∈ ruleL st A j r i k ↔ ∃ y ∈ kidsL st A r.parts.xs i k, x = (r.cost + y.1, .node j (-1) i k y.2) := by
 unfold ruleL
 rw [List.mem_map]
 constructor
 ·
  rintro ⟨y, h1, h2⟩; exact ⟨y, h1, h2.symm⟩
 ·
  rintro ⟨y, h1, h2⟩; exact ⟨y, h1, h2.symm⟩
theorem derF_place {g : Gram} {items : List ItemG} {f : Nat} {c : Int} {i k : Nat} {x : Dv} (h : x ∈ derF g items f c i k) : x.2.frm = i ∧ x.2.unt = k := by
 cases f with
 | zero => cases h
 | succ f =>
  unfold derF at h
  rcases List.mem_append.1 h with h | h
  ·
   obtain ⟨n, y, _, _, _, _, rfl⟩ := itemsL_mem.1 h
   exact ⟨rfl, rfl⟩
  ·
   obtain ⟨n, r, _, _, h⟩ := rulesL_mem.1 h
   obtain ⟨y, _, rfl⟩ := ruleL_mem.1 h
   exact ⟨rfl, rfl⟩
def BefD (a b : Dv) : Prop := beforeV a.2 b.2 = true
def BefK (a b : Dk) : Prop := beforeVs a.2 b.2 = true
theorem itemsL_sorted (c i k : Int) : ∀ (j : Nat) (l : List ItemG), (itemsL c i k j l).Pairwise BefD
 | j, [] => List.Pairwise.nil
 | j, y :: l => by
  unfold itemsL
  rw [List.pairwise_append]
  refine ⟨by split <;> simp, itemsL_sorted c i k (j + 1) l, ?_⟩
  intro a ha b hb
  split at ha
  ·
   simp at ha; subst ha
   obtain ⟨n, z, _, _, _, _, rfl⟩ := itemsL_mem.1 hb
   unfold BefD leafT
   rw [beforeV_eq, if_neg (by simp), if_neg (by simp), if_pos (by omega)]
   simp; omega
  ·
   cases ha
theorem kidsL_sorted (st : Int → ByteArray → Bool) (A : Int → Nat → Nat → List Dv) (hA : ∀ c u v, (A c u v).Pairwise BefD) (hp : ∀ c u v, ∀ x ∈ A c u v, x.2.unt = (v : Int)) : ∀ (ps : List PartG) (i k : Nat), (kidsL st A ps i k).Pairwise BefK
 | [], i, k => by unfold kidsL; split <;> simp
 | p :: ps, i, k => by
  unfold kidsL
  split
  ·
   split
   ·
    exact kidsL_sorted st A hA hp ps _ _
   ·
    exact List.Pairwise.nil
  ·
   rw [List.pairwise_flatMap]
   refine ⟨fun m _ => ?_, ?_⟩
   ·
    unfold prodL
    rw [List.pairwise_flatMap]
    refine ⟨fun a _ => ?_, ?_⟩
    ·
     rw [List.pairwise_map]
     refine (kidsL_sorted st A hA hp ps m k).imp fun {x y} h => ?_
     unfold BefK
     rw [beforeVs_eq, if_neg (by simp), if_pos ((sameV_iff _ _).2 rfl)]
     exact h
    ·
     refine (List.Pairwise.and_mem.1 (hA p.no i m)).imp fun {a b} h => ?_
     obtain ⟨ha, hb, h⟩ := h
     intro x hx y hy
     obtain ⟨x', _, rfl⟩ := List.mem_map.1 hx
     obtain ⟨y', _, rfl⟩ := List.mem_map.1 hy
     unfold BefK
     rw [beforeVs_eq, if_neg (by rw [hp _ _ _ a ha, hp _ _ _ b hb]; simp), if_neg]
     ·
      exact h
     ·
      intro hs
      have := (sameV_iff _ _).1 hs
      unfold BefD at h
      rw [this, beforeV_irrefl] at h; cases h
   ·
    refine (List.pairwise_lt_range' (s := i + 1) (n := k - i)).imp fun {m m'} hlt => ?_
    intro x hx y hy
    unfold prodL at hx hy
    obtain ⟨a, ha, hx⟩ := List.mem_flatMap.1 hx
    obtain ⟨b, hb, hy⟩ := List.mem_flatMap.1 hy
    obtain ⟨x', _, rfl⟩ := List.mem_map.1 hx
    obtain ⟨y', _, rfl⟩ := List.mem_map.1 hy
    unfold BefK
    rw [beforeVs_eq, if_pos (by rw [hp _ _ _ a ha, hp _ _ _ b hb]; omega), hp _ _ _ a ha, hp _ _ _ b hb]
    simp; omega
theorem rulesL_sorted (st : Int → ByteArray → Bool) (A : Int → Nat → Nat → List Dv) (c : Int) (i k : Nat) (hA : ∀ c u v, (A c u v).Pairwise BefD) (hp : ∀ c u v, ∀ x ∈ A c u v, x.2.unt = (v : Int)) : ∀ (j : Nat) (rs : List RuleG), (rulesL st A c i k j rs).Pairwise BefD
 | j, [] => List.Pairwise.nil
 | j, r :: l => by
  unfold rulesL
  rw [List.pairwise_append]
  refine ⟨?_, rulesL_sorted st A c i k hA hp (j + 1) l, ?_⟩
  ·
   split
   ·
    unfold ruleL
    rw [List.pairwise_map]
    refine (kidsL_sorted st A hA hp r.parts.xs i k).imp fun {x y} h => ?_
    unfold BefD
    rw [beforeV_eq, if_neg (by simp), if_neg (by simp), if_neg (by simp)]
    exact h
   ·
    exact List.Pairwise.nil
  ·
   intro a ha b hb
   split at ha
   ·
    obtain ⟨y, _, rfl⟩ := ruleL_mem.1 ha
    obtain ⟨n, z, _, _, hb⟩ := rulesL_mem.1 hb
    obtain ⟨y', _, rfl⟩ := ruleL_mem.1 hb
    unfold BefD
    rw [beforeV_eq, if_neg (by simp; omega), if_pos (by omega)]
    simp; omega
   ·
    cases ha
theorem derF_sorted (g : Gram) (items : List ItemG) : ∀ (f : Nat) (c : Int) (i k : Nat), (derF g items f c i k).Pairwise BefD
 | 0, _, _, _ => List.Pairwise.nil
 | f + 1, c, i, k => by
  unfold derF
  rw [List.pairwise_append]
  refine ⟨itemsL_sorted _ _ _ _ _, rulesL_sorted _ _ _ _ _ (fun c u v => derF_sorted g items f c u v) (fun c u v x hx => (derF_place hx).2) _ _, ?_⟩
  intro a ha b hb
  obtain ⟨n, y, _, _, _, _, rfl⟩ := itemsL_mem.1 ha
  obtain ⟨n', z, _, _, hb⟩ := rulesL_mem.1 hb
  obtain ⟨y', _, rfl⟩ := ruleL_mem.1 hb
  unfold BefD leafT
  rw [beforeV_eq, if_pos (by simp)]
  simp
theorem first_not_before {g : Gram} {items : List ItemG} {f : Nat} {c : Int} {i k : Nat} {t x : Dv} (ht : firstM (derF g items f c i k) = some t) (hx : x ∈ derF g items f c i k) (he : x.1 = t.1) : beforeV x.2 t.2 = false := by
 have hs := derF_sorted g items f c i k
 generalize derF g items f c i k = l at *
 have key : ∀ l : List Dv, l.Pairwise BefD → ∀ t, firstM l = some t → ∀ x ∈ l, x.1 = t.1 → x = t ∨ beforeV t.2 x.2 = true := by
  intro l
  induction l with
  | nil => intro _ t _ x hx; cases hx
  | cons y l ih =>
   intro hs t ht x hx he
   rw [List.pairwise_cons] at hs
   rw [firstM_cons] at ht
   cases hl : firstM l with
   | none =>
    rw [hl] at ht
    cases ht
    have := firstM_none hl
    subst this
    simp at hx
    exact .inl hx
   | some z =>
    rw [hl, mergeM_some] at ht
    split at ht
    ·
     cases ht
     rcases List.mem_cons.1 hx with rfl | hx
     ·
      omega
     ·
      exact ih hs.2 _ hl x hx he
    ·
     cases ht
     rcases List.mem_cons.1 hx with rfl | hx
     ·
      exact .inl rfl
     ·
      exact .inr (hs.1 x hx)
 rcases key l hs t ht x hx he with rfl | h
 ·
  exact beforeV_irrefl _
 ·
  exact beforeV_asym _ _ h
end Go.Proofs.YthojaplnimoacaaGreatDoor

/- Trees that are derivations; how great and how dear derivations are. Conditions: none; plain facts. -/
namespace Go.Proofs.YthojaplnimoacaaGreatDoor
open Go.RowKit Go.Han
set_option maxRecDepth 100000

/-! ### trees that are derivations -/
theorem TreeV.ind {P : TreeV → Prop} (h : ∀ r j i k l, (∀ t ∈ l, P t) → P (.node r j i k l)) : ∀ t, P t :=
 fun t => TreeV.rec (motive_1 := P) (motive_2 := fun l => ∀ t ∈ l, P t) (fun r j i k l hl => h r j i k l hl) (fun _ ht => by cases ht) (fun x l hx hl t ht => by
  rcases List.mem_cons.1 ht with rfl | ht
  ·
   exact hx
  ·
   exact hl t ht) t
theorem prodL_mem {α β γ : Type} {f : α → β → γ} {l : List (Int × α)} {m : List (Int × β)} {x : Int × γ} : x ∈ prodL f l m ↔ ∃ a ∈ l, ∃ b ∈ m, x = (a.1 + b.1, f a.2 b.2) := by
 unfold prodL
 rw [List.mem_flatMap]
 constructor
 ·
  rintro ⟨a, ha, h⟩
  obtain ⟨b, hb, rfl⟩ := List.mem_map.1 h
  exact ⟨a, ha, b, hb, rfl⟩
 ·
  rintro ⟨a, ha, b, hb, rfl⟩
  exact ⟨a, ha, List.mem_map.2 ⟨b, hb, rfl⟩⟩
theorem kidsL_text {st : Int → ByteArray → Bool} {A : Int → Nat → Nat → List Dv} {p : PartG} {ps : List PartG} {i k : Nat} {x : Dk} (hp : p.text.size ≠ 0) : x ∈ kidsL st A (p :: ps) i k ↔ i < k ∧ st i p.text = true ∧ x ∈ kidsL st A ps (i + 1) k := by
 rw [kidsL, if_pos hp]
 constructor
 ·
  intro h
  split at h
  ·
   rename_i hc; exact ⟨hc.1, hc.2, h⟩
  ·
   cases h
 ·
  rintro ⟨h1, h2, h3⟩
  rw [if_pos ⟨h1, h2⟩]; exact h3
theorem kidsL_cat {st : Int → ByteArray → Bool} {A : Int → Nat → Nat → List Dv} {p : PartG} {ps : List PartG} {i k : Nat} {x : Dk} (hp : p.text.size = 0) : x ∈ kidsL st A (p :: ps) i k ↔ ∃ m, i < m ∧ m ≤ k ∧ ∃ a ∈ A p.no i m, ∃ b ∈ kidsL st A ps m k, x = (a.1 + b.1, a.2 :: b.2) := by
 rw [kidsL, if_neg (by simpa using hp), List.mem_flatMap]
 constructor
 ·
  rintro ⟨m, hm, h⟩
  rw [List.mem_range'_1] at hm
  exact ⟨m, by omega, by omega, prodL_mem.1 h⟩
 ·
  rintro ⟨m, h1, h2, h⟩
  exact ⟨m, by rw [List.mem_range'_1]; omega, prodL_mem.2 h⟩
theorem kidsL_nil {st : Int → ByteArray → Bool} {A : Int → Nat → Nat → List Dv} {i k : Nat} {x : Dk} : x ∈ kidsL st A [] i k ↔ i = k ∧ x = (0, []) := by
 unfold kidsL
 split
 ·
  rename_i h; simp [h]
 ·
  rename_i h; simp [h]
theorem kidsL_long {st : Int → ByteArray → Bool} {A : Int → Nat → Nat → List Dv} {ps : List PartG} {i k : Nat} {x : Dk} (h : x ∈ kidsL st A ps i k) : i + ps.length ≤ k := by
 rcases Nat.lt_or_ge k (i + ps.length) with h1 | h1
 ·
  rw [kidsL_none st A ps i k h1] at h; cases h
 ·
  exact h1
theorem liesV_text {st : Int → ByteArray → Bool} {p : PartG} (hp : p.text.size ≠ 0) (ps : List PartG) (ks : List KidV) (i k c : Int) : liesV st (p :: ps) ks i k c = if i < k ∧ st i p.text = true then liesV st ps ks (i + 1) k c else (0, false) := by
 simp only [liesV]; rw [if_pos hp]
theorem liesV_none {st : Int → ByteArray → Bool} {p : PartG} (hp : ¬ p.text.size ≠ 0) (ps : List PartG) (i k c : Int) : liesV st (p :: ps) [] i k c = (0, false) := by
 simp only [liesV]; rw [if_neg hp]
theorem liesV_cat {st : Int → ByteArray → Bool} {p : PartG} (hp : ¬ p.text.size ≠ 0) (ps : List PartG) (x : KidV) (ks : List KidV) (i k c : Int) : liesV st (p :: ps) (x :: ks) i k c = if x.1 = i then (if (x.2.2 p.no).2 then liesV st ps ks x.2.1 k (c + (x.2.2 p.no).1) else (0, false)) else (0, false) := by
 simp only [liesV]; rw [if_neg hp]
structure ItemsOk (n : Nat) (m : Nat) (items : List ItemG) : Prop where
 place : ∀ x ∈ items, 0 ≤ x.frm ∧ x.frm < x.unt ∧ x.unt ≤ n
 cost : ∀ x ∈ items, 0 ≤ x.cost ∧ x.cost ≤ 1000
 cat : ∀ x ∈ items, -1 ≤ x.cat ∧ x.cat < m
theorem wordAt_place {n m : Nat} {items : List ItemG} (hi : ItemsOk n m items) {i : Int} {s : ByteArray} (h : wordAt items i s = true) : 0 ≤ i ∧ i < n := by
 unfold wordAt at h
 obtain ⟨x, hx, h⟩ := List.any_eq_true.1 h
 simp only [Bool.and_eq_true, decide_eq_true_eq] at h
 have := hi.place x hx
 omega
section
variable {g : Gram} {items : List ItemG}
def TreeOk (g : Gram) (items : List ItemG) (n : Nat) (t : TreeV) : Prop :=
 ∀ c cost, derivV g items t c = (cost, true) → ∃ i k : Nat, t.frm = i ∧ t.unt = k ∧ i < k ∧ k ≤ n ∧ (cost, t) ∈ derG g items c i k
theorem lies_mem {n m : Nat} (hi : ItemsOk n m items) : ∀ (ps : List PartG) (kids : List TreeV) (i : Nat) (k c0 c : Int), (∀ t ∈ kids, TreeOk g items n t) → i ≤ n →
  liesV (wordAt items) ps (derivVs g items kids) i k c0 = (c, true) → ∃ k' : Nat, k = k' ∧ k' ≤ n ∧ (c - c0, kids) ∈ kidsL (wordAt items) (derG g items) ps i k'
 | [], kids, i, k, c0, c, hk, hn, h => by
  unfold liesV at h
  simp only [Prod.mk.injEq, Bool.and_eq_true, decide_eq_true_eq] at h
  obtain ⟨rfl, h1, h2⟩ := h
  refine ⟨i, h2.symm, hn, kidsL_nil.2 ⟨rfl, ?_⟩⟩
  cases kids with
  | nil => simp
  | cons t l => simp [derivVs] at h1
 | p :: ps, kids, i, k, c0, c, hk, hn, h => by
  by_cases hp : p.text.size ≠ 0
  ·
   rw [liesV_text hp] at h
   split at h
   ·
    rename_i hc
    have h1 := wordAt_place hi hc.2
    obtain ⟨k', h2, h3, h4⟩ := lies_mem hi ps kids (i + 1) k c0 c hk (by omega) (by exact_mod_cast h)
    exact ⟨k', h2, h3, (kidsL_text hp).2 ⟨by omega, hc.2, h4⟩⟩
   ·
    simp at h
  ·
   have hp0 : p.text.size = 0 := by simpa using hp
   cases kids with
   | nil => rw [derivVs, liesV_none hp] at h; simp at h
   | cons t l =>
    rw [derivVs, liesV_cat hp] at h
    simp only at h
    split at h
    ·
     rename_i hf
     split at h
     ·
      rename_i ht
      obtain ⟨u, v, h1, h2, h3, h4, h5⟩ := hk t (List.mem_cons_self ..) p.no (derivV g items t p.no).1 (by rw [← ht])
      rw [h2] at h
      obtain ⟨k', h6, h7, h8⟩ := lies_mem hi ps l v k _ c (fun y hy => hk y (List.mem_cons_of_mem _ hy)) h4 h
      have hu : u = i := by omega
      subst hu
      have := kidsL_long h8
      exact ⟨k', h6, h7, (kidsL_cat hp0).2 ⟨v, h3, by omega, _, h5, _, h8, by simp; omega⟩⟩
     ·
      simp at h
    ·
     simp at h
theorem lies_start {n m : Nat} (hi : ItemsOk n m items) {ps : List PartG} (h0 : ps ≠ []) {kids : List TreeV} {i k c0 c : Int} (hk : ∀ t ∈ kids, TreeOk g items n t) (h : liesV (wordAt items) ps (derivVs g items kids) i k c0 = (c, true)) : ∃ i' : Nat, i = i' ∧ i' ≤ n := by
 cases ps with
 | nil => exact absurd rfl h0
 | cons p ps =>
  by_cases hp : p.text.size ≠ 0
  ·
   rw [liesV_text hp] at h
   split at h
   ·
    rename_i hc
    have h1 := wordAt_place hi hc.2
    exact ⟨i.toNat, by omega, by omega⟩
   ·
    simp at h
  ·
   cases kids with
   | nil => rw [derivVs, liesV_none hp] at h; simp at h
   | cons t l =>
    rw [derivVs, liesV_cat hp] at h
    simp only at h
    split at h
    ·
     rename_i hf
     split at h
     ·
      rename_i ht
      obtain ⟨u, v, h1, h2, h3, h4, h5⟩ := hk t (List.mem_cons_self ..) p.no (derivV g items t p.no).1 (by rw [← ht])
      exact ⟨u, by omega, by omega⟩
     ·
      simp at h
    ·
     simp at h
theorem deriv_mem {n m : Nat} (hg : GramOk g) (hi : ItemsOk n m items) : ∀ t, TreeOk g items n t :=
 TreeV.ind fun r j i k l ih c cost h => by
  rw [derivV] at h
  split at h
  ·
   rename_i hr
   split at h
   ·
    simp at h
   rename_i hj
   split at h
   ·
    rename_i x hx
    simp only [Prod.mk.injEq, Bool.and_eq_true, decide_eq_true_eq] at h
    obtain ⟨rfl, ⟨h1, h2⟩, h3⟩ := h
    have hp := hi.place x (List.mem_of_getElem? hx)
    have hl : l = [] := by
     cases l with
     | nil => rfl
     | cons t l => simp at hj
    refine ⟨i.toNat, k.toNat, by simp; omega, by simp; omega, by omega, by omega, ?_⟩
    rw [derG_eq hg]
    refine List.mem_append_left _ (itemsL_mem.2 ⟨j.toNat, x, hx, h1, by omega, by omega, ?_⟩)
    subst hl hr
    unfold leafT
    congr 2 <;> omega
   ·
    simp at h
  ·
   split at h
   ·
    simp at h
   rename_i hj
   split at h
   ·
    simp at h
   ·
    rename_i x hx
    split at h
    ·
     rename_i hc
     have hxm := List.mem_of_getElem? hx
     have h1 := hg.rule x hxm
     have hne : x.parts.xs ≠ [] := fun e => by rw [e] at h1; simp at h1
     obtain ⟨i', h2, h3⟩ := lies_start hi hne ih h
     rw [h2] at h
     obtain ⟨k', h4, h5, h6⟩ := lies_mem hi x.parts.xs l i' k x.cost cost ih h3 h
     have := kidsL_long h6
     refine ⟨i', k', by simpa using h2, by simpa using h4, by omega, h5, ?_⟩
     rw [derG_eq hg]
     refine List.mem_append_right _ (rulesL_mem.2 ⟨r.toNat, x, hx, hc, ruleL_mem.2 ⟨_, h6, ?_⟩⟩)
     rw [h2, h4]
     have e1 : j = -1 := by omega
     have e2 : ((0 + r.toNat : Nat) : Int) = r := by omega
     rw [e2, e1]
     congr 1; simp; omega
    ·
     simp at h
theorem lies_of_mem {A : Int → Nat → Nat → List Dv} : ∀ (ps : List PartG) (i k : Nat) (c0 : Int) (x : Dk), (∀ c i k, ∀ y ∈ A c i k, y.2.frm = (i : Int) ∧ y.2.unt = (k : Int) ∧ derivV g items y.2 c = (y.1, true)) → x ∈ kidsL (wordAt items) A ps i k → liesV (wordAt items) ps (derivVs g items x.2) i k c0 = (c0 + x.1, true)
 | [], i, k, c0, x, hA, h => by
  obtain ⟨rfl, rfl⟩ := kidsL_nil.1 h
  simp [liesV, derivVs]
 | p :: ps, i, k, c0, x, hA, h => by
  by_cases hp : p.text.size ≠ 0
  ·
   obtain ⟨h1, h2, h3⟩ := (kidsL_text hp).1 h
   rw [liesV_text hp, if_pos ⟨by omega, h2⟩]
   have := lies_of_mem ps (i + 1) k c0 x hA h3
   exact_mod_cast this
  ·
   have hp0 : p.text.size = 0 := by simpa using hp
   obtain ⟨m, h1, h2, a, ha, b, hb, rfl⟩ := (kidsL_cat hp0).1 h
   obtain ⟨h3, h4, h5⟩ := hA _ _ _ a ha
   rw [derivVs, liesV_cat hp]
   simp only
   rw [if_pos h3, h5, h4]
   simp only [if_true]
   rw [lies_of_mem ps m k (c0 + a.1) b hA hb, Int.add_assoc]
theorem deriv_of_mem : ∀ (f : Nat) (c : Int) (i k : Nat) (x : Dv), x ∈ derF g items f c i k → x.2.frm = (i : Int) ∧ x.2.unt = (k : Int) ∧ derivV g items x.2 c = (x.1, true)
 | 0, _, _, _, _, h => by cases h
 | f + 1, c, i, k, x, h => by
  refine ⟨(derF_place h).1, (derF_place h).2, ?_⟩
  unfold derF at h
  rcases List.mem_append.1 h with h | h
  ·
   obtain ⟨n, y, h1, h2, h3, h4, rfl⟩ := itemsL_mem.1 h
   unfold leafT
   rw [derivV]
   have hn : n < items.length := (List.getElem?_eq_some_iff.1 h1).1
   rw [if_pos rfl, if_neg (by simp; omega)]
   have e : ((0 + n : Nat) : Int).toNat = n := by omega
   rw [e, h1]
   simp [h2, h3, h4]
  ·
   obtain ⟨n, r, h1, h2, h⟩ := rulesL_mem.1 h
   obtain ⟨y, hy, rfl⟩ := ruleL_mem.1 h
   rw [derivV]
   have hn : n < g.rules.xs.length := (List.getElem?_eq_some_iff.1 h1).1
   have e : ((0 + n : Nat) : Int).toNat = n := by omega
   rw [if_neg (by omega), if_neg (by omega), e, h1]
   simp only
   rw [if_pos h2]
   exact lies_of_mem r.parts.xs i k r.cost y (fun c i k z hz => deriv_of_mem f c i k z hz) hy

/-! ### how great, how dear -/
theorem kids_nodes {st : Int → ByteArray → Bool} {A : Int → Nat → Nat → List Dv} (N : Nat) : ∀ (ps : List PartG) (i k : Nat) (x : Dk), (∀ c u v, ∀ y ∈ A c u v, u < v → nodesV y.2 ≤ (2 * (v - u) - 1) * N) → x ∈ kidsL st A ps i k → nodesVs x.2 ≤ (2 * (k - i) - ps.length) * N
 | [], i, k, x, hA, h => by obtain ⟨_, rfl⟩ := kidsL_nil.1 h; simp [nodesVs]
 | p :: ps, i, k, x, hA, h => by
  by_cases hp : p.text.size ≠ 0
  ·
   obtain ⟨h1, h2, h3⟩ := (kidsL_text hp).1 h
   refine Nat.le_trans (kids_nodes N ps (i + 1) k x hA h3) (Nat.mul_le_mul_right _ ?_)
   rw [List.length_cons]; omega
  ·
   obtain ⟨m, h1, h2, a, ha, b, hb, rfl⟩ := (kidsL_cat (by simpa using hp)).1 h
   have h3 := hA _ _ _ a ha h1
   have h4 := kids_nodes N ps m k b hA hb
   have h5 := kidsL_long hb
   rw [nodesVs, List.length_cons]
   have e : 2 * (k - i) - (ps.length + 1) = (2 * (m - i) - 1) + (2 * (k - m) - ps.length) := by omega
   rw [e, Nat.add_mul]
   omega
theorem kids_cost {st : Int → ByteArray → Bool} {A : Int → Nat → Nat → List Dv} : ∀ (ps : List PartG) (i k : Nat) (x : Dk), (∀ c u v, ∀ y ∈ A c u v, 0 ≤ y.1 ∧ y.1 ≤ 1000 * nodesV y.2) → x ∈ kidsL st A ps i k → 0 ≤ x.1 ∧ x.1 ≤ 1000 * nodesVs x.2
 | [], i, k, x, hA, h => by obtain ⟨_, rfl⟩ := kidsL_nil.1 h; simp [nodesVs]
 | p :: ps, i, k, x, hA, h => by
  by_cases hp : p.text.size ≠ 0
  ·
   obtain ⟨h1, h2, h3⟩ := (kidsL_text hp).1 h
   exact kids_cost ps (i + 1) k x hA h3
  ·
   obtain ⟨m, h1, h2, a, ha, b, hb, rfl⟩ := (kidsL_cat (by simpa using hp)).1 h
   have h3 := hA _ _ _ a ha
   have h4 := kids_cost ps m k b hA hb
   rw [nodesVs]
   simp only
   omega
theorem der_cost (hg : GramOk g) {n m : Nat} (hi : ItemsOk n m items) : ∀ (f : Nat) (c : Int) (i k : Nat) (x : Dv), x ∈ derF g items f c i k → 0 ≤ x.1 ∧ x.1 ≤ 1000 * nodesV x.2
 | 0, _, _, _, _, h => by cases h
 | f + 1, c, i, k, x, h => by
  unfold derF at h
  rcases List.mem_append.1 h with h | h
  ·
   obtain ⟨n, y, h1, h2, h3, h4, rfl⟩ := itemsL_mem.1 h
   have := hi.cost y (List.mem_of_getElem? h1)
   simp [leafT, nodesV, nodesVs]; omega
  ·
   obtain ⟨n, r, h1, h2, h⟩ := rulesL_mem.1 h
   obtain ⟨y, hy, rfl⟩ := ruleL_mem.1 h
   have h3 := hg.rule r (List.mem_of_getElem? h1)
   have h4 := kids_cost r.parts.xs i k y (fun c u v z hz => der_cost hg hi f c u v z hz) hy
   rw [nodesV]
   simp only
   omega
theorem der_nodes (hg : GramOk g) : ∀ (f : Nat) (c : Int) (i k : Nat) (x : Dv), x ∈ derF g items f c i k → i < k → nodesV x.2 ≤ (2 * (k - i) - 2) * g.cats.xs.length + 1 + rankC g c
 | 0, _, _, _, _, h, _ => by cases h
 | f + 1, c, i, k, x, h, hik => by
  unfold derF at h
  rcases List.mem_append.1 h with h | h
  ·
   obtain ⟨n, y, h1, h2, h3, h4, rfl⟩ := itemsL_mem.1 h
   simp [leafT, nodesV, nodesVs]; omega
  ·
   obtain ⟨n, r, h1, h2, h⟩ := rulesL_mem.1 h
   obtain ⟨y, hy, rfl⟩ := ruleL_mem.1 h
   have hr := List.mem_of_getElem? h1
   have h3 := hg.rule r hr
   rw [nodesV]
   have hlt : ∀ c, rankC g c + 1 ≤ g.cats.xs.length := by
    intro c
    unfold rankC
    split
    ·
     rename_i a ha
     have h5 := hg.circ a (List.mem_of_getElem? ha)
     have h6 := rankN_le g.rules.xs a g.cats.xs.length
     have h7 := rankN_path g.rules.xs a g.cats.xs.length
     rcases Nat.lt_or_ge (rankN g.rules.xs a g.cats.xs.length) g.cats.xs.length with h | h
     ·
      omega
     ·
      rw [show rankN g.rules.xs a g.cats.xs.length = g.cats.xs.length by omega, h5] at h7; cases h7
    ·
     have := hg.start; omega
   have hA : ∀ c u v, ∀ y ∈ derF g items f c u v, u < v → nodesV y.2 ≤ (2 * (v - u) - 1) * g.cats.xs.length := by
    intro c u v y hy huv
    have h4 := der_nodes hg f c u v y hy huv
    have h5 := hlt c
    rw [show 2 * (v - u) - 1 = (2 * (v - u) - 2) + 1 by omega, Nat.add_mul]
    omega
   by_cases hs : r.parts.xs.length = 1
   ·
    obtain ⟨p, hp⟩ := List.length_eq_one_iff.1 hs
    rw [hp] at hy
    by_cases ht : p.text.size ≠ 0
    ·
     obtain ⟨h4, h5, h6⟩ := (kidsL_text ht).1 hy
     obtain ⟨_, rfl⟩ := kidsL_nil.1 h6
     simp [nodesVs]; omega
    ·
     obtain ⟨m, h4, h5, a, ha, b, hb, rfl⟩ := (kidsL_cat (by simpa using ht)).1 hy
     obtain ⟨rfl, rfl⟩ := kidsL_nil.1 hb
     have h6 := der_nodes hg f p.no i m a ha h4
     have h7 := rankC_lt hg hr hp (by simpa using ht)
     rw [h2] at h7
     simp only [nodesVs]
     omega
   ·
    have h4 := kids_nodes g.cats.xs.length r.parts.xs i k y hA hy
    have h5 : (2 * (k - i) - r.parts.xs.length) * g.cats.xs.length ≤ (2 * (k - i) - 2) * g.cats.xs.length := Nat.mul_le_mul_right _ (by omega)
    omega
end
end Go.Proofs.YthojaplnimoacaaGreatDoor

/- Arguments of a chart that are right, what is answered, and what follows of it. Conditions: none; plain facts. -/
namespace Go.Proofs.YthojaplnimoacaaGreatDoor
open Go.RowKit Go.Han
set_option maxRecDepth 100000

/-! ### arguments that are right -/
def rightI (g : Gram) (n : Int) (x : ItemG) : Bool :=
 decide (0 ≤ x.frm) && decide (x.frm < x.unt) && decide (x.unt ≤ n) && (decide (-1 ≤ x.term) && decide (x.term ≤ 1048576)) && (decide (1 ≤ x.tgt.xs.length) && decide (x.tgt.xs.length ≤ 4)) && x.tgt.xs.all wordB &&
  (if x.cat = -1 then decide (x.unt = x.frm + 1) && decide (x.cost = 0) && decide (x.tgt.xs.length = 1) else (decide (0 ≤ x.cat) && decide (x.cat < g.cats.xs.length)) && (decide (0 ≤ x.cost) && decide (x.cost ≤ 1000)))
def errC (g : Gram) (items : List ItemG) (n : Int) : Int :=
 if checkG g ≠ 0 then checkG g else if n < 1 ∨ 16 < n then 1 else if 16384 < items.length then 2 else if items.all (rightI g n) then 0 else 280
structure ArgsOkC (g : Gram) (items : List ItemG) (n : Int) : Prop where
 check : checkG g = 0
 gram : GramOk g
 n1 : 1 ≤ n
 n16 : n ≤ 16
 few : items.length ≤ 16384
 right : ∀ x ∈ items, rightI g n x = true
 items : ItemsOk n.toNat g.cats.xs.length items
theorem rightI_place {g : Gram} {n : Int} {x : ItemG} (h : rightI g n x = true) : 0 ≤ x.frm ∧ x.frm < x.unt ∧ x.unt ≤ n ∧ 0 ≤ x.cost ∧ x.cost ≤ 1000 ∧ -1 ≤ x.cat ∧ (x.cat < g.cats.xs.length ∨ x.cat = -1) ∧ 1 ≤ x.tgt.xs.length := by
 unfold rightI at h
 simp only [Bool.and_eq_true, decide_eq_true_eq] at h
 obtain ⟨⟨⟨⟨⟨⟨a1, a2⟩, a3⟩, a4⟩, a5⟩, a6⟩, a7⟩ := h
 split at a7
 ·
  rename_i hc
  simp only [Bool.and_eq_true, decide_eq_true_eq] at a7
  refine ⟨a1, a2, a3, by omega, by omega, by omega, .inr hc, a5.1⟩
 ·
  simp only [Bool.and_eq_true, decide_eq_true_eq] at a7
  refine ⟨a1, a2, a3, a7.2.1, a7.2.2, by omega, .inl a7.1.2, a5.1⟩
theorem errC_zero {g : Gram} {items : List ItemG} {n : Int} (h : errC g items n = 0) : ArgsOkC g items n := by
 unfold errC at h
 split at h
 ·
  rename_i h1; exact absurd h h1
 rename_i h1
 split at h
 ·
  cases h
 rename_i h2
 split at h
 ·
  cases h
 rename_i h3
 split at h
 ·
  rename_i h4
  have hc : checkG g = 0 := Decidable.not_not.1 h1
  have hg := checkG_ok hc
  rw [List.all_eq_true] at h4
  have hst := hg.start
  refine ⟨hc, hg, by omega, by omega, by omega, h4, ⟨fun x hx => ?_, fun x hx => ?_, fun x hx => ?_⟩⟩
  ·
   have := rightI_place (h4 x hx); omega
  ·
   have := rightI_place (h4 x hx); omega
  ·
   have := rightI_place (h4 x hx); omega
 ·
  cases h
theorem errC_of {g : Gram} {items : List ItemG} {n : Int} (h : ArgsOkC g items n) : errC g items n = 0 := by
 unfold errC
 have h1 := h.n1
 have h2 := h.n16
 have h3 := h.few
 rw [if_neg (fun hn => hn h.check), if_neg (by omega), if_neg (by omega), if_pos (List.all_eq_true.2 h.right)]
/-! ### what is answered -/
def zeroT : TreeV := .node 0 0 0 0 []
def bestC (g : Gram) (items : List ItemG) (n : Int) : Option Dv := firstM (derG g items g.startNo 0 n.toNat)
def bigN : Nat := 1099511627776
def manyC (g : Gram) (items : List ItemG) (n : Int) : Nat := capN bigN (derG g items g.startNo 0 n.toNat).length
def bestR (g : Gram) (items : List ItemG) (n : Int) : TreeV × Int × Bool × Int :=
 if errC g items n ≠ 0 then (zeroT, 0, false, errC g items n) else match bestC g items n with | none => (zeroT, 0, false, 0) | some x => (x.2, x.1, true, 0)
def countR (g : Gram) (items : List ItemG) (n : Int) : Int × Int :=
 if errC g items n ≠ 0 then (0, errC g items n) else if bigN < manyC g items n then (0, 2) else (manyC g items n, 0)
def costR (g : Gram) (items : List ItemG) (n : Int) (t : TreeV) : Int × Bool × Int :=
 if errC g items n ≠ 0 then (0, false, errC g items n) else if 1024 < nodesV t then (0, false, 2)
 else if (derivV g items t g.startNo).2 = false ∨ t.frm ≠ 0 ∨ t.unt ≠ n then (0, false, 0) else ((derivV g items t g.startNo).1, true, 0)
section
variable {g : Gram} {items : List ItemG} {n : Int}
theorem bestC_mem (h : ArgsOkC g items n) {x : Dv} (hb : bestC g items n = some x) : derivV g items x.2 g.startNo = (x.1, true) ∧ x.2.frm = 0 ∧ x.2.unt = n ∧ nodesV x.2 ≤ (2 * n.toNat - 1) * g.cats.xs.length := by
 have hm := (firstM_mem hb).1
 obtain ⟨h1, h2, h3⟩ := deriv_of_mem _ _ _ _ _ hm
 have h4 := h.n1
 have h5 := der_nodes h.gram _ _ _ _ _ hm (by omega)
 refine ⟨h3, by simpa using h1, by rw [h2]; omega, ?_⟩
 have h6 : rankC g g.startNo + 1 ≤ g.cats.xs.length := by
  unfold rankC
  split
  ·
   rename_i a ha
   have h7 := h.gram.circ a (List.mem_of_getElem? ha)
   have h8 := rankN_le g.rules.xs a g.cats.xs.length
   have h9 := rankN_path g.rules.xs a g.cats.xs.length
   rcases Nat.lt_or_ge (rankN g.rules.xs a g.cats.xs.length) g.cats.xs.length with h | h
   ·
    omega
   ·
    rw [show rankN g.rules.xs a g.cats.xs.length = g.cats.xs.length by omega, h7] at h9; cases h9
  ·
   have := h.gram.start; omega
 rw [show 2 * n.toNat - 1 = (2 * (n.toNat - 0) - 2) + 1 by omega, Nat.add_mul]
 omega
theorem taken_mem (h : ArgsOkC g items n) {t : TreeV} {c : Int} (hc : costR g items n t = (c, true, 0)) : (c, t) ∈ derG g items g.startNo 0 n.toNat := by
 unfold costR at hc
 rw [if_neg (fun hn => hn (errC_of h))] at hc
 split at hc
 ·
  simp at hc
 split at hc
 ·
  simp at hc
 ·
  rename_i h2
  simp only [not_or, Decidable.not_not, Bool.not_eq_false] at h2
  simp only [Prod.mk.injEq, and_true, true_and] at hc
  obtain ⟨i, k, h3, h4, h5, h6, h7⟩ := deriv_mem h.gram h.items t g.startNo c (by rw [← hc, ← h2.1])
  have e1 : i = 0 := by omega
  have e2 : k = n.toNat := by have := h2.2.2; omega
  rw [e1, e2] at h7
  exact h7
theorem never_plain (h : ArgsOkC g items n) {t : TreeV} {c : Int} (hc : costR g items n t = (c, true, 0)) : ∃ x, bestC g items n = some x ∧ x.1 ≤ c ∧ (c = x.1 → beforeV t x.2 = false) := by
 have hm := taken_mem h hc
 cases hb : bestC g items n with
 | none =>
  have := firstM_none hb
  rw [this] at hm; cases hm
 | some x =>
  refine ⟨x, rfl, (firstM_mem hb).2 _ hm, fun e => ?_⟩
  exact first_not_before hb hm e
theorem best_taken (h : ArgsOkC g items n) (h6 : g.cats.xs.length ≤ 6) (h7 : n ≤ 7) {x : Dv} (hb : bestC g items n = some x) : costR g items n x.2 = (x.1, true, 0) := by
 obtain ⟨h1, h2, h3, h4⟩ := bestC_mem h hb
 unfold costR
 have h5 : (2 * n.toNat - 1) * g.cats.xs.length ≤ 13 * 6 := Nat.mul_le_mul (by omega) h6
 rw [if_neg (fun hn => hn (errC_of h)), if_neg (by omega), h1, if_neg (by rw [h2, h3]; simp)]
theorem none_taken (h : ArgsOkC g items n) (hn : 1 ≤ n) : costR g items n zeroT = (0, false, 0) := by
 unfold costR
 rw [if_neg (fun hn => hn (errC_of h)), if_neg (by simp [zeroT, nodesV, nodesVs]), if_pos]
 right; right
 simp [zeroT]; omega
end
end Go.Proofs.YthojaplnimoacaaGreatDoor

/- Reference 29: Stands, few, times, Right, Error. -/
namespace Go.Proofs.YthojaplnimoacaaGreatDoor
open Go.RowKit Go.Han
attribute [local irreducible] wpStill wpQuiet
set_option maxRecDepth 100000

theorem ItemG.size_cells (x : ItemG) : x.cells.length = 6 := rfl
structure ItemsAt (w : World) (its : SlS ItemG) : Prop where
 lies : its.lies ItemG.cells w
 tgt : ∀ x ∈ its.xs, x.tgt.lies w
theorem ItemsAt.ext {w w' : World} {its : SlS ItemG} (h : ItemsAt w its) (hb : Below w.heap.size w w') : ItemsAt w' its := ⟨h.lies.ext hb, fun x hx => StrS.lies.ext (h.tgt x hx) hb⟩
end Go.Proofs.YthojaplnimoacaaGreatDoor

/- slices.BinarySearchFunc at hansard/api.Term, by the number. -/
namespace Go.Proofs.YthojaplnimoacaaGreatDoor
open Go.RowKit Go.Han
attribute [local irreducible] wpStill wpQuiet

end Go.Proofs.YthojaplnimoacaaGreatDoor

/- Rows of cells: copy, append of zero values, clear, at elements of any number of cells. No program in sight. -/
namespace Go.Han
open Go.RowKit

def Row (w : World) (g t : Nat) (cur : List Value) : Prop := w.heap[g]? = some (.cells cur.toArray t (0, 0))
theorem Row.lt {w : World} {g t : Nat} {cur : List Value} (h : Row w g t cur) : g < w.heap.size := lt_block h
theorem Row.cell {w : World} {g t : Nat} {cur : List Value} (h : Row w g t cur) (j : Nat) : w.cell? ⟨g, j, none⟩ = cur[j]? := by
 unfold Row at h
 simp [World.cell?, h]
theorem Row.frozen {w : World} {g t : Nat} {cur : List Value} (h : Row w g t cur) (j : Nat) : w.frozen? ⟨g, j, none⟩ = false := by
 unfold Row at h
 simp [World.frozen?, h]
theorem Row.ext {w w' : World} {g t : Nat} {cur : List Value} (h : Row w g t cur) (hb : Below w.heap.size w w') : Row w' g t cur := (hb.block g h.lt).trans h
theorem Row.far {w w' : World} {g t : Nat} {cur : List Value} (h : Row w g t cur) {row : Option Nat} (hg : w.grownBy w' row) (hne : some g ≠ row) : Row w' g t cur := (hg.block g h.lt hne).trans h
theorem Row.drew {w : World} {g t : Nat} {cur : List Value} (h : Row w g t cur) : Row w.drew g t cur := h
theorem Row.rd {w : World} {g t : Nat} {cur : List Value} (h : Row w g t cur) (off : Nat) {xs : List Value} (hx : ∀ (j : Nat) (u : Value), xs[j]? = some u → cur[off + j]? = some u) : Rd w (some ⟨g, off, none⟩) xs :=
 .inr ⟨g, off, rfl, h.lt, fun j u hu => (h.cell _).trans (hx j u hu)⟩

section
variable {P : Program} (w : World)

end

end Go.Han

/- slices.Insert of one element at hansard/api.Term: into a slice of one's own. -/
namespace Go.Proofs.YthojaplnimoacaaGreatDoor
open Go.RowKit Go.Han

end Go.Proofs.YthojaplnimoacaaGreatDoor

/- Package glossary: Add. -/
namespace Go.Proofs.YthojaplnimoacaaGreatDoor
open Go.RowKit Go.Han
attribute [local irreducible] wpStill wpQuiet
set_option maxRecDepth 100000

/-! ### plain -/
end Go.Proofs.YthojaplnimoacaaGreatDoor
