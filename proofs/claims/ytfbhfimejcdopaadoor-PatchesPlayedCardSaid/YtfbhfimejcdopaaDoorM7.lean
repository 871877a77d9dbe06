/- Texts of this claim, one after the other: Pat7, Pat8, Pat9, Ref51a, Law51s, Law51a. -/
import Derived.Test.YtfbhfimejcdopaaDoorM6
import Derived.RegionCalls
import Derived.StillTailTactics
import Derived.Deep.RegionWith
/- Package patches: what Diff adds, and what it adds it by. -/
namespace Go.Proofs.YtfbhfimejcdopaaDoor
open Go.RowKit Go.Han
attribute [local irreducible] wpStill wpQuiet
set_option maxRecDepth 100000

def PairV.o (p : PairV) : Option Spot := if p.was = true then some p.old else none
def PairV.s (p : PairV) : Option Spot := if p.is_ = true then some p.now else none
theorem getD_ite (o : Option Spot) (z : Spot) : (if o.isSome = true then some (o.getD z) else none) = o := by cases o <;> rfl
theorem pairOf_o (a b : List Spot) (n : Int) : (pairOf a b n).o = getS n a := getD_ite _ _
theorem pairOf_s (a b : List Spot) (n : Int) : (pairOf a b n).s = getS n b := getD_ite _ _
def chgP (t : Int) (p : PairV) : List Change := chgG t p.o p.s
def clashP (p : PairV) : Bool := clashG p.o p.s
theorem chgP_pair (t : Int) (a b : List Spot) (n : Int) : chgP t (pairOf a b n) = chgG t (getS n a) (getS n b) := by unfold chgP; rw [pairOf_o, pairOf_s]
theorem diffK_pairs (t : Int) (a b : List Spot) (U : List Int) : (U.map (pairOf a b)).flatMap (chgP t) = diffK t a b U := by
  unfold diffK
  rw [List.flatMap_map]
  exact flatMap_same (fun n _ => chgP_pair t a b n)
theorem chgP_len (t : Int) (p : PairV) : (chgP t p).length ≤ 1 := chgG_len t _ _
/-- What is true of the pairs that come. -/
structure PairOk (p : PairV) : Prop where
  some_ : p.was = true ∨ p.is_ = true
  same : p.was = true → p.is_ = true → p.old.id = p.now.id
theorem pair_ok {a b : List Spot} (ha : Asc a) (hb : Asc b) {p : PairV} (h : p ∈ (unionI a b).map (pairOf a b)) : PairOk p := by
  obtain ⟨n, hn, rfl⟩ := List.mem_map.1 h
  refine ⟨((diff_union 0 a b ha hb).1.mem n).1 hn, fun h1 h2 => ?_⟩
  change (getS n a).isSome = true at h1
  change (getS n b).isSome = true at h2
  obtain ⟨x, hx⟩ := Option.isSome_iff_exists.1 h1
  obtain ⟨y, hy⟩ := Option.isSome_iff_exists.1 h2
  show ((getS n a).getD spot0).id = ((getS n b).getD spot0).id
  rw [hx, hy]
  exact (getS_some hx).2.trans (getS_some hy).2.symm
theorem clash_pairs {a b : List Spot} {p : PairV} (h : p ∈ (unionI a b).map (pairOf a b)) (hc : clashP p = true) : clashB a b = true := by
  obtain ⟨n, hn, rfl⟩ := List.mem_map.1 h
  unfold clashP at hc
  rw [pairOf_o, pairOf_s] at hc
  cases h' : clashB a b
  · rw [clash_of h' n] at hc; cases hc
  · rfl
theorem clash_pairs_no {a b : List Spot} (ha : Asc a) (hb : Asc b) (h : ∀ p ∈ (unionI a b).map (pairOf a b), clashP p = false) : clashB a b = false := by
  cases h' : clashB a b
  · rfl
  · obtain ⟨x, hx, hc⟩ := clash_some h'
    have hg := getS_mem ha hx
    have := h (pairOf a b x.id) (List.mem_map.2 ⟨x.id, ((diff_union 0 a b ha hb).1.mem _).2 (.inl (by rw [hg]; rfl)), rfl⟩)
    unfold clashP at this
    rw [pairOf_o, pairOf_s, hg, hc] at this
    cases this

/-! ### add -/
structure Added (bp base : Nat) (v : Value) (l : List Change) (w : World) (w' : World) : Prop where
  os : w'.os = w.os
  tape : w'.tape = w.tape
  output : w'.output = w.output
  size : w.heap.size ≤ w'.heap.size
  block : ∀ k, k < w.heap.size → k ≠ bp → v.ownBlock ≠ some k → w'.heap[k]? = w.heap[k]?
  now : ∃ v', w'.heap[bp]? = some (.cells #[v'] 46 (0, 0)) ∧ OwnL Change.cells 54 5 w' base v' l ∧ (v'.ownBlock = v.ownBlock ∨ ∃ g, v'.ownBlock = some g ∧ w.heap.size ≤ g)
theorem chg_one (c : Change) : ∀ u ∈ c.cells, u.oneCell' = true := by
  intro u hu
  unfold Change.cells at hu
  simp only [List.mem_cons, List.not_mem_nil, or_false] at hu
  rcases hu with rfl | rfl | rfl | rfl | rfl <;> rfl
set_option maxHeartbeats 2000000 in
theorem add51_any (bp bt base : Nat) (v : Value) (l : List Change) (t kd : Int) (x : Spot) (w : World) (hbp : w.heap[bp]? = some (.cells #[v] 46 (0, 0))) (hbt : w.heap[bt]? = some (.cells #[.int .i64 t] 3 (0, 0)))
    (hown : OwnL Change.cells 54 5 w base v l) (hl : l.length ≤ 100000) (hne : v.ownBlock ≠ some bp) (hbb : base ≤ w.heap.size) :
    Calls Tryd.prog 54 #[.int .i64 kd, .agg #[.int .i64 x.id, .int .i64 x.ver, .string x.text], .pointer (some ⟨bp, 0, none⟩), .pointer (some ⟨bt, 0, none⟩)] w fun e w' => e = .returned (.tuple #[]) ∧ Added bp base v (l ++ [⟨t, kd, x⟩]) w w' := by
  obtain ⟨i0, hi0, hz0, hs0, hb0⟩ := info_parts info_change
  have np := lt_block hbp
  have nt := lt_block hbt
  have c0 := fun o => cell_one ((Below.heap_alloc w o bp np).trans hbp)
  have c1 := fun o => cell_one ((Below.heap_alloc w o bt nt).trans hbt)
  obtain ⟨W2, hW2⟩ : ∃ W2, (w.alloc (.cells #[.int .i64 x.id, .int .i64 x.ver, .string x.text] 52)).alloc (.cells #[.int .i64 t, .int .i64 kd, .int .i64 x.id, .int .i64 x.ver, .string x.text] 54) = W2 := ⟨_, rfl⟩
  have hB2 : Below w.heap.size w W2 := by rw [← hW2]; exact ext_alloc (ext_alloc (Below.refl _ _) _) _
  have hz2 : W2.heap.size = w.heap.size + 2 := by rw [← hW2]; simp
  have hx2 : W2.heap[w.heap.size + 1]? = some (.cells #[.int .i64 t, .int .i64 kd, .int .i64 x.id, .int .i64 x.ver, .string x.text] 54 (0, 0)) := by rw [← hW2]; exact galloc_at _ _ _ (by simp)
  have hrx : Rd W2 (some ⟨w.heap.size + 1, 0, none⟩) (Change.cells ⟨t, kd, x⟩) := grd_blk hx2 rfl
  have hown2 := hown.ext hB2
  have A1 : l.length + 1 ≤ maxLen := by unfold maxLen; omega
  have A2 : (l.length + 1) * 48 ≤ 140737488355328 := by omega
  have A3 : base ≤ W2.heap.size := by omega
  have hbp2 := (hB2.block bp np).trans hbp
  have Hown := Lib.hid hown
  have Hne := Lib.hid hne
  have HB2 := Lib.hid hB2
  clear hbp hbt hown hne hl hbb hx2
  go_enter Tryd.func54, Tryd.ntmps54
  go_wp2_with (at_builtin; refine wpList_append_rd rfl _ _ 46 rfl base 54 i0 _ 5 48 Tryd.underlying46 hi0 hz0 hs0 hb0 rfl (by decide) _ _ _ rfl (some ⟨w.heap.size + 1, 0, none⟩) 1 1 (Change.cells ⟨t, kd, x⟩) rfl hown2 rfl hrx (chg_one _) A1 A2 A3 ?_; intro v3 w3 hown3 hgrow3 hat3; obtain ⟨A3, cp3, rfl, hle3⟩ := own_room hown3; have hbp3 := (hgrow3.block bp (by omega) (fun e => Hne.out e.symm)).trans hbp2; have cb := cell_one hbp3; have fb := frozen_one hbp3 0)
  go_end0
  have hne3 : ∀ g, (Value.slice A3 (l.length + 1) cp3).ownBlock = some g → g ≠ bp := by
    rintro g hg rfl
    rcases hat3 with h | h
    · exact Hne.out (h.symm.trans hg)
    · rw [h] at hg; have := Option.some.inj hg; omega
  refine ⟨rfl, hgrow3.os.trans HB2.out.os, hgrow3.tape.trans HB2.out.tape, hgrow3.output.trans HB2.out.output, ?_, fun k hk hkb hkv => ?_, _, set_one hbp3 _, ?_, ?_⟩
  · have := hgrow3.size; simp; omega
  · exact (Below.heap_setCell _ _ _ _ hkb).trans ((hgrow3.block k (by omega) (fun e => hkv e.symm)).trans (HB2.out.block k hk))
  · exact (OwnL.snoc (f := Change.cells) ⟨t, kd, x⟩ hown3).block (fun g hg => Below.heap_setCell _ _ _ _ (hne3 g hg))
  · rcases hat3 with h | h
    · exact .inl h
    · exact .inr ⟨_, h, by omega⟩
end Go.Proofs.YtfbhfimejcdopaaDoor

/- Package patches: Diff. -/
namespace Go.Proofs.YtfbhfimejcdopaaDoor
open Go.RowKit Go.Han
attribute [local irreducible] wpStill wpQuiet
attribute [local go_sem] Oper.semAt_some
set_option maxRecDepth 100000

def DiffPost (a b : List Spot) (t : Int) (w : World) (e : Ending) (w' : World) : Prop :=
  Below w.heap.size w w' ∧ ((diffE a b t ≠ 0 ∧ e = .returned (.tuple #[.slice none 0 0, .int .i64 (diffE a b t)])) ∨ (diffE a b t = 0 ∧ ∃ v, e = .returned (.tuple #[v, .int .i64 0]) ∧ OwnL Change.cells 54 5 w' w.heap.size v (diffL t a b)))
/-- The three boxes: the time, the changes, the error. -/
structure St (t : Int) (w W : World) (p e : Value) : Prop where
  below : Below w.heap.size w W
  k0 : W.heap[w.heap.size]? = some (.cells #[.int .i64 t] 3 (0, 0))
  k1 : W.heap[w.heap.size + 1]? = some (.cells #[p] 46 (0, 0))
  k2 : W.heap[w.heap.size + 1 + 1]? = some (.cells #[e] 31 (0, 0))
theorem St.next {t : Int} {w W W' : World} {p e : Value} (h : St t w W p e) (hb : Below W.heap.size W W') : St t w W' p e :=
  ⟨ext_trans h.below hb, (hb.block _ (lt_block h.k0)).trans h.k0, (hb.block _ (lt_block h.k1)).trans h.k1, (hb.block _ (lt_block h.k2)).trans h.k2⟩
theorem St.setE {t : Int} {w W : World} {p e : Value} (h : St t w W p e) (v : Value) : St t w (W.setCell ⟨w.heap.size + 1 + 1, 0, none⟩ v) p v :=
  ⟨h.below.setCell (p := ⟨w.heap.size + 1 + 1, 0, none⟩) (by show w.heap.size ≤ w.heap.size + 1 + 1; omega) v, (Below.heap_setCell _ _ _ _ (by show w.heap.size ≠ w.heap.size + 1 + 1; omega)).trans h.k0, (Below.heap_setCell _ _ _ _ (by show w.heap.size + 1 ≠ w.heap.size + 1 + 1; omega)).trans h.k1, set_one h.k2 v⟩
theorem St.setP {t : Int} {w W : World} {p e : Value} (h : St t w W p e) (v : Value) : St t w (W.setCell ⟨w.heap.size + 1, 0, none⟩ v) v e :=
  ⟨h.below.setCell (p := ⟨w.heap.size + 1, 0, none⟩) (by simp) v, (Below.heap_setCell _ _ _ _ (by simp)).trans h.k0, set_one h.k1 v, (Below.heap_setCell _ _ _ _ (by simp)).trans h.k2⟩

theorem leavesM_now {P : Program} {fn : Func} {tmps : Array Value} {R : Ending → World → Prop} {W : World} {v : Value} (hres : (results fn tmps).run P W = .ok v W) (hR : R (.returned v) W) :
    LeavesInM Fence.wide 0 P fn tmps R [] .returning W := ⟨v, hres, hR⟩
theorem St.iter {t : Int} {w W W' : World} {p e : Value} {B0 : Nat} {own : Nat → Prop} (h : St t w W p e) (st : IterStep B0 (fun _ => False) own W W') (hB : w.heap.size < B0) (o1 : own (w.heap.size + 1)) (o2 : own (w.heap.size + 1 + 1)) : St t w W' p e :=
  ⟨⟨st.os.trans h.below.os, st.tape.trans h.below.tape, st.output.trans h.below.output, Nat.le_trans h.below.size st.size, fun k hk => (st.block k (Nat.lt_of_lt_of_le hk h.below.size) (.inl ⟨by omega, fun h => h⟩)).trans (h.below.block k hk)⟩,
   (st.block _ (lt_block h.k0) (.inl ⟨by omega, fun h => h⟩)).trans h.k0, (st.block _ (lt_block h.k1) (.inr o1)).trans h.k1, (st.block _ (lt_block h.k2) (.inr o2)).trans h.k2⟩
def addF (w : World) : Obj := .cells #[.func (.func 54) #[] #[.pointer (some ⟨w.heap.size + 1, 0, none⟩), .pointer (some ⟨w.heap.size, 0, none⟩)]] 86 (0, 0)
/-- Between two rounds. -/
def DInv (t : Int) (w : World) (b8 B0 : Nat) (own : Nat → Prop) (pre : List PairV) (W : World) : Prop :=
  ∃ v, (∀ k, own k ↔ (k = w.heap.size + 1 ∨ k = w.heap.size + 1 + 1 ∨ v.ownBlock = some k)) ∧ St t w W v (.int .i64 0) ∧ OwnL Change.cells 54 5 W B0 v (pre.flatMap (chgP t)) ∧ (∀ p ∈ pre, clashP p = false) ∧ W.heap[b8]? = some (addF w)
theorem d_stable (t : Int) (w : World) (b8 B0 : Nat) (h8 : b8 < B0) (h3 : w.heap.size + 1 + 1 < B0) : Stable B0 (fun _ => False) (DInv t w b8 B0) := by
  rintro own pre W W' ⟨v, ho, hs, hrow, hc, hb⟩ st
  exact ⟨v, ho, hs.iter st (by omega) ((ho _).2 (.inl rfl)) ((ho _).2 (.inr (.inl rfl))), hrow.block (fun g hg => st.block g (hrow.lt g hg).2 (.inr ((ho g).2 (.inr (.inr hg))))), hc, (st.block _ (lt_block hb) (.inl ⟨h8, fun h => h⟩)).trans hb⟩
/-- Where a clash was found. -/
def DIx (t : Int) (w : World) (a b : List Spot) (c : Code) (own : Nat → Prop) (_ : List PairV) (W : World) : Prop :=
  c = .ret ∧ own (w.heap.size + 1) ∧ own (w.heap.size + 1 + 1) ∧ St t w W (.slice none 0 0) (.int .i64 510) ∧ clashB a b = true
theorem dx_stable (t : Int) (w : World) (B0 : Nat) (a b : List Spot) (c : Code) (h3 : w.heap.size + 1 + 1 < B0) : Stable B0 (fun _ => False) (DIx t w a b c) := by
  rintro own pre W W' ⟨hc, o1, o2, hs, hcl⟩ st
  exact ⟨hc, o1, o2, hs.iter st (by omega) o1 o2, hcl⟩
def pairCells (x : PairV) : Array Value := #[.int .i64 x.old.id, .int .i64 x.old.ver, .string x.old.text, .int .i64 x.now.id, .int .i64 x.now.ver, .string x.now.text, .bool x.was, .bool x.is_]
/-- Ahead of a round. -/
def DAsg (t : Int) (w : World) (b8 B0 : Nat) (F : Value → Value → Array Value) (x : PairV) (a' : Act) (own : Nat → Prop) (pre : List PairV) (W : World) : Prop :=
  ∃ b own1, a' = { tmps := F (.pointer (some ⟨b, 0, none⟩)) (.agg (pairCells x)), defers := [] } ∧ (∀ k, own k ↔ (own1 k ∨ k = b)) ∧ W.heap[b]? = some (.cells (pairCells x) 91 (0, 0)) ∧ B0 ≤ b ∧ DInv t w b8 B0 own1 pre W
theorem flat_len1 (t : Int) : ∀ pre : List PairV, (pre.flatMap (chgP t)).length ≤ pre.length
  | [] => Nat.le_refl _
  | p :: pre => by
    rw [List.flatMap_cons, List.length_append, List.length_cons]
    have := chgP_len t p
    have := flat_len1 t pre
    omega
theorem d_add {t : Int} {w : World} {b8 B0 : Nat} {own own1 : Nat → Prop} {pre : List PairV} {x : PairV} {W W' : World} {v : Value} {c : Change} (hc : chgP t x = [c]) (hx : clashP x = false) (hsub : ∀ k, own1 k → own k)
    (ho : ∀ k, own1 k ↔ (k = w.heap.size + 1 ∨ k = w.heap.size + 1 + 1 ∨ v.ownBlock = some k)) (hs : St t w W v (.int .i64 0)) (hrow : OwnL Change.cells 54 5 W B0 v (pre.flatMap (chgP t)))
    (hcl : ∀ p ∈ pre, clashP p = false) (hb : W.heap[b8]? = some (addF w)) (h8 : b8 < B0) (h3 : w.heap.size + 1 + 1 < b8) (h : Added (w.heap.size + 1) B0 v (pre.flatMap (chgP t) ++ [c]) W W') :
    ∃ own', BodyStep own own' W W' ∧ DInv t w b8 B0 own' (pre ++ [x]) W' := by
  obtain ⟨v', hv', hr', hat⟩ := h.now
  have hlow : ∀ k, k < B0 → v.ownBlock ≠ some k := fun k hk e => by have := (hrow.lt k e).1; omega
  refine ⟨fun k => k = w.heap.size + 1 ∨ k = w.heap.size + 1 + 1 ∨ v'.ownBlock = some k, ⟨h.os, h.tape, h.output, h.size, fun k hk hno => h.block k hk ?_ ?_, fun k hk => ?_, fun k hk => ?_⟩, v', fun k => Iff.rfl, ⟨⟨h.os.trans hs.below.os, h.tape.trans hs.below.tape, h.output.trans hs.below.output, Nat.le_trans hs.below.size h.size, fun k hk => (h.block k (Nat.lt_of_lt_of_le hk hs.below.size) (by omega) (hlow k (by omega))).trans (hs.below.block k hk)⟩, ?_, hv', ?_⟩, ?_, ?_, ?_⟩
  · intro e; exact hno (hsub k ((ho k).2 (.inl e)))
  · intro e; exact hno (hsub k ((ho k).2 (.inr (.inr e))))
  · rcases hk with e | e | e
    · exact .inl (hsub k ((ho k).2 (.inl e)))
    · exact .inl (hsub k ((ho k).2 (.inr (.inl e))))
    · rcases hat with h1 | ⟨g, h1, h2⟩
      · exact .inl (hsub k ((ho k).2 (.inr (.inr (h1.symm.trans e)))))
      · rw [h1] at e; cases e; exact .inr h2
  · rcases hk with e | e | e
    · subst e; exact lt_block hv'
    · subst e; exact Nat.lt_of_lt_of_le (lt_block hs.k2) h.size
    · exact (hr'.lt k e).2
  · exact (h.block _ (lt_block hs.k0) (by omega) (hlow _ (by omega))).trans hs.k0
  · exact (h.block _ (lt_block hs.k2) (by omega) (hlow _ (by omega))).trans hs.k2
  · rw [List.flatMap_append, List.flatMap_cons, List.flatMap_nil, List.append_nil, hc]; exact hr'
  · intro p hp
    rcases List.mem_append.1 hp with hp | hp
    · exact hcl p hp
    · rw [List.mem_singleton] at hp; subst hp; exact hx
  · exact (h.block _ (lt_block hb) (by omega) (hlow _ h8)).trans hb
theorem d_same {t : Int} {w : World} {b8 B0 : Nat} {own1 : Nat → Prop} {pre : List PairV} {x : PairV} {W : World} (hc : chgP t x = []) (hx : clashP x = false) (h : DInv t w b8 B0 own1 pre W) : DInv t w b8 B0 own1 (pre ++ [x]) W := by
  obtain ⟨v, ho, hs, hrow, hcl, hb⟩ := h
  refine ⟨v, ho, hs, ?_, ?_, hb⟩
  · rw [List.flatMap_append, List.flatMap_cons, List.flatMap_nil, List.append_nil, hc, List.append_nil]; exact hrow
  · intro p hp
    rcases List.mem_append.1 hp with hp | hp
    · exact hcl p hp
    · rw [List.mem_singleton] at hp; subst hp; exact hx
theorem below_put {w W : World} {B D : Nat} (h : Below B w W) (hD : B ≤ D) (o : Obj) : Below B w (W.putObj D o) := ⟨h.os, h.tape, h.output, by rw [World.putObj_size]; exact h.size, fun k hk => (World.putObj_heap_other (by omega)).trans (h.block k hk)⟩
theorem timeB_neg {t : Int} (h : t < 0) : timeB t = false := by unfold timeB; rw [decide_eq_false (by omega)]; rfl
theorem timeB_big {t : Int} (h : 1099511627776 ≤ t) : timeB t = false := by unfold timeB; rw [decide_eq_false (p := t < 1099511627776) (by omega)]; simp
theorem timeB_ok {t : Int} (h : 0 ≤ t) (h' : t < 1099511627776) : timeB t = true := by unfold timeB; rw [decide_eq_true h, decide_eq_true h']; rfl
theorem diffE_a {a b : List Spot} {t : Int} (h : checkE a ≠ 0) : diffE a b t = checkE a := by unfold diffE; rw [if_pos h]
theorem diffE_b {a b : List Spot} {t : Int} (h : checkE a = 0) (h' : checkE b ≠ 0) : diffE a b t = checkE b := by unfold diffE; rw [if_neg (by simpa using h), if_pos h']
theorem diffE_t {a b : List Spot} {t : Int} (h : checkE a = 0) (h' : checkE b = 0) (ht : timeB t = false) : diffE a b t = 1 := by unfold diffE; rw [if_neg (by simpa using h), if_neg (by simpa using h'), if_pos ht]
theorem diffE_c {a b : List Spot} {t : Int} (h : checkE a = 0) (h' : checkE b = 0) (ht : timeB t = true) : diffE a b t = if clashB a b = true then 510 else 0 := by unfold diffE; rw [if_neg (by simpa using h), if_neg (by simpa using h'), if_neg (by rw [ht]; simp)]
theorem flat_nil {l : List Spot} (h : flat l = []) : l = [] := by
  cases l with
  | nil => rfl
  | cons x l => have := congrArg List.length h; simp [flat, Spot.cells] at this
theorem rd_low {w W : World} {A : Option Addr} {xs : List Value} (h : Rd w A xs) (hz : w.heap.size ≤ W.heap.size) (hl : ∀ k, k < w.heap.size → W.heap[k]? = w.heap[k]?) : Rd W A xs := by
  rcases h with h | ⟨b, off, he, hb, hc⟩
  · exact .inl h
  · exact .inr ⟨b, off, he, by omega, fun j u hu => (World.cell?_of_block (w := w) (a := ⟨b, off + j, none⟩) (hl b hb)).trans (hc j u hu)⟩
set_option maxHeartbeats 2000000 in
theorem Diff51_any (A : Option Addr) (cp : Nat) (a : List Spot) (B : Option Addr) (cq : Nat) (b : List Spot) (t : Int) (w : World) (hT : Tabs w) (hr : Rd w A (flat a)) (hm : a.length ≤ 9223372036854775807) (hr' : Rd w B (flat b)) (hm' : b.length ≤ 9223372036854775807) :
    Calls Tryd.prog 23 #[.slice A a.length cp, .slice B b.length cq, .int .i64 t] w (DiffPost a b t w) := by
  have cA := Lib.hid (fun W (h : Below w.heap.size w W) => Check_any A cp a W (utf_ext hT h) (hr.ext h) hm)
  have cB := Lib.hid (fun W (h : Below w.heap.size w W) => Check_any B cq b W (utf_ext hT h) (hr'.ext h) hm')
  have HR := Lib.hid hr
  have HR' := Lib.hid hr'
  clear hT hr hr'
  have hmf : ∀ (fn : Fn) (first cap : Array Value) (w : World), (Instr.makeFunc fn first cap).run Tryd.prog w = .ok (.func fn first cap) w := fun _ _ _ _ => rfl
  refine calls_of_wpAt Tryd.func23 rfl ?_
  simp only [Tryd.ntmps23, List.size_toArray, List.length_cons, List.length_nil, Nat.reduceAdd, Nat.reduceSub, Array.replicate_succ, Array.replicate_zero, List.push_toArray, List.append_toArray, List.nil_append, List.cons_append]
  refine wpAt_seq_wp fun K1 hK1 => ?_
  go_wp2_with fail
  obtain ⟨W0, hW0⟩ : ∃ W0, ((w.alloc (.cells #[.int .i64 t] 3)).alloc (.cells #[.slice none 0 0] 46)).alloc (.cells #[.int .i64 0] 31) = W0 := ⟨_, rfl⟩
  have hs0 : St t w W0 (.slice none 0 0) (.int .i64 0) := by
    rw [← hW0]
    refine ⟨ext_alloc (ext_alloc (ext_alloc (Below.refl _ _) _) _) _, ?_, ?_, ?_⟩
    · exact (Below.heap_alloc _ _ _ (by simp; omega)).trans ((Below.heap_alloc _ _ _ (by simp)).trans (galloc_at _ _ _ rfl))
    · exact (Below.heap_alloc _ _ _ (by simp)).trans (galloc_at _ _ _ (by simp))
    · exact galloc_at _ _ _ (by simp)
  rw [hW0]
  refine wpAt_seq_wp fun K2 hK2 => ?_
  go_wp2_with fail
  refine (cA.out W0 hs0.below).mono ?_
  rintro e W1 ⟨rfl, hb1⟩
  have hs1 := hs0.next hb1
  have c2 := cell_one hs1.k2
  have f2 := frozen_one hs1.k2 0
  have c1 := cell_one hs1.k1
  have f1 := frozen_one hs1.k1 0
  by_cases hca : checkE a = 0
  · have Hca := Lib.hid hca
    rw [hca]
    have hs1' := hs1.setE (.int .i64 0)
    obtain ⟨W2, hW2⟩ : ∃ W2, W1.setCell ⟨w.heap.size + 1 + 1, 0, none⟩ (.int .i64 0) = W2 := ⟨_, rfl⟩
    rw [hW2] at hs1'
    have c2' := cell_one hs1'.k2
    clear hca
    go_wp2_with fail
    refine wpAt_seq_wp fun K3 hK3 => ?_
    go_wp2_with fail
    refine (cB.out W2 hs1'.below).mono ?_
    rintro e W3 ⟨rfl, hb3⟩
    have hs3 := hs1'.next hb3
    clear c1 c2 f1 f2 hs1 hb1 hs1' hb3 hs0 c2'
    have c2 := cell_one hs3.k2
    have f2 := frozen_one hs3.k2 0
    have c1 := cell_one hs3.k1
    have f1 := frozen_one hs3.k1 0
    by_cases hcb : checkE b = 0
    · have Hcb := Lib.hid hcb
      rw [hcb]
      have hs3' := hs3.setE (.int .i64 0)
      obtain ⟨W4, hW4⟩ : ∃ W4, W3.setCell ⟨w.heap.size + 1 + 1, 0, none⟩ (.int .i64 0) = W4 := ⟨_, rfl⟩
      rw [hW4] at hs3'
      have c2' := cell_one hs3'.k2
      clear hcb
      go_wp2_with fail
      clear c1 c2 f1 f2 hs3 hW2 hW0 c2'
      have c0 := cell_one hs3'.k0
      have c1 := cell_one hs3'.k1
      have f1 := frozen_one hs3'.k1 0
      have c2 := cell_one hs3'.k2
      have f2 := frozen_one hs3'.k2 0
      refine wpAt_seq_wp fun K4 hK4 => ?_
      by_cases ht1 : t < 0
      · have HF := Lib.hid (diffE_t Hca.out Hcb.out (timeB_neg ht1))
        have g1 : decide (t < 0) = true := decide_eq_true ht1
        clear ht1
        go_wp2_with fail
        have hfin := (hs3'.setP (.slice none 0 0)).setE (.int .i64 1)
        refine leavesM_now (v := .tuple #[.slice none 0 0, .int .i64 1]) ?_ ⟨hfin.below, .inl ⟨by rw [HF.out]; decide, by rw [HF.out]⟩⟩
        have g1 := cell_one hfin.k1
        have g2 := cell_one hfin.k2
        simp [results, Tryd.results23, go_sem, g1, g2]
      have g1 : decide (t < 0) = false := decide_eq_false ht1
      by_cases ht2 : 1099511627776 ≤ t
      · have HF := Lib.hid (diffE_t Hca.out Hcb.out (timeB_big ht2))
        have g2 : decide (t ≥ 1099511627776) = true := decide_eq_true ht2
        clear ht1 ht2
        go_wp2_with fail
        have hfin := (hs3'.setP (.slice none 0 0)).setE (.int .i64 1)
        refine leavesM_now (v := .tuple #[.slice none 0 0, .int .i64 1]) ?_ ⟨hfin.below, .inl ⟨by rw [HF.out]; decide, by rw [HF.out]⟩⟩
        have g1 := cell_one hfin.k1
        have g2 := cell_one hfin.k2
        simp [results, Tryd.results23, go_sem, g1, g2]
      have g2 : decide (t ≥ 1099511627776) = false := decide_eq_false ht2
      have HF := Lib.hid (diffE_c (t := t) Hca.out Hcb.out (timeB_ok (by omega) (by omega)))
      have HTB : Hid (timeB t = true) := timeB_ok (by omega) (by omega)
      clear ht1 ht2 hmf
      go_wp2_with fail
      clear g1 g2
      have hmf : ∀ (fn : Fn) (first cap : Array Value) (w : World), (Instr.makeFunc fn first cap).run Tryd.prog w = .ok (.func fn first cap) w := fun _ _ _ _ => rfl
      refine wpAt_seq_wp fun K5 hK5 => ?_
      go_wp2_with fail
      obtain ⟨W5, hW5⟩ : ∃ W5, W4.alloc (.cells #[.func (.func 54) #[] #[.pointer (some ⟨w.heap.size + 1, 0, none⟩), .pointer (some ⟨w.heap.size, 0, none⟩)]] 86) = W5 := ⟨_, rfl⟩
      have hb45 : Below W4.heap.size W4 W5 := by rw [← hW5]; exact ext_alloc (Below.refl _ _) _
      have hz5 : W5.heap.size = W4.heap.size + 1 := by rw [← hW5]; simp
      have hx5 : W5.heap[W4.heap.size]? = some (.cells #[.func (.func 54) #[] #[.pointer (some ⟨w.heap.size + 1, 0, none⟩), .pointer (some ⟨w.heap.size, 0, none⟩)]] 86 (0, 0)) := by rw [← hW5]; exact World.alloc_heap_new _ _
      rw [hW5]
      have hs5 := hs3'.next hb45
      clear hW4 hW5 hmf c0 c1 c2 f1 f2
      refine wpAt_seq ?_
      refine wpAt_seq_wp fun K6 hK6 => ?_
      go_wp2_with fail
      refine (pairs_any A a.length cp B b.length cq W5).mono ?_
      rintro e W6 ⟨rfl, hW6⟩
      have hb56 : Below W5.heap.size W5 W6 := by rw [← hW6]; exact ext_alloc (ext_alloc (Below.refl _ _) _) _
      have hz6 : W6.heap.size = W5.heap.size + 2 := by rw [← hW6]; simp
      have hp1 : W6.heap[W5.heap.size]? = some (.cells #[.slice A a.length cp] 45 (0, 0)) := by rw [← hW6]; exact (Below.heap_alloc _ _ _ (by simp)).trans (galloc_at _ _ _ rfl)
      have hp2 : W6.heap[W5.heap.size + 1]? = some (.cells #[.slice B b.length cq] 45 (0, 0)) := by rw [← hW6]; exact galloc_at _ _ _ (by simp)
      have hs6 := hs5.next hb56
      have hx6 := (hb56.block _ (lt_block hx5)).trans hx5
      clear hW6
      go_wp2_with fail
      refine wpAt_block ?_
      rw [hz5] at hp1 hp2 hz6
      have hA6 := HR.out.ext hs6.below
      have hB6 := HR'.out.ext hs6.below
      have hlt2 := lt_block hs6.k2
      have hlt2' := lt_block hs3'.k2
      have hAb : ∀ a', A = some a' → a ≠ [] → a'.block < w.heap.size := by
        intro a' ha' hne
        rcases HR.out with h0 | ⟨bb, off, he, hb, _⟩
        · exact absurd (flat_nil h0) hne
        · rw [he] at ha'; cases ha'; exact hb
      have hBb : ∀ a', B = some a' → b ≠ [] → a'.block < w.heap.size := by
        intro a' ha' hne
        rcases HR'.out with h0 | ⟨bb, off, he, hb, _⟩
        · exact absurd (flat_nil h0) hne
        · rw [he] at ha'; cases ha'; exact hb
      have hK : ∀ W : World, (∀ k, (k < W6.heap.size ∧ k ≠ w.heap.size + 1 ∧ k ≠ w.heap.size + 1 + 1) → W.heap[k]? = W6.heap[k]?) → W.heap[W4.heap.size + 1]? = some (.cells #[.slice A a.length cp] 45 (0, 0)) ∧ W.heap[W4.heap.size + 1 + 1]? = some (.cells #[.slice B b.length cq] 45 (0, 0)) ∧ Rd W A (flat a) ∧ Rd W B (flat b) := by
        intro W hW
        have r2 := (hW (W4.heap.size + 1 + 1) ⟨by omega, by omega, by omega⟩).trans hp2
        have hszW : w.heap.size ≤ W.heap.size := by have := lt_block r2; omega
        have hlow : ∀ k, k < w.heap.size → W.heap[k]? = w.heap[k]? := fun k hk => (hW k ⟨by omega, by omega, by omega⟩).trans (hs6.below.block k hk)
        exact ⟨(hW (W4.heap.size + 1) ⟨by omega, by omega, by omega⟩).trans hp1, r2, rd_low HR.out hszW hlow, rd_low HR'.out hszW hlow⟩
      have hit := pairs1 (W4.heap.size + 1) (W4.heap.size + 1 + 1) A B cp cq a b (fun k => k < W6.heap.size ∧ k ≠ w.heap.size + 1 ∧ k ≠ w.heap.size + 1 + 1) W6 hK Hca.out Hcb.out
      have haa := ((checkE_iff a).1 Hca.out).2.2
      have hbb := ((checkE_iff b).1 Hcb.out).2.2
      have hok := Lib.hid (fun p h => pair_ok haa hbb (p := p) h)
      have HUL := Lib.hid (union_le Hca.out Hcb.out)
      clear hK hp1 hp2 hA6 hB6
      refine wp_rangeP (xs := (unionI a b).map (pairOf a b)) (pe := none) (R := fun k => k < W6.heap.size ∧ k ≠ w.heap.size + 1 ∧ k ≠ w.heap.size + 1 + 1) (M := fun _ => False) (w0 := W6) Tryd.func23 rfl
        (enters_of Tryd.func90 (by kernel_rfl) rfl) hit (fun k hk => ⟨hk.1, rfl⟩) (fun _ => rfl)
        (DInv t w W4.heap.size W6.heap.size) (DIx t w a b) (fun _ _ => False)
        (d_stable _ _ _ _ (by omega) (by omega)) (fun c => dx_stable _ _ _ _ _ c (by omega)) (fun k => k = w.heap.size + 1 ∨ k = w.heap.size + 1 + 1) ?_ ?_
        (DAsg t w W4.heap.size W6.heap.size (fun p v => #[.slice A a.length cp, .slice B b.length cq, .int .i64 t, undef, undef, .pointer (some ⟨w.heap.size, 0, none⟩), .pointer (some ⟨w.heap.size + 1, 0, none⟩), .pointer (some ⟨w.heap.size + 1 + 1, 0, none⟩), .pointer (some ⟨W4.heap.size, 0, none⟩), p, .slice A a.length cp, .int .i64 0, .int .i64 0, .bool false, undef, .slice B b.length cq, .int .i64 0, .int .i64 0, .bool false, undef, .int .i64 t, .bool false, .bool false, .int .i64 t, .bool false, .bool false, .func (.func 54) #[] #[.pointer (some ⟨w.heap.size + 1, 0, none⟩), .pointer (some ⟨w.heap.size, 0, none⟩)], .slice A a.length cp, .slice B b.length cq, .func (.func 90) #[] #[.pointer (some ⟨W4.heap.size + 1, 0, none⟩), .pointer (some ⟨W4.heap.size + 1 + 1, 0, none⟩)], v, undef, undef, undef, undef, undef, undef, undef, undef, undef, undef, undef, undef, undef, undef, undef, undef, undef, undef, undef, undef, undef, undef, undef, undef, undef, undef, undef, undef, undef, undef, undef, undef, undef, undef, undef])) ?_ ?_ ?_ ?_ ?_ ?_ ?_
      · rintro k (rfl | rfl)
        · exact ⟨by omega, fun h => h.2.1 rfl⟩
        · exact ⟨by omega, fun h => h.2.2 rfl⟩
      · exact ⟨_, fun k => by simp [Value.ownBlock], hs6, OwnL.nil _ _ _ _ _, by simp, hx6⟩
      · rintro x a' own pre W W' ⟨b', own1, ha, ho, hb, hB, hI⟩ st
        exact ⟨b', own1, ha, ho, (st.block b' (lt_block hb) (.inr ((ho b').2 (.inr rfl)))).trans hb, hB, d_stable _ _ _ _ (by omega) (by omega) own1 pre W W' hI ⟨st.os, st.tape, st.output, st.size, fun k hk h => st.block k hk (h.imp id (fun h => (ho k).2 (.inl h)))⟩⟩
      · rintro l1 own pre x W hI hl1 hl2 ho hpre
        refine wpIn_mono (Q := Exit.then (fun a' W' => ∃ own', BodyStep own own' W W' ∧ DAsg t w W4.heap.size W6.heap.size (fun p v => #[.slice A a.length cp, .slice B b.length cq, .int .i64 t, undef, undef, .pointer (some ⟨w.heap.size, 0, none⟩), .pointer (some ⟨w.heap.size + 1, 0, none⟩), .pointer (some ⟨w.heap.size + 1 + 1, 0, none⟩), .pointer (some ⟨W4.heap.size, 0, none⟩), p, .slice A a.length cp, .int .i64 0, .int .i64 0, .bool false, undef, .slice B b.length cq, .int .i64 0, .int .i64 0, .bool false, undef, .int .i64 t, .bool false, .bool false, .int .i64 t, .bool false, .bool false, .func (.func 54) #[] #[.pointer (some ⟨w.heap.size + 1, 0, none⟩), .pointer (some ⟨w.heap.size, 0, none⟩)], .slice A a.length cp, .slice B b.length cq, .func (.func 90) #[] #[.pointer (some ⟨W4.heap.size + 1, 0, none⟩), .pointer (some ⟨W4.heap.size + 1 + 1, 0, none⟩)], v, undef, undef, undef, undef, undef, undef, undef, undef, undef, undef, undef, undef, undef, undef, undef, undef, undef, undef, undef, undef, undef, undef, undef, undef, undef, undef, undef, undef, undef, undef, undef, undef, undef, undef, undef]) x a' own' pre W') (fun _ _ _ => False)) ?_ (fun e a w h => h)
        have hlv : ∀ k, own k → k < W.heap.size := fun k hk => (ho k hk).2.1
        unfold encP
        gi_wp2
        refine ⟨fun k => own k ∨ k = W.heap.size, BodyStep.turn ((BodyStep.refl hlv).alloc _) ?_ ?_, W.heap.size, own, rfl, fun k => Iff.rfl, World.alloc_heap_new _ _, by omega, ?_⟩
        · rintro k (h | h)
          · exact .inl h
          · exact .inr (by omega)
        · rintro k (h | h)
          · have := hlv k h; simp; omega
          · simp; omega
        · exact d_stable _ _ _ W6.heap.size (by omega) (by omega) own pre W _ hI ((IterStep.refl _ _ _ _).alloc _)
      · rintro l1 own pre x a' W ⟨b', own1, rfl, hoi, hb, hB', hI⟩ hl1 hl2 ho hpre
        have hlv : ∀ k, own k → k < W.heap.size := fun k hk => (ho k hk).2.1
        have hsub : ∀ k, own1 k → own k := fun k hk => (hoi k).2 (.inl hk)
        have hlv1 : ∀ k, own1 k → k < W.heap.size := fun k hk => hlv k (hsub k hk)
        have hpo := hok.out x (hpre.subset (by simp))
        have hxcl := Lib.hid (fun h => clash_pairs (a := a) (b := b) (p := x) (hpre.subset (by simp)) h)
        have hl3 := hpre.length_le
        rw [List.length_append, List.length_map] at hl3
        have hfl := flat_len1 t pre
        have hul := HUL.out
        have HI := Lib.hid hI
        have Hst1 : Hid (BodyStep own own1 W W) := BodyStep.turn (BodyStep.refl hlv) (fun k hk => .inl (hsub k hk)) hlv1
        obtain ⟨v, hov, hs, hrow, hcl, h8⟩ := hI
        have hne : v.ownBlock ≠ some (w.heap.size + 1) := fun e => by have := (hrow.lt _ e).1; omega
        have hlW : W6.heap.size ≤ W.heap.size := by omega
        have cAdd := Lib.hid (fun kd y => add51_any (w.heap.size + 1) w.heap.size W6.heap.size v (pre.flatMap (chgP t)) t kd y W hs.k1 hs.k0 hrow (by omega) hne hlW)
        have hadd := Lib.hid (fun c hc hx W' hA => d_add (c := c) (W' := W') (x := x) hc hx hsub hov hs hrow hcl h8 (by omega) (by omega) hA)
        have c8 : W.cell? ⟨W4.heap.size, 0, none⟩ = some (.func (.func 54) #[] #[.pointer (some ⟨w.heap.size + 1, 0, none⟩), .pointer (some ⟨w.heap.size, 0, none⟩)]) := cell_one h8
        have hsame := Lib.hid (fun h1 h2 => d_same (x := x) h1 h2 HI.out)
        have k1 := hs.k1
        have k2 := hs.k2
        have Hs := Lib.hid hs
        have Ho1 : Hid (own (w.heap.size + 1) ∧ own (w.heap.size + 1 + 1)) := ⟨hsub _ ((hov _).2 (.inl rfl)), hsub _ ((hov _).2 (.inr (.inl rfl)))⟩
        clear hov hrow hcl h8 hs hpre hit hfl hl3 hul hne haa hbb
        have e0 := gblk hb 0
        have e1 := gblk hb 1
        have e2 := gblk hb 2
        have e3 := gblk hb 3
        have e4 := gblk hb 4
        have e5 := gblk hb 5
        have e6 := gblk hb 6
        have e7 := gblk hb 7
        obtain ⟨⟨i1, v1, s1⟩, ⟨i2, v2, s2⟩, q1, q2⟩ := x
        simp only [pairCells] at e0 e1 e2 e3 e4 e5 e6 e7
        obtain ⟨hsome, hsameid⟩ := hpo
        simp only at hsome hsameid
        cases q2
        · obtain rfl : q1 = true := by simpa using hsome
          have h1 := Lib.hid (hadd.out ⟨t, 2, ⟨i1, v1, s1⟩⟩ rfl rfl)
          clear hadd hsame hsome hsameid
          simp only [pairCells]
          gi_wp2_with fail
          refine ⟨trivial, rfl, (callsIn_wide.2 (cAdd.out 2 ⟨i1, v1, s1⟩)).mono ?_⟩
          rintro e W' ⟨rfl, hA⟩
          gi_wp2_with fail
          exact h1.out W' hA
        cases q1
        · have h1 := Lib.hid (hadd.out ⟨t, 1, ⟨i2, v2, s2⟩⟩ rfl rfl)
          clear hadd hsame hsome hsameid
          simp only [pairCells]
          gi_wp2_with fail
          refine ⟨trivial, rfl, (callsIn_wide.2 (cAdd.out 1 ⟨i2, v2, s2⟩)).mono ?_⟩
          rintro e W' ⟨rfl, hA⟩
          gi_wp2_with fail
          exact h1.out W' hA
        have hid : i1 = i2 := hsameid rfl rfl
        subst hid
        by_cases hv : v1 = v2
        · subst hv
          have hv2 : (v1 != v1) = false := by simp
          by_cases ht : s1 = s2
          · subst ht
            have h1 := Lib.hid (hsame.out (by show (if v1 = v1 then [] else _) = []; rw [if_pos rfl]) (by show (decide (v1 = v1) && !decide (s1 = s1)) = false; simp))
            have hq := fun w => run_equalIn_spot i1 v1 i1 v1 s1 s1 w
            have hqq : ((⟨i1, v1, s1⟩ : Spot) == ⟨i1, v1, s1⟩) = true := by simp
            rw [hqq] at hq
            clear hadd hsame hsome hsameid hqq
            simp only [pairCells]
            gi_wp2_with fail
            exact ⟨own1, Hst1.out, h1.out⟩
          · have hcl := Lib.hid (hxcl.out (by show (decide (v1 = v1) && !decide (s1 = s2)) = true; simp [ht]))
            have hq := fun w => run_equalIn_spot i1 v1 i1 v1 s1 s2 w
            have hqq : ((⟨i1, v1, s1⟩ : Spot) == ⟨i1, v1, s2⟩) = false := by simpa using ht
            rw [hqq] at hq
            have f1 := frozen_one k1 0
            have f2 := frozen_one k2 0
            have c1 := cell_one k1
            have c2 := cell_one k2
            clear hadd hsame hsome hsameid hqq ht
            simp only [pairCells]
            gi_wp2_with fail
            have hst := ((BodyStep.refl hlv).setCell (p := ⟨w.heap.size + 1, 0, none⟩) (.inl Ho1.out.1) (.slice none 0 0)).setCell (p := ⟨w.heap.size + 1 + 1, 0, none⟩) (.inl Ho1.out.2) (.int .i64 510)
            exact ⟨own, hst, rfl, Ho1.out.1, Ho1.out.2, (Hs.out.setP _).setE _, hcl.out⟩
        · have hv2 : (v1 == v2) = false := by simpa using hv
          have h1 := Lib.hid (hadd.out ⟨t, 3, ⟨i1, v2, s2⟩⟩ (by show (if v1 = v2 then [] else _) = _; rw [if_neg hv]) (by show (decide (v1 = v2) && _) = false; rw [decide_eq_false hv]; rfl))
          clear hadd hsame hsome hsameid hv
          simp only [pairCells]
          gi_wp2_with fail
          refine ⟨trivial, rfl, (callsIn_wide.2 (cAdd.out 3 ⟨i1, v2, s2⟩)).mono ?_⟩
          rintro e W' ⟨rfl, hA⟩
          gi_wp2_with fail
          exact h1.out W' hA
      · rintro D own W hD hpn ⟨v, hov, hs, hrow, hcl, h8⟩ hdef
        have hcb := clash_pairs_no haa hbb hcl
        have hdl : diffL t a b = ((unionI a b).map (pairOf a b)).flatMap (chgP t) := by rw [diffK_pairs]; exact (diff_union t a b haa hbb).2
        unfold OwnL at hrow
        rw [← hdl] at hrow
        obtain ⟨An, cn, rfl, _⟩ := own_room hrow
        have c1 := cell_one hs.k1
        have c2 := cell_one hs.k2
        have f1 := frozen_one hs.k1 0
        have f2 := frozen_one hs.k2 0
        have Hs := Lib.hid hs
        have Hcb := Lib.hid hcb
        have Hdl := Lib.hid hdl
        have Hrow := Lib.hid hrow
        have Hdef := Lib.hid hdef
        have HZ := Lib.hid (show diffE a b t = 0 by rw [HF.out, hcb]; rfl)
        clear hs hcb hdl hrow hdef hov hcl h8 hit
        refine wpAt_wp ?_
        go_wp2_with fail
        have hfin := (Hs.out.setP (.slice An (diffL t a b).length cn)).setE (.int .i64 0)
        have hD1 : D ≠ w.heap.size + 1 := by omega
        have hD2 : D ≠ w.heap.size + 1 + 1 := by omega
        have eD : ((W.setCell ⟨w.heap.size + 1, 0, none⟩ (.slice An (diffL t a b).length cn)).setCell ⟨w.heap.size + 1 + 1, 0, none⟩ (.int .i64 0)).heap[D]? = some (.deferred (some [])) := (Below.heap_setCell _ _ _ _ hD2).trans ((Below.heap_setCell _ _ _ _ hD1).trans Hdef.out)
        have hro : OwnL Change.cells 54 5 ((W.setCell ⟨w.heap.size + 1, 0, none⟩ (.slice An (diffL t a b).length cn)).setCell ⟨w.heap.size + 1 + 1, 0, none⟩ (.int .i64 0)) W6.heap.size (.slice An (diffL t a b).length cn) (diffL t a b) :=
          OwnL.block (f := Change.cells) Hrow.out (fun g hg => by
            have := (World.ownsRow.lt Hrow.out g hg).1
            exact (Below.heap_setCell _ _ _ _ (by show g ≠ w.heap.size + 1 + 1; omega)).trans (Below.heap_setCell _ _ _ _ (by show g ≠ w.heap.size + 1; omega)))
        generalize (W.setCell ⟨w.heap.size + 1, 0, none⟩ (.slice An (diffL t a b).length cn)).setCell ⟨w.heap.size + 1 + 1, 0, none⟩ (.int .i64 0) = W8 at *
        have x1 := cell_one ((World.putObj_heap_other (w := W8) (r := D) (k := w.heap.size + 1) (o := .deferred none) (by omega)).trans hfin.k1)
        have x2 := cell_one ((World.putObj_heap_other (w := W8) (r := D) (k := w.heap.size + 1 + 1) (o := .deferred none) (by omega)).trans hfin.k2)
        refine leavesM_ret (W := W8) (v := .tuple #[.slice An (diffL t a b).length cn, .int .i64 0]) eD ?_ ⟨below_put hfin.below (by omega) _, .inr ⟨HZ.out, _, rfl, ?_⟩⟩
        · simp [results, Tryd.results23, go_sem, x1, x2]
        · have h9 : OwnL Change.cells 54 5 (W8.putObj D (.deferred none)) W6.heap.size (.slice An (diffL t a b).length cn) (diffL t a b) := ownsRow_putObj hro (.deferred none) eD rfl
          exact OwnL.mono h9 (by omega)
      · rintro D own c pre W hD hpre ⟨rfl, o1, o2, hs, hcl⟩ hdef
        have Hs := Lib.hid hs
        have HZ := Lib.hid (show diffE a b t = 510 by rw [HF.out, hcl]; rfl)
        have hlow := lt_block hs6.k2
        clear hs hcl hit
        refine wpAt_wp ?_
        go_wp2_with fail
        have x1 := cell_one ((World.putObj_heap_other (w := W) (r := D) (k := w.heap.size + 1) (o := .deferred none) (by omega)).trans Hs.out.k1)
        have x2 := cell_one ((World.putObj_heap_other (w := W) (r := D) (k := w.heap.size + 1 + 1) (o := .deferred none) (by omega)).trans Hs.out.k2)
        refine leavesM_ret (W := W) (v := .tuple #[.slice none 0 0, .int .i64 510]) hdef ?_ ⟨below_put Hs.out.below (by omega) _, .inl ⟨by rw [HZ.out]; decide, by rw [HZ.out]⟩⟩
        simp [results, Tryd.results23, go_sem, x1, x2]
      · rintro D ch W hD h
        exact h.elim
      · rintro D own ch W hD hpn
        cases hpn
    · have n2 : (checkE b == 0) = false := by simpa using hcb
      have HF := Lib.hid (diffE_b (t := t) Hca.out hcb)
      have Hcb := Lib.hid hcb
      clear hcb
      go_wp2_with fail
      go_region
      all_goals
        go_wp2
        have hfin := (((hs3.setE (.int .i64 (checkE b))).setP (.slice none 0 0)).setE (.int .i64 (checkE b)))
        refine leavesM_now (v := .tuple #[.slice none 0 0, .int .i64 (checkE b)]) ?_ ⟨hfin.below.drew, .inl ⟨by rw [HF.out]; exact Hcb.out, by rw [HF.out]⟩⟩
        have g1 := cell_one hfin.k1
        have g2 := cell_one hfin.k2
        simp [results, Tryd.results23, go_sem, g1, g2]
  · have n1 : (checkE a == 0) = false := by simpa using hca
    have HF : Hid (diffE a b t = checkE a) := by show _ = _; exact diffE_a hca
    have Hca := Lib.hid hca
    clear hca
    go_wp2_with fail
    go_region
    all_goals
      go_wp2
      have hfin := (((hs1.setE (.int .i64 (checkE a))).setP (.slice none 0 0)).setE (.int .i64 (checkE a)))
      refine leavesM_now (v := .tuple #[.slice none 0 0, .int .i64 (checkE a)]) ?_ ⟨hfin.below.drew, .inl ⟨by rw [HF.out]; exact Hca.out, by rw [HF.out]⟩⟩
      have g1 := cell_one hfin.k1
      have g2 := cell_one hfin.k2
      simp [results, Tryd.results23, go_sem, g1, g2]
end Go.Proofs.YtfbhfimejcdopaaDoor

/- Package patches: Then. -/
namespace Go.Proofs.YtfbhfimejcdopaaDoor
open Go.RowKit Go.Han
attribute [local irreducible] wpStill wpQuiet
set_option maxRecDepth 100000

def ThenPost (a : List Spot) (p q : List Change) (w : World) (e : Ending) (w' : World) : Prop :=
  Below w.heap.size w w' ∧ ((thenE a p q ≠ 0 ∧ e = .returned (.tuple #[.slice none 0 0, .int .i64 (thenE a p q)])) ∨ (thenE a p q = 0 ∧ ∃ A cp, e = .returned (.tuple #[.slice A (thenO a p q).length cp, .int .i64 0]) ∧ Rd w' A (cflat (thenO a p q))))
theorem lastAt_eq {p q : List Change} {n : Nat} (hn : p.length + q.length = n + 1) : ∃ (h : n < (p ++ q).length), lastAt p q = (p ++ q)[n].at_ := by
  have h : n < (p ++ q).length := by simp; omega
  refine ⟨h, ?_⟩
  unfold lastAt
  rw [List.getLast?_eq_getElem?]
  have e : (p ++ q).length - 1 = n := by simp; omega
  rw [e, List.getElem?_eq_getElem h]
  rfl
theorem applyO_check {a : List Spot} {p : List Change} (h : applyE a p = 0) : checkE (applyO a p) = 0 := by
  obtain ⟨h1, _, h3⟩ := applyE_zero h
  exact appR_check _ _ _ h1 h3
set_option maxHeartbeats 2000000 in
theorem Then_any (A : Option Addr) (cp : Nat) (a : List Spot) (B : Option Addr) (cb : Nat) (p : List Change) (C : Option Addr) (cc : Nat) (q : List Change) (w : World) (hT : Tabs w) (hr : Rd w A (flat a)) (hA : A = none → a = []) (hm : a.length ≤ 9223372036854775807)
    (hrp : Rd w B (cflat p)) (hmp : p.length ≤ 9223372036854775807) (hrq : Rd w C (cflat q)) (hmq : q.length ≤ 9223372036854775807) :
    Calls Tryd.prog 26 #[.slice A a.length cp, .slice B p.length cb, .slice C q.length cc] w (ThenPost a p q w) := by
  have cP := Lib.hid (fun W (h : Below w.heap.size w W) => Apply_any A cp a B cb p W (utf_ext hT h) (hr.ext h) hA hm (hrp.ext h) hmp)
  have cQ := Lib.hid (fun W (h : Below w.heap.size w W) A' cp' l (h1 : Rd W A' (flat l)) h2 h3 => Apply_any A' cp' l C cc q W (utf_ext hT h) h1 h2 h3 (hrq.ext h) hmq)
  have cD := Lib.hid (fun W (h : Below w.heap.size w W) A' cp' l t (h1 : Rd W A' (flat l)) h3 => Diff51_any A cp a A' cp' l t W (utf_ext hT h) (hr.ext h) hm h1 h3)
  have Hrp := Lib.hid hrp
  have Hrq := Lib.hid hrq
  clear hr hA hrp hrq
  go_enter Tryd.func26, Tryd.ntmps26
  go_wp2_with fail
  refine (cP.out w (Below.refl _ _)).mono ?_
  rintro e w1 ⟨hb1, h1⟩
  rcases h1 with ⟨hn, rfl⟩ | ⟨hn, A1, cp1, rfl, hr1, hA1⟩
  · have n1 : (applyE a p == 0) = false := by simpa using hn
    have HF : Hid (thenE a p q = applyE a p) := by show _ = _; unfold thenE; rw [if_pos hn]
    have Hn := Lib.hid hn
    clear hn
    go_wp2_with fail
    go_ret2
    exact ⟨hb1, .inl ⟨by rw [HF.out]; exact Hn.out, by rw [HF.out]; rfl⟩⟩
  have hck := check_len (applyO_check hn)
  have Hn := Lib.hid hn
  have cQ1 := Lib.hid (cQ.out w1 hb1 A1 cp1 _ hr1 hA1 (by omega))
  clear hn
  go_wp2_with fail
  refine cQ1.out.mono ?_
  rintro e w2 ⟨hb2, h2⟩
  have hB2 := ext_trans hb1 hb2
  rcases h2 with ⟨hn2, rfl⟩ | ⟨hn2, A2, cp2, rfl, hr2, hA2⟩
  · have n1 : (applyE (applyO a p) q == 0) = false := by simpa using hn2
    have HF : Hid (thenE a p q = applyE (applyO a p) q) := by show _ = _; unfold thenE; rw [if_neg (by simpa using Hn.out), if_pos hn2]
    have Hn2 := Lib.hid hn2
    clear hn2 cQ1
    go_wp2_with fail
    go_ret2
    exact ⟨hB2, .inl ⟨by rw [HF.out]; exact Hn2.out, by rw [HF.out]; rfl⟩⟩
  have hck2 := check_len (applyO_check hn2)
  obtain ⟨_, hlp, _⟩ := applyE_zero Hn.out
  obtain ⟨_, hlq, _⟩ := applyE_zero hn2
  have Hn2 := Lib.hid hn2
  clear hn2 cQ1 hmp hmq
  by_cases h0 : p.length + q.length = 0
  · have hp0 : p = [] := List.eq_nil_of_length_eq_zero (by omega)
    have hq0 : q = [] := List.eq_nil_of_length_eq_zero (by omega)
    have HF : Hid (thenE a p q = 0) := by show _ = _; unfold thenE; rw [if_neg (by simpa using Hn.out), if_neg (by simpa using Hn2.out), if_pos ⟨hp0, hq0⟩]
    have HO : Hid (thenO a p q = []) := by show _ = _; unfold thenO; rw [if_pos (.inr (.inr ⟨hp0, hq0⟩))]
    have z : ((p.length : Int) + (q.length : Int)) = 0 := by omega
    have z2 : IntKind.i64.wrap ((p.length : Int) + (q.length : Int)) = 0 := by rw [z]; rfl
    clear hp0 hq0 h0
    go_wp2_with fail
    go_ret2
    exact ⟨hB2, .inr ⟨HF.out, none, 0, by rw [HO.out]; rfl, by rw [HO.out]; exact Rd.nil _ _⟩⟩
  · have hne : ¬ (p = [] ∧ q = []) := fun h => h0 (by rw [h.1, h.2]; rfl)
    have HF : Hid (thenE a p q = diffE a (applyO (applyO a p) q) (lastAt p q)) := by show _ = _; unfold thenE; rw [if_neg (by simpa using Hn.out), if_neg (by simpa using Hn2.out), if_neg hne]
    have HO : Hid (thenO a p q = diffO a (applyO (applyO a p) q) (lastAt p q)) := by show _ = _; unfold thenO; rw [if_neg (by rintro (h | h | h); exact h Hn.out; exact h Hn2.out; exact hne h)]
    obtain ⟨n, hn⟩ : ∃ n, p.length + q.length = n + 1 := ⟨p.length + q.length - 1, by omega⟩
    obtain ⟨hnl, hla⟩ := lastAt_eq hn
    have z0 : ((p.length : Int) + (q.length : Int)) = (n : Int) + 1 := by omega
    have z1 : IntKind.i64.wrap ((p.length : Int) + (q.length : Int)) = (n : Int) + 1 := by rw [z0, IntKind.wrap_i64]; omega
    have z2 : ((n : Int) + 1 == 0) = false := by simp; omega
    have Hla := Lib.hid hla
    have hlen : (p ++ q).length = n + 1 := by simp; omega
    obtain ⟨W3, hW3⟩ : ∃ W3, w2.alloc (.cells #[.slice B p.length cb, .slice C q.length cc] 46) = W3 := ⟨_, rfl⟩
    have hb3 : Below w2.heap.size w2 W3 := by rw [← hW3]; exact ext_alloc (Below.refl _ _) _
    have hx3 : W3.heap[w2.heap.size]? = some (.cells #[.slice B p.length cb, .slice C q.length cc] 46 (0, 0)) := by rw [← hW3]; exact World.alloc_heap_new _ _
    have hB3 := ext_trans hB2 hb3
    have cC := Lib.hid (concat_any w2.heap.size B C cb cc p q W3 hx3 (Hrp.out.ext hB3) (Hrq.out.ext hB3) (by omega) (by omega))
    have hr23 := hr2.ext hb3
    clear hla h0 hne hx3 hr2
    go_wp2_with fail
    refine cC.out.mono ?_
    rintro e w4 ⟨v, rfl, hown, hb4⟩
    have hB4 := ext_trans hB3 hb4
    obtain ⟨A4, c4, rfl, hr4, _⟩ := hown.form (by decide)
    obtain ⟨b4, off4, rfl, hb4', hc4⟩ := hr4.elem (f := Change.cells) Change.size_cells (by omega) hnl
    have x0 := hc4 0 _ rfl
    simp only [Nat.add_zero] at x0
    have cDD := Lib.hid (cD.out w4 hB4 A2 cp2 _ (lastAt p q) (hr23.ext hb4) (by omega))
    rw [hlen]
    rw [← Hla.out] at x0
    clear hc4 hr4 hown cC cD
    generalize lastAt p q = t at *
    go_wp2_with fail
    refine cDD.out.mono ?_
    rintro e w5 ⟨hb5, h5⟩
    have hB5 := ext_trans hB4 hb5
    rcases h5 with ⟨hn5, rfl⟩ | ⟨hn5, v5, rfl, hown5⟩
    · have Hn5 := Lib.hid hn5
      clear hn5
      go_wp2_with fail
      go_ret2
      exact ⟨hB5, .inl ⟨by rw [HF.out]; exact Hn5.out, by rw [HF.out]; rfl⟩⟩
    · obtain ⟨A5, c5, rfl, hr5, _⟩ := hown5.form (by decide)
      have Hn5 := Lib.hid hn5
      have e5 : diffO a (applyO (applyO a p) q) t = diffL t a (applyO (applyO a p) q) := by unfold diffO; rw [if_pos hn5]
      have HO5 := Lib.hid (HO.out.trans e5)
      clear hn5 e5 hown5
      go_wp2_with fail
      go_ret2
      exact ⟨hB5, .inr ⟨by rw [HF.out]; exact Hn5.out, A5, c5, by rw [HO5.out]; rfl, by rw [HO5.out]; exact hr5⟩⟩
end Go.Proofs.YtfbhfimejcdopaaDoor

/- The reference's package of patches: comparing changes, clashes. -/
namespace Go.Proofs.YtfbhfimejcdopaaDoor
open Go.RowKit Go.Han
attribute [local irreducible] wpStill wpQuiet
set_option maxRecDepth 100000

instance : DecidableEq Change := fun x y => decidable_of_iff (x.at_ = y.at_ ∧ x.kind = y.kind ∧ x.spot = y.spot) (by cases x; cases y; simp)
theorem change_eq (t k a b t' k' a' b' : Int) (s s' : ByteArray) : decide ((⟨t, k, ⟨a, b, s⟩⟩ : Change) = ⟨t', k', ⟨a', b', s'⟩⟩) = (decide (t = t') && decide (k = k') && (decide (a = a') && decide (b = b') && decide (s.toList = s'.toList))) := by
  have hb := spot_beq ⟨a, b, s⟩ a' b' s'
  rw [Bool.true_and] at hb
  rw [← hb, Bool.eq_iff_iff]
  simp [and_assoc]
theorem run_equalIn_change (t k a b t' k' a' b' : Int) (s s' : ByteArray) (w : World) : (Op.equalIn 10000 54 (.agg #[.int .i64 t, .int .i64 k, .int .i64 a, .int .i64 b, .string s]) (.agg #[.int .i64 t', .int .i64 k', .int .i64 a', .int .i64 b', .string s'])).run Tryd.prog w = .ok (decide ((⟨t, k, ⟨a, b, s⟩⟩ : Change) = ⟨t', k', ⟨a', b', s'⟩⟩)) w := by
  rw [change_eq]
  by_cases e1 : t = t'
  · by_cases e2 : k = k'
    · by_cases e3 : a = a'
      · by_cases e4 : b = b'
        · by_cases e5 : s.toList = s'.toList
          · simp [go_sem, e1, e2, e3, e4, e5]
          · simp [go_sem, e1, e2, e3, e4, e5]
        · simp [go_sem, e1, e2, e3, e4]
      · simp [go_sem, e1, e2, e3]
    · simp [go_sem, e1, e2]
  · simp [go_sem, e1]

set_option maxHeartbeats 1000000 in
theorem same51_any (A B : Option Addr) (c d : Nat) (l l' : List Change) (w : World) (hr : Rd w A (cflat l)) (hr' : Rd w B (cflat l')) (hm : l.length ≤ 9223372036854775807) :
    Calls Tryd.prog 51 #[.slice A l.length c, .slice B l'.length d] w fun e w' => e = .returned (.bool (decide (l = l'))) ∧ Below w.heap.size w w' := by
  by_cases hl : l.length = l'.length
  · have hne : ((l.length : Int) != (l'.length : Int)) = false := by simp [hl]
    have Hl := Lib.hid hl
    clear hl
    go_enter Tryd.func51, Tryd.ntmps51
    go_wp2_with fail
    go_loopw [5] (fun i wr => ∃ k : Nat, k ≤ l.length ∧ i = .int .i64 k ∧ Below w.heap.size w wr ∧ Hid (l.take k = l'.take k)) (fun i _ => l.length - (intOf i).toNat)
    case atStart => exact ⟨0, Nat.zero_le _, rfl, Below.refl _ _, rfl⟩
    case round =>
      obtain ⟨k, hk, rfl, hB, HR⟩ := hrel
      by_cases hlt : k < l.length
      · have hlt' : k < l'.length := by have := Hl.out; omega
        obtain ⟨b, off, rfl, hb, hc⟩ := hr.elem Change.size_cells (by omega) hlt
        obtain ⟨b', off', rfl, hb', hc'⟩ := hr'.elem Change.size_cells (by omega) hlt'
        have h1 := (hB.cell (p := ⟨b, off + k * 5 + 0, none⟩) hb).trans (hc 0 _ rfl)
        have h2 := (hB.cell (p := ⟨b, off + k * 5 + 1, none⟩) hb).trans (hc 1 _ rfl)
        have h3 := (hB.cell (p := ⟨b, off + k * 5 + 2, none⟩) hb).trans (hc 2 _ rfl)
        have h4 := (hB.cell (p := ⟨b, off + k * 5 + 3, none⟩) hb).trans (hc 3 _ rfl)
        have h5 := (hB.cell (p := ⟨b, off + k * 5 + 4, none⟩) hb).trans (hc 4 _ rfl)
        have h1' := (hB.cell (p := ⟨b', off' + k * 5 + 0, none⟩) hb').trans (hc' 0 _ rfl)
        have h2' := (hB.cell (p := ⟨b', off' + k * 5 + 1, none⟩) hb').trans (hc' 1 _ rfl)
        have h3' := (hB.cell (p := ⟨b', off' + k * 5 + 2, none⟩) hb').trans (hc' 2 _ rfl)
        have h4' := (hB.cell (p := ⟨b', off' + k * 5 + 3, none⟩) hb').trans (hc' 3 _ rfl)
        have h5' := (hB.cell (p := ⟨b', off' + k * 5 + 4, none⟩) hb').trans (hc' 4 _ rfl)
        simp only [Nat.add_zero] at h1 h1'
        have hq := fun (w : World) => run_equalIn_change l[k].at_ l[k].kind l[k].spot.id l[k].spot.ver l'[k].at_ l'[k].kind l'[k].spot.id l'[k].spot.ver l[k].spot.text l'[k].spot.text w
        have htk : l.take (k + 1) = l.take k ++ [l[k]] := List.take_succ_eq_append_getElem hlt
        have htk' : l'.take (k + 1) = l'.take k ++ [l'[k]] := List.take_succ_eq_append_getElem hlt'
        have Htk := Lib.hid htk
        have Htk' := Lib.hid htk'
        have hf : Hid (l = l' → l[k] = l'[k]) := by rintro rfl; rfl
        clear hc hr hc' hr' htk htk'
        generalize l[k] = x at *
        generalize l'[k] = y at *
        obtain ⟨t, kd, ⟨a, v, s⟩⟩ := x
        obtain ⟨t', kd', ⟨a', v', s'⟩⟩ := y
        simp only at hq h1 h2 h3 h4 h5 h1' h2' h3' h4' h5'
        by_cases hxy : ((⟨t, kd, ⟨a, v, s⟩⟩ : Change) = ⟨t', kd', ⟨a', v', s'⟩⟩)
        · rw [decide_eq_true hxy] at hq
          have HE := Lib.hid hxy
          clear hxy hf
          go_wp2_with fail
          go_still (by kernel_rfl)
          go_wp2
          go_roundw
          case rel => exact ⟨k + 1, by omega, by go_num, hB.drew, by show _ = _; rw [Htk.out, Htk'.out, HR.out, HE.out]⟩
          case measure => simp [intOf]; omega
        · rw [decide_eq_false hxy] at hq
          have HF : Hid (decide (l = l') = false) := decide_eq_false (fun h => hxy (hf.out h))
          clear hxy hf
          go_wp2_with fail
          go_still (by kernel_rfl)
          go_wp2
          go_ret
          exact ⟨by rw [HF.out]; rfl, hB.drew⟩
      · have HF : Hid (decide (l = l') = true) := by
          refine decide_eq_true ?_
          obtain rfl : k = l.length := by omega
          have h := HR.out
          rw [List.take_length, List.take_of_length_le (by have := Hl.out; omega)] at h
          exact h
        clear HR
        go_wp2_with fail
        go_ret
        exact ⟨by rw [HF.out]; rfl, hB⟩
  · have hne : ((l.length : Int) != (l'.length : Int)) = true := by simp; omega
    have HF : Hid (decide (l = l') = false) := decide_eq_false (fun h => hl (by rw [h]))
    clear hl
    go_enter Tryd.func51, Tryd.ntmps51
    go_wp2_with fail
    go_ret
    exact ⟨by rw [HF.out]; rfl, Below.refl _ _⟩

/-! ### Clash -/
theorem find_none {l : List Spot} {n : Int} (h : getS n l = none) : findR l n = -1 := by
  refine findR_none l n (fun j hj e => ?_)
  have : (getS n l).isSome = true := by
    unfold getS
    rw [List.find?_isSome]
    exact ⟨l[j], List.getElem_mem hj, by simpa using e⟩
  rw [h] at this; cases this
theorem find_some {l : List Spot} {n : Int} {y : Spot} (h : getS n l = some y) : ∃ (k : Nat) (hk : k < l.length), findR l n = k ∧ l[k] = y := by
  have key : (∃ (k : Nat) (h : k < l.length), findR l n = k ∧ getS n l = some l[k]) ∨ (findR l n = -1 ∧ getS n l = none) := by
    unfold findR getS
    cases h : l.findIdx? (fun x => x.id == n) with
    | none =>
      right
      rw [List.findIdx?_eq_none_iff] at h
      exact ⟨rfl, List.find?_eq_none.2 (fun x hx => by simpa using h x hx)⟩
    | some k =>
      left
      rw [List.findIdx?_eq_some_iff_getElem] at h
      obtain ⟨hk, h1, h2⟩ := h
      refine ⟨k, hk, rfl, ?_⟩
      rw [List.find?_eq_some_iff_getElem]
      exact ⟨h1, k, hk, rfl, fun j hj => by simpa using h2 j hj⟩
  rcases key with ⟨k, hk, h1, h2⟩ | ⟨_, h2⟩
  · rw [h] at h2; exact ⟨k, hk, h1, (Option.some.inj h2).symm⟩
  · rw [h] at h2; cases h2
theorem clash_take {a b : List Spot} {k : Nat} (h : k < a.length) : clashB (a.take (k + 1)) b = (clashB (a.take k) b || clashG (some a[k]) (getS a[k].id b)) := by
  unfold clashB
  rw [List.take_succ_eq_append_getElem h, List.any_append]
  simp
theorem clash_from {a b : List Spot} {k : Nat} (h : k < a.length) (hc : clashG (some a[k]) (getS a[k].id b) = true) : clashB a b = true := List.any_eq_true.2 ⟨a[k], List.getElem_mem h, hc⟩
set_option maxHeartbeats 1000000 in
theorem clash51_any (A B : Option Addr) (c d : Nat) (a b : List Spot) (w : World) (hr : Rd w A (flat a)) (hr' : Rd w B (flat b)) (hm : a.length ≤ 9223372036854775807) (hm' : b.length ≤ 9223372036854775807) :
    Calls Tryd.prog 27 #[.slice A a.length c, .slice B b.length d] w fun e w' => e = .returned (.bool (clashB a b)) ∧ Below w.heap.size w w' := by
  have cN := Lib.hid (fun W (hb : Below w.heap.size w W) n => find49_any B d b n W (hr'.ext hb) hm')
  go_enter Tryd.func27, Tryd.ntmps27
  go_wp2_with fail
  go_loopw [5] (fun i wr => ∃ k : Nat, k ≤ a.length ∧ i = .int .i64 k ∧ Below w.heap.size w wr ∧ Hid (clashB (a.take k) b = false)) (fun i _ => a.length - (intOf i).toNat)
  case atStart => exact ⟨0, Nat.zero_le _, rfl, Below.refl _ _, rfl⟩
  case round =>
    obtain ⟨k, hk, rfl, hB, HR⟩ := hrel
    by_cases hlt : k < a.length
    · obtain ⟨bb, off, rfl, hb, hc⟩ := hr.elem Spot.size_cells (by omega) hlt
      have h1 := (hB.cell (p := ⟨bb, off + k * 3 + 0, none⟩) hb).trans (hc 0 _ rfl)
      have h2 := (hB.cell (p := ⟨bb, off + k * 3 + 1, none⟩) hb).trans (hc 1 _ rfl)
      have h3 := (hB.cell (p := ⟨bb, off + k * 3 + 2, none⟩) hb).trans (hc 2 _ rfl)
      simp only [Nat.add_zero] at h1
      have htk := Lib.hid (clash_take (b := b) hlt)
      have hfr := Lib.hid (clash_from (b := b) hlt)
      clear hc hr
      generalize a[k] = x at *
      have cf := cN.out wr hB x.id
      cases hg : getS x.id b with
      | none =>
        rw [find_none hg] at cf
        have HN : Hid (clashB (a.take (k + 1)) b = false) := by show _ = _; rw [htk.out, HR.out, hg]; rfl
        have Hcf := Lib.hid cf
        clear hg cf
        go_wp2_with fail
        refine Hcf.out.mono ?_
        rintro e w' ⟨rfl, rfl⟩
        go_wp2_with fail
        go_still (by kernel_rfl)
        go_wp2
        go_roundw
        case rel => exact ⟨k + 1, by omega, by go_num, hB.drew, HN⟩
        case measure => simp [intOf]; omega
      | some y =>
        obtain ⟨j, hj, hfj, hyj⟩ := find_some hg
        rw [hfj] at cf
        obtain ⟨bb', off', rfl, hb', hc'⟩ := hr'.elem Spot.size_cells (by omega) hj
        have h1' := (hB.cell (p := ⟨bb', off' + j * 3 + 0, none⟩) hb').trans (hc' 0 _ rfl)
        have h2' := (hB.cell (p := ⟨bb', off' + j * 3 + 1, none⟩) hb').trans (hc' 1 _ rfl)
        have h3' := (hB.cell (p := ⟨bb', off' + j * 3 + 2, none⟩) hb').trans (hc' 2 _ rfl)
        simp only [Nat.add_zero] at h1'
        rw [hyj] at h1' h2' h3'
        have hj0 : (0 : Int) ≤ (j : Int) := by omega
        have Hcf := Lib.hid cf
        have hcg : Hid (clashG (some x) (getS x.id b) = (decide (x.ver = y.ver) && !decide (x.text = y.text))) := by show _ = _; rw [hg]; rfl
        clear hg cf hfj hyj hc' hr'
        by_cases hv : y.ver = x.ver
        · have hv2 : (y.ver == x.ver) = true := by simpa using hv
          by_cases ht : y.text.toList = x.text.toList
          · have ht2 : (y.text.toList == x.text.toList) = true := by simp [ht]
            have HN : Hid (clashB (a.take (k + 1)) b = false) := by
              show _ = _
              have : x.text = y.text := by rw [ByteArray.toList_eq, ByteArray.toList_eq] at ht; exact (ByteArray.ext (Array.toList_inj.1 ht)).symm
              rw [htk.out, HR.out, hcg.out, decide_eq_true this]; simp
            clear ht hv
            go_wp2_with fail
            refine Hcf.out.mono ?_
            rintro e w' ⟨rfl, rfl⟩
            go_wp2_with fail
            go_still (by kernel_rfl)
            go_wp2
            go_roundw
            case rel => exact ⟨k + 1, by omega, by go_num, hB.drew, HN⟩
            case measure => simp [intOf]; omega
          · have ht2 : (y.text.toList == x.text.toList) = false := by simpa using ht
            have HN : Hid (clashB a b = true) := by
              refine hfr.out ?_
              have : ¬ x.text = y.text := fun e => ht (by rw [e])
              rw [hcg.out, decide_eq_true hv.symm, decide_eq_false this]; rfl
            clear ht hv
            go_wp2_with fail
            refine Hcf.out.mono ?_
            rintro e w' ⟨rfl, rfl⟩
            go_wp2_with fail
            go_still (by kernel_rfl)
            go_wp2
            go_ret
            exact ⟨by rw [HN.out]; rfl, hB.drew⟩
        · have hv2 : (y.ver == x.ver) = false := by simpa using hv
          have HN : Hid (clashB (a.take (k + 1)) b = false) := by
            show _ = _
            rw [htk.out, HR.out, hcg.out, decide_eq_false (fun e => hv e.symm)]; rfl
          clear hv
          go_wp2_with fail
          refine Hcf.out.mono ?_
          rintro e w' ⟨rfl, rfl⟩
          go_wp2_with fail
          go_still (by kernel_rfl)
          go_wp2
          go_roundw
          case rel => exact ⟨k + 1, by omega, by go_num, hB.drew, HN⟩
          case measure => simp [intOf]; omega
    · have HF : Hid (clashB a b = false) := by
        have h := HR.out
        rw [List.take_of_length_le (by omega)] at h
        exact h
      clear HR
      go_wp2_with fail
      go_ret
      exact ⟨by rw [HF.out]; rfl, hB⟩
end Go.Proofs.YtfbhfimejcdopaaDoor

/- The examples with which the statements about patches begin, in plain lists; the contracts, where it is known how they end. -/
namespace Go.Proofs.YtfbhfimejcdopaaDoor
open Go.RowKit Go.Han
set_option maxRecDepth 100000

def p1 : Spot := ⟨1, 0, ⟨#[97]⟩⟩
def p2 : Spot := ⟨2, 0, ⟨#[98]⟩⟩
def p3 : Spot := ⟨2, 1, ⟨#[99]⟩⟩
def p4 : Spot := ⟨3, 0, ⟨#[100]⟩⟩
def p5 : Spot := ⟨2, 0, ⟨#[120]⟩⟩
def pA : List Spot := [p1, p2]
def pB : List Spot := [p3, p4]
def pW : List Change := [⟨7, 2, p1⟩, ⟨7, 3, p3⟩, ⟨7, 1, p4⟩]
theorem px1 : diffE pA pB 7 = 0 := by kernel_rfl
theorem px1' : diffL 7 pA pB = pW := by simp [diffL, pA, pB, pW, p1, p2, p3, p4]
theorem px2 : diffE [] [] 0 = 0 := by kernel_rfl
theorem px2' : diffL 0 [] [] = [] := by simp [diffL]
theorem px3 : diffE [] [] (-1) = 1 := by kernel_rfl
theorem px4 : diffE pA [p5] 7 = 510 := by kernel_rfl
theorem px5 : applyE pA pW = 0 := by kernel_rfl
theorem px5' : applyO pA pW = pB := by kernel_rfl
theorem px6 : applyE pA [] = 0 := by kernel_rfl
theorem px6' : applyO pA [] = pA := by kernel_rfl
theorem px7 : applyE [] [⟨7, 2, p1⟩] = 490 := by kernel_rfl
theorem px8 : thenE [] [⟨3, 1, p1⟩] [⟨7, 2, p1⟩] = 0 := by kernel_rfl
theorem px8' : thenO [] [⟨3, 1, p1⟩] [⟨7, 2, p1⟩] = [] := by
  have h1 : applyO (applyO [] [⟨3, 1, p1⟩]) [⟨7, 2, p1⟩] = [] := by kernel_rfl
  have h2 : lastAt [⟨3, 1, p1⟩] [⟨7, 2, p1⟩] = 7 := by kernel_rfl
  have h3 : applyE [] [⟨3, 1, p1⟩] = 0 := by kernel_rfl
  have h4 : applyE (applyO [] [⟨3, 1, p1⟩]) [⟨7, 2, p1⟩] = 0 := by kernel_rfl
  have h5 : diffE [] [] 7 = 0 := by kernel_rfl
  unfold thenO diffO
  rw [h1, h2, h3, h4, if_neg (by simp), if_pos h5]
  simp [diffL]
theorem px9 : thenE [] [] [] = 0 := by kernel_rfl
theorem px9' : thenO [] [] [] = [] := by kernel_rfl
theorem px10 : thenE pA [⟨7, 2, p1⟩] [] = 0 := by kernel_rfl
theorem px10' : thenO pA [⟨7, 2, p1⟩] [] = [⟨7, 2, p1⟩] := by
  have h1 : applyO (applyO pA [⟨7, 2, p1⟩]) [] = [p2] := by kernel_rfl
  have h2 : lastAt [⟨7, 2, p1⟩] [] = 7 := by kernel_rfl
  have h3 : applyE pA [⟨7, 2, p1⟩] = 0 := by kernel_rfl
  have h4 : applyE (applyO pA [⟨7, 2, p1⟩]) [] = 0 := by kernel_rfl
  have h5 : diffE pA [p2] 7 = 0 := by kernel_rfl
  unfold thenO diffO
  rw [h1, h2, h3, h4, if_neg (by simp), if_pos h5]
  simp [diffL, pA, p1, p2]

/-! ### the contracts, where it is known how they end -/
def CsOk (d : List Change) (n : Nat) (w : World) (e : Ending) (w' : World) : Prop := Below w.heap.size w w' ∧ ∃ A c, e = .returned (.tuple #[.slice A n c, .int .i64 0]) ∧ Rd w' A (cflat d)
def SsOk (s : List Spot) (n : Nat) (w : World) (e : Ending) (w' : World) : Prop := Below w.heap.size w w' ∧ ∃ A c, e = .returned (.tuple #[.slice A n c, .int .i64 0]) ∧ Rd w' A (flat s) ∧ (A = none → s = [])
def ErrP (k : Int) (w : World) (e : Ending) (w' : World) : Prop := Below w.heap.size w w' ∧ e = .returned (.tuple #[.slice none 0 0, .int .i64 k])
theorem diff_ok {a b : List Spot} {t : Int} {d : List Change} {n : Nat} (h : diffE a b t = 0) (hd : diffL t a b = d) (hn : d.length = n) {w : World} {e : Ending} {w' : World} (hp : DiffPost a b t w e w') : CsOk d n w e w' := by
  subst hd hn
  obtain ⟨hb, ⟨h1, _⟩ | ⟨_, v, rfl, hown⟩⟩ := hp
  · exact absurd h h1
  · obtain ⟨A, c, rfl, hr, _⟩ := hown.form (by decide)
    exact ⟨hb, A, c, rfl, hr⟩
theorem diff_er {a b : List Spot} {t : Int} {k : Int} (h : diffE a b t = k) (hk : k ≠ 0) {w : World} {e : Ending} {w' : World} (hp : DiffPost a b t w e w') : ErrP k w e w' := by
  subst h
  obtain ⟨hb, ⟨_, rfl⟩ | ⟨h1, _⟩⟩ := hp
  · exact ⟨hb, rfl⟩
  · exact absurd h1 hk
theorem apply_ok {a r : List Spot} {p : List Change} {n : Nat} (h : applyE a p = 0) (hd : applyO a p = r) (hn : r.length = n) {w : World} {e : Ending} {w' : World} (hp : ApplyPost a p w e w') : SsOk r n w e w' := by
  subst hd hn
  obtain ⟨hb, ⟨h1, _⟩ | ⟨_, A, c, rfl, hr, hA⟩⟩ := hp
  · exact absurd h h1
  · exact ⟨hb, A, c, rfl, hr, hA⟩
theorem apply_er {a : List Spot} {p : List Change} {k : Int} (h : applyE a p = k) (hk : k ≠ 0) {w : World} {e : Ending} {w' : World} (hp : ApplyPost a p w e w') : ErrP k w e w' := by
  subst h
  obtain ⟨hb, ⟨_, rfl⟩ | ⟨h1, _⟩⟩ := hp
  · exact ⟨hb, rfl⟩
  · exact absurd h1 hk
theorem then_ok {a : List Spot} {p q r : List Change} {n : Nat} (h : thenE a p q = 0) (hd : thenO a p q = r) (hn : r.length = n) {w : World} {e : Ending} {w' : World} (hp : ThenPost a p q w e w') : CsOk r n w e w' := by
  subst hd hn
  obtain ⟨hb, ⟨h1, _⟩ | ⟨_, A, c, rfl, hr⟩⟩ := hp
  · exact absurd h h1
  · exact ⟨hb, A, c, rfl, hr⟩
theorem then_er {a : List Spot} {p q : List Change} {k : Int} (h : thenE a p q = k) (hk : k ≠ 0) {w : World} {e : Ending} {w' : World} (hp : ThenPost a p q w e w') : ErrP k w e w' := by
  subst h
  obtain ⟨hb, ⟨_, rfl⟩ | ⟨h1, _⟩⟩ := hp
  · exact ⟨hb, rfl⟩
  · exact absurd h1 hk
end Go.Proofs.YtfbhfimejcdopaaDoor

/- The examples with which the statements about patches begin, walked. -/
namespace Go.Proofs.YtfbhfimejcdopaaDoor
open Go.RowKit Go.Han
attribute [local irreducible] wpStill wpQuiet
set_option maxRecDepth 100000

theorem spot51_any (i v : Int) (s : ByteArray) (w : World) : Calls Tryd.prog 50 #[.int .i64 i, .int .i64 v, .string s] w fun e w' => e = .returned (.agg #[.int .i64 i, .int .i64 v, .string s]) ∧ w.alloc (.cells #[.int .i64 i, .int .i64 v, .string s] 52) = w' := by
  go_enter Tryd.func50, Tryd.ntmps50
  go_wp2
  exact bodyPost_ret (v := .agg #[.int .i64 i, .int .i64 v, .string s]) (by simp [results, Tryd.results50, go_sem]) rfl ⟨rfl, rfl⟩
theorem few51_any (A B : Option Addr) (c d : Nat) (a b : List Spot) (w : World) (hr : Rd w A (flat a)) (hr' : Rd w B (flat b)) (hm : a.length ≤ 9223372036854775807) (hm' : b.length ≤ 9223372036854775807) :
    Calls Tryd.prog 21 #[.slice A a.length c, .slice B b.length d] w fun e w' => e = .returned (.bool (fewB a && fewB b)) ∧ w = w' := by
  have cA := Lib.hid (few49_any A c a w hr hm)
  have cB := Lib.hid (few49_any B d b w hr' hm')
  go_enter Tryd.func21, Tryd.ntmps21
  go_wp2_with fail
  refine cA.out.mono ?_
  rintro e w' ⟨rfl, rfl⟩
  cases ha : fewB a
  · go_wp2_with fail
    go_ret
    exact ⟨by simp [ha], rfl⟩
  · go_wp2_with fail
    refine cB.out.mono ?_
    rintro e w' ⟨rfl, rfl⟩
    cases hb : fewB b
    all_goals
      go_wp2_with fail
      go_ret
      exact ⟨by simp [ha, hb], rfl⟩

theorem same_chg (A B : Option Addr) (c d : Nat) (l : List Change) (n : Nat) (W : World) (hn : l.length = n) (h1 : Rd W A (cflat l)) (h2 : Rd W B (cflat l)) (hm : n ≤ 9223372036854775807) : Calls Tryd.prog 51 #[.slice A n c, .slice B n d] W fun e w' => e = .returned (.bool true) ∧ Below W.heap.size W w' := by
  subst hn
  have := same51_any A B c d l l W h1 h2 hm
  rw [decide_eq_true (show l = l from rfl)] at this
  exact this
theorem same_spt (A B : Option Addr) (c d : Nat) (l : List Spot) (n : Nat) (W : World) (hn : l.length = n) (h1 : Rd W A (flat l)) (h2 : Rd W B (flat l)) (hm : n ≤ 9223372036854775807) : Calls Tryd.prog 25 #[.slice A n c, .slice B n d] W fun e w' => e = .returned (.bool true) ∧ Below W.heap.size W w' := by
  subst hn
  have := same49_any A B c d l l W h1 h2 hm
  rw [decide_eq_true (show l = l from rfl)] at this
  exact this
theorem grd_pre {w : World} {b t : Nat} {cs : Array Value} {fr : Nat × Nat} {xs ys : List Value} (h : w.heap[b]? = some (.cells cs t fr)) (hx : cs.toList = xs ++ ys) : Rd w (some ⟨b, 0, none⟩) xs := by
  refine .inr ⟨b, 0, rfl, lt_block h, fun j u hu => ?_⟩
  rw [Nat.zero_add, gblk h]
  have h1 : (xs ++ ys)[j]? = some u := by rw [List.getElem?_append_left (List.getElem?_eq_some_iff.1 hu).1]; exact hu
  rw [← hx] at h1
  simpa using h1
set_option maxHeartbeats 2000000 in
theorem sane51_any (w : World) (hT : Tabs w) : Calls Tryd.prog 20 #[] w (TruePost w) := by
  go_enter Tryd.func20, Tryd.ntmps20
  go_wp2_with (first | (go_at_call 50; refine (spot51_any _ _ _ _).mono ?_; rintro e w' ⟨rfl, rfl⟩))
  obtain ⟨W1, hW1⟩ : ∃ W1, (((((w.alloc (.cells #[.int .i64 p1.id, .int .i64 p1.ver, .string p1.text] 52)).alloc (.cells #[.int .i64 p2.id, .int .i64 p2.ver, .string p2.text] 52)).alloc (.cells #[.int .i64 p1.id, .int .i64 p1.ver, .string p1.text, .int .i64 p2.id, .int .i64 p2.ver, .string p2.text] 52)).alloc (.cells #[.int .i64 p3.id, .int .i64 p3.ver, .string p3.text] 52)).alloc (.cells #[.int .i64 p4.id, .int .i64 p4.ver, .string p4.text] 52)).alloc (.cells #[.int .i64 p3.id, .int .i64 p3.ver, .string p3.text, .int .i64 p4.id, .int .i64 p4.ver, .string p4.text] 52) = W1 := ⟨_, rfl⟩
  have hB1 : Below w.heap.size w W1 := by rw [← hW1]; repeat (first | exact Below.refl _ _ | refine ext_alloc ?_ _)
  have gA : W1.heap[w.heap.size + 1 + 1]? = some (.cells #[.int .i64 p1.id, .int .i64 p1.ver, .string p1.text, .int .i64 p2.id, .int .i64 p2.ver, .string p2.text] 52 (0, 0)) := by
    rw [← hW1]
    repeat (first | (refine galloc_at _ _ _ ?_; simp only [World.size_alloc]; done) | refine (Below.heap_alloc _ _ _ (by simp only [World.size_alloc]; omega)).trans ?_)
  have gB : W1.heap[w.heap.size + 1 + 1 + 1 + 1 + 1]? = some (.cells #[.int .i64 p3.id, .int .i64 p3.ver, .string p3.text, .int .i64 p4.id, .int .i64 p4.ver, .string p4.text] 52 (0, 0)) := by
    rw [← hW1]
    repeat (first | (refine galloc_at _ _ _ ?_; simp only [World.size_alloc]; done) | refine (Below.heap_alloc _ _ _ (by simp only [World.size_alloc]; omega)).trans ?_)
  have hz1 : W1.heap.size = w.heap.size + 1 + 1 + 1 + 1 + 1 + 1 := by rw [← hW1]; simp only [World.size_alloc]
  have a0 : W1.cell? ⟨w.heap.size + 1 + 1, 0, none⟩ = some (.int .i64 1) := gblk gA 0
  have a1 : W1.cell? ⟨w.heap.size + 1 + 1, 1, none⟩ = some (.int .i64 0) := gblk gA 1
  have a2 : W1.cell? ⟨w.heap.size + 1 + 1, 2, none⟩ = some (.string ⟨#[97]⟩) := gblk gA 2
  have b0 : W1.cell? ⟨w.heap.size + 1 + 1 + 1 + 1 + 1, 0, none⟩ = some (.int .i64 2) := gblk gB 0
  have b1 : W1.cell? ⟨w.heap.size + 1 + 1 + 1 + 1 + 1, 1, none⟩ = some (.int .i64 1) := gblk gB 1
  have b2 : W1.cell? ⟨w.heap.size + 1 + 1 + 1 + 1 + 1, 2, none⟩ = some (.string ⟨#[99]⟩) := gblk gB 2
  have b3 : W1.cell? ⟨w.heap.size + 1 + 1 + 1 + 1 + 1, 3, none⟩ = some (.int .i64 3) := gblk gB 3
  have b4 : W1.cell? ⟨w.heap.size + 1 + 1 + 1 + 1 + 1, 4, none⟩ = some (.int .i64 0) := gblk gB 4
  have b5 : W1.cell? ⟨w.heap.size + 1 + 1 + 1 + 1 + 1, 5, none⟩ = some (.string ⟨#[100]⟩) := gblk gB 5
  simp only [p1, p2, p3, p4] at hW1
  rw [hW1]
  clear hW1
  go_still_tail 12, (by kernel_rfl)
  change wpList _ _ _ _ _ W1.drew
  obtain ⟨W3, hW3⟩ : ∃ W3, W1.drew.alloc (.cells #[.int .i64 7, .int .i64 2, .int .i64 p1.id, .int .i64 p1.ver, .string p1.text, .int .i64 7, .int .i64 3, .int .i64 p3.id, .int .i64 p3.ver, .string p3.text, .int .i64 7, .int .i64 1, .int .i64 p4.id, .int .i64 p4.ver, .string p4.text] 54) = W3 := ⟨_, rfl⟩
  have hB13 : Below W1.heap.size W1 W3 := by rw [← hW3]; exact ext_alloc (Below.refl W1.heap.size W1).drew _
  have gW : W3.heap[W1.heap.size]? = some (.cells #[.int .i64 7, .int .i64 2, .int .i64 p1.id, .int .i64 p1.ver, .string p1.text, .int .i64 7, .int .i64 3, .int .i64 p3.id, .int .i64 p3.ver, .string p3.text, .int .i64 7, .int .i64 1, .int .i64 p4.id, .int .i64 p4.ver, .string p4.text] 54 (0, 0)) := by rw [← hW3]; exact World.alloc_heap_new W1.drew _
  have gA3 := (hB13.block _ (lt_block gA)).trans gA
  have hB3 := ext_trans hB1 hB13
  have rA : Rd W3 (some ⟨w.heap.size + 1 + 1, 0, none⟩) (flat pA) := grd_blk gA3 rfl
  have rB : Rd W3 (some ⟨w.heap.size + 1 + 1 + 1 + 1 + 1, 0, none⟩) (flat pB) := grd_blk ((hB13.block _ (lt_block gB)).trans gB) rfl
  have rW : Rd W3 (some ⟨W1.heap.size, 0, none⟩) (cflat pW) := grd_blk gW rfl
  have rW1 : Rd W3 (some ⟨W1.heap.size, 0, none⟩) (cflat [⟨7, 2, p1⟩]) := grd_pre (ys := cflat [⟨7, 3, p3⟩, ⟨7, 1, p4⟩]) gW rfl
  simp only [p1, p3, p4] at hW3
  have T3 := Lib.hid (fun W (h : Below W3.heap.size W3 W) => utf_ext hT (ext_trans hB3 h))
  have cD1 : Hid (∀ W, Below W3.heap.size W3 W → Calls Tryd.prog 23 #[.slice (some ⟨w.heap.size + 1 + 1, 0, none⟩) 2 2, .slice (some ⟨w.heap.size + 1 + 1 + 1 + 1 + 1, 0, none⟩) 2 2, .int .i64 7] W (CsOk pW 3 W)) := fun W h => (Diff51_any (some ⟨w.heap.size + 1 + 1, 0, none⟩) 2 pA (some ⟨w.heap.size + 1 + 1 + 1 + 1 + 1, 0, none⟩) 2 pB 7 W (T3.out W h) (rA.ext h) (by decide) (rB.ext h) (by decide)).mono (fun e w' hp => diff_ok px1 px1' rfl hp)
  have cD2 : Hid (∀ W, Below W3.heap.size W3 W → Calls Tryd.prog 23 #[.slice none 0 0, .slice none 0 0, .int .i64 0] W (CsOk [] 0 W)) := fun W h => (Diff51_any none 0 [] none 0 [] 0 W (T3.out W h) (Rd.nil _ _) (by decide) (Rd.nil _ _) (by decide)).mono (fun e w' hp => diff_ok px2 px2' rfl hp)
  have cD3 : Hid (∀ W, Below W3.heap.size W3 W → Calls Tryd.prog 23 #[.slice none 0 0, .slice none 0 0, .int .i64 (-1)] W (ErrP 1 W)) := fun W h => (Diff51_any none 0 [] none 0 [] (-1) W (T3.out W h) (Rd.nil _ _) (by decide) (Rd.nil _ _) (by decide)).mono (fun e w' hp => diff_er px3 (by decide) hp)
  have cD4 : Hid (∀ W, Below W3.heap.size W3 W → ∀ g, Rd W (some ⟨g, 0, none⟩) (flat [p5]) → Calls Tryd.prog 23 #[.slice (some ⟨w.heap.size + 1 + 1, 0, none⟩) 2 2, .slice (some ⟨g, 0, none⟩) 1 1, .int .i64 7] W (ErrP 510 W)) := fun W h g hg => (Diff51_any (some ⟨w.heap.size + 1 + 1, 0, none⟩) 2 pA (some ⟨g, 0, none⟩) 1 [p5] 7 W (T3.out W h) (rA.ext h) (by decide) hg (by decide)).mono (fun e w' hp => diff_er px4 (by decide) hp)
  have cA5 : Hid (∀ W, Below W3.heap.size W3 W → Calls Tryd.prog 24 #[.slice (some ⟨w.heap.size + 1 + 1, 0, none⟩) 2 2, .slice (some ⟨W1.heap.size, 0, none⟩) 3 3] W (SsOk pB 2 W)) := fun W h => (Apply_any (some ⟨w.heap.size + 1 + 1, 0, none⟩) 2 pA (some ⟨W1.heap.size, 0, none⟩) 3 pW W (T3.out W h) (rA.ext h) (by simp) (by decide) (rW.ext h) (by decide)).mono (fun e w' hp => apply_ok px5 px5' rfl hp)
  have cA6 : Hid (∀ W, Below W3.heap.size W3 W → Calls Tryd.prog 24 #[.slice (some ⟨w.heap.size + 1 + 1, 0, none⟩) 2 2, .slice none 0 0] W (SsOk pA 2 W)) := fun W h => (Apply_any (some ⟨w.heap.size + 1 + 1, 0, none⟩) 2 pA none 0 [] W (T3.out W h) (rA.ext h) (by simp) (by decide) (Rd.nil _ _) (by decide)).mono (fun e w' hp => apply_ok px6 px6' rfl hp)
  have cA7 : Hid (∀ W, Below W3.heap.size W3 W → Calls Tryd.prog 24 #[.slice none 0 0, .slice (some ⟨W1.heap.size, 0, none⟩) 1 3] W (ErrP 490 W)) := fun W h => (Apply_any none 0 [] (some ⟨W1.heap.size, 0, none⟩) 3 [⟨7, 2, p1⟩] W (T3.out W h) (Rd.nil _ _) (by simp) (by decide) (rW1.ext h) (by decide)).mono (fun e w' hp => apply_er px7 (by decide) hp)
  have cT8 : Hid (∀ W, Below W3.heap.size W3 W → ∀ g, Rd W (some ⟨g, 0, none⟩) (cflat [⟨3, 1, p1⟩]) → Calls Tryd.prog 26 #[.slice none 0 0, .slice (some ⟨g, 0, none⟩) 1 1, .slice (some ⟨W1.heap.size, 0, none⟩) 1 3] W (CsOk [] 0 W)) := fun W h g hg => (Then_any none 0 [] (some ⟨g, 0, none⟩) 1 [⟨3, 1, p1⟩] (some ⟨W1.heap.size, 0, none⟩) 3 [⟨7, 2, p1⟩] W (T3.out W h) (Rd.nil _ _) (by simp) (by decide) hg (by decide) (rW1.ext h) (by decide)).mono (fun e w' hp => then_ok px8 px8' rfl hp)
  have cT9 : Hid (∀ W, Below W3.heap.size W3 W → Calls Tryd.prog 26 #[.slice none 0 0, .slice none 0 0, .slice none 0 0] W (CsOk [] 0 W)) := fun W h => (Then_any none 0 [] none 0 [] none 0 [] W (T3.out W h) (Rd.nil _ _) (by simp) (by decide) (Rd.nil _ _) (by decide) (Rd.nil _ _) (by decide)).mono (fun e w' hp => then_ok px9 px9' rfl hp)
  have cT10 : Hid (∀ W, Below W3.heap.size W3 W → Calls Tryd.prog 26 #[.slice (some ⟨w.heap.size + 1 + 1, 0, none⟩) 2 2, .slice (some ⟨W1.heap.size, 0, none⟩) 1 3, .slice none 0 0] W (CsOk [⟨7, 2, p1⟩] 1 W)) := fun W h => (Then_any (some ⟨w.heap.size + 1 + 1, 0, none⟩) 2 pA (some ⟨W1.heap.size, 0, none⟩) 3 [⟨7, 2, p1⟩] none 0 [] W (T3.out W h) (rA.ext h) (by simp) (by decide) (rW1.ext h) (by decide) (Rd.nil _ _) (by decide)).mono (fun e w' hp => then_ok px10 px10' rfl hp)
  have HA3 := Lib.hid gA3
  have hlA := lt_block gA3
  have HrA := Lib.hid rA
  have HrB := Lib.hid rB
  have HrW := Lib.hid rW
  have HrW1 := Lib.hid rW1
  clear gA gB gW a0 a1 a2 b0 b1 b2 b3 b4 b5 rA rB rW rW1 gA3 hz1
  go_wp2_with fail
  refine (cD1.out W3 (Below.refl _ _)).mono ?_
  rintro e W4 ⟨HB4, A4, c4, rfl, hr4⟩
  go_wp2_with fail
  refine (cD2.out W4 HB4).mono ?_
  rintro e W5 ⟨hb5, A5, c5, rfl, _⟩
  have HB5 := ext_trans HB4 hb5
  go_wp2_with fail
  refine (cD3.out W5 HB5).mono ?_
  rintro e W6 ⟨hb6, rfl⟩
  have HB6 := ext_trans HB5 hb6
  go_wp2_with fail
  refine (spot51_any _ _ _ _).mono ?_
  rintro e w' ⟨rfl, rfl⟩
  obtain ⟨W7, hW7⟩ : ∃ W7, (W6.alloc (.cells #[.int .i64 p5.id, .int .i64 p5.ver, .string p5.text] 52)).alloc (.cells #[.int .i64 p5.id, .int .i64 p5.ver, .string p5.text] 52) = W7 := ⟨_, rfl⟩
  have hb7 : Below W6.heap.size W6 W7 := by rw [← hW7]; exact ext_alloc (ext_alloc (Below.refl _ _) _) _
  have g7 : W7.heap[W6.heap.size + 1]? = some (.cells #[.int .i64 p5.id, .int .i64 p5.ver, .string p5.text] 52 (0, 0)) := by rw [← hW7]; exact galloc_at _ _ _ (by simp)
  have HB7 := ext_trans HB6 hb7
  have cD4' := Lib.hid (cD4.out W7 HB7 (W6.heap.size + 1) (grd_blk g7 rfl))
  simp only [p5] at hW7
  clear g7
  go_wp2_with fail
  refine cD4'.out.mono ?_
  rintro e W8 ⟨hb8, rfl⟩
  have HB8 := ext_trans HB7 hb8
  clear hW7
  go_wp2_with fail
  refine (cA5.out W8 HB8).mono ?_
  rintro e W9 ⟨hb9, A9, c9, rfl, hr9, _⟩
  have HB9 := ext_trans HB8 hb9
  go_wp2_with fail
  refine (cA6.out W9 HB9).mono ?_
  rintro e WA ⟨hba, AA, ca, rfl, hra, _⟩
  have HBA := ext_trans HB9 hba
  go_wp2_with fail
  refine (cA7.out WA HBA).mono ?_
  rintro e WB ⟨hbb, rfl⟩
  have HBB := ext_trans HBA hbb
  have gAB := (HBB.block _ hlA).trans HA3.out
  have a0 : WB.cell? ⟨w.heap.size + 1 + 1, 0, none⟩ = some (.int .i64 1) := gblk gAB 0
  have a1 : WB.cell? ⟨w.heap.size + 1 + 1, 1, none⟩ = some (.int .i64 0) := gblk gAB 1
  have a2 : WB.cell? ⟨w.heap.size + 1 + 1, 2, none⟩ = some (.string ⟨#[97]⟩) := gblk gAB 2
  go_wp2_with fail
  go_region_with (go_at_call 26; refine (cT8.out _ ?_ WB.heap.size ?_).mono ?_; exact ext_alloc (ext_drew HBB) _; exact grd_blk (World.alloc_heap_new WB.drew _) rfl; rintro e WC ⟨hbc, AC, cc, rfl, _⟩; have HBC := ext_trans (ext_alloc (ext_drew HBB) _) hbc)
  clear a0 a1 a2 gAB
  all_goals
    go_wp2_with fail
    refine (cT9.out WC HBC).mono ?_
    rintro e WD ⟨hbd, AD, cd, rfl, _⟩
    have HBD := ext_trans HBC hbd
    go_wp2_with fail
    refine (cT10.out WD HBD).mono ?_
    rintro e WE ⟨hbe, AE, ce, rfl, hre⟩
    have HBE := ext_trans HBD hbe
    go_wp2_with fail
    have r4 := hr4.ext (ext_trans hb5 (ext_trans hb6 (ext_trans hb7 (ext_trans hb8 (ext_trans hb9 (ext_trans hba (ext_trans hbb (ext_trans (ext_alloc (ext_drew (Below.refl WB.heap.size WB)) _) (ext_trans hbc (ext_trans hbd hbe))))))))))
    have r9 := hr9.ext (ext_trans hba (ext_trans hbb (ext_trans (ext_alloc (ext_drew (Below.refl WB.heap.size WB)) _) (ext_trans hbc (ext_trans hbd hbe)))))
    have ra := hra.ext (ext_trans hbb (ext_trans (ext_alloc (ext_drew (Below.refl WB.heap.size WB)) _) (ext_trans hbc (ext_trans hbd hbe))))
    refine (same_chg A4 _ c4 3 pW 3 WE rfl r4 (HrW.out.ext HBE) (by decide)).mono ?_
    rintro e WF ⟨rfl, hbf⟩
    have HBF := ext_trans HBE hbf
    go_wp2_with fail
    refine (same_spt A9 _ c9 2 pB 2 WF rfl (r9.ext hbf) (HrB.out.ext HBF) (by decide)).mono ?_
    rintro e WG ⟨rfl, hbg⟩
    have HBG := ext_trans HBF hbg
    go_wp2_with fail
    refine (same_spt AA _ ca 2 pA 2 WG rfl ((ra.ext hbf).ext hbg) (HrA.out.ext HBG) (by decide)).mono ?_
    rintro e WH ⟨rfl, hbh⟩
    have HBH := ext_trans HBG hbh
    go_wp2_with fail
    refine (same_chg AE _ ce 3 [⟨7, 2, p1⟩] 1 WH rfl (((hre.ext hbf).ext hbg).ext hbh) (HrW1.out.ext HBH) (by decide)).mono ?_
    rintro e WI ⟨rfl, hbi⟩
    go_wp2_with fail
    go_ret
    exact ⟨rfl, ext_trans hB3 (ext_trans HBH hbi)⟩
end Go.Proofs.YtfbhfimejcdopaaDoor
