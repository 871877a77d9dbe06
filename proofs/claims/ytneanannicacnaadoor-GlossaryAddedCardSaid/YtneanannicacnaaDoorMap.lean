/- Maps as functions: what a map of the call's own holds at each key; ranging over one. No program in sight. -/
import Derived.Maps.RangeWalk
namespace Go.Han
open Go.Maps (Keyed)

section
variable {α β : Type} {P : Program} {k : TypeId}

/-- How keys are spelled: as values, as the reader's keys; which of them are keys at all. -/
structure KeyShape (P : Program) (k : TypeId) (α : Type) where
  val : α → Value
  lit : α → Lit
  good : α → Prop
  of : ∀ x, good x → keyOf P k (val x) = some (lit x)
  inv : ∀ v l, keyOf P k v = some l → ∃ x, good x ∧ v = val x ∧ l = lit x
  inj : ∀ x y, good x → good y → lit x = lit y → x = y
/-- How elements are spelled. -/
structure ElemShape (β : Type) where
  val : β → Value
  inj : ∀ x y, val x = val y → x = y

/-- An element reads as itself. -/
noncomputable def ElemShape.read (E : ElemShape β) (v : Value) : Option (DataW β × List MemPlace) :=
  open Classical in if h : ∃ c, v = E.val c then some (.held (Classical.choose h), []) else none
theorem ElemShape.read_val (E : ElemShape β) (c : β) : E.read (E.val c) = some (.held c, []) := by
  unfold ElemShape.read
  have h : ∃ c', E.val c = E.val c' := ⟨c, rfl⟩
  rw [dif_pos h, E.inj _ _ (Classical.choose_spec h).symm]
theorem ElemShape.read_inv (E : ElemShape β) {v : Value} {y : DataW β × List MemPlace} (h : E.read v = some y) : ∃ c, v = E.val c ∧ y = (.held c, []) := by
  unfold ElemShape.read at h
  split at h
  · rename_i hc
    cases h
    exact ⟨Classical.choose hc, Classical.choose_spec hc, rfl⟩
  · cases h

/-- What stands at the keys. -/
def HoldsAt (S : KeyShape P k α) (D : DataW β) (f : α → Option β) : Prop :=
  ∀ x, S.good x → (f x = none → Maps.has D (S.lit x) = false) ∧ ∀ c, f x = some c → Maps.has D (S.lit x) = true ∧ ∀ z, D.atKey (S.lit x) z = .held c

/-- Block b is a map of at most n entries that holds f. -/
def MapF (w : World) (S : KeyShape P k α) (E : ElemShape β) (b n : Nat) (f : α → Option β) : Prop :=
  ∃ D : DataW β, w.ownsMap P k E.read b n D ∧ HoldsAt S D f

theorem MapF.lt {w : World} {S : KeyShape P k α} {E : ElemShape β} {b n : Nat} {f : α → Option β} (h : MapF w S E b n f) : b < w.heap.size := let ⟨_, h1, _⟩ := h; h1.lt
theorem MapF.made (w : World) (S : KeyShape P k α) (E : ElemShape β) : MapF (w.alloc (.map #[] 0)) S E w.heap.size 0 (fun _ => none) :=
  ⟨.map [], World.ownsMap_made w P k E.read, fun x _ => ⟨fun _ => rfl, fun c h => by cases h⟩⟩
theorem MapF.mono {w : World} {S : KeyShape P k α} {E : ElemShape β} {b n n' : Nat} {f : α → Option β} (h : MapF w S E b n f) (hn : n ≤ n') : MapF w S E b n' f :=
  let ⟨D, h1, h2⟩ := h; ⟨D, h1.mono hn, h2⟩
theorem MapF.of_block {w w' : World} {S : KeyShape P k α} {E : ElemShape β} {b n : Nat} {f : α → Option β} (h : MapF w S E b n f) (hb : w'.heap[b]? = w.heap[b]?) : MapF w' S E b n f := by
  obtain ⟨D, ⟨es, clock, h1, h2⟩, h3⟩ := h
  exact ⟨D, ⟨es, clock, hb.trans h1, h2⟩, h3⟩
theorem MapF.congr {w : World} {S : KeyShape P k α} {E : ElemShape β} {b n : Nat} {f g : α → Option β} (h : MapF w S E b n f) (e : ∀ x, S.good x → g x = f x) : MapF w S E b n g := by
  obtain ⟨D, h1, h2⟩ := h
  exact ⟨D, h1, fun x hx => by rw [e x hx]; exact h2 x hx⟩

theorem HoldsAt.put [DecidableEq α] {S : KeyShape P k α} (K : Keyed P k) {D : DataW β} {f : α → Option β} (h : HoldsAt S D f) (hD : Maps.IsMap D) {x : α} (hx : S.good x) (c : β) :
    HoldsAt S (D.put (S.lit x) (.held c)) (fun y => if y = x then some c else f y) := by
  intro y hy
  have hk : WideAt.IsKeyLit (S.lit x) := K.key (S.of x hx)
  by_cases e : y = x
  · subst e
    exact ⟨fun h => by simp at h, fun c' h => by
      simp at h; subst h
      exact ⟨Maps.has_put_same hD hk _, fun z => Maps.atKey_put_same hD hk _ z⟩⟩
  · have hne : S.lit y ≠ S.lit x := fun h' => e (S.inj y x hy hx h')
    obtain ⟨h1, h2⟩ := h y hy
    exact ⟨fun h' => by rw [Maps.has_put_other hne]; exact h1 (by simpa [e] using h'), fun c' h' => by
      have := h2 c' (by simpa [e] using h')
      exact ⟨by rw [Maps.has_put_other hne]; exact this.1, fun z => by rw [Maps.atKey_put_other hne]; exact this.2 z⟩⟩

section
variable (w : World) {ops : Array Oper} {rest : List Oper} {o : Oper} {a : Act} {Q : Exit → Act → World → Prop}

/-- m[x] = c. -/
theorem wpList_mapUpdate_f [DecidableEq α] (hg : o.guard = none) (m x v : Operand) (t : TypeId) (hop : o.op = Op.mapUpdate t m x v) (e : TypeId) (K : Keyed P k) (ht : P.underlying t = some (.map k e)) (S : KeyShape P k α) (E : ElemShape β) (b n : Nat) (f : α → Option β)
    (hm : a.eval m = .map (some b)) (hown : MapF w S E b n f) (hn : n < maxLen) (key : α) (c : β) (hx : a.eval x = S.val key) (hv : a.eval v = E.val c) (hgood : S.good key)
    (hK : ∀ w', MapF w' S E b (n + 1) (fun y => if y = key then some c else f y) → w.grownBy w' (some b) → w'.heap.size = w.heap.size → wpList P ops Q rest (a.put o.dst undef) w') :
    wpList P ops Q (o :: rest) a w := by
  obtain ⟨D, h1, h2⟩ := hown
  refine wpList_plain hg fun K' hK' => ?_
  obtain ⟨w', hrun, r1, r2⟩ := h1.store K ht hn (S.of key hgood) (E.read_val c)
  have hsz : w'.heap.size = w.heap.size := by
    obtain ⟨es, clock, es', clock', hb, rfl⟩ := r2
    simp [ChangeMaps.setBlock]
  unfold Oper.wp
  simp [execOp, hop, hm, hx, hv, hrun, Result.andThen]
  exact hK' _ _ (hK w' ⟨_, r1, h2.put K h1.isMap hgood c⟩ r2.grown hsz)

/-- m[x] = c, as an equation. -/
theorem MapF.store [DecidableEq α] {t e : TypeId} (K : Keyed P k) (ht : P.underlying t = some (.map k e)) {S : KeyShape P k α} {E : ElemShape β} {b n : Nat} {f : α → Option β} (hown : MapF w S E b n f) (hn : n < maxLen) (key : α) (c : β) (hgood : S.good key) :
    ∃ w', (Instr.mapUpdate t (.map (some b)) (S.val key) (E.val c)).run P w = .ok () w' ∧ MapF w' S E b (n + 1) (fun y => if y = key then some c else f y) ∧ w.grownBy w' (some b) ∧ w'.heap.size = w.heap.size := by
  obtain ⟨D, h1, h2⟩ := hown
  obtain ⟨w', hrun, r1, r2⟩ := h1.store K ht hn (S.of key hgood) (E.read_val c)
  refine ⟨w', hrun, ⟨_, r1, h2.put K h1.isMap hgood c⟩, r2.grown, ?_⟩
  obtain ⟨es, clock, es', clock', hb, rfl⟩ := r2
  simp [ChangeMaps.setBlock]
/-- v, ok := m[x]. -/
theorem run_lookup_f {t e : TypeId} (K : Keyed P k) (ht : P.underlying t = some (.map k e)) (S : KeyShape P k α) (E : ElemShape β) (z0 : β) {b n : Nat} {f : α → Option β} (hz : (zeroValue e).run P w = .ok (E.val z0) w) (hown : MapF w S E b n f) (key : α) (hgood : S.good key) :
    (Instr.lookup t (.map (some b)) (S.val key) true).run P w = .ok (.tuple #[E.val ((f key).getD z0), .bool (f key).isSome]) w := by
  obtain ⟨D, h1, h2⟩ := hown
  obtain ⟨v, ps, hrun, hv⟩ := h1.look_ok K ht hz (E.read_val z0) (S.of key hgood)
  obtain ⟨g1, g2⟩ := h2 key hgood
  obtain ⟨c, rfl, hc⟩ := E.read_inv hv
  simp only [Prod.mk.injEq] at hc
  cases hf : f key with
  | none =>
    have := g1 hf
    rw [Maps.atKey_of_not_has this] at hc
    cases hc.1
    rw [this] at hrun
    exact hrun
  | some c' =>
    obtain ⟨g3, g4⟩ := g2 c' hf
    rw [g4] at hc
    cases hc.1
    rw [g3] at hrun
    exact hrun
theorem wpList_lookup_f (hg : o.guard = none) (m x : Operand) (t : TypeId) (hop : o.op = Op.lookup t m x true) (e : TypeId) (K : Keyed P k) (ht : P.underlying t = some (.map k e)) (S : KeyShape P k α) (E : ElemShape β) (z0 : β) (b n : Nat) (f : α → Option β)
    (hz : (zeroValue e).run P w = .ok (E.val z0) w) (hm : a.eval m = .map (some b)) (hown : MapF w S E b n f) (key : α) (hx : a.eval x = S.val key) (hgood : S.good key)
    (hK : wpList P ops Q rest (a.put o.dst (.tuple #[E.val ((f key).getD z0), .bool (f key).isSome])) w) :
    wpList P ops Q (o :: rest) a w := by
  refine wpList_plain hg fun K' hK' => ?_
  have hrun := run_lookup_f w K ht S E z0 hz hown key hgood
  unfold Oper.wp
  simp only [execOp, hop, hm, hx, Sem.run_bind, hrun, Result.andThen_ok, Sem.run_pure]
  exact hK' _ _ hK

theorem wpList_lookup_is (hg : o.guard = none) (m x : Operand) (t : TypeId) (hop : o.op = Op.lookup t m x true) (e : TypeId) (K : Keyed P k) (ht : P.underlying t = some (.map k e)) (S : KeyShape P k α) (E : ElemShape β) (z0 : β) (b n : Nat) (f : α → Option β)
    (hz : (zeroValue e).run P w = .ok (E.val z0) w) (hm : a.eval m = .map (some b)) (hown : MapF w S E b n f) (key : α) (hx : a.eval x = S.val key) (hgood : S.good key) (vc : Value) (bc : Bool) (hv : E.val ((f key).getD z0) = vc) (hb : (f key).isSome = bc)
    (hK : wpList P ops Q rest (a.put o.dst (.tuple #[vc, .bool bc])) w) :
    wpList P ops Q (o :: rest) a w := by
  subst hv hb
  exact wpList_lookup_f w hg m x t hop e K ht S E z0 b n f hz hm hown key hx hgood hK

/-! ### ranging -/
/-- Block r ranges over the map in block b; 'left': what is still to come. -/
def RangeF (w : World) (S : KeyShape P k α) (E : ElemShape β) (b r n : Nat) (f : α → Option β) (left : α → Bool) (cnt : Nat) : Prop :=
  ∃ (D : DataW β) (lf : Lit → Bool), w.ranges P k E.read b r n D lf cnt ∧ HoldsAt S D f ∧ (∀ x, S.good x → left x = lf (S.lit x)) ∧ ∀ l, lf l = true → ∃ x, S.good x ∧ l = S.lit x
end
theorem RangeF.kept {w w' : World} {S : KeyShape P k α} {E : ElemShape β} {b r n cnt : Nat} {f : α → Option β} {left : α → Bool} {row : Option Nat} (h : RangeF w S E b r n f left cnt) (hg : w.grownBy w' row) (hb : some b ≠ row) (hr : some r ≠ row) : RangeF w' S E b r n f left cnt :=
  let ⟨D, lf, h1, h2⟩ := h; ⟨D, lf, h1.kept hg hb hr, h2⟩
theorem RangeF.owns {w : World} {S : KeyShape P k α} {E : ElemShape β} {b r n cnt : Nat} {f : α → Option β} {left : α → Bool} (h : RangeF w S E b r n f left cnt) : MapF w S E b n f :=
  let ⟨D, _, h1, h2, _⟩ := h; ⟨D, h1.owns, h2⟩
theorem RangeF.left_eq {w : World} {S : KeyShape P k α} {E : ElemShape β} {b r n cnt : Nat} {f : α → Option β} {left : α → Bool} (h : RangeF w S E b r n f left cnt) : w.rangeLeft b r = cnt :=
  let ⟨_, _, h1, _⟩ := h; h1.left_eq
theorem RangeF.lt {w : World} {S : KeyShape P k α} {E : ElemShape β} {b r n cnt : Nat} {f : α → Option β} {left : α → Bool} (h : RangeF w S E b r n f left cnt) : r < w.heap.size :=
  let ⟨_, _, h1, _⟩ := h; h1.lt

section
variable (w : World) {ops : Array Oper} {rest : List Oper} {o : Oper} {a : Act} {Q : Exit → Act → World → Prop}
/-- range m. -/
theorem wpList_range_f (hg : o.guard = none) (m : Operand) (t : TypeId) (hop : o.op = Op.range t m) (e : TypeId) (K : Keyed P k) (ht : P.underlying t = some (.map k e)) (S : KeyShape P k α) (E : ElemShape β) (b n : Nat) (f : α → Option β)
    (hm : a.eval m = .map (some b)) (hown : MapF w S E b n f)
    (hK : ∀ w' cnt, RangeF w' S E b w.heap.size n f (fun x => (f x).isSome) cnt → w.grownBy w' none → w'.heap.size = w.heap.size + 1 → wpList P ops Q rest (a.put o.dst (.pointer (some ⟨w.heap.size, 0, none⟩))) w') :
    wpList P ops Q (o :: rest) a w := by
  obtain ⟨D, h1, h2⟩ := hown
  obtain ⟨es, hes, hpw, hkl⟩ := h1.entries K
  refine wpList_range_own w hg m t hop k e K ht E.read b n D hm h1 fun w' hr hgr hs => hK w' _ ⟨D, Maps.has D, hr, h2, fun x hx => ?_, fun l hl => ?_⟩ hgr hs
  · obtain ⟨g1, g2⟩ := h2 x hx
    show (f x).isSome = _
    cases hf : f x with
    | none => exact (g1 hf).symm
    | some c => exact ((g2 c hf).1).symm
  · obtain ⟨es', clock, _, F, _, hD⟩ := h1
    subst hD
    obtain ⟨p, hp, hpk⟩ := List.any_eq_true.1 hl
    obtain ⟨y, hy, rfl⟩ := List.mem_map.1 (mem_sorted.1 hp)
    obtain ⟨z, hz⟩ := F.reads y hy
    have hk' := WideElems.rd_key hz
    have e1 : (WideElems.rg P k E.read y).1 = z.1 := by rw [WideElems.rg_of hz]
    obtain ⟨x, hx, _, hl'⟩ := S.inv _ _ hk'
    exact ⟨x, hx, by rw [← hl', ← e1]; exact (WideAt.sameKey_eq hpk).symm⟩

/-- The step. -/
theorem wpList_next_f [DecidableEq α] (hg : o.guard = none) (it : Operand) (hop : o.op = Op.next it false) (K : Keyed P k) (S : KeyShape P k α) (E : ElemShape β) (b r n : Nat) (f : α → Option β) (left : α → Bool) (cnt : Nat) (kv : α → Value) (cv : β → Value) (hkv : ∀ x, S.val x = kv x) (hcv : ∀ c, E.val c = cv c)
    (hit : a.eval it = .pointer (some ⟨r, 0, none⟩)) (h : RangeF w S E b r n f left cnt)
    (hDone : (∀ x, S.good x → left x = false) → wpList P ops Q rest (a.put o.dst (.tuple #[.bool false])) w)
    (hMore : ∀ (x : α) (c : β) (w' : World) (cnt' : Nat), S.good x → left x = true → f x = some c → RangeF w' S E b r n f (fun y => left y && !decide (y = x)) cnt' → cnt' < cnt →
      w.grownBy w' (some r) → w'.heap.size = w.heap.size → (Instr.entry (.pointer (some ⟨r, 0, none⟩))).run P w' = .ok (.tuple #[kv x, cv c]) w' → wpList P ops Q rest (a.put o.dst (.tuple #[.bool true, kv x, cv c])) w') :
    wpList P ops Q (o :: rest) a w := by
  obtain ⟨D, lf, h1, h2, h3, h4⟩ := h
  refine wpList_next_ranges w hg it hop k K E.read S.val E.val (fun key kl hk => by obtain ⟨x, _, hx, _⟩ := S.inv key kl hk; exact ⟨x, hx⟩) (fun v y hv => by obtain ⟨c, hc, _⟩ := E.read_inv hv; exact ⟨c, hc⟩) b r n D lf cnt hit h1
    (fun _ hl => hDone fun x hx => by rw [h3 x hx, hl]) ?_
  intro x' c kl y w' cnt' hkey hlk hv hat hrg hlt hgr hsz hen
  obtain ⟨x, hx, hxv, hxl⟩ := S.inv _ _ hkey
  subst hxl
  obtain ⟨c', hc', hy⟩ := E.read_inv hv
  obtain rfl : c = c' := E.inj _ _ hc'
  subst hy
  rw [hxv, hkv, hcv] at hen
  rw [hxv, hkv, hcv]
  have hfx : f x = some c := by
    obtain ⟨g1, g2⟩ := h2 x hx
    cases hf : f x with
    | none =>
      have := g1 hf
      have h0 := hat .nil
      rw [Maps.atKey_of_not_has this] at h0
      cases h0
    | some c2 =>
      have h0 := (g2 c2 hf).2 .nil
      rw [hat] at h0
      cases h0
      rfl
  refine hMore x c w' cnt' hx (by rw [h3 x hx]; exact hlk) hfx ⟨D, _, hrg, h2, fun y hy => ?_, fun l hl => ?_⟩ hlt hgr hsz hen
  · show (left y && !decide (y = x)) = (lf (S.lit y) && !(S.lit y).sameKey (S.lit x))
    rw [h3 y hy]
    by_cases e : y = x
    · subst e
      rw [WideAt.sameKey_self (K.key (S.of y hy))]; simp
    · rw [Maps.sameKey_ne (fun h' => e (S.inj y x hy hx h'))]; simp [e]
  · refine h4 l ?_
    cases hl' : lf l
    · simp [hl'] at hl
    · rfl
end

/-- Keys of the type int. -/
def intShape {q : IntKind} (hk : P.underlying k = some (.int q)) : KeyShape P k Int where
  val := .int q
  lit := .int q
  good x := (Lit.int q x).wf = true
  of x hx := by simp [keyOf, mapKey, hk, hx]
  inv v l h := by
    obtain ⟨x, h1, h2, h3⟩ := Maps.keyOf_int_inv hk h
    exact ⟨x, h3, h1, h2⟩
  inj x y _ _ h := by cases h; rfl
end
end Go.Han
