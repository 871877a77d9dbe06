/- slices.Collect and slices.AppendSeq at int: what an iterator yields, in a new slice. -/
import Derived.Test.YtneanannicacnaaDoorBase
import Derived.RangeFuncBound
import Derived.RangeFuncBox
import Derived.Maps.AppendAt
namespace Go.Proofs.YtneanannicacnaaDoor
open Go.RowKit Go.Han
attribute [local go_sem] Oper.semAt_some

theorem info_int : (Tryd.prog.info? 3).map (fun i => (i.zero, i.size, i.bytes)) = some (some (.int .i64 0), 1, 8) := by kernel_rfl

def SeqPost (M : Nat → Prop) (E : Nat) (w : World) (ys : List Value) (pe : Option (List PanicEntry)) (e : Ending) (w' : World) : Prop :=
  Only M w w' ∧ ((pe = none ∧ ∃ v, e = .returned v ∧ w'.ownsRow w.heap.size E 1 v ys.length ys) ∨ (∃ ch, pe = some ch ∧ e = .panicked ch))

/-- Between two rounds: the box holds a slice of the call's own, with what has come. -/
def SeqInv {α : Type} (M : Nat → Prop) (w : World) (enc : α → Int) (own : Nat → Prop) (pre : List α) (W : World) : Prop :=
  ∃ v, (∀ k, own k ↔ (k = w.heap.size ∨ v.ownBlock = some k)) ∧ Boxed W w.heap.size 126 v ∧ W.ownsRow w.heap.size 3 1 v pre.length (pre.map fun x => .int .i64 (enc x)) ∧ Only M w W
theorem seqInv_stable {α : Type} (M : Nat → Prop) (w : World) (enc : α → Int) : Stable (w.heap.size + 1) M (SeqInv M w enc) := by
  rintro own pre W W' ⟨v, ho, hv, hr, hon⟩ st
  refine ⟨v, ho, (st.block _ hv.lt (.inr ((ho _).2 (.inl rfl)))).trans hv, ownsRow_of_block hr fun g hg => st.block g (hr.lt g hg).2 (.inr ((ho _).2 (.inr hg))), hon.iter st (by omega)⟩

def SeqAsg {α : Type} (M : Nat → Prop) (w : World) (enc : α → Int) (gf : Nat) (lb : Array Value) (x : α) (a' : Act) (own : Nat → Prop) (pre : List α) (W : World) : Prop :=
  a' = { tmps := #[.slice none 0 0, .func (.func gf) #[] lb, .pointer (some ⟨w.heap.size, 0, none⟩), undef, .slice none 0 0, .int .i64 (enc x), .func (.func gf) #[] lb, .int .i64 (enc x), undef, undef, undef, undef, undef], defers := [] } ∧ SeqInv M w enc own pre W
def SeqAsgEnd {α : Type} (M : Nat → Prop) (w : World) (enc : α → Int) (gf : Nat) (lb : Array Value) (x : α) (own : Nat → Prop) (pre : List α) (W : World) (a' : Act) (W' : World) : Prop :=
  ∃ own', BodyStep own own' W W' ∧ SeqAsg M w enc gf lb x a' own' pre W'

set_option maxRecDepth 100000 in
set_option maxHeartbeats 400000 in
theorem appendSeq_int {α : Type} (gf : Nat) (lb : Array Value) (enc : α → Int) (R M : Nat → Prop) (xs : List α) (pe : Option (List PanicEntry)) (w0 w : World)
    (hit : IterC Tryd.prog gf lb (fun x => #[.int .i64 (enc x)]) R M xs pe w0) (eg : ∀ args w, (callFunc gf args).run Tryd.prog w = .ok (.enter gf args) w)
    (hR : ∀ k, R k → k < w.heap.size ∧ w.heap[k]? = w0.heap[k]?) (hlen : xs.length ≤ 1000000) :
    Calls Tryd.prog 146 #[.slice none 0 0, .func (.func gf) #[] lb] w (SeqPost M 3 w (xs.map fun x => .int .i64 (enc x)) pe) := by
  obtain ⟨i0, hi0, hz0, hz1, hz2⟩ := info_parts info_int
  refine calls_of_wpAt Tryd.func146 rfl ?_
  simp only [Tryd.ntmps146, List.size_toArray, List.length_cons, List.length_nil, Nat.reduceAdd, Nat.reduceSub, Array.replicate_succ, Array.replicate_zero, List.push_toArray, List.append_toArray, List.nil_append, List.cons_append]
  refine wpAt_seq_wp fun K1 hK1 => ?_
  go_wp2
  refine wpAt_seq ?_
  refine wpAt_seq_wp fun K2 hK2 => ?_
  go_wp2
  refine wpAt_block ?_
  have hbx : Boxed (w.alloc (.cells #[.slice none 0 0] 126)) w.heap.size 126 (.slice none 0 0) := Boxed.new _ _ _
  refine wp_rangeP (xs := xs) (pe := pe) (R := R) (M := M) (w0 := w0) Tryd.func146 rfl eg hit (fun k hk => ⟨by have := (hR k hk).1; simp; omega, (Below.heap_alloc _ _ _ (hR k hk).1).trans (hR k hk).2⟩) (fun _ => rfl)
    (SeqInv M w enc) (fun _ _ _ _ => False) (fun _ _ => False) (by simp only [World.size_alloc]; exact seqInv_stable M w enc) (fun _ _ _ _ _ h _ => h) (fun k => k = w.heap.size) ?_ ?_
    (SeqAsg M w enc gf lb)
    (fun x a' own pre W W' h st => ⟨h.1, by simp only [World.size_alloc] at st; exact seqInv_stable M w enc own pre W W' h.2 st⟩) ?_ ?_ ?_ ?_ ?_ ?_
  · rintro k rfl
    exact ⟨by simp, fun h => by have := (hR _ h).1; omega⟩
  · exact ⟨.slice none 0 0, fun k => by simp [Value.ownBlock], hbx, World.ownsRow_nil _ _ _ _, (Only.refl M w).alloc _⟩
  · rintro l own pre x W hi hl1 hl2 ho hpre
    refine wpIn_mono (Q := Exit.then (SeqAsgEnd M w enc gf lb x own pre W) (fun _ _ _ => False)) ?_ (fun e a w h => h)
    gi_wp2
    exact ⟨own, ⟨rfl, rfl, rfl, Nat.le_refl _, fun _ _ _ => rfl, fun _ h => .inl h, fun k h => (ho k h).2.1⟩, rfl, hi⟩
  · rintro l own pre x a' W ⟨rfl, v, hown, hv, hrow, hon⟩ hl1 hl2 ho hpre
    have hlen1 : pre.length < xs.length := by
      obtain ⟨t, ht⟩ := hpre
      rw [← ht]; simp
    have hc := hv.cell
    have hBs := hon.size
    have hl3 : (pre.map fun x => Value.int .i64 (enc x)).length = pre.length := by simp
    have hlen2 : pre.length < 1000000 := by omega
    clear hlen
    gi_wp2_with (gi_at_builtin; refine wpListIn_append_at _ rfl _ _ 126 rfl w.heap.size 3 i0 (.int .i64 0) 1 8 Tryd.underlying126 hi0 hz0 hz1 hz2 rfl (by decide) _ _ _ rfl (hrow.alloc _) ⟨W.heap.size, 0, none⟩ 1 1 [.int .i64 (enc x)] rfl rfl (cell_one_new _ _ _) (by simp [Value.oneCell']) (by unfold maxLen; omega) (by omega) (by simp; omega) ?_; intro v' w1 hown' hgrow hat; obtain ⟨g', cap', rfl⟩ := ownsRow_succ hown'; obtain ⟨hv1, hv2, hr2, hk2, hb2⟩ := hv.appended (by decide) hrow hBs (Nat.le_refl _) hown' hgrow; have hc1 := hv1.cell; have hf1 := hv1.frozen)
    have hlv : ∀ k, own k → k < W.heap.size := fun k hk => (ho k hk).2.1
    have hB : BodyStep own (fun k => k = w.heap.size ∨ k = g') W (w1.setCell ⟨w.heap.size, 0, none⟩ (.slice (some ⟨g', 0, none⟩) (pre.length + 1) cap')) := by
      refine BodyStep.turn ((((BodyStep.refl hlv).alloc _).grown hgrow (fun k hk => .inl ((hown k).2 (.inr hk)))).setCell (p := ⟨w.heap.size, 0, none⟩) (.inl ((hown _).2 (.inl rfl))) _) ?_ ?_
      · rintro k (rfl | rfl)
        · exact .inl ((hown _).2 (.inl rfl))
        · rcases hat with h | h
          · exact .inl ((hown _).2 (.inr h.symm))
          · simp [Value.ownBlock] at h; exact .inr (by omega)
      · rintro k (rfl | rfl)
        · exact hv2.lt
        · exact (hr2.lt k rfl).2
    exact ⟨_, hB, _, fun k => by simp [Value.ownBlock, eq_comm], hv2, by simpa using hr2, hB.only hon (fun i hi hi' => by
      rcases (hown i).1 hi' with h | h
      · omega
      · have := (hrow.lt i h).1; omega)⟩
  · rintro D own W hD hpn ⟨v, hown, hv, hrow, hon⟩ hdef
    have hc := hv.cell
    refine wpAt_wp ?_
    go_wp2
    exact leavesM_ret hdef (results_tmp rfl _ _ _) ⟨hon.of_below' (putObj_below _ (B := D) _ (Nat.le_refl _)) (fun i hi _ => by simp at hD; omega), .inl ⟨hpn, v, rfl, by simpa using ownsRow_putObj hrow _ hdef rfl⟩⟩
  · rintro D own c pre W _ _ h
    exact h.elim
  · rintro D ch W _ h
    exact h.elim
  · rintro D own ch W hD hpn ⟨v, hown, hv, hrow, hon⟩ hdef
    exact leavesM_panic hdef ⟨hon.of_below' (putObj_below _ (B := D) _ (Nat.le_refl _)) (fun i hi _ => by simp at hD; omega), .inr ⟨ch, hpn, rfl⟩⟩

theorem collect_int {α : Type} (gf : Nat) (lb : Array Value) (enc : α → Int) (R M : Nat → Prop) (xs : List α) (pe : Option (List PanicEntry)) (w0 w : World)
    (hit : IterC Tryd.prog gf lb (fun x => #[.int .i64 (enc x)]) R M xs pe w0) (eg : ∀ args w, (callFunc gf args).run Tryd.prog w = .ok (.enter gf args) w)
    (hR : ∀ k, R k → k < w.heap.size ∧ w.heap[k]? = w0.heap[k]?) (hlen : xs.length ≤ 1000000) :
    Calls Tryd.prog 134 #[.func (.func gf) #[] lb] w (SeqPost M 3 w (xs.map fun x => .int .i64 (enc x)) pe) := by
  go_enter Tryd.func134, Tryd.ntmps134
  go_wp2_with fail
  refine (appendSeq_int gf lb enc R M xs pe w0 w hit eg hR hlen).mono ?_
  rintro e w1 ⟨hon, (⟨hpn, v, rfl, hrow⟩ | ⟨ch, hpn, rfl⟩)⟩
  · go_wp2
    go_ret
    exact ⟨hon, .inl ⟨hpn, v, rfl, hrow⟩⟩
  · exact ⟨rfl, hon, .inr ⟨ch, hpn, rfl⟩⟩
end Go.Proofs.YtneanannicacnaaDoor
