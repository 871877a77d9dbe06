/- Package spans: Has. -/
import Derived.Test.YtmindojbkedmlaaSpa2
import Derived.RecoverIn
namespace Go.Proofs.Ytmindojbkedmlaa
open Go.RowKit Go.Han
attribute [local irreducible] wpStill wpQuiet
attribute [local go_sem] Oper.semAt_some
set_option maxRecDepth 100000

theorem caught13_in (b : Nat) (w : World) :
    CallsDIn Fence.wide 0 Try.prog 57 #[.pointer (some ⟨b, 0, none⟩)] .returning w fun e u' w' => u' = .returning ∧ e = .returned (.tuple #[]) ∧ w' = w := by
  refine callsDIn_of_wpSIn Try.func57 rfl trivial fun c₀ cs hu => ?_
  simp only [Try.ntmps57, List.size_toArray, List.length_cons, List.length_nil, Nat.reduceAdd, Nat.reduceSub, Array.replicate_succ, Array.replicate_zero, List.push_toArray, List.append_toArray, List.nil_append, List.cons_append]
  apply wpSIn_seq
  apply wpSIn_region
  simp [wpOpsSIn, go_sem, recoverD, hu, Exit.thenS]
  refine wpSIn_of_wpIn rfl ?_
  gi_wp2
  cases c₀
  simp_all [bodyPostS, results, Try.results57]
/-- A function that holds a range over a function and defers 'caught' returns. -/
theorem leavesM_caught {fn : Func} {tmps : Array Value} {R : Ending → World → Prop} {D b : Nat} {W : World} {v : Value} (hdef : W.heap[D]? = some (.deferred (some [])))
    (hres : (results fn tmps).run Try.prog (W.putObj D (.deferred none)) = .ok v (W.putObj D (.deferred none))) (hR : R (.returned v) (W.putObj D (.deferred none))) :
    LeavesInM Fence.wide 0 Try.prog fn tmps R [{ target := .collected D, args := #[] }, { target := .fn (.func 57) #[], args := #[.pointer (some ⟨b, 0, none⟩)] }] .returning W := by
  refine ⟨by simp, .inl ⟨_, _, rfl, run_takeDeferred hdef, ?_⟩⟩
  refine ⟨by simp, .inr ⟨(fun h => (by cases h)), .func 57, #[], 57, #[.pointer (some ⟨b, 0, none⟩)], rfl, by simp [go_sem], fun _ _ => trivial, ?_⟩⟩
  refine (caught13_in b _).mono ?_
  rintro e u' w' ⟨rfl, rfl, rfl⟩
  exact ⟨_, hres, hR⟩
/-- The last state's first half. -/
def lastA (pre : List StV) : Bool := match pre.getLast? with | some x => x.a | none => false
theorem lastA_snoc (pre : List StV) (x : StV) : lastA (pre ++ [x]) = x.a := by unfold lastA; simp
theorem okF_app {t : Int} : ∀ {pre S : List StV} {o : Bool}, (∀ x ∈ pre, x.frm ≤ t) → okF t o (pre ++ S) = okF t (match pre.getLast? with | some x => x.a | none => o) S
  | [], S, o, _ => rfl
  | x :: pre, S, o, h => by
    rw [List.cons_append, okF, if_neg (by have := h x (List.mem_cons_self ..); omega), okF_app fun y hy => h y (List.mem_cons_of_mem _ hy)]
    cases pre with
    | nil => rfl
    | cons y pre =>
      rw [List.getLast?_cons_cons]
      cases h : (y :: pre).getLast? with
      | none => simp at h
      | some z => rfl
theorem okF_pre {t : Int} {pre S : List StV} (h : ∀ x ∈ pre, x.frm ≤ t) : okF t false (pre ++ S) = okF t (lastA pre) S := okF_app h
/-- Between two rounds. -/
def HsInv (Wl : World) (bO : Nat) (t : Int) (own : Nat → Prop) (pre : List StV) (X : World) : Prop :=
  (∀ k, own k ↔ k = bO) ∧ Boxed X bO 4 (.bool (lastA pre)) ∧ Only (fun k => k = bO) Wl X ∧ ∀ x ∈ pre, x.frm ≤ t
def HsEnd (Wl : World) (bO : Nat) (t : Int) (c : Code) (own : Nat → Prop) (pre : List StV) (X : World) : Prop :=
  c = .exit 0 ∧ ∃ p x, pre = p ++ [x] ∧ t < x.frm ∧ HsInv Wl bO t own p X
theorem hsInv_stable (Wl : World) (bO : Nat) (t : Int) (B1 : Nat) (hB : Wl.heap.size ≤ B1) : Stable B1 (fun _ => False) (HsInv Wl bO t) := by
  rintro own pre W W' ⟨ho, hv, hon, hp⟩ st
  exact ⟨ho, (st.block _ hv.lt (.inr ((ho _).2 rfl))).trans hv, ⟨st.os.trans hon.os, st.tape.trans hon.tape, st.output.trans hon.output, Nat.le_trans hon.size st.size, fun i hi hn => (st.block i (Nat.lt_of_lt_of_le hi hon.size) (.inl ⟨by omega, fun h => h⟩)).trans (hon.block i hi hn)⟩, hp⟩
def HsAsg (Wl : World) (bO : Nat) (t : Int) (F : Value → Value → Array Value) (ds : List Deferred) (x : StV) (a' : Act) (own : Nat → Prop) (pre : List StV) (W : World) : Prop :=
  ∃ bx own1, a' = { tmps := F (.pointer (some ⟨bx, 0, none⟩)) (.agg #[.int .i64 x.frm, .bool x.a, .bool x.b]), defers := ds } ∧ (∀ k, own k ↔ (own1 k ∨ k = bx)) ∧ W.heap[bx]? = some (.cells #[.int .i64 x.frm, .bool x.a, .bool x.b] 106 (0, 0)) ∧ HsInv Wl bO t own1 pre W
theorem hsAsg_stable (Wl : World) (bO : Nat) (t : Int) (F : Value → Value → Array Value) (ds : List Deferred) (x : StV) (a' : Act) (B1 : Nat) (hB : Wl.heap.size ≤ B1) : Stable B1 (fun _ => False) (HsAsg Wl bO t F ds x a') := by
  rintro own pre W W' ⟨bx, own1, ha', ho, hx, hI⟩ st
  exact ⟨bx, own1, ha', ho, (st.block _ (lt_block hx) (.inr ((ho _).2 (.inr rfl)))).trans hx, hsInv_stable Wl bO t B1 hB own1 pre W W' hI ⟨st.os, st.tape, st.output, st.size, fun k hk h => st.block k hk (h.imp id fun h => (ho k).2 (.inl h))⟩⟩
theorem states_enter (args : Array Value) (w : World) : (callFunc 94 args).run Try.prog w = .ok (.enter 94 args) w := enters_of Try.func94 (by kernel_rfl) rfl args w
def spNil : SpS := ⟨none, 0, []⟩
theorem spNil_ok (w : World) : spNil.Ok w := ⟨Rd.nil _ _, rfl, Nat.zero_le _⟩
def hasB (x : List Spn) (t : Int) : Bool := par (bl x) false t
set_option maxHeartbeats 4000000 in
theorem Has_any (s : SpS) (t : Int) (w : World) (hs : s.Ok w) (ht0 : 0 ≤ t) (ht1 : t < 1099511627776) :
    Calls Try.prog 26 #[.slice s.addr s.xs.length s.cap, .int .i64 t] w fun e w' => e = .returned (.tuple #[.bool (hasB s.xs t), .int .i64 0]) ∧ Below w.heap.size w w' := by
  have HS : Hid (hasB s.xs t = okF t false (stL (bl s.xs) (bl spNil.xs) false false)) := by
    show _ = _
    exact (okF_say t _ (bl s.xs) false rfl (bl_asc hs.chk).1).symm
  obtain ⟨W1, hW1⟩ : ∃ W, (((w.alloc (.cells #[.int .i64 t] 3)).alloc (.cells #[.bool false] 4)).alloc (.cells #[.int .i64 0] 26)).alloc (.cells #[.slice s.addr s.xs.length s.cap] 34) = W := ⟨_, rfl⟩
  have hT1 : Boxed W1 w.heap.size 3 (.int .i64 t) := by subst hW1; exact (((Boxed.new _ _ _).alloc _).alloc _).alloc _
  have hO1 : Boxed W1 (w.heap.size + 1) 4 (.bool false) := by subst hW1; exact (Below.heap_alloc _ _ _ (by first | (simp; done) | (simp; omega))).trans ((Below.heap_alloc _ _ _ (by simp)).trans (galloc_at _ _ _ (by simp)))
  have hE1 : Boxed W1 (w.heap.size + 2) 26 (.int .i64 0) := by subst hW1; exact (Below.heap_alloc _ _ _ (by simp)).trans (galloc_at _ _ _ (by simp))
  have hl1 : Rd W1 (some ⟨w.heap.size + 1 + 1 + 1, 0, none⟩) ([s].flatMap SpS.cell) := by subst hW1; exact grd_blk (galloc_at _ _ _ (by simp)) rfl
  have hB1 : Below w.heap.size w W1 := by subst hW1; exact ext_alloc (ext_alloc (ext_alloc (ext_alloc (Below.refl _ _) _) _) _) _
  have hz1 : W1.heap.size = w.heap.size + 4 := by subst hW1; simp
  have cK := Lib.hid (check13_any (some ⟨w.heap.size + 1 + 1 + 1, 0, none⟩) 1 [s] W1 hl1 (by simp) (fun t ht => by rw [List.mem_singleton.1 ht]; exact hs.ext hB1))
  have Hs := Lib.hid hs
  have Hz1 := Lib.hid hz1
  obtain ⟨A, c, x⟩ := s
  simp only at hW1 cK HS ⊢
  rw [HS.out]
  have q1 : decide (t < 0) = false := decide_eq_false (by omega)
  have q2 : decide (1099511627776 ≤ t) = false := decide_eq_false (by omega)
  clear hs hl1 hz1 ht0 ht1 HS
  refine calls_of_wpAt Try.func26 rfl ?_
  simp only [Try.ntmps26, List.size_toArray, List.length_cons, List.length_nil, Nat.reduceAdd, Nat.reduceSub, Array.replicate_succ, Array.replicate_zero, List.push_toArray, List.append_toArray, List.nil_append, List.cons_append]
  refine wpAt_seq_wp fun Q1 hQ1 => ?_
  go_wp2_with fail
  refine wpAt_seq_wp fun Q2 hQ2 => ?_
  go_wp2_with fail
  refine wpAt_seq_wp fun Q3 hQ3 => ?_
  go_wp2_with fail
  refine cK.out.mono ?_
  rintro e w2 ⟨rfl, hb2⟩
  have hT2 := hT1.kept (gbelow_grown hb2 none) (by simp)
  have hO2 := hO1.kept (gbelow_grown hb2 none) (by simp)
  have hE2 := hE1.kept (gbelow_grown hb2 none) (by simp)
  have hB2 := ext_trans hB1 hb2
  have hsz2 := Lib.hid hb2.size
  have cT2 := hT2.cell
  clear hW1 cK hT1 hO1 hE1 hb2
  go_wp2_with fail
  refine wpAt_seq_wp fun Q4 hQ4 => ?_
  go_wp2_with fail
  refine wpAt_seq ?_
  refine wpAt_seq_wp fun Q5 hQ5 => ?_
  go_wp2_with fail
  refine (states_any A x.length c none 0 0 w2).mono ?_
  rintro e w3 ⟨rfl, hw3⟩
  have hb3 : Below w2.heap.size w2 w3 := by subst hw3; exact ext_alloc (ext_alloc (Below.refl _ _) _) _
  have hat : StatAt ⟨A, c, x⟩ spNil w2.heap.size (w2.heap.size + 1) w3 := by
    have hs3 := Hs.out.ext (ext_trans hB2 hb3)
    subst hw3
    exact ⟨(Below.heap_alloc _ _ _ (by simp)).trans (galloc_at _ _ _ rfl), galloc_at _ _ _ (by simp), hs3, spNil_ok _⟩
  have hz3 : w3.heap.size = w2.heap.size + 2 := by subst hw3; simp
  have hT3 := hT2.kept (gbelow_grown hb3 none) (by simp)
  have hO3 := hO2.kept (gbelow_grown hb3 none) (by simp)
  have hE3 := hE2.kept (gbelow_grown hb3 none) (by simp)
  have hB3 := ext_trans hB2 hb3
  have Hz3 := Lib.hid hz3
  clear hw3 hT2 hO2 hE2 hb3 cT2 hz3
  go_wp2_with fail
  refine wpAt_block ?_
  have hz1 := Hz1.out
  have hz3 := Hz3.out
  have hs2 := hsz2.out
  have hit := states1 ⟨A, c, x⟩ spNil w2.heap.size (w2.heap.size + 1) w3 hat
  have hal := stat_alive hat
  have hnO : ¬ StatR ⟨A, c, x⟩ spNil w2.heap.size (w2.heap.size + 1) (w.heap.size + 1) := by
    rintro (h | h | ⟨hx, a, ha, h⟩ | ⟨hx, a, ha, h⟩)
    · omega
    · omega
    · rcases Hs.out.rd with hh | ⟨b, off, he, hb, _⟩
      · exact hx hh
      · rw [ha] at he; cases he; simp only at h; omega
    · cases ha
  clear hat
  change IterN Try.prog 94 _ _ _ _ (stL (bl x) (bl spNil.xs) false false) _ at hit
  generalize stL (bl x) (bl spNil.xs) false false = S at *
  refine wp_rangeN (xs := S) (R := StatR ⟨A, c, x⟩ spNil w2.heap.size (w2.heap.size + 1)) (M := fun _ => False) (w0 := w3) Try.func26 (by rfl) states_enter hit (fun k hk => ⟨hal k hk, rfl⟩) (fun _ => rfl)
    (HsInv w3 (w.heap.size + 1) t) (HsEnd w3 (w.heap.size + 1) t) (hsInv_stable w3 _ t _ (Nat.le_refl _)) (fun cc own pre X Y ⟨h1, p, y, h2, h3, h4⟩ st => ⟨h1, p, y, h2, h3, hsInv_stable w3 _ t _ (Nat.le_refl _) own p X Y h4 st⟩) (fun k => k = w.heap.size + 1) ?_ ?_
    (HsAsg w3 (w.heap.size + 1) t (fun px vx => #[.slice A x.length c, .int .i64 t, undef, .pointer (some ⟨w.heap.size, 0, none⟩), .pointer (some ⟨w.heap.size + 1, 0, none⟩), .pointer (some ⟨w.heap.size + 1 + 1, 0, none⟩), px, .slice A x.length c, .slice (some ⟨w.heap.size + 1 + 1 + 1, 0, none⟩) 1 1, .tuple #[], .int .i64 t, .bool false, .bool false, .int .i64 t, .bool false, .bool false, .slice A x.length c, .func (.func 94) #[] #[.pointer (some ⟨w2.heap.size, 0, none⟩), .pointer (some ⟨w2.heap.size + 1, 0, none⟩)], vx, undef, undef, undef, undef, undef, undef, undef]) []) (fun x a' => hsAsg_stable w3 _ t _ _ x a' _ (Nat.le_refl _)) ?_ ?_ ?_ ?_
  · rintro k rfl
    exact ⟨by omega, hnO⟩
  · exact ⟨fun _ => Iff.rfl, hO3, Only.refl _ _, fun x hx => (by cases hx)⟩
  · rintro l1 own pre y X hI hl1 hl2 ho hpre
    refine wpIn_mono (Q := Exit.then (fun a' W' => ∃ own', BodyStep own own' X W' ∧ HsAsg w3 (w.heap.size + 1) t (fun px vx => #[.slice A x.length c, .int .i64 t, undef, .pointer (some ⟨w.heap.size, 0, none⟩), .pointer (some ⟨w.heap.size + 1, 0, none⟩), .pointer (some ⟨w.heap.size + 1 + 1, 0, none⟩), px, .slice A x.length c, .slice (some ⟨w.heap.size + 1 + 1 + 1, 0, none⟩) 1 1, .tuple #[], .int .i64 t, .bool false, .bool false, .int .i64 t, .bool false, .bool false, .slice A x.length c, .func (.func 94) #[] #[.pointer (some ⟨w2.heap.size, 0, none⟩), .pointer (some ⟨w2.heap.size + 1, 0, none⟩)], vx, undef, undef, undef, undef, undef, undef, undef]) [] y a' own' pre W') (fun _ _ _ => False)) ?_ (fun e a w h => h)
    have hlv : ∀ k, own k → k < X.heap.size := fun k hk => (ho k hk).2.1
    have hwX : w3.heap.size ≤ X.heap.size := by omega
    clear hz1 hz3 hs2
    unfold encV
    gi_wp2
    refine ⟨fun k => own k ∨ k = X.heap.size, BodyStep.turn ((BodyStep.refl hlv).alloc _) ?_ ?_, X.heap.size, own, rfl, fun k => Iff.rfl, World.alloc_heap_new _ _, ?_⟩
    · rintro k (h | h)
      · exact .inl h
      · exact .inr (by omega)
    · rintro k (h | h)
      · have := hlv k h; simp; omega
      · simp; omega
    · exact hsInv_stable w3 _ t X.heap.size hwX own pre X _ hI ((IterStep.refl X.heap.size _ _ _).alloc _)
  · rintro l1 own pre y a' X ⟨bx, own1, rfl, hoi, hbx1, hown, hv, hon, hpt⟩ hl1 hl2 ho hpre
    have hlv : ∀ k, own k → k < X.heap.size := fun k hk => (ho k hk).2.1
    have hTX : Boxed X w.heap.size 3 (.int .i64 t) := (hon.block _ (lt_block hT3) (by omega)).trans hT3
    have cT := hTX.cell
    have cO := hv.cell
    have fO := hv.frozen
    have p0 : X.cell? ⟨bx, 0, none⟩ = some (.int .i64 y.frm) := gblk hbx1 0
    have p1 : X.cell? ⟨bx, 1, none⟩ = some (.bool y.a) := gblk hbx1 1
    have hsub : ∀ k, own1 k → own k := fun k hk => (hoi k).2 (.inl hk)
    by_cases hlt : t < y.frm
    · have g1 : decide (t < y.frm) = true := decide_eq_true hlt
      have hfin : Hid (∃ own', BodyStep own own' X X ∧ HsEnd w3 (w.heap.size + 1) t (.exit 0) own' (pre ++ [y]) X) := ⟨own1, BodyStep.turn (BodyStep.refl hlv) (fun k hk => .inl (hsub k hk)) (fun k hk => hlv k (hsub k hk)), rfl, pre, y, rfl, hlt, hown, hv, hon, hpt⟩
      clear hit hal hnO hz1 hz3 hs2 hT3 hE3 hO3 hlt hon hown hpt hoi hsub ho hlv hv hTX
      gi_wp2
      exact hfin.out
    · have g1 : decide (t < y.frm) = false := decide_eq_false hlt
      have hfin : Hid (∃ own', BodyStep own own' X (X.setCell ⟨w.heap.size + 1, 0, none⟩ (.bool y.a)) ∧ HsInv w3 (w.heap.size + 1) t own' (pre ++ [y]) (X.setCell ⟨w.heap.size + 1, 0, none⟩ (.bool y.a))) := by
        have hb := (BodyStep.refl hlv).setCell (p := ⟨w.heap.size + 1, 0, none⟩) (.inl ((hoi _).2 (.inl ((hown _).2 rfl)))) (.bool y.a)
        refine ⟨own1, BodyStep.turn hb (fun k hk => .inl (hsub k hk)) (fun k hk => hb.live k (hsub k hk)), hown, by rw [lastA_snoc]; exact hv.set _, hon.setCell (.inl rfl) _, fun z hz => ?_⟩
        rcases List.mem_append.1 hz with hz | hz
        · exact hpt z hz
        · rw [List.mem_singleton.1 hz]; omega
      clear hit hal hnO hz1 hz3 hs2 hT3 hE3 hO3 hlt hon hown hpt hoi hsub ho hlv hv hTX
      gi_wp2
      exact hfin.out
  · rintro D own X hD hoD ⟨hown, hv, hon, hpt⟩ hdef
    have HV : Hid (okF t false S = lastA S) := by
      show _ = _
      have h := okF_pre (S := []) hpt
      rw [List.append_nil] at h
      exact h
    have hsz := hon.size
    have hOX := hv
    have hEX : Boxed X (w.heap.size + 2) 26 (.int .i64 0) := (hon.block _ (lt_block hE3) (by omega)).trans hE3
    have c1 := hOX.cell
    have f1 := hOX.frozen
    have hE4 : Boxed (X.setCell ⟨w.heap.size + 1, 0, none⟩ (.bool (lastA S))) (w.heap.size + 1 + 1) 26 (.int .i64 0) := (Below.heap_setCell _ _ _ _ (by show w.heap.size + 1 + 1 ≠ w.heap.size + 1; omega)).trans hEX
    have c2 := hE4.cell
    have f2 := hE4.frozen
    have hO5 : Boxed ((X.setCell ⟨w.heap.size + 1, 0, none⟩ (.bool (lastA S))).setCell ⟨w.heap.size + 1 + 1, 0, none⟩ (.int .i64 0)) (w.heap.size + 1) 4 (.bool (lastA S)) := (Below.heap_setCell _ _ _ _ (by show w.heap.size + 1 ≠ w.heap.size + 1 + 1; omega)).trans (hOX.set _)
    have hE5 : Boxed ((X.setCell ⟨w.heap.size + 1, 0, none⟩ (.bool (lastA S))).setCell ⟨w.heap.size + 1 + 1, 0, none⟩ (.int .i64 0)) (w.heap.size + 1 + 1) 26 (.int .i64 0) := hE4.set _
    have hdef5 : ((X.setCell ⟨w.heap.size + 1, 0, none⟩ (.bool (lastA S))).setCell ⟨w.heap.size + 1 + 1, 0, none⟩ (.int .i64 0)).heap[D]? = some (.deferred (some [])) := (Below.heap_setCell _ _ _ _ (by show D ≠ w.heap.size + 1 + 1; omega)).trans ((Below.heap_setCell _ _ _ _ (by show D ≠ w.heap.size + 1; omega)).trans hdef)
    have hBX : Below w.heap.size w X := ⟨hon.os.trans hB3.os, hon.tape.trans hB3.tape, hon.output.trans hB3.output, Nat.le_trans hB3.size hon.size, fun k hk => (hon.block k (by have := hB3.size; omega) (by omega)).trans (hB3.block k hk)⟩
    have hBE : Below w.heap.size w (((X.setCell ⟨w.heap.size + 1, 0, none⟩ (.bool (lastA S))).setCell ⟨w.heap.size + 1 + 1, 0, none⟩ (.int .i64 0)).putObj D (.deferred none)) := ((hBX.setCell (p := (⟨w.heap.size + 1, 0, none⟩ : Addr)) (by show w.heap.size ≤ w.heap.size + 1; omega) _).setCell (p := (⟨w.heap.size + 1 + 1, 0, none⟩ : Addr)) (by show w.heap.size ≤ w.heap.size + 1 + 1; omega) _).trans (putObj_below _ _ (by omega))
    have hcO : (((X.setCell ⟨w.heap.size + 1, 0, none⟩ (.bool (lastA S))).setCell ⟨w.heap.size + 1 + 1, 0, none⟩ (.int .i64 0)).putObj D (.deferred none)).cell? ⟨w.heap.size + 1, 0, none⟩ = some (.bool (lastA S)) := Boxed.cell (t := 4) ((World.putObj_heap_other (by omega)).trans hO5)
    have hcE : (((X.setCell ⟨w.heap.size + 1, 0, none⟩ (.bool (lastA S))).setCell ⟨w.heap.size + 1 + 1, 0, none⟩ (.int .i64 0)).putObj D (.deferred none)).cell? ⟨w.heap.size + 1 + 1, 0, none⟩ = some (.int .i64 0) := Boxed.cell (t := 26) ((World.putObj_heap_other (by omega)).trans hE5)
    clear hit hal hnO hz1 hz3 hs2 hT3 hE3 hO3 hon hEX hv hOX hE4 hO5 hE5 hBX hB3 hB2 hsz hD
    refine wpAt_wp ?_
    go_wp2
    refine leavesM_caught (W := (X.setCell ⟨w.heap.size + 1, 0, none⟩ (.bool (lastA S))).setCell ⟨w.heap.size + 1 + 1, 0, none⟩ (.int .i64 0)) (v := .tuple #[.bool (lastA S), .int .i64 0]) hdef5 ?_ ?_
    · simp [results, Try.results26, go_sem, hcO, hcE]
    · exact ⟨by rw [HV.out], hBE⟩
  · rintro D own cc pre X hD hoD hpre ⟨rfl, p, y, rfl, hlt, hown, hv, hon, hpt⟩ hdef
    have HV : Hid (okF t false S = lastA p) := by
      show _ = _
      obtain ⟨r, hr⟩ := hpre
      rw [← hr, List.append_assoc, okF_pre hpt]
      show okF t (lastA p) (y :: r) = lastA p
      rw [okF, if_pos hlt]
    have hsz := hon.size
    have hOX := hv
    have hEX : Boxed X (w.heap.size + 2) 26 (.int .i64 0) := (hon.block _ (lt_block hE3) (by omega)).trans hE3
    have c1 := hOX.cell
    have f1 := hOX.frozen
    have hE4 : Boxed (X.setCell ⟨w.heap.size + 1, 0, none⟩ (.bool (lastA p))) (w.heap.size + 1 + 1) 26 (.int .i64 0) := (Below.heap_setCell _ _ _ _ (by show w.heap.size + 1 + 1 ≠ w.heap.size + 1; omega)).trans hEX
    have c2 := hE4.cell
    have f2 := hE4.frozen
    have hO5 : Boxed ((X.setCell ⟨w.heap.size + 1, 0, none⟩ (.bool (lastA p))).setCell ⟨w.heap.size + 1 + 1, 0, none⟩ (.int .i64 0)) (w.heap.size + 1) 4 (.bool (lastA p)) := (Below.heap_setCell _ _ _ _ (by show w.heap.size + 1 ≠ w.heap.size + 1 + 1; omega)).trans (hOX.set _)
    have hE5 : Boxed ((X.setCell ⟨w.heap.size + 1, 0, none⟩ (.bool (lastA p))).setCell ⟨w.heap.size + 1 + 1, 0, none⟩ (.int .i64 0)) (w.heap.size + 1 + 1) 26 (.int .i64 0) := hE4.set _
    have hdef5 : ((X.setCell ⟨w.heap.size + 1, 0, none⟩ (.bool (lastA p))).setCell ⟨w.heap.size + 1 + 1, 0, none⟩ (.int .i64 0)).heap[D]? = some (.deferred (some [])) := (Below.heap_setCell _ _ _ _ (by show D ≠ w.heap.size + 1 + 1; omega)).trans ((Below.heap_setCell _ _ _ _ (by show D ≠ w.heap.size + 1; omega)).trans hdef)
    have hBX : Below w.heap.size w X := ⟨hon.os.trans hB3.os, hon.tape.trans hB3.tape, hon.output.trans hB3.output, Nat.le_trans hB3.size hon.size, fun k hk => (hon.block k (by have := hB3.size; omega) (by omega)).trans (hB3.block k hk)⟩
    have hBE : Below w.heap.size w (((X.setCell ⟨w.heap.size + 1, 0, none⟩ (.bool (lastA p))).setCell ⟨w.heap.size + 1 + 1, 0, none⟩ (.int .i64 0)).putObj D (.deferred none)) := ((hBX.setCell (p := (⟨w.heap.size + 1, 0, none⟩ : Addr)) (by show w.heap.size ≤ w.heap.size + 1; omega) _).setCell (p := (⟨w.heap.size + 1 + 1, 0, none⟩ : Addr)) (by show w.heap.size ≤ w.heap.size + 1 + 1; omega) _).trans (putObj_below _ _ (by omega))
    have hcO : (((X.setCell ⟨w.heap.size + 1, 0, none⟩ (.bool (lastA p))).setCell ⟨w.heap.size + 1 + 1, 0, none⟩ (.int .i64 0)).putObj D (.deferred none)).cell? ⟨w.heap.size + 1, 0, none⟩ = some (.bool (lastA p)) := Boxed.cell (t := 4) ((World.putObj_heap_other (by omega)).trans hO5)
    have hcE : (((X.setCell ⟨w.heap.size + 1, 0, none⟩ (.bool (lastA p))).setCell ⟨w.heap.size + 1 + 1, 0, none⟩ (.int .i64 0)).putObj D (.deferred none)).cell? ⟨w.heap.size + 1 + 1, 0, none⟩ = some (.int .i64 0) := Boxed.cell (t := 26) ((World.putObj_heap_other (by omega)).trans hE5)
    clear hit hal hnO hz1 hz3 hs2 hT3 hE3 hO3 hon hEX hv hOX hE4 hO5 hE5 hBX hB3 hB2 hsz hD
    refine wpAt_wp ?_
    go_wp2
    refine wpAt_wp ?_
    go_wp2
    refine leavesM_caught (W := (X.setCell ⟨w.heap.size + 1, 0, none⟩ (.bool (lastA p))).setCell ⟨w.heap.size + 1 + 1, 0, none⟩ (.int .i64 0)) (v := .tuple #[.bool (lastA p), .int .i64 0]) hdef5 ?_ ?_
    · simp [results, Try.results26, go_sem, hcO, hcE]
    · exact ⟨by rw [HV.out], hBE⟩
end Go.Proofs.Ytmindojbkedmlaa
