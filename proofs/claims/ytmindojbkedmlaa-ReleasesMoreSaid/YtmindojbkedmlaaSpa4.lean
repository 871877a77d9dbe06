/- Package spans: Minus, of a list within another one. -/
import Derived.Test.YtmindojbkedmlaaSpa3
namespace Go.Proofs.Ytmindojbkedmlaa
open Go.RowKit Go.Han
attribute [local irreducible] wpStill wpQuiet
attribute [local go_sem] Oper.semAt_some
set_option maxRecDepth 100000

theorem minus1_any (a b : Bool) (w : World) : Calls Try.prog 70 #[.bool a, .bool b] w fun e w' => e = .returned (.bool (a && !b)) ∧ w = w' := by
  cases a
  · go_enter Try.func70, Try.ntmps70
    go_wp2
    go_ret
    exact ⟨rfl, rfl⟩
  · go_enter Try.func70, Try.ntmps70
    go_wp2
    go_ret
    exact ⟨rfl, rfl⟩
def RsInv (Wl : World) (own : Nat → Prop) (_ : List StV) (X : World) : Prop := (∀ k, ¬ own k) ∧ Only (fun _ => False) Wl X
theorem rsInv_stable (Wl : World) (B1 : Nat) (hB : Wl.heap.size ≤ B1) : Stable B1 (fun _ => False) (RsInv Wl) := by
  rintro own pre W W' ⟨ho, hon⟩ st
  exact ⟨ho, ⟨st.os.trans hon.os, st.tape.trans hon.tape, st.output.trans hon.output, Nat.le_trans hon.size st.size, fun i hi hn => (st.block i (Nat.lt_of_lt_of_le hi hon.size) (.inl ⟨by omega, fun h => h⟩)).trans (hon.block i hi hn)⟩⟩
def RsAsg (Wl : World) (F : Value → Value → Array Value) (x : StV) (a' : Act) (own : Nat → Prop) (pre : List StV) (W : World) : Prop :=
  ∃ bx own1, a' = { tmps := F (.pointer (some ⟨bx, 0, none⟩)) (.agg #[.int .i64 x.frm, .bool x.a, .bool x.b]), defers := [] } ∧ (∀ k, own k ↔ (own1 k ∨ k = bx)) ∧ W.heap[bx]? = some (.cells #[.int .i64 x.frm, .bool x.a, .bool x.b] 106 (0, 0)) ∧ RsInv Wl own1 pre W
theorem rsAsg_stable (Wl : World) (F : Value → Value → Array Value) (x : StV) (a' : Act) (B1 : Nat) (hB : Wl.heap.size ≤ B1) : Stable B1 (fun _ => False) (RsAsg Wl F x a') := by
  rintro own pre W W' ⟨bx, own1, ha', ho, hx, hI⟩ st
  exact ⟨bx, own1, ha', ho, (st.block _ (lt_block hx) (.inr ((ho _).2 (.inr rfl)))).trans hx, rsInv_stable Wl B1 hB own1 pre W W' hI ⟨st.os, st.tape, st.output, st.size, fun k hk h => st.block k hk (h.imp id fun h => (ho k).2 (.inl h))⟩⟩
def minF : Value := .func (.func 70) #[] #[]
set_option maxHeartbeats 4000000 in
theorem result_any (s t : SpS) (w : World) (hs : s.Ok w) (ht : t.Ok w) (hin : ∀ x ∈ stL (bl s.xs) (bl t.xs) false false, x.a = true → x.b = true) :
    Calls Try.prog 69 #[.slice s.addr s.xs.length s.cap, .slice t.addr t.xs.length t.cap, minF] w fun e w' => e = .returned (.slice none 0 0) ∧ Below w.heap.size w w' := by
  have ek : ∀ args w, (callFunc 70 args).run Try.prog w = .ok (.enter 70 args) w := enters_of Try.func70 (by kernel_rfl) rfl
  unfold minF
  obtain ⟨W1, hW1⟩ : ∃ W, ((w.alloc (.cells #[.func (.func 70) #[] #[]] 113)).alloc (.cells #[.slice none 0 0] 34)).alloc (.cells #[.slice s.addr s.xs.length s.cap, .slice t.addr t.xs.length t.cap] 34) = W := ⟨_, rfl⟩
  have hF1 : Boxed W1 w.heap.size 113 (.func (.func 70) #[] #[]) := by subst hW1; exact ((Boxed.new _ _ _).alloc _).alloc _
  have hX1 : Boxed W1 (w.heap.size + 1) 34 (.slice none 0 0) := by subst hW1; exact (Below.heap_alloc _ _ _ (by simp)).trans (galloc_at _ _ _ (by simp))
  have hl1 : Rd W1 (some ⟨w.heap.size + 1 + 1, 0, none⟩) ([s, t].flatMap SpS.cell) := by subst hW1; exact grd_blk (galloc_at _ _ _ (by simp)) rfl
  have hB1 : Below w.heap.size w W1 := by subst hW1; exact ext_alloc (ext_alloc (ext_alloc (Below.refl _ _) _) _) _
  have hz1 : W1.heap.size = w.heap.size + 3 := by subst hW1; simp
  have cK := Lib.hid (check13_any (some ⟨w.heap.size + 1 + 1, 0, none⟩) 2 [s, t] W1 hl1 (by simp) (fun u hu => by
    rcases List.mem_cons.1 hu with rfl | hu
    · exact hs.ext hB1
    · rw [List.mem_singleton.1 hu]; exact ht.ext hB1))
  have Hs := Lib.hid hs
  have Ht := Lib.hid ht
  have Hz1 := Lib.hid hz1
  have Hin := Lib.hid hin
  clear hs ht hl1 hz1 hin
  refine calls_of_wpAt Try.func69 rfl ?_
  simp only [Try.ntmps69, List.size_toArray, List.length_cons, List.length_nil, Nat.reduceAdd, Nat.reduceSub, Array.replicate_succ, Array.replicate_zero, List.push_toArray, List.append_toArray, List.nil_append, List.cons_append]
  refine wpAt_seq_wp fun Q1 hQ1 => ?_
  go_wp2_with fail
  refine wpAt_seq_wp fun Q2 hQ2 => ?_
  go_wp2_with fail
  refine cK.out.mono ?_
  rintro e w2 ⟨rfl, hb2⟩
  have hF2 := hF1.kept (gbelow_grown hb2 none) (by simp)
  have hX2 := hX1.kept (gbelow_grown hb2 none) (by simp)
  have hB2 := ext_trans hB1 hb2
  have hsz2 := Lib.hid hb2.size
  clear hW1 cK hF1 hX1 hb2
  go_wp2_with fail
  refine wpAt_seq_wp fun Q3 hQ3 => ?_
  go_wp2_with fail
  obtain ⟨w3, hw3⟩ : ∃ W, w2.alloc (.cells #[.int .i64 (-1)] 3) = W := ⟨_, rfl⟩
  have hb3 : Below w2.heap.size w2 w3 := by subst hw3; exact ext_alloc (Below.refl _ _) _
  have hO3 : Boxed w3 w2.heap.size 3 (.int .i64 (-1)) := by subst hw3; exact Boxed.new _ _ _
  have hz3 : w3.heap.size = w2.heap.size + 1 := by subst hw3; simp
  have hF3 := hF2.kept (gbelow_grown hb3 none) (by simp)
  have hX3 := hX2.kept (gbelow_grown hb3 none) (by simp)
  have hB3 := ext_trans hB2 hb3
  have Hz3 := Lib.hid hz3
  rw [hw3]
  clear hw3 hb3 hB2 hF2 hX2 hz3
  refine wpAt_seq ?_
  refine wpAt_seq_wp fun Q5 hQ5 => ?_
  go_wp2_with fail
  refine (states_any s.addr s.xs.length s.cap t.addr t.xs.length t.cap w3).mono ?_
  rintro e w4 ⟨rfl, hw4⟩
  have hb4 : Below w3.heap.size w3 w4 := by subst hw4; exact ext_alloc (ext_alloc (Below.refl _ _) _) _
  have hB4 := ext_trans hB3 hb4
  have hat : StatAt s t w3.heap.size (w3.heap.size + 1) w4 := by
    have h1 := Hs.out.ext hB4
    have h2 := Ht.out.ext hB4
    subst hw4
    exact ⟨(Below.heap_alloc _ _ _ (by simp)).trans (galloc_at _ _ _ rfl), galloc_at _ _ _ (by simp), h1, h2⟩
  have hz4 : w4.heap.size = w3.heap.size + 2 := by subst hw4; simp
  have hF4 := hF3.kept (gbelow_grown hb4 none) (by simp)
  have hX4 := hX3.kept (gbelow_grown hb4 none) (by simp)
  have hO4 := hO3.kept (gbelow_grown hb4 none) (by simp)
  have Hz4 := Lib.hid hz4
  clear hw4 hb4 hB3 hF3 hX3 hO3 hz4
  go_wp2_with fail
  refine wpAt_block ?_
  have hz1 := Hz1.out
  have hz3 := Hz3.out
  have hz4 := Hz4.out
  have hs2 := hsz2.out
  have hit := states1 s t w3.heap.size (w3.heap.size + 1) w4 hat
  have hal := stat_alive hat
  clear hat
  generalize stL (bl s.xs) (bl t.xs) false false = S at *
  refine wp_rangeN (xs := S) (R := StatR s t w3.heap.size (w3.heap.size + 1)) (M := fun _ => False) (w0 := w4) Try.func69 (by rfl) states_enter hit (fun k hk => ⟨hal k hk, rfl⟩) (fun _ => rfl)
    (RsInv w4) (fun _ _ _ _ => False) (rsInv_stable w4 _ (Nat.le_refl _)) (fun c _ _ _ _ h _ => h) (fun _ => False) ?_ ?_
    (RsAsg w4 (fun px vx => #[.slice s.addr s.xs.length s.cap, .slice t.addr t.xs.length t.cap, .func (.func 70) #[] #[], undef, undef, .pointer (some ⟨w.heap.size, 0, none⟩), .pointer (some ⟨w.heap.size + 1, 0, none⟩), .pointer (some ⟨w2.heap.size, 0, none⟩), px, undef, .slice s.addr s.xs.length s.cap, .slice t.addr t.xs.length t.cap, .slice (some ⟨w.heap.size + 1 + 1, 0, none⟩) 2 2, .tuple #[], .slice s.addr s.xs.length s.cap, .slice t.addr t.xs.length t.cap, .func (.func 94) #[] #[.pointer (some ⟨w3.heap.size, 0, none⟩), .pointer (some ⟨w3.heap.size + 1, 0, none⟩)], vx, undef, undef, undef, undef, undef, undef, undef, undef, undef, undef, undef, undef, undef, undef, undef, undef, undef, undef, undef, undef, undef, undef, undef, undef, undef, undef, undef, undef, undef, undef, undef, undef, undef])) (fun x a' => rsAsg_stable w4 _ x a' _ (Nat.le_refl _)) ?_ ?_ ?_ ?_
  · rintro k hk
    exact hk.elim
  · exact ⟨fun _ h => h, Only.refl _ _⟩
  · rintro l1 own pre y X hI hl1 hl2 ho hpre
    refine wpIn_mono (Q := Exit.then (fun a' W' => ∃ own', BodyStep own own' X W' ∧ RsAsg w4 (fun px vx => #[.slice s.addr s.xs.length s.cap, .slice t.addr t.xs.length t.cap, .func (.func 70) #[] #[], undef, undef, .pointer (some ⟨w.heap.size, 0, none⟩), .pointer (some ⟨w.heap.size + 1, 0, none⟩), .pointer (some ⟨w2.heap.size, 0, none⟩), px, undef, .slice s.addr s.xs.length s.cap, .slice t.addr t.xs.length t.cap, .slice (some ⟨w.heap.size + 1 + 1, 0, none⟩) 2 2, .tuple #[], .slice s.addr s.xs.length s.cap, .slice t.addr t.xs.length t.cap, .func (.func 94) #[] #[.pointer (some ⟨w3.heap.size, 0, none⟩), .pointer (some ⟨w3.heap.size + 1, 0, none⟩)], vx, undef, undef, undef, undef, undef, undef, undef, undef, undef, undef, undef, undef, undef, undef, undef, undef, undef, undef, undef, undef, undef, undef, undef, undef, undef, undef, undef, undef, undef, undef, undef, undef, undef]) y a' own' pre W') (fun _ _ _ => False)) ?_ (fun e a w h => h)
    have hlv : ∀ k, own k → k < X.heap.size := fun k hk => (ho k hk).2.1
    have hwX : w4.heap.size ≤ X.heap.size := by omega
    clear hz1 hz3 hz4 hs2
    unfold encV
    gi_wp2
    refine ⟨fun k => own k ∨ k = X.heap.size, BodyStep.turn ((BodyStep.refl hlv).alloc _) ?_ ?_, X.heap.size, own, rfl, fun k => Iff.rfl, World.alloc_heap_new _ _, ?_⟩
    · rintro k (h | h)
      · exact .inl h
      · exact .inr (by omega)
    · rintro k (h | h)
      · have := hlv k h; simp; omega
      · simp; omega
    · exact rsInv_stable w4 X.heap.size hwX own pre X _ hI ((IterStep.refl X.heap.size _ _ _).alloc _)
  · rintro l1 own pre y a' X ⟨bx, own1, rfl, hoi, hbx1, hown, hon⟩ hl1 hl2 ho hpre
    have hlv : ∀ k, own k → k < X.heap.size := fun k hk => (ho k hk).2.1
    have hym : y ∈ S := by obtain ⟨r, hr⟩ := hpre; rw [← hr]; simp
    have hyz : (y.a && !y.b) = false := by
      have := Hin.out y hym
      cases ha : y.a
      · rfl
      · rw [this ha]; rfl
    have cF := Boxed.cell (t := 113) ((hon.block _ (lt_block hF4) (fun h => h)).trans hF4)
    have cO := Boxed.cell (t := 3) ((hon.block _ (lt_block hO4) (fun h => h)).trans hO4)
    have p1 : X.cell? ⟨bx, 1, none⟩ = some (.bool y.a) := gblk hbx1 1
    have p2 : X.cell? ⟨bx, 2, none⟩ = some (.bool y.b) := gblk hbx1 2
    have cM := Lib.hid (minus1_any y.a y.b X)
    rw [hyz] at cM
    have hfin : Hid (∃ own', BodyStep own own' X X ∧ RsInv w4 own' (pre ++ [y]) X) := ⟨own1, BodyStep.turn (BodyStep.refl hlv) (fun k hk => (hown k hk).elim) (fun k hk => (hown k hk).elim), hown, hon⟩
    clear hit hal hz1 hz3 hz4 hs2 hF4 hX4 hO4 hon hown hoi ho hlv hyz hym hbx1 hpre
    gi_wp2_with fail
    refine ⟨trivial, rfl, (callsIn_wide.2 cM.out).mono ?_⟩
    rintro e V ⟨rfl, rfl⟩
    clear cM
    gi_wp2_with fail
    exact hfin.out
  · rintro D own X hD hoD ⟨hown, hon⟩ hdef
    have hsz := hon.size
    have hXX : Boxed X (w.heap.size + 1) 34 (.slice none 0 0) := (hon.block _ (lt_block hX4) (fun h => h)).trans hX4
    have c1 := hXX.cell
    have f1 := hXX.frozen
    have hX5 : Boxed (X.setCell ⟨w.heap.size + 1, 0, none⟩ (.slice none 0 0)) (w.heap.size + 1) 34 (.slice none 0 0) := hXX.set _
    have hdef5 : (X.setCell ⟨w.heap.size + 1, 0, none⟩ (.slice none 0 0)).heap[D]? = some (.deferred (some [])) := (Below.heap_setCell _ _ _ _ (by show D ≠ w.heap.size + 1; omega)).trans hdef
    have hBX : Below w.heap.size w X := ⟨hon.os.trans hB4.os, hon.tape.trans hB4.tape, hon.output.trans hB4.output, Nat.le_trans hB4.size hon.size, fun k hk => (hon.block k (by have := hB4.size; omega) (fun h => h)).trans (hB4.block k hk)⟩
    have hBE : Below w.heap.size w ((X.setCell ⟨w.heap.size + 1, 0, none⟩ (.slice none 0 0)).putObj D (.deferred none)) := (hBX.setCell (p := (⟨w.heap.size + 1, 0, none⟩ : Addr)) (by show w.heap.size ≤ w.heap.size + 1; omega) _).trans (putObj_below _ _ (by omega))
    have hcO : ((X.setCell ⟨w.heap.size + 1, 0, none⟩ (.slice none 0 0)).putObj D (.deferred none)).cell? ⟨w.heap.size + 1, 0, none⟩ = some (.slice none 0 0) := Boxed.cell (t := 34) ((World.putObj_heap_other (by omega)).trans hX5)
    clear hit hal hz1 hz3 hz4 hs2 hF4 hX4 hO4 hon hXX hX5 hBX hB4 hsz hD
    refine wpAt_wp ?_
    go_wp2
    refine leavesM_ret (W := X.setCell ⟨w.heap.size + 1, 0, none⟩ (.slice none 0 0)) (v := .slice none 0 0) hdef5 ?_ ?_
    · simp [results, Try.results69, go_sem, hcO]
    · exact ⟨rfl, hBE⟩
  · rintro D own c pre X _ _ _ h
    exact h.elim
set_option maxHeartbeats 1000000 in
theorem Minus_any (s t : SpS) (w : World) (hs : s.Ok w) (ht : t.Ok w) (hin : ∀ x ∈ stL (bl s.xs) (bl t.xs) false false, x.a = true → x.b = true) :
    Calls Try.prog 29 #[.slice s.addr s.xs.length s.cap, .slice t.addr t.xs.length t.cap] w fun e w' => e = .returned (.tuple #[.slice none 0 0, .int .i64 0]) ∧ Below w.heap.size w w' := by
  obtain ⟨W1, hW1⟩ : ∃ W, w.alloc (.cells #[.int .i64 0] 26) = W := ⟨_, rfl⟩
  have hb0 : W1.heap[w.heap.size]? = some (.cells #[.int .i64 0] 26 (0, 0)) := by subst hW1; exact galloc_at _ _ _ rfl
  have hB1 : Below w.heap.size w W1 := by subst hW1; exact ext_alloc (Below.refl _ _) _
  have cK := Lib.hid (result_any s t W1 (hs.ext hB1) (ht.ext hB1) hin)
  unfold minF at cK
  obtain ⟨A, c, x⟩ := s
  obtain ⟨A2, c2, x2⟩ := t
  simp only at cK ⊢
  clear hs ht hin
  go_enter_defers Try.func29, Try.ntmps29
  go_wp2_with fail
  refine cK.out.mono ?_
  rintro e w2 ⟨rfl, hb2⟩
  have h2 := (hb2.block _ (lt_block hb0)).trans hb0
  have c0 := cell_one h2
  have f0 := frozen_one h2 0
  have h3 := cell_one (set_one h2 (.int .i64 0))
  have hB3 : Below w.heap.size w (w2.setCell ⟨w.heap.size, 0, none⟩ (.int .i64 0)) := (ext_trans hB1 hb2).setCell (p := ⟨w.heap.size, 0, none⟩) (Nat.le_refl _) _
  clear hW1 cK hb0
  go_wp2_with fail
  refine leaves_cons (f := 57) (args := #[.pointer (some ⟨w.heap.size, 0, none⟩)]) (by simp) (by simp [go_sem]) ?_
  refine (caught13_ret _ _).mono ?_
  rintro e u' w'' ⟨rfl, rfl, rfl⟩
  simp [Leaves, settle, results, Try.results29, go_sem, h3]
  exact hB3
end Go.Proofs.Ytmindojbkedmlaa
