/- Texts of this claim, one after the other: FindD, Law28h, Law28i. -/
import Derived.Test.YthojaplnimoacaaGreatDoorM12
import Derived.Test.YthojaplnimoacaaGreatDoorM21
import Derived.Test.YthojaplnimoacaaGreatDoorM6
import Derived.RangeFuncBox
import Derived.Shelf.RegionOpen
import Derived.BigRegion
/- Package glossary: Find. -/
namespace Go.Proofs.YthojaplnimoacaaGreatDoor
open Go.RowKit Go.Han
attribute [local irreducible] wpStill wpQuiet
attribute [local go_sem] Oper.semAt_some
set_option maxRecDepth 100000

theorem leavesM_ret0 {P : Program} {fn : Func} {tmps : Array Value} {R : Ending → World → Prop} {W : World} {v : Value} (hres : (results fn tmps).run P W = .ok v W) (hR : R (.returned v) W) :
    LeavesInM Fence.wide 0 P fn tmps R [] .returning W := ⟨v, hres, hR⟩
theorem set2_cells {W : World} {n T1 T2 : Nat} {a b : Value} (h0 : W.heap[n]? = some (.cells #[a] T1 (0, 0))) (h1 : W.heap[n + 1]? = some (.cells #[b] T2 (0, 0))) (v0 v1 : Value) :
    ((W.setCell ⟨n, 0, none⟩ v0).setCell ⟨n + 1, 0, none⟩ v1).cell? ⟨n, 0, none⟩ = some v0 ∧ ((W.setCell ⟨n, 0, none⟩ v0).setCell ⟨n + 1, 0, none⟩ v1).cell? ⟨n + 1, 0, none⟩ = some v1 := by
  have e0 : ((W.setCell ⟨n, 0, none⟩ v0).setCell ⟨n + 1, 0, none⟩ v1).heap[n]? = some (.cells #[v0] T1 (0, 0)) := (Below.heap_setCell _ _ _ _ (by show n ≠ n + 1; omega)).trans (set_one h0 v0)
  have e1 : ((W.setCell ⟨n, 0, none⟩ v0).setCell ⟨n + 1, 0, none⟩ v1).heap[n + 1]? = some (.cells #[v1] T2 (0, 0)) := set_one ((Below.heap_setCell _ _ _ _ (by show n + 1 ≠ n; omega)).trans h1) v1
  exact ⟨cell_one e0, cell_one e1⟩
theorem below_set2 {w W : World} (h : Below w.heap.size w W) (v0 v1 : Value) : Below w.heap.size w ((W.setCell ⟨w.heap.size, 0, none⟩ v0).setCell ⟨w.heap.size + 1, 0, none⟩ v1) :=
  (h.setCell (p := ⟨w.heap.size, 0, none⟩) (by simp) _).setCell (p := ⟨w.heap.size + 1, 0, none⟩) (by simp) _
def bestL (ys : List Term) : Option Term := ys.foldl (fun o x => if betterB o x = true then some x else o) none
theorem bestF_L (ws : List ByteArray) : ∀ (S : List Term) (o : Option Term), S.foldl (bestStep ws) o = (startL S ws).foldl (fun o x => if betterB o x = true then some x else o) o
  | [], _ => rfl
  | x :: S, o => by
    unfold startL
    rw [List.foldl_cons, List.filter_cons]
    by_cases h : startB x ws = true
    · rw [if_pos h, List.foldl_cons, bestF_L ws S]
      unfold bestStep startL
      rw [h, Bool.true_and]
    · rw [if_neg h, bestF_L ws S]
      unfold bestStep startL
      rw [Bool.eq_false_iff.2 h]; rfl
theorem bestL_snoc (ys : List Term) (x : Term) : bestL (ys ++ [x]) = if betterB (bestL ys) x = true then some x else bestL ys := by
  unfold bestL; rw [List.foldl_append]; rfl
def noOf : Option Term → Int | none => 0 | some x => x.no
def lenOf : Option Term → Int | none => 0 | some x => x.src.xs.length
theorem better_len {o : Option Term} {x : Term} (h : 1 ≤ x.src.xs.length) : betterB o x = decide (lenOf o < (x.src.xs.length : Int)) := by
  cases o with
  | none => show true = _; rw [decide_eq_true]; show (0 : Int) < _; omega
  | some b => show decide _ = _; exact decide_eq_decide.2 ⟨fun h => by show (b.src.xs.length : Int) < _; omega, fun h => by change (b.src.xs.length : Int) < _ at h; omega⟩
structure FindInv (n0 nl : Nat) (w : World) (own : Nat → Prop) (pre : List Term) (W : World) : Prop where
  own_iff : ∀ k, own k ↔ (k = n0 ∨ k = n0 + 1 ∨ k = nl)
  no : W.heap[n0]? = some (.cells #[.int .i64 (noOf (bestL pre))] 3 (0, 0))
  ok : W.heap[n0 + 1]? = some (.cells #[.bool (bestL pre).isSome] 4 (0, 0))
  long : W.heap[nl]? = some (.cells #[.int .i64 (lenOf (bestL pre))] 3 (0, 0))
  below : Below w.heap.size w W
theorem find_stable (n0 nl : Nat) (w : World) (B : Nat) (M : Nat → Prop) (hB : w.heap.size ≤ B) (hM : ∀ k, ¬ M k) : Stable B M (FindInv n0 nl w) := by
  rintro own pre W W' h st
  refine ⟨h.own_iff, (st.block _ (lt_block h.no) (.inr ((h.own_iff _).2 (.inl rfl)))).trans h.no, (st.block _ (lt_block h.ok) (.inr ((h.own_iff _).2 (.inr (.inl rfl))))).trans h.ok, (st.block _ (lt_block h.long) (.inr ((h.own_iff _).2 (.inr (.inr rfl))))).trans h.long, ?_⟩
  exact ⟨st.os.trans h.below.os, st.tape.trans h.below.tape, st.output.trans h.below.output, Nat.le_trans h.below.size st.size, fun i hi => (st.block i (Nat.lt_of_lt_of_le hi h.below.size) (.inl ⟨by omega, hM i⟩)).trans (h.below.block i hi)⟩
def FindAsg (n0 nl : Nat) (w : World) (tm : Value → Value → Array Value) (x : Term) (a' : Act) (own : Nat → Prop) (pre : List Term) (W : World) : Prop :=
  ∃ (b : Nat) (own1 : Nat → Prop), a' = { tmps := tm (.pointer (some ⟨b, 0, none⟩)) (.agg #[.int .i64 x.no, .int .i64 x.at_, .int .i64 x.known, .int .i64 x.lang, .slice x.src.addr x.src.xs.length x.src.cap, .slice x.tgt.addr x.tgt.xs.length x.tgt.cap, .string x.cat, .bool x.gone]), defers := [] } ∧ (∀ k, own k ↔ own1 k ∨ k = b) ∧ W.heap[b]? = some (.cells x.cells.toArray 66 (0, 0)) ∧ FindInv n0 nl w own1 pre W
theorem lies_low {w W : World} {s : StrS} (h : s.lies w) (hsz : w.heap.size ≤ W.heap.size) (hk : ∀ k, k < w.heap.size → W.heap[k]? = w.heap[k]?) : s.lies W := by
  refine ⟨?_, h.cap, h.max, h.nil⟩
  rcases h.rd with h0 | ⟨b, off, he, hb, hc⟩
  · exact .inl h0
  · exact .inr ⟨b, off, he, by omega, fun j u hu => (World.cell?_of_block (w := w) (a := ⟨b, off + j, none⟩) (hk b hb)).trans (hc j u hu)⟩
theorem one_cell_none {w : World} {b t o : Nat} {v : Value} (h : w.heap[b]? = some (.cells #[v] t (0, 0))) : w.cell? ⟨b, o + 1, none⟩ = none := by
  rw [gblk h]; simp
set_option maxHeartbeats 4000000 in
theorem Find_any (A : Option Addr) (cp : Nat) (l : List Term) (lang : Int) (s : StrS) (i t u : Int) (w : World) (hU : Tabs w) (hr : TermsAt w A l) (hs : s.lies w) (hm : l.length ≤ 9223372036854775807) :
    Calls Tryz.prog 43 #[.slice A l.length cp, .int .i64 lang, .slice s.addr s.xs.length s.cap, .int .i64 i, .int .i64 t, .int .i64 u] w fun e w' => e = .returned (findV l lang s.xs i t u) ∧ Below w.heap.size w w' := by
  have HV : Hid (findV l lang s.xs i t u = if findE l lang s.xs.length i t u ≠ 0 then .tuple #[.int .i64 0, .bool false, .int .i64 (findE l lang s.xs.length i t u)] else foundV (bestF (standT l lang t u) (s.xs.drop i.toNat))) := rfl
  have HE : Hid (findE l lang s.xs.length i t u = if standE l lang t u ≠ 0 then standE l lang t u else if i < 0 ∨ (s.xs.length : Int) < i then 1 else 0) := rfl
  have hcap := hs.cap
  have hmax := hs.max
  obtain ⟨W1, hW1⟩ : ∃ W1, (w.alloc (.cells #[.int .i64 0] 3)).alloc (.cells #[.bool false] 4) = W1 := ⟨_, rfl⟩
  have hB1 : Below w.heap.size w W1 := by rw [← hW1]; exact ext_alloc (ext_alloc (Below.refl _ _) _) _
  have hz1 : W1.heap.size = w.heap.size + 2 := by rw [← hW1]; simp
  have k0 : W1.heap[w.heap.size]? = some (.cells #[.int .i64 0] 3 (0, 0)) := by rw [← hW1]; exact (Below.heap_alloc _ _ _ (by simp)).trans (World.alloc_heap_new _ _)
  have k1 : W1.heap[w.heap.size + 1]? = some (.cells #[.bool false] 4 (0, 0)) := by rw [← hW1]; exact galloc_at _ _ _ (by simp)
  have Hs := Lib.hid hs
  have Hr := Lib.hid hr
  have cS := Lib.hid (Standing_any A cp l lang t u W1 (utf_ext hU hB1) (hr.ext hB1) hm)
  clear hs hr hU
  refine calls_of_wpAt Tryz.func43 rfl ?_
  simp only [Tryz.ntmps43, List.size_toArray, List.length_cons, List.length_nil, Nat.reduceAdd, Nat.reduceSub, Array.replicate_succ, Array.replicate_zero, List.push_toArray, List.append_toArray, List.nil_append, List.cons_append]
  refine wpAt_seq_wp fun K1 hK1 => ?_
  go_wp2
  refine wpAt_seq_wp fun K2 hK2 => ?_
  go_wp2_with fail
  refine cS.out.mono ?_
  rintro e W2 ⟨hB2, h⟩
  have hB02 := ext_trans hB1 hB2
  have c0 := cell_one ((hB2.block _ (lt_block k0)).trans k0)
  have c1 := cell_one ((hB2.block _ (lt_block k1)).trans k1)
  have f0 := frozen_one ((hB2.block _ (lt_block k0)).trans k0) 0
  have f1 := frozen_one ((hB2.block _ (lt_block k1)).trans k1) 0
  rcases h with ⟨hne, rfl⟩ | ⟨hz, B, c2, rfl, hS, hN⟩
  · have HF : Hid (findV l lang s.xs i t u = .tuple #[.int .i64 0, .bool false, .int .i64 (standE l lang t u)]) := by
      show _ = _
      have h1 : findE l lang s.xs.length i t u = standE l lang t u := by rw [HE.out, if_pos hne]
      rw [HV.out, h1, if_pos hne]
    have n1 : (standE l lang t u == 0) = false := by simpa using hne
    have n2 : (standE l lang t u != 0) = true := by simpa using hne
    clear hne
    go_wp2
    refine wpAt_seq_wp fun K3 hK3 => ?_
    go_wp2
    refine leavesM_ret0 (v := .tuple #[.int .i64 0, .bool false, .int .i64 (standE l lang t u)]) ?_ ⟨by rw [HF.out], below_set2 hB02 _ _⟩
    obtain ⟨g0, g1⟩ := set2_cells ((hB2.block _ (lt_block k0)).trans k0) ((hB2.block _ (lt_block k1)).trans k1) (.int .i64 0) (.bool false)
    simp [results, Tryz.results43, go_sem, g0, g1]
  have HE2 : Hid (findE l lang s.xs.length i t u = if i < 0 ∨ (s.xs.length : Int) < i then 1 else 0) := by show _ = _; rw [HE.out, if_neg (by simpa using hz)]
  clear HE
  have Hz := Lib.hid hz
  clear hz
  by_cases h0 : i < 0
  · have HF : Hid (findV l lang s.xs i t u = .tuple #[.int .i64 0, .bool false, .int .i64 1]) := by
      show _ = _
      have h1 : findE l lang s.xs.length i t u = 1 := by rw [HE2.out, if_pos (.inl h0)]
      rw [HV.out, h1]; rfl
    have g1 : decide (i < 0) = true := decide_eq_true h0
    go_wp2
    refine wpAt_seq_wp fun K3 hK3 => ?_
    go_wp2
    refine wpAt_seq_wp fun K4 hK4 => ?_
    go_wp2
    refine leavesM_ret0 (v := .tuple #[.int .i64 0, .bool false, .int .i64 (1)]) ?_ ⟨by rw [HF.out], below_set2 hB02 _ _⟩
    obtain ⟨g0, g1⟩ := set2_cells ((hB2.block _ (lt_block k0)).trans k0) ((hB2.block _ (lt_block k1)).trans k1) (.int .i64 0) (.bool false)
    simp [results, Tryz.results43, go_sem, g0, g1]
  have g1 : decide (i < 0) = false := decide_eq_false h0
  by_cases h2 : (s.xs.length : Int) < i
  · have HF : Hid (findV l lang s.xs i t u = .tuple #[.int .i64 0, .bool false, .int .i64 1]) := by
      show _ = _
      have h1 : findE l lang s.xs.length i t u = 1 := by rw [HE2.out, if_pos (.inr h2)]
      rw [HV.out, h1]; rfl
    have g2 : decide (i > (s.xs.length : Int)) = true := decide_eq_true h2
    go_wp2
    refine wpAt_seq_wp fun K3 hK3 => ?_
    go_wp2
    refine wpAt_seq_wp fun K4 hK4 => ?_
    go_wp2
    refine leavesM_ret0 (v := .tuple #[.int .i64 0, .bool false, .int .i64 (1)]) ?_ ⟨by rw [HF.out], below_set2 hB02 _ _⟩
    obtain ⟨g0, g1⟩ := set2_cells ((hB2.block _ (lt_block k0)).trans k0) ((hB2.block _ (lt_block k1)).trans k1) (.int .i64 0) (.bool false)
    simp [results, Tryz.results43, go_sem, g0, g1]
  have g2 : decide (i > (s.xs.length : Int)) = false := decide_eq_false h2
  have HF : Hid (findV l lang s.xs i t u = foundV (bestF (standT l lang t u) (s.xs.drop i.toNat))) := by
    show _ = _
    have h1 : findE l lang s.xs.length i t u = 0 := by rw [HE2.out, if_neg (by omega)]
    rw [HV.out, h1]; rfl
  obtain ⟨m, rfl⟩ : ∃ m : Nat, i = m := ⟨i.toNat, by omega⟩
  have hml : m ≤ s.xs.length := by omega
  have g3 : decide (s.xs.length < m) = false := decide_eq_false (by omega)
  have g4 : ¬ s.xs.length < m := by omega
  have hmi : ((m : Int)).toNat = m := by omega
  rw [hmi] at HF
  have hfrom : ∀ W : World, _ := fun W => run_from s m W hml
  clear HE2 HV h0 h2 hmi
  obtain ⟨W3, hW3⟩ : ∃ W3, W2.alloc (.cells #[.int .i64 0] 3) = W3 := ⟨_, rfl⟩
  have hB3 : Below W2.heap.size W2 W3 := by rw [← hW3]; exact ext_alloc (Below.refl _ _) _
  have hz3 : W3.heap.size = W2.heap.size + 1 := by rw [← hW3]; simp
  have k2 : W3.heap[W2.heap.size]? = some (.cells #[.int .i64 0] 3 (0, 0)) := by rw [← hW3]; exact World.alloc_heap_new _ _
  have c3 := cell_one k2
  have f3 := frozen_one k2 0
  go_wp2
  refine wpAt_seq_wp fun K3 hK3 => ?_
  go_wp2
  refine wpAt_seq_wp fun K4 hK4 => ?_
  go_wp2
  refine wpAt_seq_wp fun K5 hK5 => ?_
  go_wp2
  obtain ⟨W4, hW4⟩ : ∃ W4, W3.setCell ⟨W2.heap.size, 0, none⟩ (.int .i64 0) = W4 := ⟨_, rfl⟩
  have k4 : W4.heap[W2.heap.size]? = some (.cells #[.int .i64 0] 3 (0, 0)) := by rw [← hW4]; exact set_one k2 _
  have hB4 : Below W2.heap.size W2 W4 := by rw [← hW4]; exact hB3.setCell (p := ⟨W2.heap.size, 0, none⟩) (by simp) _
  have hz4 : W4.heap.size = W2.heap.size + 1 := by rw [← hW4]; simp [World.setCell, hz3]
  rw [hW4]
  clear hW4 hW3 hB3 k2 c3 f3 hz3
  obtain ⟨S, hSd⟩ : ∃ S, standT l lang t u = S := ⟨_, rfl⟩
  have hSl : ∀ x ∈ S, x ∈ l := by rw [← hSd]; exact fun x hx => (List.mem_filter.1 hx).1
  have hck : checkT l = 0 := by
    have h := Hz.out
    unfold standE at h
    by_cases hc : checkT l = 0
    · exact hc
    · rw [if_pos hc] at h; exact absurd h hc
  obtain ⟨hl1, hoks, _⟩ := checkT_zero hck
  have hSm : S.length ≤ 1000000 := by rw [← hSd]; exact Nat.le_trans (List.length_filter_le _ _) (by omega)
  have h1s : ∀ x ∈ S, 1 ≤ x.src.xs.length := fun x hx => (ok_src (hoks x (hSl x hx))).1
  rw [hSd] at HF hS ⊢
  clear hck hoks hN hSd
  refine wpAt_seq ?_
  refine wpAt_seq_wp fun K7 hK7 => ?_
  go_wp2_with fail
  refine (starting_any _ _ _ _ _ _ _).mono ?_
  rintro e w' ⟨rfl, rfl⟩
  go_wp2
  refine wpAt_block ?_
  obtain ⟨W6, hW6⟩ : ∃ W6, (W4.alloc (.cells #[.slice B S.length c2] 53)).alloc (.cells #[.slice (s.sub m (s.xs.length - m)).addr (s.xs.length - m) (s.sub m (s.xs.length - m)).cap] 22) = W6 := ⟨_, rfl⟩
  have hB6 : Below W4.heap.size W4 W6 := by rw [← hW6]; exact ext_alloc (ext_alloc (Below.refl _ _) _) _
  have hz6 : W6.heap.size = W2.heap.size + 3 := by rw [← hW6]; simp [hz4]
  have q1 : W6.heap[W2.heap.size + 1]? = some (.cells #[.slice B S.length c2] 53 (0, 0)) := by
    rw [← hW6, ← hz4]; exact (Below.heap_alloc _ _ _ (by simp)).trans (World.alloc_heap_new _ _)
  have q2 : W6.heap[W2.heap.size + 1 + 1]? = some (.cells #[.slice (s.sub m (s.xs.length - m)).addr (s.xs.length - m) (s.sub m (s.xs.length - m)).cap] 22 (0, 0)) := by
    rw [← hW6, ← hz4]; exact galloc_at _ _ _ (by simp)
  rw [hW6]
  clear hW6
  have hsub : m + (s.xs.length - m) ≤ s.xs.length := by omega
  have hL := StrS.sub_len hsub
  have hB26 := ext_trans hB4 hB6
  have p0 := (hB2.block _ (lt_block k0)).trans k0
  have p1 := (hB2.block _ (lt_block k1)).trans k1
  have k06 := (hB26.block _ (lt_block p0)).trans p0
  have k16 := (hB26.block _ (lt_block p1)).trans p1
  have k46 := (hB6.block _ (lt_block k4)).trans k4
  have hn2 : w.heap.size + 2 ≤ W2.heap.size := by have := hB2.size; omega
  have hB06 := ext_trans hB02 hB26
  have hK : ∀ W : World, (∀ k, (k < W6.heap.size ∧ k ≠ w.heap.size ∧ k ≠ w.heap.size + 1 ∧ k ≠ W2.heap.size) → W.heap[k]? = W6.heap[k]?) → W.heap[W2.heap.size + 1]? = some (.cells #[.slice B S.length c2] 53 (0, 0)) ∧ W.heap[W2.heap.size + 1 + 1]? = some (.cells #[.slice (s.sub m (s.xs.length - m)).addr (s.sub m (s.xs.length - m)).xs.length (s.sub m (s.xs.length - m)).cap] 22 (0, 0)) ∧ TermsAt W B S ∧ (s.sub m (s.xs.length - m)).lies W := by
    intro W hW
    have r1 := (hW (W2.heap.size + 1) ⟨by omega, by omega, by omega, by omega⟩).trans q1
    have r2 := (hW (W2.heap.size + 1 + 1) ⟨by omega, by omega, by omega, by omega⟩).trans q2
    have hlow : ∀ k, k < w.heap.size → W.heap[k]? = w.heap[k]? := fun k hk => (hW k ⟨by have := hB06.size; omega, by omega, by omega, by omega⟩).trans (hB06.block k hk)
    have hszW : w.heap.size ≤ W.heap.size := by have := lt_block r2; omega
    refine ⟨r1, by rw [hL]; exact r2, ⟨?_, fun x hx => ?_⟩, lies_low (StrS.sub_lies Hs.out hsub) hszW hlow⟩
    · rcases hS.rd with h0 | ⟨b, off, he, hb, hc⟩
      · exact .inl h0
      · by_cases hne : S = []
        · exact .inl (by rw [hne]; rfl)
        · obtain ⟨x, S', rfl⟩ : ∃ x S', S = x :: S' := by
            cases S with
            | nil => exact absurd rfl hne
            | cons x S' => exact ⟨x, S', rfl⟩
          have hc1 : W2.cell? ⟨b, off + 1, none⟩ = some (.int .i64 x.at_) := hc 1 _ rfl
          have hb0 : b ≠ w.heap.size := by rintro rfl; rw [one_cell_none p0] at hc1; cases hc1
          have hb1 : b ≠ w.heap.size + 1 := by rintro rfl; rw [one_cell_none p1] at hc1; cases hc1
          have hbk : W.heap[b]? = W2.heap[b]? := (hW b ⟨by omega, hb0, hb1, by omega⟩).trans (hB26.block b hb)
          exact .inr ⟨b, off, he, by have := lt_block r2; omega, fun j u hu => (World.cell?_of_block (w := W2) (a := ⟨b, off + j, none⟩) hbk).trans (hc j u hu)⟩
    · have h := Hr.out.lie x (hSl x hx)
      exact ⟨lies_low h.1 hszW hlow, lies_low h.2 hszW hlow⟩
  have hit := starting1 (W2.heap.size + 1) (W2.heap.size + 1 + 1) B c2 S (s.sub m (s.xs.length - m)) (fun k => k < W6.heap.size ∧ k ≠ w.heap.size ∧ k ≠ w.heap.size + 1 ∧ k ≠ W2.heap.size) W6 hK hSm
  have hsx : (s.sub m (s.xs.length - m)).xs = s.xs.drop m := by
    show (s.xs.drop m).take (s.xs.length - m) = _
    exact List.take_of_length_le (by simp)
  rw [hsx] at hit
  have HBF : Hid (bestF S (s.xs.drop m) = bestL (startL S (s.xs.drop m))) := bestF_L _ _ _
  clear hK hL hsx q1 q2 hfrom
  refine wp_rangeP (xs := startL S (s.xs.drop m)) (pe := none) (R := fun k => k < W6.heap.size ∧ k ≠ w.heap.size ∧ k ≠ w.heap.size + 1 ∧ k ≠ W2.heap.size) (M := fun _ => False) (w0 := W6) Tryz.func43 rfl
    (enters_of Tryz.func136 (by kernel_rfl) rfl) hit (fun k hk => ⟨hk.1, rfl⟩) (fun _ => rfl)
    (FindInv w.heap.size W2.heap.size w) (fun _ _ _ _ => False) (fun _ _ => False)
    (find_stable _ _ _ _ _ (by omega) (fun _ h => h)) (fun _ _ _ _ _ h _ => h) (fun k => k = w.heap.size ∨ k = w.heap.size + 1 ∨ k = W2.heap.size) ?_ ?_
    (FindAsg w.heap.size W2.heap.size w (fun p v => #[.slice A l.length cp, .int .i64 lang, .slice s.addr s.xs.length s.cap, .int .i64 m, .int .i64 t, .int .i64 u, undef, undef, undef, undef, undef, undef, .pointer (some ⟨w.heap.size, 0, none⟩), .pointer (some ⟨w.heap.size + 1, 0, none⟩), .int .i64 0, .slice B S.length c2, .pointer (some ⟨W2.heap.size, 0, none⟩), p, .tuple #[.slice B S.length c2, .int .i64 0], .slice A l.length cp, .int .i64 lang, .int .i64 t, .int .i64 u, .tuple #[.slice B S.length c2, .int .i64 0], .slice B S.length c2, .int .i64 0, .int .i64 0, .bool false, undef, .int .i64 m, .bool false, .bool false, .int .i64 m, .slice s.addr s.xs.length s.cap, .int .i64 s.xs.length, .bool false, .bool false, .slice B S.length c2, .slice s.addr s.xs.length s.cap, .int .i64 m, .slice (s.sub m (s.xs.length - m)).addr (s.xs.length - m) (s.sub m (s.xs.length - m)).cap, .func (.func 136) #[] #[.pointer (some ⟨W2.heap.size + 1, 0, none⟩), .pointer (some ⟨W2.heap.size + 1 + 1, 0, none⟩)], v, undef, undef, undef, undef, undef, undef, undef, undef, undef, undef, undef, undef])) ?_ ?_ ?_ ?_ ?_ ?_ ?_
  · rintro k (rfl | rfl | rfl)
    · exact ⟨by omega, fun h => h.2.1 rfl⟩
    · exact ⟨by omega, fun h => h.2.2.1 rfl⟩
    · exact ⟨by omega, fun h => h.2.2.2 rfl⟩
  · exact ⟨fun k => Iff.rfl, k06, k16, k46, hB06⟩
  · rintro x a' own pre W W' ⟨b, own1, ha, ho, hb, hI⟩ st
    exact ⟨b, own1, ha, ho, (st.block b (lt_block hb) (.inr ((ho b).2 (.inr rfl)))).trans hb, find_stable _ _ _ _ _ (by omega) (fun _ h => h) own1 pre W W' hI ⟨st.os, st.tape, st.output, st.size, fun k hk h => st.block k hk (h.imp id (fun h => (ho k).2 (.inl h)))⟩⟩
  · rintro l1 own pre x W hI hl1 hl2 ho hpre
    refine wpIn_mono (Q := Exit.then (fun a' W' => ∃ own', BodyStep own own' W W' ∧ FindAsg w.heap.size W2.heap.size w (fun p v => #[.slice A l.length cp, .int .i64 lang, .slice s.addr s.xs.length s.cap, .int .i64 m, .int .i64 t, .int .i64 u, undef, undef, undef, undef, undef, undef, .pointer (some ⟨w.heap.size, 0, none⟩), .pointer (some ⟨w.heap.size + 1, 0, none⟩), .int .i64 0, .slice B S.length c2, .pointer (some ⟨W2.heap.size, 0, none⟩), p, .tuple #[.slice B S.length c2, .int .i64 0], .slice A l.length cp, .int .i64 lang, .int .i64 t, .int .i64 u, .tuple #[.slice B S.length c2, .int .i64 0], .slice B S.length c2, .int .i64 0, .int .i64 0, .bool false, undef, .int .i64 m, .bool false, .bool false, .int .i64 m, .slice s.addr s.xs.length s.cap, .int .i64 s.xs.length, .bool false, .bool false, .slice B S.length c2, .slice s.addr s.xs.length s.cap, .int .i64 m, .slice (s.sub m (s.xs.length - m)).addr (s.xs.length - m) (s.sub m (s.xs.length - m)).cap, .func (.func 136) #[] #[.pointer (some ⟨W2.heap.size + 1, 0, none⟩), .pointer (some ⟨W2.heap.size + 1 + 1, 0, none⟩)], v, undef, undef, undef, undef, undef, undef, undef, undef, undef, undef, undef, undef]) x a' own' pre W') (fun _ _ _ => False)) ?_ (fun e a w h => h)
    have hlv : ∀ k, own k → k < W.heap.size := fun k hk => (ho k hk).2.1
    gi_wp2
    refine ⟨fun k => own k ∨ k = W.heap.size, BodyStep.turn ((BodyStep.refl hlv).alloc _) ?_ ?_, W.heap.size, own, rfl, fun k => Iff.rfl, World.alloc_heap_new _ _, ?_⟩
    · rintro k (h | h)
      · exact .inl h
      · exact .inr (by omega)
    · rintro k (h | h)
      · have := hlv k h; simp; omega
      · simp; omega
    · exact find_stable _ _ _ W6.heap.size (fun _ => False) (by omega) (fun _ h => h) own pre W _ hI ((IterStep.refl _ _ _ _).alloc _)
  · rintro l1 own pre x a' W ⟨b, own1, rfl, hoi, hb, h⟩ hl1 hl2 ho hpre
    have hlv : ∀ k, own k → k < W.heap.size := fun k hk => (ho k hk).2.1
    have hlv1 : ∀ k, own1 k → k < W.heap.size := fun k hk => hlv k ((hoi k).2 (.inl hk))
    have hxS : x ∈ S := (List.mem_filter.1 (hpre.subset (by simp))).1
    have hx1 := h1s x hxS
    have hbt := better_len (o := bestL pre) hx1
    have hsn := bestL_snoc pre x
    have d0 : W.cell? ⟨b, 0, none⟩ = some (.int .i64 x.no) := gblk hb 0
    have d4 : W.cell? ⟨b, 4, none⟩ = some (.slice x.src.addr x.src.xs.length x.src.cap) := gblk hb 4
    have d1 : W.cell? ⟨b, 0 + 1, none⟩ = some (.int .i64 x.at_) := gblk hb 1
    have hb0 : b ≠ w.heap.size := by rintro rfl; rw [one_cell_none h.no] at d1; cases d1
    have hb1 : b ≠ w.heap.size + 1 := by rintro rfl; rw [one_cell_none h.ok] at d1; cases d1
    have hb2 : b ≠ W2.heap.size := by rintro rfl; rw [one_cell_none h.long] at d1; cases d1
    have cl := cell_one h.long
    have cn := cell_one h.no
    have ck := cell_one h.ok
    have fl := frozen_one h.long 0
    have fn := frozen_one h.no 0
    have fk := frozen_one h.ok 0
    have hst1 : BodyStep own own1 W W := BodyStep.turn (BodyStep.refl hlv) (fun k hk => .inl ((hoi k).2 (.inl hk))) hlv1
    have Hst1 := Lib.hid hst1
    have Hh := Lib.hid h
    cases hq : betterB (bestL pre) x
    · rw [hq] at hbt hsn
      have hlt : ¬ lenOf (bestL pre) < (x.src.xs.length : Int) := of_decide_eq_false hbt.symm
      have hlt2 : decide ((x.src.xs.length : Int) > lenOf (bestL pre)) = false := hbt.symm
      have HN : Hid (FindInv w.heap.size W2.heap.size w own1 (pre ++ [x]) W) := by
        have e : bestL (pre ++ [x]) = bestL pre := by rw [hsn]; rfl
        exact ⟨h.own_iff, by rw [e]; exact h.no, by rw [e]; exact h.ok, by rw [e]; exact h.long, h.below⟩
      clear h hbt hsn hq
      generalize lenOf (bestL pre) = L at *
      gi_wp2
      exact ⟨own1, Hst1.out, HN.out⟩
    · rw [hq] at hbt hsn
      have hlt : lenOf (bestL pre) < (x.src.xs.length : Int) := of_decide_eq_true hbt.symm
      have hlt2 : decide ((x.src.xs.length : Int) > lenOf (bestL pre)) = true := hbt.symm
      have HN : Hid (bestL (pre ++ [x]) = some x) := by show _ = _; rw [hsn]; rfl
      have hfin : Hid (BodyStep own own1 W (((W.setCell ⟨w.heap.size, 0, none⟩ (.int .i64 x.no)).setCell ⟨w.heap.size + 1, 0, none⟩ (.bool true)).setCell ⟨W2.heap.size, 0, none⟩ (.int .i64 x.src.xs.length)).drew ∧
          (((W.setCell ⟨w.heap.size, 0, none⟩ (.int .i64 x.no)).setCell ⟨w.heap.size + 1, 0, none⟩ (.bool true)).setCell ⟨W2.heap.size, 0, none⟩ (.int .i64 x.src.xs.length)).drew.heap[w.heap.size]? = some (.cells #[.int .i64 (noOf (some x))] 3 (0, 0)) ∧
          (((W.setCell ⟨w.heap.size, 0, none⟩ (.int .i64 x.no)).setCell ⟨w.heap.size + 1, 0, none⟩ (.bool true)).setCell ⟨W2.heap.size, 0, none⟩ (.int .i64 x.src.xs.length)).drew.heap[w.heap.size + 1]? = some (.cells #[.bool (some x).isSome] 4 (0, 0)) ∧
          (((W.setCell ⟨w.heap.size, 0, none⟩ (.int .i64 x.no)).setCell ⟨w.heap.size + 1, 0, none⟩ (.bool true)).setCell ⟨W2.heap.size, 0, none⟩ (.int .i64 x.src.xs.length)).drew.heap[W2.heap.size]? = some (.cells #[.int .i64 (lenOf (some x))] 3 (0, 0)) ∧
          Below w.heap.size w (((W.setCell ⟨w.heap.size, 0, none⟩ (.int .i64 x.no)).setCell ⟨w.heap.size + 1, 0, none⟩ (.bool true)).setCell ⟨W2.heap.size, 0, none⟩ (.int .i64 x.src.xs.length)).drew) := by
        have o0 : own w.heap.size := (hoi _).2 (.inl ((h.own_iff _).2 (.inl rfl)))
        have o1 : own (w.heap.size + 1) := (hoi _).2 (.inl ((h.own_iff _).2 (.inr (.inl rfl))))
        have o2 : own W2.heap.size := (hoi _).2 (.inl ((h.own_iff _).2 (.inr (.inr rfl))))
        refine ⟨?_, ?_, ?_, ?_, ?_⟩
        · have s3 := (((BodyStep.refl hlv).setCell (p := ⟨w.heap.size, 0, none⟩) (.inl o0) (.int .i64 x.no)).setCell (p := ⟨w.heap.size + 1, 0, none⟩) (.inl o1) (.bool true)).setCell (p := ⟨W2.heap.size, 0, none⟩) (.inl o2) (.int .i64 x.src.xs.length)
          have s4 := BodyStep.turn s3 (own' := own1) (fun k hk => .inl ((hoi k).2 (.inl hk))) (fun k hk => by have := hlv1 k hk; have := s3.size; omega)
          exact ⟨s4.os, s4.tape, s4.output, s4.size, s4.block, s4.owns, s4.live⟩
        · exact (Below.heap_setCell _ _ _ _ (by show w.heap.size ≠ W2.heap.size; omega)).trans ((Below.heap_setCell _ _ _ _ (by show w.heap.size ≠ w.heap.size + 1; omega)).trans (set_one h.no _))
        · exact (Below.heap_setCell _ _ _ _ (by show w.heap.size + 1 ≠ W2.heap.size; omega)).trans (set_one ((Below.heap_setCell _ _ _ _ (by show w.heap.size + 1 ≠ w.heap.size; omega)).trans h.ok) _)
        · exact set_one ((Below.heap_setCell _ _ _ _ (by show W2.heap.size ≠ w.heap.size + 1; omega)).trans ((Below.heap_setCell _ _ _ _ (by show W2.heap.size ≠ w.heap.size; omega)).trans h.long)) _
        · exact (((h.below.setCell (p := ⟨w.heap.size, 0, none⟩) (by simp) _).setCell (p := ⟨w.heap.size + 1, 0, none⟩) (by simp) _).setCell (p := ⟨W2.heap.size, 0, none⟩) (by show w.heap.size ≤ W2.heap.size; omega) _).drew
      clear h hbt hsn hq
      generalize lenOf (bestL pre) = L at *
      generalize noOf (bestL pre) = N at *
      generalize (bestL pre).isSome = G at *
      gi_wp2_with fail
      have hmix : Tryz.prog.follows .mixedOrders = true := by kernel_rfl
      gi_region_with_o (fail)
      all_goals
        gi_wp2
        refine ⟨own1, hfin.1, ?_⟩
        exact ⟨Hh.out.own_iff, by rw [HN.out]; exact hfin.2.1, by rw [HN.out]; exact hfin.2.2.1, by rw [HN.out]; exact hfin.2.2.2.1, hfin.2.2.2.2⟩
  · rintro D own W hD hpn h hdef
    have cn := cell_one h.no
    have ck := cell_one h.ok
    have fn := frozen_one h.no 0
    have fk := frozen_one h.ok 0
    have HI := Lib.hid h
    clear h
    rw [HBF.out] at HF
    obtain ⟨o, ho⟩ : ∃ o, bestL (startL S (s.xs.drop m)) = o := ⟨_, rfl⟩
    have h := HI.out
    have hno := h.no
    have hok := h.ok
    rw [ho] at hno hok cn ck
    rw [ho] at HF
    have hfv : foundV o = .tuple #[.int .i64 (noOf o), .bool o.isSome, .int .i64 0] := by cases o <;> rfl
    rw [hfv] at HF
    have hbl := h.below
    clear h ho hfv
    generalize noOf o = N at *
    generalize o.isSome = G at *
    refine wpAt_wp ?_
    go_wp2_with fail
    go_region
    go_wp2
    have e0 : ((W.setCell ⟨w.heap.size, 0, none⟩ (.int .i64 N)).setCell ⟨w.heap.size + 1, 0, none⟩ (.bool G)).heap[w.heap.size]? = some (.cells #[.int .i64 N] 3 (0, 0)) := (Below.heap_setCell _ _ _ _ (by show w.heap.size ≠ w.heap.size + 1; omega)).trans (set_one hno _)
    have e1 : ((W.setCell ⟨w.heap.size, 0, none⟩ (.int .i64 N)).setCell ⟨w.heap.size + 1, 0, none⟩ (.bool G)).heap[w.heap.size + 1]? = some (.cells #[.bool G] 4 (0, 0)) := set_one ((Below.heap_setCell _ _ _ _ (by show w.heap.size + 1 ≠ w.heap.size; omega)).trans hok) _
    have eD : ((W.setCell ⟨w.heap.size, 0, none⟩ (.int .i64 N)).setCell ⟨w.heap.size + 1, 0, none⟩ (.bool G)).heap[D]? = some (.deferred (some [])) := (Below.heap_setCell _ _ _ _ (by show D ≠ w.heap.size + 1; omega)).trans ((Below.heap_setCell _ _ _ _ (by show D ≠ w.heap.size; omega)).trans hdef)
    have eB : Below w.heap.size w ((W.setCell ⟨w.heap.size, 0, none⟩ (.int .i64 N)).setCell ⟨w.heap.size + 1, 0, none⟩ (.bool G)) := below_set2 hbl _ _
    generalize (W.setCell ⟨w.heap.size, 0, none⟩ (.int .i64 N)).setCell ⟨w.heap.size + 1, 0, none⟩ (.bool G) = W8 at *
    have x0 := cell_one ((World.putObj_heap_other (w := W8.drew) (r := D) (k := w.heap.size) (o := .deferred none) (by omega)).trans e0)
    have x1 := cell_one ((World.putObj_heap_other (w := W8.drew) (r := D) (k := w.heap.size + 1) (o := .deferred none) (by omega)).trans e1)
    refine leavesM_ret (W := W8.drew) (v := .tuple #[.int .i64 N, .bool G, .int .i64 0]) eD ?_ ⟨by rw [HF.out], ?_⟩
    · simp [results, Tryz.results43, go_sem, x0, x1]
    · have h9 := putObj_below W8.drew (B := D) (.deferred none) (Nat.le_refl _)
      exact ⟨h9.os.trans eB.os, h9.tape.trans eB.tape, h9.output.trans eB.output, Nat.le_trans eB.size h9.size, fun k hk => (h9.block k (by omega)).trans (eB.block k hk)⟩
  · rintro D own c pre W _ _ h
    exact h.elim
  · rintro D ch W hD h
    exact h.elim
  · rintro D own ch W hD hpn
    cases hpn
end Go.Proofs.YthojaplnimoacaaGreatDoor

/- TagsFound: plain facts; the terms that matter, gathered. -/
namespace Go.Proofs.YthojaplnimoacaaGreatDoor
open Go.RowKit Go.Han
attribute [local irreducible] wpStill wpQuiet
set_option maxRecDepth 100000

theorem matter_tagsE {g : Gram} {l : List Term} {lang t u : Int} {ws : List ByteArray} (h : tagsE g l lang ws t u = 0) : tagsE g (l.filter (matterB lang u)) lang ws t u = 0 := by
  obtain ⟨h1, h2, h3, h4, h5⟩ := tagsE_zero h
  exact tagsE_mk h1 (matter_standE h2) h3 h4 (by rw [matter_standT]; exact h5)
theorem findV_zero {l : List Term} {lang t u : Int} {ws : List ByteArray} {i : Nat} (h : standE l lang t u = 0) (hi : i < ws.length) : findV l lang ws i t u = foundV (bestF (standT l lang t u) (ws.drop i)) := by
  have h0 : findE l lang ws.length i t u = 0 := by
    unfold findE
    rw [if_neg (by rw [h]; decide), if_neg (by omega)]
  unfold findV
  rw [if_neg (by rw [h0]; decide), Int.toNat_natCast]
/-- What is found at an index, and what is tagged there. -/
theorem found_at {g : Gram} {l : List Term} {lang t u : Int} {ws : List ByteArray} (h : tagsE g l lang ws t u = 0) {i : Nat} (hi : i < ws.length) :
    (findV l lang ws i t u = .tuple #[.int .i64 0, .bool false, .int .i64 0] ∧ longF i (tagsC g (standT l lang t u) ws) = (0, -1)) ∨
    ∃ x ∈ l, findV l lang ws i t u = .tuple #[.int .i64 x.no, .bool true, .int .i64 0] ∧ (longF i (tagsC g (standT l lang t u) ws)).1 ≤ x.src.xs.length ∧ (0 ≤ idxF x.cat g.cats.xs → (longF i (tagsC g (standT l lang t u) ws)).2 = x.no) := by
  obtain ⟨hc, hs, h16, hw, hl⟩ := tagsE_zero h
  have hk := standE_zero hs
  have hok := standT_ok hk.1 lang t u
  have hone := standT_one hk.1 lang t u
  rw [findV_zero hs hi, long_tags hok hi]
  cases hb : bestF (standT l lang t u) (ws.drop i) with
  | none => exact .inl ⟨rfl, found_none hb⟩
  | some x =>
    have h1 := bestF_spec (standT l lang t u) (ws.drop i)
    rw [hb] at h1
    have h2 := found_some (cats := g.cats.xs) hone hok hb
    exact .inr ⟨x, (List.mem_filter.1 h1.1).1, rfl, h2.1, fun h => h2.2 (by unfold catB; exact decide_eq_true h)⟩
theorem no_one {l : List Term} (h : checkT l = 0) {x y : Term} (hx : x ∈ l) (hy : y ∈ l) (he : x.no = y.no) : x = y := no_inj (checkT_zero h).2.2 hx hy he
theorem matter_take (l : List Term) (lang u : Int) {k : Nat} (h : k < l.length) : (l.take (k + 1)).filter (matterB lang u) = (l.take k).filter (matterB lang u) ++ (if matterB lang u l[k] = true then [l[k]] else []) := by
  rw [List.take_succ_eq_append_getElem h, List.filter_append]
  by_cases hp : matterB lang u l[k] = true <;> simp [hp]
theorem long_take (i : Int) (L : List ItemG) {k : Nat} (h : k < L.length) : longF i ((L.take (k + 1)).map ItemG.c) = longStep i (longF i ((L.take k).map ItemG.c)) L[k].c := by
  rw [List.take_succ_eq_append_getElem h, List.map_append]; exact longF_snoc _ _ _
theorem long_bound (i : Int) (L : List ItemG) (hin : ∀ y ∈ L, 0 ≤ y.frm ∧ y.frm ≤ 1000 ∧ 0 ≤ y.unt ∧ y.unt ≤ 1000) : 0 ≤ (longF i (L.map ItemG.c)).1 ∧ (longF i (L.map ItemG.c)).1 ≤ 1000 := by
  have key : ∀ (L : List ItemG) (o : Int × Int), (∀ y ∈ L, 0 ≤ y.frm ∧ y.frm ≤ 1000 ∧ 0 ≤ y.unt ∧ y.unt ≤ 1000) → 0 ≤ o.1 ∧ o.1 ≤ 1000 → 0 ≤ ((L.map ItemG.c).foldl (longStep i) o).1 ∧ ((L.map ItemG.c).foldl (longStep i) o).1 ≤ 1000 := by
    intro L
    induction L with
    | nil => intro o _ h; exact h
    | cons y L ih =>
      intro o hL ho
      refine ih (longStep i o y.c) (fun z hz => hL z (List.mem_cons_of_mem _ hz)) ?_
      have hy := hL y (List.mem_cons_self ..)
      unfold longStep
      split
      · rename_i h
        have h3 := h.2.2
        show 0 ≤ y.unt - y.frm ∧ y.unt - y.frm ≤ 1000
        have h4 : o.1 < y.unt - y.frm := h3
        omega
      · exact ho
  exact key L (0, -1) hin ⟨by decide, by decide⟩
end Go.Proofs.YthojaplnimoacaaGreatDoor

/- TagsFound. -/
namespace Go.Proofs.YthojaplnimoacaaGreatDoor
open Go.RowKit Go.Han
attribute [local irreducible] wpStill wpQuiet
set_option maxRecDepth 100000

def FoundAt (g : Gram) (l : List Term) (no : Int) (ok : Bool) (lo ta : Int) : Prop :=
  (ok = false ∧ no = 0 ∧ ta = -1) ∨ ∃ x ∈ l, ok = true ∧ no = x.no ∧ lo ≤ x.src.xs.length ∧ (0 ≤ idxF x.cat g.cats.xs → ta = x.no)
set_option maxHeartbeats 16000000 in
theorem TagsFound_any (hsane : SaneOk) (g : Gram) (A : Option Addr) (cp : Nat) (l : List Term) (lang : Int) (s : StrS) (t u : Int) (w : World) (hT : TabsG w) (hg : g.lies w) (hgs : g.short) (hr : TermsAt w A l) (hm : l.length ≤ 9223372036854775807) (hs : s.lies w) :
    Calls Tryz.prog 13 #[.agg #[.string g.name, .slice g.cats.addr g.cats.xs.length g.cats.cap, .string g.start, .int .i64 g.startNo, .slice g.entries.addr g.entries.xs.length g.entries.cap, .slice g.rules.addr g.rules.xs.length g.rules.cap], .slice A l.length cp, .int .i64 lang, .slice s.addr s.xs.length s.cap, .int .i64 t, .int .i64 u] w fun e w' => e = .returned (.bool true) ∧ Below w.heap.size w w' := by
  obtain ⟨i0, z0, hi0, iz0, is0, ib0, izs⟩ := parts_term
  obtain ⟨W1, hW1⟩ : ∃ W1, w.alloc (.cells #[.string g.name, .slice g.cats.addr g.cats.xs.length g.cats.cap, .string g.start, .int .i64 g.startNo, .slice g.entries.addr g.entries.xs.length g.entries.cap, .slice g.rules.addr g.rules.xs.length g.rules.cap] 26) = W1 := ⟨_, rfl⟩
  have hB1 : Below w.heap.size w W1 := by rw [← hW1]; exact ext_alloc (Below.refl _ _) _
  have hk : W1.heap[w.heap.size]? = some (.cells #[.string g.name, .slice g.cats.addr g.cats.xs.length g.cats.cap, .string g.start, .int .i64 g.startNo, .slice g.entries.addr g.entries.xs.length g.entries.cap, .slice g.rules.addr g.rules.xs.length g.rules.cap] 26 (0, 0)) := by rw [← hW1]; exact World.alloc_heap_new _ _
  have F0 := Lib.hid (hsane W1 (hT.ext hB1))
  have FF := Lib.hid (fun V (hV : Below w.heap.size w V) => right28_any g A cp l lang s t u V (hg.ext hV) (hr.ext hV) hm (hs.ext hV))
  have FA := Lib.hid (fun V (hV : Below w.heap.size w V) => Items_any g A cp l lang s t u V (hT.ext hV) (hg.ext hV) hgs (hr.ext hV) hm (hs.ext hV))
  have FB := Lib.hid (fun B c (M : List Term) V (hV : Below w.heap.size w V) (hM : M.length ≤ 9223372036854775807) (hB : TermsAt V B M) => Items_any g B c M lang s t u V (hT.ext hV) (hg.ext hV) hgs hB hM (hs.ext hV))
  have FD := Lib.hid (fun (i : Nat) V (hV : Below w.heap.size w V) => Find_any A cp l lang s i t u V (hT.ext hV).u (hr.ext hV) (hs.ext hV) hm)
  have FI := Lib.hid (fun (b : ByteArray) V (hV : Below w.heap.size w V) => index26_any g.cats b V (hg.ext hV).cats)
  have FC := Lib.hid (fun B c (M : List Term) V (hM : M.length ≤ 9223372036854775807) (hB : TermsAt V B M) => check27_any B c M V hB hM)
  have HR := Lib.hid hr
  have Hk := Lib.hid hk
  have hsm : s.xs.length ≤ 9223372036854775807 := Nat.le_trans hs.cap hs.max
  clear hT hg hgs hr hs hsane hk
  go_enter Tryz.func13, Tryz.ntmps13
  go_wp2_with fail
  clear hW1
  refine F0.out.mono ?_
  rintro e w2 ⟨rfl, hb2⟩
  have hB2 := ext_trans hB1 hb2
  have Hk2 := Lib.hid ((hb2.block _ (lt_block Hk.out)).trans Hk.out)
  have hk2 := Hk2.out
  have c0 := gblk hk2 0
  have c1 := gblk hk2 1
  have c2 := gblk hk2 2
  have c3 := gblk hk2 3
  have c4 := gblk hk2 4
  have c5 := gblk hk2 5
  clear F0 hk2 Hk
  go_wp2_with fail
  refine (FF.out w2 hB2).mono ?_
  rintro e w3 ⟨b, rfl, hb3, hz⟩
  have hB3 := ext_trans hB2 hb3
  have Hk3 := Lib.hid ((hb3.block _ (lt_block Hk2.out)).trans Hk2.out)
  clear c0 c1 c2 c3 c4 c5 FF Hk2
  cases b
  · go_wp2_with fail
    go_ret
    exact ⟨rfl, hB3⟩
  have HZ := Lib.hid (hz rfl)
  have hl := (checkT_zero (standE_zero (tagsE_zero (hz rfl)).2.1).1).1
  clear hz hm
  obtain ⟨wo, hwo⟩ : ∃ wo, wo = w3 := ⟨_, rfl⟩
  subst hwo
  go_wp2_with fail
  go_loopw [13, 42] (fun x i wr => ∃ k : Nat, k ≤ l.length ∧ i = .int .i64 k ∧ OwnT wr wo.heap.size x ((l.take k).filter (matterB lang u)) ∧ Below wo.heap.size wo wr) (fun _ i _ => l.length - (intOf i).toNat)
  case atStart => exact ⟨0, Nat.zero_le _, rfl, OwnL.nil _ _ _ _ _, Below.refl _ _⟩
  case round =>
    obtain ⟨k, hk, rfl, hown, hB⟩ := hrel
    by_cases hlt : k < l.length
    · obtain ⟨b, off, rfl, hb, hcl⟩ := HR.out.at_ hlt
      obtain ⟨d0, d1, d2, d3, d4, d5, d6, d7⟩ := hcl k hlt wr (ext_trans hB3 hB)
      have Htk := Lib.hid (matter_take l lang u hlt)
      have hfl : ((l.take k).filter (matterB lang u)).length ≤ k := Nat.le_trans (List.length_filter_le _ _) (List.length_take_le _ _)
      clear hcl
      generalize l[k] = y at *
      obtain ⟨w6, hw6⟩ : ∃ w6, wr.alloc (.cells #[.int .i64 y.no, .int .i64 y.at_, .int .i64 y.known, .int .i64 y.lang, .slice y.src.addr y.src.xs.length y.src.cap, .slice y.tgt.addr y.tgt.xs.length y.tgt.cap, .string y.cat, .bool y.gone] 66) = w6 := ⟨_, rfl⟩
      have hb6 : Below wr.heap.size wr w6 := by rw [← hw6]; exact ext_alloc (Below.refl _ _) _
      have hx6 : w6.heap[wr.heap.size]? = some (.cells #[.int .i64 y.no, .int .i64 y.at_, .int .i64 y.known, .int .i64 y.lang, .slice y.src.addr y.src.xs.length y.src.cap, .slice y.tgt.addr y.tgt.xs.length y.tgt.cap, .string y.cat, .bool y.gone] 66 (0, 0)) := by rw [← hw6]; exact World.alloc_heap_new _ _
      have e0 := gblk hx6 0
      have e1 := gblk hx6 1
      have e2 := gblk hx6 2
      have e3 := gblk hx6 3
      have e4 := gblk hx6 4
      have e5 := gblk hx6 5
      have e6 := gblk hx6 6
      have e7 := gblk hx6 7
      have Hown := Lib.hid hown
      have hB6 := ext_trans hB hb6
      clear hown hx6
      by_cases h1 : y.lang = lang
      · have g1 : (y.lang == lang) = true := by simp [h1]
        by_cases h2 : y.known ≤ u
        · have g2 : decide (y.known ≤ u) = true := decide_eq_true h2
          have HN : Hid ((l.take (k + 1)).filter (matterB lang u) = (l.take k).filter (matterB lang u) ++ [y]) := by show _ = _; rw [Htk.out, if_pos (by unfold matterB; simp [h1, h2])]
          have ho : w6.ownsRow wo.heap.size 66 8 _ ((l.take k).filter (matterB lang u)).length (((l.take k).filter (matterB lang u)).flatMap Term.cells) := Hown.out.ext hb6
          clear h1 h2
          generalize (l.take k).filter (matterB lang u) = el at *
          obtain ⟨A1, A2'⟩ := ownT_room (el := el) (by omega)
          have A3 : wo.heap.size ≤ (w6.alloc (.cells #[.int .i64 y.no, .int .i64 y.at_, .int .i64 y.known, .int .i64 y.lang, .slice y.src.addr y.src.xs.length y.src.cap, .slice y.tgt.addr y.tgt.xs.length y.tgt.cap, .string y.cat, .bool y.gone] 66)).heap.size := by have h1 := hB.size; have h2 := hb6.size; simp; omega
          go_wp2_with (at_builtin; refine wpList_append_own _ rfl _ _ 53 rfl wo.heap.size 66 i0 z0 8 104 Tryz.underlying53 hi0 iz0 is0 ib0 izs (by decide) _ _ _ rfl (ho.alloc _) _ _ _ [.int .i64 y.no, .int .i64 y.at_, .int .i64 y.known, .int .i64 y.lang, .slice y.src.addr y.src.xs.length y.src.cap, .slice y.tgt.addr y.tgt.xs.length y.tgt.cap, .string y.cat, .bool y.gone] rfl rfl (gcells_new w6 [.int .i64 y.no, .int .i64 y.at_, .int .i64 y.known, .int .i64 y.lang, .slice y.src.addr y.src.xs.length y.src.cap, .slice y.tgt.addr y.tgt.xs.length y.tgt.cap, .string y.cat, .bool y.gone] _) (one_term y) A1 A2' A3 ?_; intro v5 w10 hown6 hgrow6 _)
          have hB10 : Below wo.heap.size wo w10 := (ext_alloc hB6 _).grown hgrow6 A3 (fun k hk => (ho.lt k hk).1)
          have hown7 : w10.ownsRow wo.heap.size 66 8 v5 (el.length + 1) (el.flatMap Term.cells ++ y.cells) := hown6
          clear e0 e1 e2 e3 e4 e5 e6 e7 d0 d1 d2 d3 d4 d5 d6 d7 hw6
          go_wp2
          go_roundw
          case rel => exact ⟨k + 1, by omega, by go_num, by rw [HN.out]; exact OwnL.snoc y hown7, hB10⟩
          case measure => simp [intOf]; omega
        · have g2 : decide (y.known ≤ u) = false := decide_eq_false h2
          have HN : Hid ((l.take (k + 1)).filter (matterB lang u) = (l.take k).filter (matterB lang u)) := by show _ = _; rw [Htk.out, if_neg (by unfold matterB; simp [h2])]; simp
          clear h1 h2
          go_wp2_with fail
          go_roundw
          case rel => exact ⟨k + 1, by omega, by go_num, by rw [HN.out]; exact Hown.out.ext hb6, hB6⟩
          case measure => simp [intOf]; omega
      · have g1 : (y.lang == lang) = false := by simp [h1]
        have HN : Hid ((l.take (k + 1)).filter (matterB lang u) = (l.take k).filter (matterB lang u)) := by show _ = _; rw [Htk.out, if_neg (by unfold matterB; simp [h1])]; simp
        clear h1
        go_wp2_with fail
        go_roundw
        case rel => exact ⟨k + 1, by omega, by go_num, by rw [HN.out]; exact Hown.out.ext hb6, hB6⟩
        case measure => simp [intOf]; omega
    · obtain rfl : k = l.length := by omega
      rw [List.take_length] at hown
      obtain ⟨A9, c9, rfl, hrd9, hn9⟩ := OwnL.form (by omega) hown
      have hBr := ext_trans hB3 hB
      have HC : Hid (TermsAt wr A9 (l.filter (matterB lang u))) := ⟨hrd9, fun y hy => (HR.out.ext hBr).lie y (List.mem_filter.1 hy).1⟩
      have hMl : (l.filter (matterB lang u)).length ≤ 1024 := Nat.le_trans (List.length_filter_le _ _) hl
      have Hk4 := Lib.hid ((hB.block _ (lt_block Hk3.out)).trans Hk3.out)
      have HzM := Lib.hid (matter_tagsE HZ.out)
      have HsM := Lib.hid (matter_standT l lang t u)
      clear hown hrd9 hn9 hk hlt Hk3
      generalize l.filter (matterB lang u) = M at *
      have hk4 := Hk4.out
      have c0 := gblk hk4 0
      have c1 := gblk hk4 1
      have c2 := gblk hk4 2
      have c3 := gblk hk4 3
      have c4 := gblk hk4 4
      have c5 := gblk hk4 5
      clear hk4
      go_wp2_with fail
      refine (FA.out wr hBr).mono ?_
      intro e w6 h6
      obtain ⟨hb6, ia, rfl, hma, hia⟩ := itemsPost_out h6
      rw [HZ.out, if_pos rfl] at hma
      rw [HZ.out]
      have hB6 := ext_trans hBr hb6
      have HIa := Lib.hid hia
      have HMa := Lib.hid hma
      have Hk6 := Lib.hid ((hb6.block _ (lt_block Hk4.out)).trans Hk4.out)
      have hk6 := Hk6.out
      clear c0 c1 c2 c3 c4 c5 FA h6 hia hma Hk4
      have c0 := gblk hk6 0
      have c1 := gblk hk6 1
      have c2 := gblk hk6 2
      have c3 := gblk hk6 3
      have c4 := gblk hk6 4
      have c5 := gblk hk6 5
      clear hk6
      go_wp2_with fail
      refine (FB.out A9 c9 M w6 hB6 (by omega) (HC.out.ext hb6)).mono ?_
      intro e w7 h7
      obtain ⟨hb7, ib, rfl, hmb, hib⟩ := itemsPost_out h7
      rw [HzM.out, if_pos rfl, HsM.out] at hmb
      rw [HzM.out]
      have hB7 := ext_trans hB6 hb7
      have HIa7 := Lib.hid (HIa.out.ext hb7)
      have cS := Lib.hid (same28_any ia ib w7 HIa7.out hib)
      rw [HMa.out, hmb, decide_eq_true rfl] at cS
      have Hk7 := Lib.hid ((hb7.block _ (lt_block Hk6.out)).trans Hk6.out)
      clear c0 c1 c2 c3 c4 c5 FB h7 hib hmb HIa Hk6
      go_wp2_with fail
      refine cS.out.mono ?_
      rintro e w8 ⟨rfl, hb8⟩
      have hB8 := ext_trans hB7 hb8
      have HIa8 := Lib.hid (HIa7.out.ext hb8)
      have HC8 := Lib.hid (HC.out.ext (ext_trans hb6 (ext_trans hb7 hb8)))
      have Hk8 := Lib.hid ((hb8.block _ (lt_block Hk7.out)).trans Hk7.out)
      have hin := Lib.hid (items_in HZ.out HMa.out)
      have hia1 := hin.out.1
      obtain ⟨wp, hwp⟩ : ∃ wp, wp = w8 := ⟨_, rfl⟩
      subst hwp
      clear cS HIa7 HC Hk7 hB7 hB6 hb8 hb7 hb6 hB hBr HsM
      go_wp2_with fail
      go_loopw [95] (fun i wr => ∃ k : Nat, k ≤ s.xs.length ∧ i = .int .i64 k ∧ Below wp.heap.size wp wr) (fun i _ => s.xs.length - (intOf i).toNat)
      case atStart => exact ⟨0, Nat.zero_le _, rfl, Below.refl _ _⟩
      case round =>
        obtain ⟨k, hk, rfl, hB⟩ := hrel
        have hBq := ext_trans hB8 hB
        by_cases hlt : k < s.xs.length
        · have cF := Lib.hid (FD.out k wr hBq)
          have hfa := found_at HZ.out hlt
          have hF : ∃ no ok, findV l lang s.xs k t u = .tuple #[.int .i64 no, .bool ok, .int .i64 0] ∧ FoundAt g l no ok (longF k (ia.xs.map ItemG.c)).1 (longF k (ia.xs.map ItemG.c)).2 := by
            rw [HMa.out]
            rcases hfa with ⟨h1, h2⟩ | ⟨x, hx, h1, h2, h3⟩
            · exact ⟨0, false, h1, .inl ⟨rfl, rfl, by rw [h2]⟩⟩
            · exact ⟨x.no, true, h1, .inr ⟨x, hx, rfl, rfl, h2, h3⟩⟩
          obtain ⟨no, ok, hv, hFA⟩ := hF
          rw [hv] at cF
          have HFA := Lib.hid hFA
          clear hfa hv hFA
          go_wp2_with fail
          refine cF.out.mono ?_
          rintro e w9 ⟨rfl, hb9⟩
          have hB9 := ext_trans hB hb9
          obtain ⟨wq, hwq⟩ : ∃ wq, wq = w9 := ⟨_, rfl⟩
          subst hwq
          clear cF hb9 hB hBq
          go_wp2_with fail
          go_loopw [24, 25, 113] (fun lo ta j wr => ∃ n : Nat, n ≤ ia.xs.length ∧ j = .int .i64 n ∧ lo = .int .i64 (longF k ((ia.xs.take n).map ItemG.c)).1 ∧ ta = .int .i64 (longF k ((ia.xs.take n).map ItemG.c)).2 ∧ Below wq.heap.size wq wr) (fun _ _ j _ => ia.xs.length - (intOf j).toNat)
          case atStart => exact ⟨0, Nat.zero_le _, rfl, rfl, rfl, Below.refl _ _⟩
          case round =>
            obtain ⟨n, hn, rfl, rfl, rfl, hB⟩ := hrel
            by_cases hnl : n < ia.xs.length
            · obtain ⟨b, off, hA, hbb, hc⟩ := (HIa8.out.ext (ext_trans hB9 hB)).lies.at_ ItemG.size_cells (by omega) hnl
              have d0 : wr.cell? ⟨b, off + n * 6, none⟩ = some (.int .i64 ia.xs[n].cat) := hc n hnl wr (Below.refl _ _) 0 _ rfl
              have d1 : wr.cell? ⟨b, off + n * 6 + 1, none⟩ = some (.int .i64 ia.xs[n].frm) := hc n hnl wr (Below.refl _ _) 1 _ rfl
              have d2 : wr.cell? ⟨b, off + n * 6 + 2, none⟩ = some (.int .i64 ia.xs[n].unt) := hc n hnl wr (Below.refl _ _) 2 _ rfl
              have d3 : wr.cell? ⟨b, off + n * 6 + 3, none⟩ = some (.int .i64 ia.xs[n].cost) := hc n hnl wr (Below.refl _ _) 3 _ rfl
              have d4 : wr.cell? ⟨b, off + n * 6 + 4, none⟩ = some (.slice ia.xs[n].tgt.addr ia.xs[n].tgt.xs.length ia.xs[n].tgt.cap) := hc n hnl wr (Below.refl _ _) 4 _ rfl
              have d5 : wr.cell? ⟨b, off + n * 6 + 5, none⟩ = some (.int .i64 ia.xs[n].term) := hc n hnl wr (Below.refl _ _) 5 _ rfl
              have Hst := Lib.hid (long_take (k : Int) ia.xs hnl)
              have hbd := hin.out.2 _ (List.getElem_mem hnl)
              rw [hA]
              clear hA hc
              generalize ia.xs[n] = x at *
              obtain ⟨hb1, hb2, hb3, hb4⟩ := hbd
              have hwr : IntKind.i64.wrap (x.unt - x.frm) = x.unt - x.frm := IntWalk.i64_in _ (by omega)
              obtain ⟨w6, hw6⟩ : ∃ w6, wr.alloc (.cells #[.int .i64 x.cat, .int .i64 x.frm, .int .i64 x.unt, .int .i64 x.cost, .slice x.tgt.addr x.tgt.xs.length x.tgt.cap, .int .i64 x.term] 47) = w6 := ⟨_, rfl⟩
              have hb6 : Below wr.heap.size wr w6 := by rw [← hw6]; exact ext_alloc (Below.refl _ _) _
              have hx6 : w6.heap[wr.heap.size]? = some (.cells #[.int .i64 x.cat, .int .i64 x.frm, .int .i64 x.unt, .int .i64 x.cost, .slice x.tgt.addr x.tgt.xs.length x.tgt.cap, .int .i64 x.term] 47 (0, 0)) := by rw [← hw6]; exact World.alloc_heap_new _ _
              have e0 := gblk hx6 0
              have e1 := gblk hx6 1
              have e2 := gblk hx6 2
              have e3 := gblk hx6 3
              have e4 := gblk hx6 4
              have e5 := gblk hx6 5
              have hB6 := ext_trans hB hb6
              generalize longF k ((ia.xs.take n).map ItemG.c) = o at *
              clear hx6 hb1 hb2 hb3 hb4
              by_cases h1 : x.frm = (k : Int)
              · have g1 : (x.frm == (k : Int)) = true := by simp [h1]
                by_cases h2 : 0 ≤ x.term
                · have g2 : decide (0 ≤ x.term) = true := decide_eq_true h2
                  by_cases h3 : o.1 < x.unt - x.frm
                  · have g3 : decide (o.1 < x.unt - x.frm) = true := decide_eq_true h3
                    have HN : Hid (longF k ((ia.xs.take (n + 1)).map ItemG.c) = (x.unt - x.frm, x.term)) := by show _ = _; rw [Hst.out]; unfold longStep; rw [if_pos ⟨h1, h2, h3⟩]; rfl
                    clear h1 h2 h3
                    go_wp2_with fail
                    go_still (by kernel_rfl)
                    go_wp2
                    go_roundw
                    case rel => exact ⟨n + 1, by omega, by go_num, by rw [HN.out], by rw [HN.out], hB6.drew⟩
                    case measure => simp [intOf]; omega
                  · have g3 : decide (o.1 < x.unt - x.frm) = false := decide_eq_false h3
                    have HN : Hid (longF k ((ia.xs.take (n + 1)).map ItemG.c) = o) := by show _ = _; rw [Hst.out]; unfold longStep; rw [if_neg (fun h => h3 h.2.2)]
                    clear h1 h2 h3
                    go_wp2_with fail
                    go_roundw
                    case rel => exact ⟨n + 1, by omega, by go_num, by rw [HN.out], by rw [HN.out], hB6⟩
                    case measure => simp [intOf]; omega
                · have g2 : decide (0 ≤ x.term) = false := decide_eq_false h2
                  have HN : Hid (longF k ((ia.xs.take (n + 1)).map ItemG.c) = o) := by show _ = _; rw [Hst.out]; unfold longStep; rw [if_neg (fun h => h2 h.2.1)]
                  clear h1 h2
                  go_wp2_with fail
                  go_roundw
                  case rel => exact ⟨n + 1, by omega, by go_num, by rw [HN.out], by rw [HN.out], hB6⟩
                  case measure => simp [intOf]; omega
              · have g1 : (x.frm == (k : Int)) = false := by simp [h1]
                have HN : Hid (longF k ((ia.xs.take (n + 1)).map ItemG.c) = o) := by show _ = _; rw [Hst.out]; unfold longStep; rw [if_neg (fun h => h1 h.1)]
                clear h1
                go_wp2_with fail
                go_roundw
                case rel => exact ⟨n + 1, by omega, by go_num, by rw [HN.out], by rw [HN.out], hB6⟩
                case measure => simp [intOf]; omega
            · obtain rfl : n = ia.xs.length := by omega
              rw [List.take_length]
              have hlb := long_bound k ia.xs hin.out.2
              generalize longF k (ia.xs.map ItemG.c) = o at *
              obtain ⟨lo, ta⟩ := o
              have hB10 := ext_trans hB9 hB
              obtain ⟨wv, hwv⟩ : ∃ wv, wv = wr := ⟨_, rfl⟩
              subst hwv
              clear hnl hn hB hB9
              rcases HFA.out with ⟨rfl, rfl, hta⟩ | ⟨y, hy, rfl, rfl, hlo, htg⟩
              · change ta = -1 at hta
                subst hta
                clear HFA
                go_wp2_with fail
                go_loopw [151] (fun j wr => ∃ n : Nat, n ≤ l.length ∧ j = .int .i64 n ∧ Below wv.heap.size wv wr) (fun j _ => l.length - (intOf j).toNat)
                case atStart => exact ⟨0, Nat.zero_le _, rfl, Below.refl _ _⟩
                case round =>
                  obtain ⟨n, hn, rfl, hB⟩ := hrel
                  by_cases hnl : n < l.length
                  · obtain ⟨b, off, rfl, hb, hcl⟩ := HR.out.at_ hnl
                    obtain ⟨d0, d1, d2, d3, d4, d5, d6, d7⟩ := hcl n hnl wr (ext_trans hB8 (ext_trans hB10 hB))
                    clear hcl
                    generalize l[n] = z at *
                    go_wp2_with fail
                    go_roundw
                    case rel => exact ⟨n + 1, by omega, by go_num, ext_alloc hB _⟩
                    case measure => simp [intOf]; omega
                  · have hB11 := ext_trans hB10 hB
                    go_wp2_with fail
                    go_roundw
                    case rel => exact ⟨k + 1, by omega, by go_num, hB11⟩
                    case measure => simp [intOf]; omega
              · change lo ≤ y.src.xs.length at hlo
                change 0 ≤ idxF y.cat g.cats.xs → ta = y.no at htg
                have Hy := Lib.hid hy
                have Hlo := Lib.hid hlo
                have Htg := Lib.hid htg
                clear HFA hy hlo htg
                go_wp2_with fail
                go_loopw [151] (fun j wr => ∃ n : Nat, n ≤ l.length ∧ j = .int .i64 n ∧ Below wv.heap.size wv wr) (fun j _ => l.length - (intOf j).toNat)
                case atStart => exact ⟨0, Nat.zero_le _, rfl, Below.refl _ _⟩
                case round =>
                  obtain ⟨n, hn, rfl, hB⟩ := hrel
                  by_cases hnl : n < l.length
                  · obtain ⟨b, off, rfl, hb, hcl⟩ := HR.out.at_ hnl
                    obtain ⟨d0, d1, d2, d3, d4, d5, d6, d7⟩ := hcl n hnl wr (ext_trans hB8 (ext_trans hB10 hB))
                    have hzl := Lib.hid (List.getElem_mem hnl)
                    clear hcl
                    generalize l[n] = z at *
                    obtain ⟨w6, hw6⟩ : ∃ w6, wr.alloc (.cells #[.int .i64 z.no, .int .i64 z.at_, .int .i64 z.known, .int .i64 z.lang, .slice z.src.addr z.src.xs.length z.src.cap, .slice z.tgt.addr z.tgt.xs.length z.tgt.cap, .string z.cat, .bool z.gone] 66) = w6 := ⟨_, rfl⟩
                    have hb6 : Below wr.heap.size wr w6 := by rw [← hw6]; exact ext_alloc (Below.refl _ _) _
                    have hx6 : w6.heap[wr.heap.size]? = some (.cells #[.int .i64 z.no, .int .i64 z.at_, .int .i64 z.known, .int .i64 z.lang, .slice z.src.addr z.src.xs.length z.src.cap, .slice z.tgt.addr z.tgt.xs.length z.tgt.cap, .string z.cat, .bool z.gone] 66 (0, 0)) := by rw [← hw6]; exact World.alloc_heap_new _ _
                    have e0 := gblk hx6 0
                    have e1 := gblk hx6 1
                    have e2 := gblk hx6 2
                    have e3 := gblk hx6 3
                    have e4 := gblk hx6 4
                    have e5 := gblk hx6 5
                    have e6 := gblk hx6 6
                    have e7 := gblk hx6 7
                    have hB6 := ext_trans hB hb6
                    have hk6 := ((ext_trans hB10 hB6).block _ (lt_block Hk8.out)).trans Hk8.out
                    have c0 := gblk hk6 0
                    have c1 := gblk hk6 1
                    have c2 := gblk hk6 2
                    have c3 := gblk hk6 3
                    have c4 := gblk hk6 4
                    have c5 := gblk hk6 5
                    clear hx6 hk6
                    by_cases h1 : z.no = y.no
                    · have g1 : (z.no == y.no) = true := by simp [h1]
                      have hzy : z = y := no_one (standE_zero (tagsE_zero HZ.out).2.1).1 hzl.out Hy.out h1
                      have g2 : decide ((z.src.xs.length : Int) < lo) = false := by rw [hzy]; exact decide_eq_false (by have := Hlo.out; omega)
                      have cI := Lib.hid (FI.out z.cat w6 (ext_trans hB8 (ext_trans hB10 hB6)))
                      by_cases h2 : 0 ≤ idxF z.cat g.cats.xs
                      · have g3 : decide (0 ≤ idxF z.cat g.cats.xs) = true := decide_eq_true h2
                        have hta : ta = y.no := Htg.out (by rw [← hzy]; exact h2)
                        have g4 : (ta != y.no) = false := by simp [hta]
                        clear h1 h2 hzy hta
                        generalize idxF z.cat g.cats.xs = ix at *
                        go_wp2_with fail
                        refine cI.out.mono ?_
                        rintro e w11 ⟨rfl, rfl⟩
                        go_wp2_with fail
                        go_roundw
                        case rel => exact ⟨n + 1, by omega, by go_num, hB6⟩
                        case measure => simp [intOf]; omega
                      · have g3 : decide (0 ≤ idxF z.cat g.cats.xs) = false := decide_eq_false h2
                        clear h1 h2 hzy
                        generalize idxF z.cat g.cats.xs = ix at *
                        go_wp2_with fail
                        refine cI.out.mono ?_
                        rintro e w11 ⟨rfl, rfl⟩
                        go_wp2_with fail
                        go_roundw
                        case rel => exact ⟨n + 1, by omega, by go_num, hB6⟩
                        case measure => simp [intOf]; omega
                    · have g1 : (z.no == y.no) = false := by simp [h1]
                      clear h1
                      go_wp2_with fail
                      go_roundw
                      case rel => exact ⟨n + 1, by omega, by go_num, hB6⟩
                      case measure => simp [intOf]; omega
                  · have hB11 := ext_trans hB10 hB
                    go_wp2_with fail
                    go_roundw
                    case rel => exact ⟨k + 1, by omega, by go_num, hB11⟩
                    case measure => simp [intOf]; omega
        · have cC := Lib.hid (FC.out A9 c9 M wr (by omega) (HC8.out.ext hB))
          have h0 : checkT M = 0 := (standE_zero (tagsE_zero HzM.out).2.1).1
          rw [h0] at cC
          clear h0
          go_wp2_with fail
          refine cC.out.mono ?_
          rintro e w11 ⟨rfl, hb11⟩
          have hBf := ext_trans hBq hb11
          clear cC
          go_wp2_with fail
          go_ret
          exact ⟨rfl, hBf⟩
end Go.Proofs.YthojaplnimoacaaGreatDoor
