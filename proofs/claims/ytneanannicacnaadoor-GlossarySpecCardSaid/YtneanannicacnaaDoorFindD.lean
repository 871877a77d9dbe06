/- Package glossary: Find. -/
import Derived.Test.YtneanannicacnaaDoorFindC
import Derived.RangeFuncBox
import Derived.Shelf.RegionOpen
import Derived.BigRegion
namespace Go.Proofs.YtneanannicacnaaDoor
open Go.RowKit Go.Han
attribute [local irreducible] wpStill wpQuiet
attribute [local go_sem] Oper.semAt_some
set_option maxRecDepth 100000

theorem leavesM_ret0 {P : Program} {fn : Func} {tmps : Array Value} {R : Ending → World → Prop} {W : World} {v : Value} (hres : (results fn tmps).run P W = .ok v W) (hR : R (.returned v) W) :
    LeavesInM Fence.wide 0 P fn tmps R [] .returning W := ⟨v, hres, hR⟩
theorem set2_cells {W : World} {n T1 T2 : Nat} {a b : Value} (h0 : W.heap[n]? = some (.cells #[a] T1 (0, 0))) (h1 : W.heap[n + 1]? = some (.cells #[b] T2 (0, 0))) (v0 v1 : Value) :
    ((W.setCell ⟨n, 0, none⟩ v0).setCell ⟨n + 1, 0, none⟩ v1).cell? ⟨n, 0, none⟩ = some v0 ∧ ((W.setCell ⟨n, 0, none⟩ v0).setCell ⟨n + 1, 0, none⟩ v1).cell? ⟨n + 1, 0, none⟩ = some v1 := by
  have e0 : ((W.setCell ⟨n, 0, none⟩ v0).setCell ⟨n + 1, 0, none⟩ v1).heap[n]? = some (.cells #[v0] T1 (0, 0)) := (Below.heap_setCell _ _ _ _ (by show n ≠ n + 1; omega)).trans (set_one h0 v0)
  have e1 : ((W.setCell ⟨n, 0, none⟩ v0).setCell ⟨n + 1, 0, none⟩ v1).heap[n + 1]? = some (.cells #[v1] T2 (0, 0)) := set_one ((Below.heap_setCell _ _ _ _ (by show n + 1 ≠ n; omega)).trans h1) v1
  exact ⟨cell_one e0, cell_one e1⟩
theorem below_set2 {w W : World} (h : Below w.heap.size w W) (v0 v1 : Value) : Below w.heap.size w ((W.setCell ⟨w.heap.size, 0, none⟩ v0).setCell ⟨w.heap.size + 1, 0, none⟩ v1) :=
  (h.setCell (p := ⟨w.heap.size, 0, none⟩) (by simp) _).setCell (p := ⟨w.heap.size + 1, 0, none⟩) (by simp) _
def bestL (ys : List Term) : Option Term := ys.foldl (fun o x => if betterB o x = true then some x else o) none
theorem bestF_L (ws : List ByteArray) : ∀ (S : List Term) (o : Option Term), S.foldl (bestStep ws) o = (startL S ws).foldl (fun o x => if betterB o x = true then some x else o) o
  | [], _ => rfl
  | x :: S, o => by
    unfold startL
    rw [List.foldl_cons, List.filter_cons]
    by_cases h : startB x ws = true
    · rw [if_pos h, List.foldl_cons, bestF_L ws S]
      unfold bestStep startL
      rw [h, Bool.true_and]
    · rw [if_neg h, bestF_L ws S]
      unfold bestStep startL
      rw [Bool.eq_false_iff.2 h]; rfl
theorem bestL_snoc (ys : List Term) (x : Term) : bestL (ys ++ [x]) = if betterB (bestL ys) x = true then some x else bestL ys := by
  unfold bestL; rw [List.foldl_append]; rfl
def noOf : Option Term → Int | none => 0 | some x => x.no
def lenOf : Option Term → Int | none => 0 | some x => x.src.xs.length
theorem better_len {o : Option Term} {x : Term} (h : 1 ≤ x.src.xs.length) : betterB o x = decide (lenOf o < (x.src.xs.length : Int)) := by
  cases o with
  | none => show true = _; rw [decide_eq_true]; show (0 : Int) < _; omega
  | some b => show decide _ = _; exact decide_eq_decide.2 ⟨fun h => by show (b.src.xs.length : Int) < _; omega, fun h => by change (b.src.xs.length : Int) < _ at h; omega⟩
structure FindInv (n0 nl : Nat) (w : World) (own : Nat → Prop) (pre : List Term) (W : World) : Prop where
  own_iff : ∀ k, own k ↔ (k = n0 ∨ k = n0 + 1 ∨ k = nl)
  no : W.heap[n0]? = some (.cells #[.int .i64 (noOf (bestL pre))] 3 (0, 0))
  ok : W.heap[n0 + 1]? = some (.cells #[.bool (bestL pre).isSome] 4 (0, 0))
  long : W.heap[nl]? = some (.cells #[.int .i64 (lenOf (bestL pre))] 3 (0, 0))
  below : Below w.heap.size w W
theorem find_stable (n0 nl : Nat) (w : World) (B : Nat) (M : Nat → Prop) (hB : w.heap.size ≤ B) (hM : ∀ k, ¬ M k) : Stable B M (FindInv n0 nl w) := by
  rintro own pre W W' h st
  refine ⟨h.own_iff, (st.block _ (lt_block h.no) (.inr ((h.own_iff _).2 (.inl rfl)))).trans h.no, (st.block _ (lt_block h.ok) (.inr ((h.own_iff _).2 (.inr (.inl rfl))))).trans h.ok, (st.block _ (lt_block h.long) (.inr ((h.own_iff _).2 (.inr (.inr rfl))))).trans h.long, ?_⟩
  exact ⟨st.os.trans h.below.os, st.tape.trans h.below.tape, st.output.trans h.below.output, Nat.le_trans h.below.size st.size, fun i hi => (st.block i (Nat.lt_of_lt_of_le hi h.below.size) (.inl ⟨by omega, hM i⟩)).trans (h.below.block i hi)⟩
def FindAsg (n0 nl : Nat) (w : World) (tm : Value → Value → Array Value) (x : Term) (a' : Act) (own : Nat → Prop) (pre : List Term) (W : World) : Prop :=
  ∃ (b : Nat) (own1 : Nat → Prop), a' = { tmps := tm (.pointer (some ⟨b, 0, none⟩)) (.agg #[.int .i64 x.no, .int .i64 x.at_, .int .i64 x.known, .int .i64 x.lang, .slice x.src.addr x.src.xs.length x.src.cap, .slice x.tgt.addr x.tgt.xs.length x.tgt.cap, .string x.cat, .bool x.gone]), defers := [] } ∧ (∀ k, own k ↔ own1 k ∨ k = b) ∧ W.heap[b]? = some (.cells x.cells.toArray 51 (0, 0)) ∧ FindInv n0 nl w own1 pre W
theorem lies_low {w W : World} {s : StrS} (h : s.lies w) (hsz : w.heap.size ≤ W.heap.size) (hk : ∀ k, k < w.heap.size → W.heap[k]? = w.heap[k]?) : s.lies W := by
  refine ⟨?_, h.cap, h.max, h.nil⟩
  rcases h.rd with h0 | ⟨b, off, he, hb, hc⟩
  · exact .inl h0
  · exact .inr ⟨b, off, he, by omega, fun j u hu => (World.cell?_of_block (w := w) (a := ⟨b, off + j, none⟩) (hk b hb)).trans (hc j u hu)⟩
theorem one_cell_none {w : World} {b t o : Nat} {v : Value} (h : w.heap[b]? = some (.cells #[v] t (0, 0))) : w.cell? ⟨b, o + 1, none⟩ = none := by
  rw [gblk h]; simp
set_option maxHeartbeats 4000000 in
theorem Find_any (A : Option Addr) (cp : Nat) (l : List Term) (lang : Int) (s : StrS) (i t u : Int) (w : World) (hU : Tabs w) (hr : TermsAt w A l) (hs : s.lies w) (hm : l.length ≤ 9223372036854775807) :
    Calls Tryd.prog 39 #[.slice A l.length cp, .int .i64 lang, .slice s.addr s.xs.length s.cap, .int .i64 i, .int .i64 t, .int .i64 u] w fun e w' => e = .returned (findV l lang s.xs i t u) ∧ Below w.heap.size w w' := by
  have HV : Hid (findV l lang s.xs i t u = if findE l lang s.xs.length i t u ≠ 0 then .tuple #[.int .i64 0, .bool false, .int .i64 (findE l lang s.xs.length i t u)] else foundV (bestF (standT l lang t u) (s.xs.drop i.toNat))) := rfl
  have HE : Hid (findE l lang s.xs.length i t u = if standE l lang t u ≠ 0 then standE l lang t u else if i < 0 ∨ (s.xs.length : Int) < i then 1 else 0) := rfl
  have hcap := hs.cap
  have hmax := hs.max
  obtain ⟨W1, hW1⟩ : ∃ W1, (w.alloc (.cells #[.int .i64 0] 3)).alloc (.cells #[.bool false] 4) = W1 := ⟨_, rfl⟩
  have hB1 : Below w.heap.size w W1 := by rw [← hW1]; exact ext_alloc (ext_alloc (Below.refl _ _) _) _
  have hz1 : W1.heap.size = w.heap.size + 2 := by rw [← hW1]; simp
  have k0 : W1.heap[w.heap.size]? = some (.cells #[.int .i64 0] 3 (0, 0)) := by rw [← hW1]; exact (Below.heap_alloc _ _ _ (by simp)).trans (World.alloc_heap_new _ _)
  have k1 : W1.heap[w.heap.size + 1]? = some (.cells #[.bool false] 4 (0, 0)) := by rw [← hW1]; exact galloc_at _ _ _ (by simp)
  have Hs := Lib.hid hs
  have Hr := Lib.hid hr
  have cS := Lib.hid (Standing_any A cp l lang t u W1 (utf_ext hU hB1) (hr.ext hB1) hm)
  clear hs hr hU
  refine calls_of_wpAt Tryd.func39 rfl ?_
  simp only [Tryd.ntmps39, List.size_toArray, List.length_cons, List.length_nil, Nat.reduceAdd, Nat.reduceSub, Array.replicate_succ, Array.replicate_zero, List.push_toArray, List.append_toArray, List.nil_append, List.cons_append]
  refine wpAt_seq_wp fun K1 hK1 => ?_
  go_wp2
  refine wpAt_seq_wp fun K2 hK2 => ?_
  go_wp2_with fail
  refine cS.out.mono ?_
  rintro e W2 ⟨hB2, h⟩
  have hB02 := ext_trans hB1 hB2
  have c0 := cell_one ((hB2.block _ (lt_block k0)).trans k0)
  have c1 := cell_one ((hB2.block _ (lt_block k1)).trans k1)
  have f0 := frozen_one ((hB2.block _ (lt_block k0)).trans k0) 0
  have f1 := frozen_one ((hB2.block _ (lt_block k1)).trans k1) 0
  rcases h with ⟨hne, rfl⟩ | ⟨hz, B, c2, rfl, hS, hN⟩
  · have HF : Hid (findV l lang s.xs i t u = .tuple #[.int .i64 0, .bool false, .int .i64 (standE l lang t u)]) := by
      show _ = _
      have h1 : findE l lang s.xs.length i t u = standE l lang t u := by rw [HE.out, if_pos hne]
      rw [HV.out, h1, if_pos hne]
    have n1 : (standE l lang t u == 0) = false := by simpa using hne
    have n2 : (standE l lang t u != 0) = true := by simpa using hne
    clear hne
    go_wp2
    refine wpAt_seq_wp fun K3 hK3 => ?_
    go_wp2
    refine leavesM_ret0 (v := .tuple #[.int .i64 0, .bool false, .int .i64 (standE l lang t u)]) ?_ ⟨by rw [HF.out], below_set2 hB02 _ _⟩
    obtain ⟨g0, g1⟩ := set2_cells ((hB2.block _ (lt_block k0)).trans k0) ((hB2.block _ (lt_block k1)).trans k1) (.int .i64 0) (.bool false)
    simp [results, Tryd.results39, go_sem, g0, g1]
  have HE2 : Hid (findE l lang s.xs.length i t u = if i < 0 ∨ (s.xs.length : Int) < i then 1 else 0) := by show _ = _; rw [HE.out, if_neg (by simpa using hz)]
  clear HE
  have Hz := Lib.hid hz
  clear hz
  by_cases h0 : i < 0
  · have HF : Hid (findV l lang s.xs i t u = .tuple #[.int .i64 0, .bool false, .int .i64 1]) := by
      show _ = _
      have h1 : findE l lang s.xs.length i t u = 1 := by rw [HE2.out, if_pos (.inl h0)]
      rw [HV.out, h1]; rfl
    have g1 : decide (i < 0) = true := decide_eq_true h0
    go_wp2
    refine wpAt_seq_wp fun K3 hK3 => ?_
    go_wp2
    refine wpAt_seq_wp fun K4 hK4 => ?_
    go_wp2
    refine leavesM_ret0 (v := .tuple #[.int .i64 0, .bool false, .int .i64 (1)]) ?_ ⟨by rw [HF.out], below_set2 hB02 _ _⟩
    obtain ⟨g0, g1⟩ := set2_cells ((hB2.block _ (lt_block k0)).trans k0) ((hB2.block _ (lt_block k1)).trans k1) (.int .i64 0) (.bool false)
    simp [results, Tryd.results39, go_sem, g0, g1]
  have g1 : decide (i < 0) = false := decide_eq_false h0
  by_cases h2 : (s.xs.length : Int) < i
  · have HF : Hid (findV l lang s.xs i t u = .tuple #[.int .i64 0, .bool false, .int .i64 1]) := by
      show _ = _
      have h1 : findE l lang s.xs.length i t u = 1 := by rw [HE2.out, if_pos (.inr h2)]
      rw [HV.out, h1]; rfl
    have g2 : decide (i > (s.xs.length : Int)) = true := decide_eq_true h2
    go_wp2
    refine wpAt_seq_wp fun K3 hK3 => ?_
    go_wp2
    refine wpAt_seq_wp fun K4 hK4 => ?_
    go_wp2
    refine leavesM_ret0 (v := .tuple #[.int .i64 0, .bool false, .int .i64 (1)]) ?_ ⟨by rw [HF.out], below_set2 hB02 _ _⟩
    obtain ⟨g0, g1⟩ := set2_cells ((hB2.block _ (lt_block k0)).trans k0) ((hB2.block _ (lt_block k1)).trans k1) (.int .i64 0) (.bool false)
    simp [results, Tryd.results39, go_sem, g0, g1]
  have g2 : decide (i > (s.xs.length : Int)) = false := decide_eq_false h2
  have HF : Hid (findV l lang s.xs i t u = foundV (bestF (standT l lang t u) (s.xs.drop i.toNat))) := by
    show _ = _
    have h1 : findE l lang s.xs.length i t u = 0 := by rw [HE2.out, if_neg (by omega)]
    rw [HV.out, h1]; rfl
  obtain ⟨m, rfl⟩ : ∃ m : Nat, i = m := ⟨i.toNat, by omega⟩
  have hml : m ≤ s.xs.length := by omega
  have g3 : decide (s.xs.length < m) = false := decide_eq_false (by omega)
  have g4 : ¬ s.xs.length < m := by omega
  have hmi : ((m : Int)).toNat = m := by omega
  rw [hmi] at HF
  have hfrom : ∀ W : World, _ := fun W => run_from s m W hml
  clear HE2 HV h0 h2 hmi
  obtain ⟨W3, hW3⟩ : ∃ W3, W2.alloc (.cells #[.int .i64 0] 3) = W3 := ⟨_, rfl⟩
  have hB3 : Below W2.heap.size W2 W3 := by rw [← hW3]; exact ext_alloc (Below.refl _ _) _
  have hz3 : W3.heap.size = W2.heap.size + 1 := by rw [← hW3]; simp
  have k2 : W3.heap[W2.heap.size]? = some (.cells #[.int .i64 0] 3 (0, 0)) := by rw [← hW3]; exact World.alloc_heap_new _ _
  have c3 := cell_one k2
  have f3 := frozen_one k2 0
  go_wp2
  refine wpAt_seq_wp fun K3 hK3 => ?_
  go_wp2
  refine wpAt_seq_wp fun K4 hK4 => ?_
  go_wp2
  refine wpAt_seq_wp fun K5 hK5 => ?_
  go_wp2
  obtain ⟨W4, hW4⟩ : ∃ W4, W3.setCell ⟨W2.heap.size, 0, none⟩ (.int .i64 0) = W4 := ⟨_, rfl⟩
  have k4 : W4.heap[W2.heap.size]? = some (.cells #[.int .i64 0] 3 (0, 0)) := by rw [← hW4]; exact set_one k2 _
  have hB4 : Below W2.heap.size W2 W4 := by rw [← hW4]; exact hB3.setCell (p := ⟨W2.heap.size, 0, none⟩) (by simp) _
  have hz4 : W4.heap.size = W2.heap.size + 1 := by rw [← hW4]; simp [World.setCell, hz3]
  rw [hW4]
  clear hW4 hW3 hB3 k2 c3 f3 hz3
  obtain ⟨S, hSd⟩ : ∃ S, standT l lang t u = S := ⟨_, rfl⟩
  have hSl : ∀ x ∈ S, x ∈ l := by rw [← hSd]; exact fun x hx => (List.mem_filter.1 hx).1
  have hck : checkT l = 0 := by
    have h := Hz.out
    unfold standE at h
    by_cases hc : checkT l = 0
    · exact hc
    · rw [if_pos hc] at h; exact absurd h hc
  obtain ⟨hl1, hoks, _⟩ := checkT_zero hck
  have hSm : S.length ≤ 1000000 := by rw [← hSd]; exact Nat.le_trans (List.length_filter_le _ _) (by omega)
  have h1s : ∀ x ∈ S, 1 ≤ x.src.xs.length := fun x hx => (ok_src (hoks x (hSl x hx))).1
  rw [hSd] at HF hS ⊢
  clear hck hoks hN hSd
  refine wpAt_seq ?_
  refine wpAt_seq_wp fun K7 hK7 => ?_
  go_wp2_with fail
  refine (starting_any _ _ _ _ _ _ _).mono ?_
  rintro e w' ⟨rfl, rfl⟩
  go_wp2
  refine wpAt_block ?_
  obtain ⟨W6, hW6⟩ : ∃ W6, (W4.alloc (.cells #[.slice B S.length c2] 48)).alloc (.cells #[.slice (s.sub m (s.xs.length - m)).addr (s.xs.length - m) (s.sub m (s.xs.length - m)).cap] 49) = W6 := ⟨_, rfl⟩
  have hB6 : Below W4.heap.size W4 W6 := by rw [← hW6]; exact ext_alloc (ext_alloc (Below.refl _ _) _) _
  have hz6 : W6.heap.size = W2.heap.size + 3 := by rw [← hW6]; simp [hz4]
  have q1 : W6.heap[W2.heap.size + 1]? = some (.cells #[.slice B S.length c2] 48 (0, 0)) := by
    rw [← hW6, ← hz4]; exact (Below.heap_alloc _ _ _ (by simp)).trans (World.alloc_heap_new _ _)
  have q2 : W6.heap[W2.heap.size + 1 + 1]? = some (.cells #[.slice (s.sub m (s.xs.length - m)).addr (s.xs.length - m) (s.sub m (s.xs.length - m)).cap] 49 (0, 0)) := by
    rw [← hW6, ← hz4]; exact galloc_at _ _ _ (by simp)
  rw [hW6]
  clear hW6
  have hsub : m + (s.xs.length - m) ≤ s.xs.length := by omega
  have hL := StrS.sub_len hsub
  have hB26 := ext_trans hB4 hB6
  have p0 := (hB2.block _ (lt_block k0)).trans k0
  have p1 := (hB2.block _ (lt_block k1)).trans k1
  have k06 := (hB26.block _ (lt_block p0)).trans p0
  have k16 := (hB26.block _ (lt_block p1)).trans p1
  have k46 := (hB6.block _ (lt_block k4)).trans k4
  have hn2 : w.heap.size + 2 ≤ W2.heap.size := by have := hB2.size; omega
  have hB06 := ext_trans hB02 hB26
  have hK : ∀ W : World, (∀ k, (k < W6.heap.size ∧ k ≠ w.heap.size ∧ k ≠ w.heap.size + 1 ∧ k ≠ W2.heap.size) → W.heap[k]? = W6.heap[k]?) → W.heap[W2.heap.size + 1]? = some (.cells #[.slice B S.length c2] 48 (0, 0)) ∧ W.heap[W2.heap.size + 1 + 1]? = some (.cells #[.slice (s.sub m (s.xs.length - m)).addr (s.sub m (s.xs.length - m)).xs.length (s.sub m (s.xs.length - m)).cap] 49 (0, 0)) ∧ TermsAt W B S ∧ (s.sub m (s.xs.length - m)).lies W := by
    intro W hW
    have r1 := (hW (W2.heap.size + 1) ⟨by omega, by omega, by omega, by omega⟩).trans q1
    have r2 := (hW (W2.heap.size + 1 + 1) ⟨by omega, by omega, by omega, by omega⟩).trans q2
    have hlow : ∀ k, k < w.heap.size → W.heap[k]? = w.heap[k]? := fun k hk => (hW k ⟨by have := hB06.size; omega, by omega, by omega, by omega⟩).trans (hB06.block k hk)
    have hszW : w.heap.size ≤ W.heap.size := by have := lt_block r2; omega
    refine ⟨r1, by rw [hL]; exact r2, ⟨?_, fun x hx => ?_⟩, lies_low (StrS.sub_lies Hs.out hsub) hszW hlow⟩
    · rcases hS.rd with h0 | ⟨b, off, he, hb, hc⟩
      · exact .inl h0
      · by_cases hne : S = []
        · exact .inl (by rw [hne]; rfl)
        · obtain ⟨x, S', rfl⟩ : ∃ x S', S = x :: S' := by
            cases S with
            | nil => exact absurd rfl hne
            | cons x S' => exact ⟨x, S', rfl⟩
          have hc1 : W2.cell? ⟨b, off + 1, none⟩ = some (.int .i64 x.at_) := hc 1 _ rfl
          have hb0 : b ≠ w.heap.size := by rintro rfl; rw [one_cell_none p0] at hc1; cases hc1
          have hb1 : b ≠ w.heap.size + 1 := by rintro rfl; rw [one_cell_none p1] at hc1; cases hc1
          have hbk : W.heap[b]? = W2.heap[b]? := (hW b ⟨by omega, hb0, hb1, by omega⟩).trans (hB26.block b hb)
          exact .inr ⟨b, off, he, by have := lt_block r2; omega, fun j u hu => (World.cell?_of_block (w := W2) (a := ⟨b, off + j, none⟩) hbk).trans (hc j u hu)⟩
    · have h := Hr.out.lie x (hSl x hx)
      exact ⟨lies_low h.1 hszW hlow, lies_low h.2 hszW hlow⟩
  have hit := starting1 (W2.heap.size + 1) (W2.heap.size + 1 + 1) B c2 S (s.sub m (s.xs.length - m)) (fun k => k < W6.heap.size ∧ k ≠ w.heap.size ∧ k ≠ w.heap.size + 1 ∧ k ≠ W2.heap.size) W6 hK hSm
  have hsx : (s.sub m (s.xs.length - m)).xs = s.xs.drop m := by
    show (s.xs.drop m).take (s.xs.length - m) = _
    exact List.take_of_length_le (by simp)
  rw [hsx] at hit
  have HBF : Hid (bestF S (s.xs.drop m) = bestL (startL S (s.xs.drop m))) := bestF_L _ _ _
  clear hK hL hsx q1 q2 hfrom
  refine wp_rangeP (xs := startL S (s.xs.drop m)) (pe := none) (R := fun k => k < W6.heap.size ∧ k ≠ w.heap.size ∧ k ≠ w.heap.size + 1 ∧ k ≠ W2.heap.size) (M := fun _ => False) (w0 := W6) Tryd.func39 rfl
    (enters_of Tryd.func103 (by kernel_rfl) rfl) hit (fun k hk => ⟨hk.1, rfl⟩) (fun _ => rfl)
    (FindInv w.heap.size W2.heap.size w) (fun _ _ _ _ => False) (fun _ _ => False)
    (find_stable _ _ _ _ _ (by omega) (fun _ h => h)) (fun _ _ _ _ _ h _ => h) (fun k => k = w.heap.size ∨ k = w.heap.size + 1 ∨ k = W2.heap.size) ?_ ?_
    (FindAsg w.heap.size W2.heap.size w (fun p v => #[.slice A l.length cp, .int .i64 lang, .slice s.addr s.xs.length s.cap, .int .i64 m, .int .i64 t, .int .i64 u, undef, undef, undef, undef, undef, undef, .pointer (some ⟨w.heap.size, 0, none⟩), .pointer (some ⟨w.heap.size + 1, 0, none⟩), .int .i64 0, .slice B S.length c2, .pointer (some ⟨W2.heap.size, 0, none⟩), p, .tuple #[.slice B S.length c2, .int .i64 0], .slice A l.length cp, .int .i64 lang, .int .i64 t, .int .i64 u, .tuple #[.slice B S.length c2, .int .i64 0], .slice B S.length c2, .int .i64 0, .int .i64 0, .bool false, undef, .int .i64 m, .bool false, .bool false, .int .i64 m, .slice s.addr s.xs.length s.cap, .int .i64 s.xs.length, .bool false, .bool false, .slice B S.length c2, .slice s.addr s.xs.length s.cap, .int .i64 m, .slice (s.sub m (s.xs.length - m)).addr (s.xs.length - m) (s.sub m (s.xs.length - m)).cap, .func (.func 103) #[] #[.pointer (some ⟨W2.heap.size + 1, 0, none⟩), .pointer (some ⟨W2.heap.size + 1 + 1, 0, none⟩)], v, undef, undef, undef, undef, undef, undef, undef, undef, undef, undef, undef, undef])) ?_ ?_ ?_ ?_ ?_ ?_ ?_
  · rintro k (rfl | rfl | rfl)
    · exact ⟨by omega, fun h => h.2.1 rfl⟩
    · exact ⟨by omega, fun h => h.2.2.1 rfl⟩
    · exact ⟨by omega, fun h => h.2.2.2 rfl⟩
  · exact ⟨fun k => Iff.rfl, k06, k16, k46, hB06⟩
  · rintro x a' own pre W W' ⟨b, own1, ha, ho, hb, hI⟩ st
    exact ⟨b, own1, ha, ho, (st.block b (lt_block hb) (.inr ((ho b).2 (.inr rfl)))).trans hb, find_stable _ _ _ _ _ (by omega) (fun _ h => h) own1 pre W W' hI ⟨st.os, st.tape, st.output, st.size, fun k hk h => st.block k hk (h.imp id (fun h => (ho k).2 (.inl h)))⟩⟩
  · rintro l1 own pre x W hI hl1 hl2 ho hpre
    refine wpIn_mono (Q := Exit.then (fun a' W' => ∃ own', BodyStep own own' W W' ∧ FindAsg w.heap.size W2.heap.size w (fun p v => #[.slice A l.length cp, .int .i64 lang, .slice s.addr s.xs.length s.cap, .int .i64 m, .int .i64 t, .int .i64 u, undef, undef, undef, undef, undef, undef, .pointer (some ⟨w.heap.size, 0, none⟩), .pointer (some ⟨w.heap.size + 1, 0, none⟩), .int .i64 0, .slice B S.length c2, .pointer (some ⟨W2.heap.size, 0, none⟩), p, .tuple #[.slice B S.length c2, .int .i64 0], .slice A l.length cp, .int .i64 lang, .int .i64 t, .int .i64 u, .tuple #[.slice B S.length c2, .int .i64 0], .slice B S.length c2, .int .i64 0, .int .i64 0, .bool false, undef, .int .i64 m, .bool false, .bool false, .int .i64 m, .slice s.addr s.xs.length s.cap, .int .i64 s.xs.length, .bool false, .bool false, .slice B S.length c2, .slice s.addr s.xs.length s.cap, .int .i64 m, .slice (s.sub m (s.xs.length - m)).addr (s.xs.length - m) (s.sub m (s.xs.length - m)).cap, .func (.func 103) #[] #[.pointer (some ⟨W2.heap.size + 1, 0, none⟩), .pointer (some ⟨W2.heap.size + 1 + 1, 0, none⟩)], v, undef, undef, undef, undef, undef, undef, undef, undef, undef, undef, undef, undef]) x a' own' pre W') (fun _ _ _ => False)) ?_ (fun e a w h => h)
    have hlv : ∀ k, own k → k < W.heap.size := fun k hk => (ho k hk).2.1
    gi_wp2
    refine ⟨fun k => own k ∨ k = W.heap.size, BodyStep.turn ((BodyStep.refl hlv).alloc _) ?_ ?_, W.heap.size, own, rfl, fun k => Iff.rfl, World.alloc_heap_new _ _, ?_⟩
    · rintro k (h | h)
      · exact .inl h
      · exact .inr (by omega)
    · rintro k (h | h)
      · have := hlv k h; simp; omega
      · simp; omega
    · exact find_stable _ _ _ W6.heap.size (fun _ => False) (by omega) (fun _ h => h) own pre W _ hI ((IterStep.refl _ _ _ _).alloc _)
  · rintro l1 own pre x a' W ⟨b, own1, rfl, hoi, hb, h⟩ hl1 hl2 ho hpre
    have hlv : ∀ k, own k → k < W.heap.size := fun k hk => (ho k hk).2.1
    have hlv1 : ∀ k, own1 k → k < W.heap.size := fun k hk => hlv k ((hoi k).2 (.inl hk))
    have hxS : x ∈ S := (List.mem_filter.1 (hpre.subset (by simp))).1
    have hx1 := h1s x hxS
    have hbt := better_len (o := bestL pre) hx1
    have hsn := bestL_snoc pre x
    have d0 : W.cell? ⟨b, 0, none⟩ = some (.int .i64 x.no) := gblk hb 0
    have d4 : W.cell? ⟨b, 4, none⟩ = some (.slice x.src.addr x.src.xs.length x.src.cap) := gblk hb 4
    have d1 : W.cell? ⟨b, 0 + 1, none⟩ = some (.int .i64 x.at_) := gblk hb 1
    have hb0 : b ≠ w.heap.size := by rintro rfl; rw [one_cell_none h.no] at d1; cases d1
    have hb1 : b ≠ w.heap.size + 1 := by rintro rfl; rw [one_cell_none h.ok] at d1; cases d1
    have hb2 : b ≠ W2.heap.size := by rintro rfl; rw [one_cell_none h.long] at d1; cases d1
    have cl := cell_one h.long
    have cn := cell_one h.no
    have ck := cell_one h.ok
    have fl := frozen_one h.long 0
    have fn := frozen_one h.no 0
    have fk := frozen_one h.ok 0
    have hst1 : BodyStep own own1 W W := BodyStep.turn (BodyStep.refl hlv) (fun k hk => .inl ((hoi k).2 (.inl hk))) hlv1
    have Hst1 := Lib.hid hst1
    have Hh := Lib.hid h
    cases hq : betterB (bestL pre) x
    · rw [hq] at hbt hsn
      have hlt : ¬ lenOf (bestL pre) < (x.src.xs.length : Int) := of_decide_eq_false hbt.symm
      have hlt2 : decide ((x.src.xs.length : Int) > lenOf (bestL pre)) = false := hbt.symm
      have HN : Hid (FindInv w.heap.size W2.heap.size w own1 (pre ++ [x]) W) := by
        have e : bestL (pre ++ [x]) = bestL pre := by rw [hsn]; rfl
        exact ⟨h.own_iff, by rw [e]; exact h.no, by rw [e]; exact h.ok, by rw [e]; exact h.long, h.below⟩
      clear h hbt hsn hq
      generalize lenOf (bestL pre) = L at *
      gi_wp2
      exact ⟨own1, Hst1.out, HN.out⟩
    · rw [hq] at hbt hsn
      have hlt : lenOf (bestL pre) < (x.src.xs.length : Int) := of_decide_eq_true hbt.symm
      have hlt2 : decide ((x.src.xs.length : Int) > lenOf (bestL pre)) = true := hbt.symm
      have HN : Hid (bestL (pre ++ [x]) = some x) := by show _ = _; rw [hsn]; rfl
      have hfin : Hid (BodyStep own own1 W (((W.setCell ⟨w.heap.size, 0, none⟩ (.int .i64 x.no)).setCell ⟨w.heap.size + 1, 0, none⟩ (.bool true)).setCell ⟨W2.heap.size, 0, none⟩ (.int .i64 x.src.xs.length)).drew ∧
          (((W.setCell ⟨w.heap.size, 0, none⟩ (.int .i64 x.no)).setCell ⟨w.heap.size + 1, 0, none⟩ (.bool true)).setCell ⟨W2.heap.size, 0, none⟩ (.int .i64 x.src.xs.length)).drew.heap[w.heap.size]? = some (.cells #[.int .i64 (noOf (some x))] 3 (0, 0)) ∧
          (((W.setCell ⟨w.heap.size, 0, none⟩ (.int .i64 x.no)).setCell ⟨w.heap.size + 1, 0, none⟩ (.bool true)).setCell ⟨W2.heap.size, 0, none⟩ (.int .i64 x.src.xs.length)).drew.heap[w.heap.size + 1]? = some (.cells #[.bool (some x).isSome] 4 (0, 0)) ∧
          (((W.setCell ⟨w.heap.size, 0, none⟩ (.int .i64 x.no)).setCell ⟨w.heap.size + 1, 0, none⟩ (.bool true)).setCell ⟨W2.heap.size, 0, none⟩ (.int .i64 x.src.xs.length)).drew.heap[W2.heap.size]? = some (.cells #[.int .i64 (lenOf (some x))] 3 (0, 0)) ∧
          Below w.heap.size w (((W.setCell ⟨w.heap.size, 0, none⟩ (.int .i64 x.no)).setCell ⟨w.heap.size + 1, 0, none⟩ (.bool true)).setCell ⟨W2.heap.size, 0, none⟩ (.int .i64 x.src.xs.length)).drew) := by
        have o0 : own w.heap.size := (hoi _).2 (.inl ((h.own_iff _).2 (.inl rfl)))
        have o1 : own (w.heap.size + 1) := (hoi _).2 (.inl ((h.own_iff _).2 (.inr (.inl rfl))))
        have o2 : own W2.heap.size := (hoi _).2 (.inl ((h.own_iff _).2 (.inr (.inr rfl))))
        refine ⟨?_, ?_, ?_, ?_, ?_⟩
        · have s3 := (((BodyStep.refl hlv).setCell (p := ⟨w.heap.size, 0, none⟩) (.inl o0) (.int .i64 x.no)).setCell (p := ⟨w.heap.size + 1, 0, none⟩) (.inl o1) (.bool true)).setCell (p := ⟨W2.heap.size, 0, none⟩) (.inl o2) (.int .i64 x.src.xs.length)
          have s4 := BodyStep.turn s3 (own' := own1) (fun k hk => .inl ((hoi k).2 (.inl hk))) (fun k hk => by have := hlv1 k hk; have := s3.size; omega)
          exact ⟨s4.os, s4.tape, s4.output, s4.size, s4.block, s4.owns, s4.live⟩
        · exact (Below.heap_setCell _ _ _ _ (by show w.heap.size ≠ W2.heap.size; omega)).trans ((Below.heap_setCell _ _ _ _ (by show w.heap.size ≠ w.heap.size + 1; omega)).trans (set_one h.no _))
        · exact (Below.heap_setCell _ _ _ _ (by show w.heap.size + 1 ≠ W2.heap.size; omega)).trans (set_one ((Below.heap_setCell _ _ _ _ (by show w.heap.size + 1 ≠ w.heap.size; omega)).trans h.ok) _)
        · exact set_one ((Below.heap_setCell _ _ _ _ (by show W2.heap.size ≠ w.heap.size + 1; omega)).trans ((Below.heap_setCell _ _ _ _ (by show W2.heap.size ≠ w.heap.size; omega)).trans h.long)) _
        · exact (((h.below.setCell (p := ⟨w.heap.size, 0, none⟩) (by simp) _).setCell (p := ⟨w.heap.size + 1, 0, none⟩) (by simp) _).setCell (p := ⟨W2.heap.size, 0, none⟩) (by show w.heap.size ≤ W2.heap.size; omega) _).drew
      clear h hbt hsn hq
      generalize lenOf (bestL pre) = L at *
      generalize noOf (bestL pre) = N at *
      generalize (bestL pre).isSome = G at *
      gi_wp2_with fail
      have hmix : Tryd.prog.follows .mixedOrders = true := by kernel_rfl
      gi_region_with_o (fail)
      all_goals
        gi_wp2
        refine ⟨own1, hfin.1, ?_⟩
        exact ⟨Hh.out.own_iff, by rw [HN.out]; exact hfin.2.1, by rw [HN.out]; exact hfin.2.2.1, by rw [HN.out]; exact hfin.2.2.2.1, hfin.2.2.2.2⟩
  · rintro D own W hD hpn h hdef
    have cn := cell_one h.no
    have ck := cell_one h.ok
    have fn := frozen_one h.no 0
    have fk := frozen_one h.ok 0
    have HI := Lib.hid h
    clear h
    rw [HBF.out] at HF
    obtain ⟨o, ho⟩ : ∃ o, bestL (startL S (s.xs.drop m)) = o := ⟨_, rfl⟩
    have h := HI.out
    have hno := h.no
    have hok := h.ok
    rw [ho] at hno hok cn ck
    rw [ho] at HF
    have hfv : foundV o = .tuple #[.int .i64 (noOf o), .bool o.isSome, .int .i64 0] := by cases o <;> rfl
    rw [hfv] at HF
    have hbl := h.below
    clear h ho hfv
    generalize noOf o = N at *
    generalize o.isSome = G at *
    refine wpAt_wp ?_
    go_wp2_with fail
    go_region
    go_wp2
    have e0 : ((W.setCell ⟨w.heap.size, 0, none⟩ (.int .i64 N)).setCell ⟨w.heap.size + 1, 0, none⟩ (.bool G)).heap[w.heap.size]? = some (.cells #[.int .i64 N] 3 (0, 0)) := (Below.heap_setCell _ _ _ _ (by show w.heap.size ≠ w.heap.size + 1; omega)).trans (set_one hno _)
    have e1 : ((W.setCell ⟨w.heap.size, 0, none⟩ (.int .i64 N)).setCell ⟨w.heap.size + 1, 0, none⟩ (.bool G)).heap[w.heap.size + 1]? = some (.cells #[.bool G] 4 (0, 0)) := set_one ((Below.heap_setCell _ _ _ _ (by show w.heap.size + 1 ≠ w.heap.size; omega)).trans hok) _
    have eD : ((W.setCell ⟨w.heap.size, 0, none⟩ (.int .i64 N)).setCell ⟨w.heap.size + 1, 0, none⟩ (.bool G)).heap[D]? = some (.deferred (some [])) := (Below.heap_setCell _ _ _ _ (by show D ≠ w.heap.size + 1; omega)).trans ((Below.heap_setCell _ _ _ _ (by show D ≠ w.heap.size; omega)).trans hdef)
    have eB : Below w.heap.size w ((W.setCell ⟨w.heap.size, 0, none⟩ (.int .i64 N)).setCell ⟨w.heap.size + 1, 0, none⟩ (.bool G)) := below_set2 hbl _ _
    generalize (W.setCell ⟨w.heap.size, 0, none⟩ (.int .i64 N)).setCell ⟨w.heap.size + 1, 0, none⟩ (.bool G) = W8 at *
    have x0 := cell_one ((World.putObj_heap_other (w := W8.drew) (r := D) (k := w.heap.size) (o := .deferred none) (by omega)).trans e0)
    have x1 := cell_one ((World.putObj_heap_other (w := W8.drew) (r := D) (k := w.heap.size + 1) (o := .deferred none) (by omega)).trans e1)
    refine leavesM_ret (W := W8.drew) (v := .tuple #[.int .i64 N, .bool G, .int .i64 0]) eD ?_ ⟨by rw [HF.out], ?_⟩
    · simp [results, Tryd.results39, go_sem, x0, x1]
    · have h9 := putObj_below W8.drew (B := D) (.deferred none) (Nat.le_refl _)
      exact ⟨h9.os.trans eB.os, h9.tape.trans eB.tape, h9.output.trans eB.output, Nat.le_trans eB.size h9.size, fun k hk => (h9.block k (by omega)).trans (eB.block k hk)⟩
  · rintro D own c pre W _ _ h
    exact h.elim
  · rintro D ch W hD h
    exact h.elim
  · rintro D own ch W hD hpn
    cases hpn
end Go.Proofs.YtneanannicacnaaDoor
