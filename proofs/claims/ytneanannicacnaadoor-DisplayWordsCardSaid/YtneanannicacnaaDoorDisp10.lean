/- Package display: play. -/
import Derived.Test.YtneanannicacnaaDoorDispP
import Derived.RangeFuncBox
namespace Go.Proofs.YtneanannicacnaaDoor
open Go.RowKit Go.Han
attribute [local irreducible] wpStill wpQuiet
attribute [local go_sem] Oper.semAt_some

/-- A function value that is told of each change made. -/
structure Told (P : Program) (g : Nat) (lb : Array Value) (T : Nat → Prop) (C : List Change → World → Prop) : Prop where
  enter : ∀ args w, (callFunc g args).run P w = .ok (.enter g args) w
  keep : ∀ pre W W', (∀ k, T k → k < W.heap.size → W'.heap[k]? = W.heap[k]?) → C pre W → C pre W'
  call : ∀ pre (c : Change) W, pre.length ≤ 4096 → C pre W → Calls P g (#[c.val] ++ lb) W fun e w' => e = .returned (.tuple #[]) ∧ Only T W w' ∧ C (pre ++ [c]) w'

def PlayPost (T : Nat → Prop) (C : List Change → World → Prop) (l : List Change) (t : Int) (w : World) (e : Ending) (w' : World) : Prop :=
  Only T w w' ∧ ((playE l t ≠ 0 ∧ e = .panicked (errChain (playE l t)) ∧ ∃ pre, C pre w') ∨ (playE l t = 0 ∧ (∃ v, e = .returned v ∧ Own w' w.heap.size v (playL l t)) ∧ C (upTo t l) w'))

theorem own_base {w : World} {b b' : Nat} {v : Value} {l : List Spot} (h : Own w b v l) (hb : b' ≤ b) : Own w b' v l := by
  refine ⟨h.1, ?_⟩
  rcases h.2 with h | ⟨g, c, cur, h1, h2, h3⟩
  · exact .inl h
  · exact .inr ⟨g, c, cur, h1, Nat.le_trans hb h2, h3⟩
theorem cflat_ne {l : List Change} (h : l ≠ []) : cflat l ≠ [] := by
  cases l with
  | nil => exact absurd rfl h
  | cons c l => simp [cflat, Change.cells]
theorem until_any (A : Option Addr) (n cp : Nat) (t : Int) (w : World) : Calls Tryd.prog 93 #[.slice A n cp, .int .i64 t] w fun e w' =>
    e = .returned (.func (.func 111) #[] #[.pointer (some ⟨w.heap.size, 0, none⟩), .pointer (some ⟨w.heap.size + 1, 0, none⟩)]) ∧ (w.alloc (.cells #[.slice A n cp] 35)).alloc (.cells #[.int .i64 t] 3) = w' := by
  have hmf : ∀ (fn : Fn) (first cap : Array Value) (w : World), (Instr.makeFunc fn first cap).run Tryd.prog w = .ok (.func fn first cap) w := fun _ _ _ _ => rfl
  go_enter Tryd.func93, Tryd.ntmps93
  go_wp2
  go_ret
  exact ⟨rfl, rfl⟩

/-- Between two rounds of play's loop: n0 is the number of blocks before the call, B that before the loop. -/
structure PlayInv (g : Nat) (lb : Array Value) (T : Nat → Prop) (C : List Change → World → Prop) (w0 : World) (n0 B : Nat) (own : Nat → Prop) (pre : List Change) (W : World) (v : Value) (s : List Spot) : Prop where
  run : runL [] pre = (0, s)
  asc : Asc s
  len : s.length ≤ 1024
  own_iff : ∀ k, own k ↔ (k = n0 + 1 ∨ v.ownBlock = some k ∨ T k)
  told : W.heap[n0]? = some (.cells #[.func (.func g) #[] lb] 81 (0, 0))
  x : W.heap[n0 + 1]? = some (.cells #[v] 22 (0, 0))
  by_ : W.heap[n0 + 3]? = some (.cells #[.map (some (n0 + 2))] 73 (0, 0))
  map : KMap W (n0 + 2)
  row : Own W B v s
  only : Only T w0 W
  told_at : C pre W
def PlayI (g : Nat) (lb : Array Value) (T : Nat → Prop) (C : List Change → World → Prop) (w0 : World) (n0 B : Nat) (own : Nat → Prop) (pre : List Change) (W : World) : Prop := ∃ v s, PlayInv g lb T C w0 n0 B own pre W v s

theorem play_stable {P : Program} (g : Nat) (lb : Array Value) (T : Nat → Prop) (C : List Change → World → Prop) (hT : Told P g lb T C) (w0 : World) (n0 B : Nat) (hn : n0 + 3 < B) (hw : w0.heap.size ≤ B) (hTB : ∀ k, T k → k < B) : Stable B (fun _ => False) (PlayI g lb T C w0 n0 B) := by
  rintro own pre W W' ⟨v, s, h⟩ st
  refine ⟨v, s, h.run, h.asc, h.len, h.own_iff, (st.block _ (lt_block h.told) (.inl ⟨by omega, id⟩)).trans h.told, (st.block _ (lt_block h.x) (.inl ⟨by omega, id⟩)).trans h.x, (st.block _ (lt_block h.by_) (.inl ⟨by omega, id⟩)).trans h.by_, (st.block _ (lt_block h.map) (.inl ⟨by omega, id⟩)).trans h.map, ?_, ?_, ?_⟩
  · exact ownsRow_of_block h.row fun g hg => st.block g (own_lt h.row g hg) (.inr ((h.own_iff g).2 (.inr (.inl hg))))
  · refine ⟨st.os.trans h.only.os, st.tape.trans h.only.tape, st.output.trans h.only.output, Nat.le_trans h.only.size st.size, fun i hi hn => (st.block i (Nat.lt_of_lt_of_le hi h.only.size) (.inl ⟨by omega, id⟩)).trans (h.only.block i hi hn)⟩
  · exact hT.keep pre W W' (fun k hk hlt => st.block k hlt (.inl ⟨hTB k hk, id⟩)) h.told_at

theorem cell_blk {w : World} {b t : Nat} {cs : Array Value} {fr : Nat × Nat} (h : w.heap[b]? = some (.cells cs t fr)) (j : Nat) : w.cell? ⟨b, j, none⟩ = cs[j]? := by
  simp [World.cell?, h]
theorem only_grown {M : Nat → Prop} {a b c : World} {row : Option Nat} (h : Only M a b) (k : b.grownBy c row) (hr : ∀ i, row = some i → a.heap.size ≤ i ∨ M i) : Only M a c :=
  ⟨k.os.trans h.os, k.tape.trans h.tape, k.output.trans h.output, Nat.le_trans h.size k.size, fun i hi hn => (k.block i (Nat.lt_of_lt_of_le hi h.size) (fun e => by
    rcases hr i e.symm with h1 | h1
    · omega
    · exact hn h1)).trans (h.block i hi hn)⟩
theorem exam_ok : ∀ (last : Int) (l : List Change), examFrom last l = true → ∀ c ∈ l, c.ok = true
  | _, [], _, c, hc => by cases hc
  | last, x :: l, h, c, hc => by
    simp only [examFrom, Bool.and_eq_true] at h
    rcases List.mem_cons.1 hc with rfl | hc
    · exact h.1.1
    · exact exam_ok x.at_ l h.2 c hc
theorem upTo_mem {t : Int} {l : List Change} {c : Change} (h : c ∈ upTo t l) : c ∈ l := List.takeWhile_subset _ h
theorem own_ge {w : World} {base : Nat} {v : Value} {l : List Spot} (h : Own w base v l) : ∀ g, v.ownBlock = some g → base ≤ g := fun g hg => (h.lt g hg).1
theorem own_not {w : World} {base b t : Nat} {v : Value} {l : List Spot} {cs : Array Value} (h : Own w base v l) (hb : w.heap[b]? = some (.cells cs t (0, 0))) (ht : t ≠ 24) : v.ownBlock ≠ some b := by
  intro hg
  rcases h.2 with ⟨rfl, _⟩ | ⟨g, c, cur, rfl, _, hc, _⟩
  · cases hg
  · simp [Value.ownBlock] at hg
    subst hg
    rw [hb] at hc
    injection hc with hc
    injection hc with _ hc
    exact ht hc

set_option maxRecDepth 100000 in
set_option maxHeartbeats 4000000 in
theorem play_any (g : Nat) (lb : Array Value) (T : Nat → Prop) (C : List Change → World → Prop) (hT : Told Tryd.prog g lb T C) (A : Option Addr) (cp : Nat) (l : List Change) (t : Int) (w : World) (hU : Tabs w) (hr : Rd w A (cflat l)) (hm : l.length ≤ 9223372036854775807)
    (hTR : ∀ k, T k → k < w.heap.size ∧ (l ≠ [] → ∀ a, A = some a → k ≠ a.block) ∧ k ≠ 1 ∧ k ≠ 2) (hC : C [] w) :
    Calls Tryd.prog 56 #[.slice A l.length cp, .int .i64 t, .func (.func g) #[] lb] w (PlayPost T C l t w) := by
  refine calls_of_wpAt Tryd.func56 rfl ?_
  simp only [Tryd.ntmps56, List.size_toArray, List.length_cons, List.length_nil, Nat.reduceAdd, Nat.reduceSub, Array.replicate_succ, Array.replicate_zero, List.push_toArray, List.append_toArray, List.nil_append, List.cons_append]
  obtain ⟨W1, hW1⟩ : ∃ W1, (w.alloc (.cells #[.func (.func g) #[] lb] 81)).alloc (.cells #[.slice none 0 0] 22) = W1 := ⟨_, rfl⟩
  have hB1 : Below w.heap.size w W1 := by rw [← hW1]; exact ((Below.refl _ _).alloc (Nat.le_refl _) _).alloc (by simp) _
  have hC' : ∀ W', Below w.heap.size w W' → ∃ pre, C pre W' := fun W' hb => ⟨[], hT.keep [] w W' (fun k _ hk => hb.block k hk) hC⟩
  refine wpAt_seq_wp fun K1 hK1 => ?_
  go_wp2
  refine wpAt_seq_wp fun K2 hK2 => ?_
  by_cases hl : l.length ≤ 4096
  · go_wp2_with fail
    refine (need_t _ _ _ (by simp; omega)).mono ?_
    rintro e w' ⟨rfl, rfl⟩
    go_wp2
    refine wpAt_seq_wp fun K3 hK3 => ?_
    go_wp2_with fail
    refine (kinds_any W1).mono ?_
    rintro e W2 ⟨rfl, hW2⟩
    go_wp2
    refine wpAt_seq_wp fun K4 hK4 => ?_
    go_wp2
    refine wpAt_seq_wp fun K5 hK5 => ?_
    obtain ⟨W3, hW3⟩ : ∃ W3, W2.alloc (.cells #[.map (some W1.heap.size)] 73) = W3 := ⟨_, rfl⟩
    have hB2 : Below w.heap.size w W2 := by rw [← hW2]; exact hB1.alloc hB1.size _
    have hB3 : Below w.heap.size w W3 := by rw [← hW3]; exact hB2.alloc hB2.size _
    have hg2 : KMap W2 W1.heap.size := by rw [← hW2]; exact World.alloc_heap_new _ _
    have hz1 : W1.heap.size = w.heap.size + 2 := by rw [← hW1]; simp
    have hz2 : W2.heap.size = w.heap.size + 3 := by rw [← hW2]; simp [hz1]
    have hz3 : W3.heap.size = w.heap.size + 4 := by rw [← hW3]; simp [hz2]
    have hb7 : W3.heap[w.heap.size + 3]? = some (.cells #[.map (some W1.heap.size)] 73 (0, 0)) := by rw [← hW3, ← hz2]; exact World.alloc_heap_new _ _
    have hg3 : KMap W3 W1.heap.size := hg2.ext (by rw [← hW3]; exact (Below.refl _ _).alloc (Nat.le_refl _) _)
    rw [hz1] at hW3 hb7 hg3
    go_wp2
    simp only [hz1, hz2]
    go_loopw [8, 19] (fun la i wr => ∃ (k : Nat) (last : Int), k ≤ l.length ∧ i = .int .i64 k ∧ la = .int .i64 last ∧ Below W3.heap.size W3 wr ∧ Hid (examFrom 0 l = examFrom last (l.drop k))) (fun _ i _ => l.length - (intOf i).toNat)
    case atStart => exact ⟨0, _, Nat.zero_le _, rfl, rfl, Below.refl _ _, rfl⟩
    case round =>
      obtain ⟨k, last, hk, rfl, rfl, hB, HR⟩ := hrel
      have hz := hB.size
      have hb7' := (hB.block _ (by omega)).trans hb7
      have c7 := cell_one hb7'
      have hgr := hg3.ext hB
      have hTr : Tabs wr := utf_ext hU (ext_trans hB3 hB)
      by_cases hlt : k < l.length
      · obtain ⟨b, off, rfl, hb, hc⟩ := hr.elem Change.size_cells (by omega) hlt
        have hBw := ext_trans hB3 hB
        have d0 := (hBw.cell (p := ⟨b, off + k * 5 + 0, none⟩) hb).trans (hc 0 _ rfl)
        have d1 := (hBw.cell (p := ⟨b, off + k * 5 + 1, none⟩) hb).trans (hc 1 _ rfl)
        have d2 := (hBw.cell (p := ⟨b, off + k * 5 + 2, none⟩) hb).trans (hc 2 _ rfl)
        have d3 := (hBw.cell (p := ⟨b, off + k * 5 + 3, none⟩) hb).trans (hc 3 _ rfl)
        have d4 := (hBw.cell (p := ⟨b, off + k * 5 + 4, none⟩) hb).trans (hc 4 _ rfl)
        simp only [Nat.add_zero] at d0
        have hex : Hid (examFrom last (l.drop k) = (l[k].ok && decide (last ≤ l[k].at_) && examFrom l[k].at_ (l.drop (k + 1)))) := by
          show _ = _
          rw [List.drop_eq_getElem_cons hlt]; rfl
        clear hc
        generalize l[k] = x at *
        obtain ⟨xt, xk, ⟨xi, xv, xs⟩⟩ := x
        obtain ⟨W4, hW4⟩ : ∃ W4, wr.alloc (.cells #[.int .i64 xt, .int .i64 xk, .int .i64 xi, .int .i64 xv, .string xs] 26) = W4 := ⟨_, rfl⟩
        have hb4 : Below wr.heap.size wr W4 := by rw [← hW4]; exact (Below.refl _ _).alloc (Nat.le_refl _) _
        have hz4 : W4.heap.size = wr.heap.size + 1 := by rw [← hW4]; simp
        have f0 : W4.cell? ⟨wr.heap.size, 0, none⟩ = some (.int .i64 xt) := by rw [← hW4]; simp [go_sem]
        have f1 : W4.cell? ⟨wr.heap.size, 1, none⟩ = some (.int .i64 xk) := by rw [← hW4]; simp [go_sem]
        have f2 : W4.cell? ⟨wr.heap.size, 2, none⟩ = some (.int .i64 xi) := by rw [← hW4]; simp [go_sem]
        have f3 : W4.cell? ⟨wr.heap.size, 3, none⟩ = some (.int .i64 xv) := by rw [← hW4]; simp [go_sem]
        have f4 : W4.cell? ⟨wr.heap.size, 4, none⟩ = some (.string xs) := by rw [← hW4]; simp [go_sem]
        have c74 := cell_one ((hb4.block _ (by omega)).trans hb7')
        have hB4 := ext_trans hB hb4
        have hex' := Lib.hid (examine_any ⟨xt, xk, ⟨xi, xv, xs⟩⟩ (w.heap.size + 2) W4 (utf_ext hTr hb4) (hgr.ext hb4))
        simp only [Change.val] at hex'
        clear c7
        go_wp2_with fail
        refine hex'.out.mono ?_
        rintro e W5 ⟨hb5, h5⟩
        have hB5 := ext_trans hB4 hb5
        have hz5 := hb5.size
        obtain ⟨hc5, _⟩ := bcell hb5
        rw [← hc5 _ _ (by omega)] at f0 f1 f2 f3 f4 c74
        clear d0 d1 d2 d3 d4 hc5 hex'
        rcases h5 with ⟨ho, rfl⟩ | ⟨ho, rfl⟩
        · have hok : Hid (Change.ok ⟨xt, xk, ⟨xi, xv, xs⟩⟩ = true) := by
            show _ = _
            cases h : Change.ok ⟨xt, xk, ⟨xi, xv, xs⟩⟩
            · rw [h] at ho; cases ho
            · rfl
          clear ho
          by_cases hge : last ≤ xt
          · go_wp2_with fail
            refine (need_t _ _ _ (by simp)).mono ?_
            rintro e w' ⟨rfl, rfl⟩
            go_wp2
            go_roundw
            case rel =>
              refine ⟨k + 1, xt, by omega, by go_num, rfl, hB5, ?_⟩
              show examFrom 0 l = _
              rw [HR.out, hex.out, hok.out]; simp [hge]
            case measure => simp [intOf]; omega
          · go_wp2_with fail
            refine (need_f _ _ _ (by simp; omega)).mono ?_
            rintro e w' ⟨rfl, rfl⟩
            have hE : playE l t = 490 := by
              unfold playE
              have hd : decide (last ≤ xt) = false := by simpa using hge
              rw [if_neg (by omega), if_pos (by rw [HR.out, hex.out]; simp only [hd, Bool.and_false, Bool.false_and])]
            exact ⟨Only.of_below (ext_trans hB3 hB5), .inl ⟨by rw [hE]; decide, by rw [hE], hC' _ (ext_trans hB3 hB5)⟩⟩
        · have hE : playE l t = 490 := by
            unfold playE
            rw [if_neg (by omega), if_pos]
            rw [HR.out, hex.out]
            cases h : Change.ok ⟨xt, xk, ⟨xi, xv, xs⟩⟩
            · simp
            · rw [h] at ho; simp at ho
          have hE2 : (if Change.ok ⟨xt, xk, ⟨xi, xv, xs⟩⟩ then 0 else 490 : Int) = 490 := by
            cases h : Change.ok ⟨xt, xk, ⟨xi, xv, xs⟩⟩
            · rfl
            · rw [h] at ho; simp at ho
          rw [hE2]
          exact ⟨Only.of_below (ext_trans hB3 hB5), .inl ⟨by rw [hE]; decide, by rw [hE], hC' _ (ext_trans hB3 hB5)⟩⟩
      · have hex0 : examFrom 0 l = true := by
          have : k = l.length := by omega
          rw [HR.out, this, List.drop_length]; rfl
        have Hex0 := Lib.hid hex0
        clear HR hex0
        go_wp2
        refine wpAt_seq_wp fun K6 hK6 => ?_
        go_wp2_with fail
        refine (time_any _ _).mono ?_
        rintro e w' ⟨rfl, rfl⟩
        cases htb : timeB t
        · go_wp2_with fail
          refine (need_f _ _ _ rfl).mono ?_
          rintro e w' ⟨rfl, rfl⟩
          have hE : playE l t = 1 := by unfold playE; rw [if_neg (by omega), Hex0.out, htb]; rfl
          exact ⟨Only.of_below (ext_trans hB3 hB), .inl ⟨by rw [hE]; decide, by rw [hE], hC' _ (ext_trans hB3 hB)⟩⟩
        · have Htb := Lib.hid htb
          clear htb
          go_wp2_with fail
          refine (need_t _ _ _ rfl).mono ?_
          rintro e w' ⟨rfl, rfl⟩
          go_wp2
          refine wpAt_seq ?_
          refine wpAt_seq_wp fun K7 hK7 => ?_
          go_wp2_with fail
          refine (until_any _ _ _ _ _).mono ?_
          rintro e w' ⟨rfl, rfl⟩
          go_wp2
          refine wpAt_block ?_
          obtain ⟨W6, hW6⟩ : ∃ W6, (wr.alloc (.cells #[.slice A l.length cp] 35)).alloc (.cells #[.int .i64 t] 3) = W6 := ⟨_, rfl⟩
          have hz6 : W6.heap.size = wr.heap.size + 2 := by rw [← hW6]; simp
          have hB6 : Below wr.heap.size wr W6 := by rw [← hW6]; exact ((Below.refl _ _).alloc (Nat.le_refl _) _).alloc (by simp) _
          have hB06 := ext_trans (ext_trans hB3 hB) hB6
          have q1 : W6.heap[wr.heap.size]? = some (.cells #[.slice A l.length cp] 35 (0, 0)) := by
            rw [← hW6]; exact (Below.heap_alloc _ _ _ (by simp)).trans (World.alloc_heap_new _ _)
          have q2 : W6.heap[wr.heap.size + 1]? = some (.cells #[.int .i64 t] 3 (0, 0)) := by
            rw [← hW6]; have := World.alloc_heap_new (wr.alloc (.cells #[.slice A l.length cp] 35)) (.cells #[.int .i64 t] 3); rwa [World.size_alloc] at this
          rw [hW6]
          have hit := until1 (wr.heap.size) (wr.heap.size + 1) A cp l t W6 q1 q2 (hr.ext hB06) (by omega)
          have k0 : W1.heap[w.heap.size]? = some (.cells #[.func (.func g) #[] lb] 81 (0, 0)) := by
            rw [← hW1]; exact (Below.heap_alloc _ _ _ (by simp)).trans (World.alloc_heap_new _ _)
          have k1 : W1.heap[w.heap.size + 1]? = some (.cells #[.slice none 0 0] 22 (0, 0)) := by
            rw [← hW1]; have := World.alloc_heap_new (w.alloc (.cells #[.func (.func g) #[] lb] 81)) (.cells #[.slice none 0 0] 22); rwa [World.size_alloc] at this
          have hB12 : Below W1.heap.size W1 W2 := by rw [← hW2]; exact (Below.refl _ _).alloc (Nat.le_refl _) _
          have hB23 : Below W2.heap.size W2 W3 := by rw [← hW3]; exact (Below.refl _ _).alloc (Nat.le_refl _) _
          have hB16 : Below W1.heap.size W1 W6 := ext_trans (ext_trans hB12 hB23) (ext_trans hB hB6)
          have k06 := (hB16.block _ (by omega)).trans k0
          have k16 := (hB16.block _ (by omega)).trans k1
          have hB36 := ext_trans hB hB6
          have k36 := (hB36.block _ (by omega)).trans hb7
          have g36 := hg3.ext hB36
          have hTB : ∀ k, T k → k < W6.heap.size := fun k hk => by have := (hTR k hk).1; omega
          have hRB : ∀ k, (k = wr.heap.size ∨ k = wr.heap.size + 1 ∨ (l ≠ [] ∧ ∃ a, A = some a ∧ k = a.block)) → k < W6.heap.size := by
            rintro k (rfl | rfl | ⟨hne, a, rfl, rfl⟩)
            · omega
            · omega
            · rcases hr with h | ⟨b, off, h, hb, _⟩
              · exact absurd h (cflat_ne hne)
              · cases h; have := hB06.size; simp; omega
          clear hW6
          refine wp_rangeP (xs := upTo t l) (pe := none) (R := fun k => k = wr.heap.size ∨ k = wr.heap.size + 1 ∨ (l ≠ [] ∧ ∃ a, A = some a ∧ k = a.block)) (M := fun _ => False) (w0 := W6) Tryd.func56 rfl
            (enters_of Tryd.func111 (by kernel_rfl) rfl) hit (fun k hk => ⟨hRB k hk, rfl⟩) (fun _ => rfl)
            (PlayI g lb T C w w.heap.size W6.heap.size) (fun _ _ _ _ => False) (fun ch W => Only T w W ∧ (∃ pre, C pre W) ∧ ∃ n, n ≠ 0 ∧ ch = errChain n ∧ (runL [] (upTo t l)).1 = n)
            (play_stable g lb T C hT w w.heap.size W6.heap.size (by omega) (by omega) hTB) (fun _ _ _ _ _ h _ => h) (fun k => k = w.heap.size + 1 ∨ T k) ?_ ?_
            (fun x a' own pre W => ∃ (b : Nat) (own1 : Nat → Prop), a' = { tmps := #[.slice A l.length cp, .int .i64 t, .func (.func g) #[] lb, undef, undef, .pointer (some ⟨w.heap.size, 0, none⟩), .pointer (some ⟨w.heap.size + 1, 0, none⟩), .pointer (some ⟨w.heap.size + 3, 0, none⟩), .int .i64 last, undef, u10, .pointer (some ⟨b, 0, none⟩), .slice A l.length cp, .int .i64 l.length, .bool (decide ((l.length : Int) ≤ 4096)), .tuple #[], .map (some (w.heap.size + 2)), .slice A l.length cp, .int .i64 l.length, .int .i64 k, .bool false, u21, u22, u23, u24, u25, u26, u27, u28, u29, u30, u31, u32, u33, .int .i64 t, .bool true, .tuple #[], .slice A l.length cp, .int .i64 t, .func (.func 111) #[] #[.pointer (some ⟨wr.heap.size, 0, none⟩), .pointer (some ⟨wr.heap.size + 1, 0, none⟩)], x.val, undef, undef, undef, undef, undef, undef, undef, undef], defers := [] } ∧ (∀ k, own k ↔ own1 k ∨ k = b) ∧ W.heap[b]? = some (.cells x.cells.toArray 26 (0, 0)) ∧ PlayI g lb T C w w.heap.size W6.heap.size own1 pre W)
            ?_ ?_ ?_ ?_ ?_ ?_ ?_
          · rintro k (rfl | hk)
            · refine ⟨by omega, ?_⟩
              rintro (h | h | ⟨hne, a, rfl, h⟩)
              · omega
              · omega
              · rcases hr with h2 | ⟨b, off, h2, hb, _⟩
                · exact absurd h2 (cflat_ne hne)
                · cases h2; simp at h; omega
            · refine ⟨hTB k hk, ?_⟩
              have := hTR k hk
              rintro (h | h | ⟨hne, a, ha, h⟩)
              · omega
              · omega
              · exact this.2.1 hne a ha h
          · refine ⟨.slice none 0 0, [], rfl, asc_nil, Nat.zero_le _, fun k => by simp [Value.ownBlock], k06, k16, k36, g36, World.ownsRow_nil _ _ _ _, Only.of_below hB06, hT.keep [] w W6 (fun k hk hlt => hB06.block k hlt) hC⟩
          · rintro x a' own pre W W' ⟨b, own1, ha, ho, hb, hI⟩ st
            exact ⟨b, own1, ha, ho, (st.block b (lt_block hb) (.inr ((ho b).2 (.inr rfl)))).trans hb, play_stable g lb T C hT w w.heap.size W6.heap.size (by omega) (by omega) hTB own1 pre W W' hI ⟨st.os, st.tape, st.output, st.size, fun k hk h => st.block k hk (h.imp id (fun h => (ho k).2 (.inl h)))⟩⟩
          · rintro l1 own pre x W hI hl1 hl2 ho hpre
            refine wpIn_mono (Q := Exit.then (fun a' W' => ∃ own', BodyStep own own' W W' ∧ ∃ (b : Nat) (own1 : Nat → Prop), a' = { tmps := #[.slice A l.length cp, .int .i64 t, .func (.func g) #[] lb, undef, undef, .pointer (some ⟨w.heap.size, 0, none⟩), .pointer (some ⟨w.heap.size + 1, 0, none⟩), .pointer (some ⟨w.heap.size + 3, 0, none⟩), .int .i64 last, undef, u10, .pointer (some ⟨b, 0, none⟩), .slice A l.length cp, .int .i64 l.length, .bool (decide ((l.length : Int) ≤ 4096)), .tuple #[], .map (some (w.heap.size + 2)), .slice A l.length cp, .int .i64 l.length, .int .i64 k, .bool false, u21, u22, u23, u24, u25, u26, u27, u28, u29, u30, u31, u32, u33, .int .i64 t, .bool true, .tuple #[], .slice A l.length cp, .int .i64 t, .func (.func 111) #[] #[.pointer (some ⟨wr.heap.size, 0, none⟩), .pointer (some ⟨wr.heap.size + 1, 0, none⟩)], x.val, undef, undef, undef, undef, undef, undef, undef, undef], defers := [] } ∧ (∀ k, own' k ↔ own1 k ∨ k = b) ∧ W'.heap[b]? = some (.cells x.cells.toArray 26 (0, 0)) ∧ PlayI g lb T C w w.heap.size W6.heap.size own1 pre W') (fun _ _ _ => False)) ?_ (fun e a w h => h)
            have hlv : ∀ k, own k → k < W.heap.size := fun k hk => (ho k hk).2.1
            obtain ⟨xt, xk, ⟨xi, xv, xs⟩⟩ := x
            simp only [Change.val, Change.cells]
            gi_wp2
            refine ⟨fun k => own k ∨ k = W.heap.size, BodyStep.turn ((BodyStep.refl hlv).alloc _) ?_ ?_, W.heap.size, own, rfl, fun k => Iff.rfl, World.alloc_heap_new _ _, ?_⟩
            · rintro k (h | h)
              · exact .inl h
              · exact .inr (by omega)
            · rintro k (h | h)
              · have := hlv k h; simp; omega
              · simp; omega
            · exact play_stable g lb T C hT w w.heap.size W6.heap.size (by omega) (by omega) hTB own pre W _ hI ((IterStep.refl _ _ _ _).alloc _)
          · rintro l1 own pre x a' W ⟨b, own1, rfl, hoi, hb, v, s, h⟩ hl1 hl2 ho hpre
            have hlv : ∀ k, own k → k < W.heap.size := fun k hk => (ho k hk).2.1
            have hxl : x ∈ l := upTo_mem (hpre.subset (by simp))
            have hxok := ok_kind (exam_ok _ _ Hex0.out x hxl)
            have hBW : W6.heap.size ≤ W.heap.size := by omega
            have hp := Lib.hid (perform_any W6.heap.size (w.heap.size + 2) v s x W h.row h.asc h.len hBW h.map hxok)
            have cx := cell_one h.x
            have fx := frozen_one h.x 0
            have cby := cell_one h.by_
            obtain ⟨xt, xk, ⟨xi, xv, xs⟩⟩ := x
            simp only [Change.val, Change.cells] at hb hp ⊢
            have d0 : W.cell? ⟨b, 0, none⟩ = some (.int .i64 xt) := cell_blk hb 0
            have d1 : W.cell? ⟨b, 1, none⟩ = some (.int .i64 xk) := cell_blk hb 1
            have d2 : W.cell? ⟨b, 2, none⟩ = some (.int .i64 xi) := cell_blk hb 2
            have d3 : W.cell? ⟨b, 3, none⟩ = some (.int .i64 xv) := cell_blk hb 3
            have d4 : W.cell? ⟨b, 4, none⟩ = some (.string xs) := cell_blk hb 4
            have hCp : ∀ w1, W.grownBy w1 v.ownBlock → ∃ pre, C pre w1 := fun w1 hg => ⟨pre, hT.keep pre W w1 (fun i hi hlt => hg.block i hlt (fun e => by have := own_ge h.row i e.symm; have := hTB i hi; omega)) h.told_at⟩
            gi_wp2_with fail
            refine ⟨trivial, rfl, (callsIn_wide.2 hp.out).mono ?_⟩
            rintro e w1 (⟨hok, rfl, hg⟩ | ⟨hok, hln, rfl, hg⟩ | ⟨hok, hln, v', rfl, hown', hg, hvb⟩)
            · refine ⟨rfl, ⟨own, (BodyStep.refl hlv).grown hg (fun i hi => .inl ((hoi i).2 (.inl ((h.own_iff i).2 (.inr (.inl hi))))))⟩, only_grown h.only hg (fun i hi => .inl (by have := own_ge h.row i hi; omega)), hCp w1 hg, 490, by decide, rfl, ?_⟩
              obtain ⟨rest, hrest⟩ := hpre
              rw [← hrest, List.append_assoc, runL_app _ _ _ _ h.run, List.singleton_append, runL_step, if_pos hok]
            · refine ⟨rfl, ⟨own, (BodyStep.refl hlv).grown hg (fun i hi => .inl ((hoi i).2 (.inl ((h.own_iff i).2 (.inr (.inl hi))))))⟩, only_grown h.only hg (fun i hi => .inl (by have := own_ge h.row i hi; omega)), hCp w1 hg, 2, by decide, rfl, ?_⟩
              obtain ⟨rest, hrest⟩ := hpre
              rw [← hrest, List.append_assoc, runL_app _ _ _ _ h.run, List.singleton_append, runL_step, if_neg (by simp [hok]), if_pos hln]
            · obtain ⟨A', cp', rfl, hrd', hnil'⟩ := own_form hown'
              have hvB : ∀ i, v.ownBlock = some i → W6.heap.size ≤ i := own_ge h.row
              have hvne : ∀ i, i < W6.heap.size → some i ≠ v.ownBlock := fun i hi e => by have := hvB i e.symm; omega
              have hsz1 := hg.size
              have t1 := (hg.block _ (lt_block h.told) (hvne _ (by omega))).trans h.told
              have x1 := (hg.block _ (lt_block h.x) (hvne _ (by omega))).trans h.x
              have y1 := (hg.block _ (lt_block h.by_) (hvne _ (by omega))).trans h.by_
              have m1 := (hg.block _ (lt_block h.map) (hvne _ (by omega))).trans h.map
              have b1 := (hg.block _ (lt_block hb) (Ne.symm (own_not h.row hb (by decide)))).trans hb
              obtain ⟨W3, hW3'⟩ : ∃ W3, w1.setCell ⟨w.heap.size + 1, 0, none⟩ (.slice A' (madeL ⟨xt, xk, ⟨xi, xv, xs⟩⟩ s).length cp') = W3 := ⟨_, rfl⟩
              have hkeep : ∀ i, i ≠ w.heap.size + 1 → W3.heap[i]? = w1.heap[i]? := fun i hi => by rw [← hW3']; exact Below.heap_setCell _ _ _ _ hi
              have x3 : W3.heap[w.heap.size + 1]? = some (.cells #[.slice A' (madeL ⟨xt, xk, ⟨xi, xv, xs⟩⟩ s).length cp'] 22 (0, 0)) := by rw [← hW3']; exact set_one x1 _
              have hsz3 : W3.heap.size = w1.heap.size := by rw [← hW3']; simp [World.setCell]
              have t3 := (hkeep _ (by omega)).trans t1
              have y3 := (hkeep _ (by omega)).trans y1
              have m3 := (hkeep _ (by omega)).trans m1
              have hbne : b ≠ w.heap.size + 1 := by
                rintro rfl
                rw [h.x] at hb
                simp at hb
              have b3 := (hkeep _ hbne).trans b1
              have hC3 : C pre W3 := hT.keep pre W W3 (fun i hi hlt => (hkeep i (by have := (hTR i hi).1; omega)).trans (hg.block i hlt (hvne i (by have := (hTR i hi).1; omega)))) h.told_at
              have e0 : W3.cell? ⟨b, 0, none⟩ = some (.int .i64 xt) := cell_blk b3 0
              have e1 : W3.cell? ⟨b, 1, none⟩ = some (.int .i64 xk) := cell_blk b3 1
              have e2 : W3.cell? ⟨b, 2, none⟩ = some (.int .i64 xi) := cell_blk b3 2
              have e3 : W3.cell? ⟨b, 3, none⟩ = some (.int .i64 xv) := cell_blk b3 3
              have e4 : W3.cell? ⟨b, 4, none⟩ = some (.string xs) := cell_blk b3 4
              have ct := cell_one t3
              have cx1 := cell_one x1
              have fx1 := frozen_one x1 0
              have hpl : pre.length ≤ 4096 := by
                have h1 := hpre.length_le
                have h2 := (List.takeWhile_prefix (l := l) (fun c : Change => decide (c.at_ ≤ t))).length_le
                simp [upTo] at h1; omega
              have HC := Lib.hid (hT.call pre ⟨xt, xk, ⟨xi, xv, xs⟩⟩ W3 hpl hC3)
              have eg := hT.enter
              have hfin : Hid (∀ w4, Only T W3 w4 → C (pre ++ [⟨xt, xk, ⟨xi, xv, xs⟩⟩]) w4 → ∃ own', BodyStep own own' W w4 ∧ PlayI g lb T C w w.heap.size W6.heap.size own' (pre ++ [⟨xt, xk, ⟨xi, xv, xs⟩⟩]) w4) := by
                intro w4 ho4 hc4
                have hTn : ∀ i, w.heap.size ≤ i → ¬ T i := fun i hi ht => by have := (hTR i ht).1; omega
                have hk4 : ∀ i o, w.heap.size ≤ i → W3.heap[i]? = some o → w4.heap[i]? = some o := fun i o hi h => (ho4.block i (lt_block h) (hTn i hi)).trans h
                have hoA : ∀ i, (Value.slice A' (madeL ⟨xt, xk, ⟨xi, xv, xs⟩⟩ s).length cp').ownBlock = some i → W6.heap.size ≤ i ∧ i < w1.heap.size := fun i hi => hown'.lt i hi
                refine ⟨fun i => i = w.heap.size + 1 ∨ (Value.slice A' (madeL ⟨xt, xk, ⟨xi, xv, xs⟩⟩ s).length cp').ownBlock = some i ∨ T i, ?_, _, madeL ⟨xt, xk, ⟨xi, xv, xs⟩⟩ s, ?_, made_asc h.asc hok, hln, fun i => Iff.rfl, hk4 _ _ (Nat.le_refl _) t3, hk4 _ _ (by omega) x3, hk4 _ _ (by omega) y3, hk4 _ _ (by omega) m3, ?_, ?_, hc4⟩
                · have ox : own (w.heap.size + 1) := (hoi _).2 (.inl ((h.own_iff _).2 (.inl rfl)))
                  have s1 : BodyStep own own W W3 := by
                    rw [← hW3']
                    exact ((BodyStep.refl hlv).grown hg (fun i hi => .inl ((hoi i).2 (.inl ((h.own_iff i).2 (.inr (.inl hi))))))).setCell (p := ⟨w.heap.size + 1, 0, none⟩) (.inl ox) _
                  refine ⟨ho4.os.trans s1.os, ho4.tape.trans s1.tape, ho4.output.trans s1.output, Nat.le_trans s1.size ho4.size, fun i hi hn => (ho4.block i (Nat.lt_of_lt_of_le hi s1.size) (fun ht => hn ((hoi i).2 (.inl ((h.own_iff i).2 (.inr (.inr ht))))))).trans (s1.block i hi hn), ?_, ?_⟩
                  · rintro i (rfl | hi | hi)
                    · exact .inl ox
                    · rcases hvb with e | ⟨j, e, hj⟩
                      · exact .inl ((hoi i).2 (.inl ((h.own_iff i).2 (.inr (.inl (e.symm.trans hi))))))
                      · rw [hi] at e; cases e; exact .inr hj
                    · exact .inl ((hoi i).2 (.inl ((h.own_iff i).2 (.inr (.inr hi)))))
                  · rintro i (rfl | hi | hi)
                    · have := lt_block x3; have := ho4.size; omega
                    · have := (hoA i hi).2; have := ho4.size; omega
                    · have := hTB i hi; have := ho4.size; omega
                · rw [runL_app _ _ _ _ h.run, runL_step, if_neg (by simp [hok]), if_neg (by omega)]; rfl
                · refine ownsRow_of_block hown' fun i hi => ?_
                  have := hoA i hi
                  rw [ho4.block i (by omega) (hTn i (by omega)), ← hW3', Below.heap_setCell _ _ _ _ (by show i ≠ w.heap.size + 1; omega)]
                · have o1 := only_grown h.only hg (fun i hi => .inl (by have := hvB i hi; omega))
                  have o3 : Only T w W3 := by rw [← hW3']; exact o1.setCell (p := ⟨w.heap.size + 1, 0, none⟩) (.inr (by simp)) _
                  exact o3.trans ho4
              clear hkeep hb d0 d1 d2 d3 d4 cx fx cby t1 y1 m1 b1 hp
              gi_wp2_with fail
              refine ⟨trivial, rfl, (callsIn_wide.2 HC.out).mono ?_⟩
              rintro e w4 ⟨rfl, ho4, hc4⟩
              have hf := hfin.out w4 ho4 hc4
              clear hfin HC
              gi_wp2
              exact hf
          · rintro D own W hD hpn ⟨v, s, h⟩ hdef
            have cx := cell_one h.x
            have fx := frozen_one h.x 0
            obtain ⟨A', cp', rfl, _, _⟩ := own_form h.row
            have hE : playE l t = 0 := by unfold playE; rw [if_neg (by omega), Hex0.out, Htb.out, h.run]; rfl
            have hL : playL l t = s := by unfold playL; rw [h.run]
            have x4 := (World.putObj_heap_other (w := W.setCell ⟨w.heap.size + 1, 0, none⟩ (.slice A' s.length cp')) (r := D) (k := w.heap.size + 1) (o := .deferred none) (by omega)).trans (set_one h.x (.slice A' s.length cp'))
            have hoA : ∀ i, (Value.slice A' s.length cp').ownBlock = some i → W6.heap.size ≤ i ∧ i < W.heap.size := fun i hi => h.row.lt i hi
            have hdef2 : (W.setCell ⟨w.heap.size + 1, 0, none⟩ (.slice A' s.length cp')).heap[D]? = some (.deferred (some [])) := (Below.heap_setCell _ _ _ _ (by show D ≠ w.heap.size + 1; omega)).trans hdef
            refine wpAt_wp ?_
            go_wp2
            refine leavesM_ret hdef2 (v := .slice A' s.length cp') ?_ ⟨?_, .inr ⟨hE, ⟨_, rfl, ?_⟩, ?_⟩⟩
            · simp [results, Tryd.results56, go_sem, cell_one x4]
            · have o1 : Only T w (W.setCell ⟨w.heap.size + 1, 0, none⟩ (.slice A' s.length cp')) := h.only.setCell (p := ⟨w.heap.size + 1, 0, none⟩) (.inr (by simp)) _
              exact o1.of_below' (putObj_below _ (B := D) _ (Nat.le_refl _)) (fun i hi _ => by omega)
            · rw [hL]
              have o1 : (W.setCell ⟨w.heap.size + 1, 0, none⟩ (.slice A' s.length cp')).ownsRow W6.heap.size 24 3 (.slice A' s.length cp') s.length (flat s) := ownsRow_of_block h.row fun i hi => Below.heap_setCell _ _ _ _ (by have := (hoA i hi).1; show i ≠ w.heap.size + 1; omega)
              exact own_base (b := W6.heap.size) (ownsRow_putObj o1 _ hdef2 rfl) (by omega)
            · refine hT.keep _ W _ (fun i hi hlt => ?_) h.told_at
              have := hTR i hi
              rw [World.putObj_heap_other (by omega), Below.heap_setCell _ _ _ _ (by show i ≠ w.heap.size + 1; omega)]
          · rintro D own c pre W _ _ h
            exact h.elim
          · rintro D ch W hD ⟨ho, ⟨pre, hcp⟩, n, hn, rfl, hr⟩ hdef
            have hE : playE l t = n := by unfold playE; rw [if_neg (by omega), Hex0.out, Htb.out]; exact hr
            exact leavesM_panic hdef ⟨ho.of_below' (putObj_below _ (B := D) _ (Nat.le_refl _)) (fun i hi _ => by omega), .inl ⟨by rw [hE]; exact hn, by rw [hE], pre, hT.keep pre W _ (fun i hi hlt => World.putObj_heap_other (by have := hTB i hi; omega)) hcp⟩⟩
          · rintro D own ch W hD hpn
            cases hpn
  · go_wp2_with fail
    refine (need_f _ _ _ (by simp; omega)).mono ?_
    rintro e w' ⟨rfl, rfl⟩
    have hE : playE l t = 2 := by unfold playE; rw [if_pos (by omega)]
    refine ⟨Only.of_below hB1, .inl ⟨by rw [hE]; decide, by rw [hE], hC' _ hB1⟩⟩
end Go.Proofs.YtneanannicacnaaDoor
