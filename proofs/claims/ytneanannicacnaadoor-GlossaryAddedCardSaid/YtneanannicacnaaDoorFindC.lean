/- Package glossary: starting, the terms whose source stands at the head of the words, as an iterator. -/
import Derived.Test.YtneanannicacnaaDoorFindB
import Derived.Test.YtneanannicacnaaDoorRange
import Derived.Stop.RegionWithIn
import Derived.Sort.QuietTacIn
import Derived.Deep.Draws
import Derived.Test.YtneanannicacnaaDoorShelf2
namespace Go.Proofs.YtneanannicacnaaDoor
open Go.RowKit Go.Han
attribute [local irreducible] wpStill wpQuiet
attribute [local go_sem] Oper.semAt_some
set_option maxRecDepth 100000

theorem equalStr_any (s t : StrS) (w : World) (hs : s.lies w) (ht : t.lies w) : Calls Tryd.prog 104 #[.slice s.addr s.xs.length s.cap, .slice t.addr t.xs.length t.cap] w fun e w' => e = .returned (.bool (decide (s.xs = t.xs))) ∧ ∃ q, w' = w.drewN q := by
  have hm : s.xs.length ≤ 9223372036854775807 := Nat.le_trans hs.cap hs.max
  have hm2 : t.xs.length ≤ 9223372036854775807 := Nat.le_trans ht.cap ht.max
  by_cases hl : s.xs.length = t.xs.length
  · by_cases h0 : s.xs.length = 0
    · have e1 : s.xs = [] := List.eq_nil_of_length_eq_zero h0
      have e2 : t.xs = [] := List.eq_nil_of_length_eq_zero (by omega)
      rw [e1, e2]
      refine (Tryd.slices_Equal_string_empty s.addr t.addr s.cap 0 t.cap w (by omega)).mono ?_
      rintro e w' ⟨rfl, rfl⟩
      exact ⟨rfl, 0, rfl⟩
    · obtain ⟨b, off, he, hb, hc⟩ := StrS.at_ hs (k := 0) (by omega)
      obtain ⟨b', off', he', hb', hc'⟩ := StrS.at_ ht (k := 0) (by omega)
      rw [he, he']
      refine (Tryd.slices_Equal_string b off s.xs.length s.cap b' off' t.xs.length t.cap s.xs t.xs w (Nat.le_refl _) (Nat.le_refl _) hm hm2 (fun j hj => ?_) (fun j hj => ?_)).mono ?_
      · rw [hc j hj]; simp [List.getD, hj]
      · rw [hc' j hj]; simp [List.getD, hj]
      · rintro e w' ⟨rfl, q, rfl⟩
        rw [List.take_length, List.take_length]
        exact ⟨rfl, q, rfl⟩
  · refine (Tryd.slices_Equal_string_lens s.addr t.addr s.xs.length s.cap t.xs.length t.cap w hl).mono ?_
    rintro e w' ⟨rfl, rfl⟩
    exact ⟨by rw [decide_eq_false (fun h => hl (by rw [h]))], 0, rfl⟩
theorem starting_any (A : Option Addr) (n cp : Nat) (B : Option Addr) (m d : Nat) (w : World) : Calls Tryd.prog 75 #[.slice A n cp, .slice B m d] w fun e w' =>
    e = .returned (.func (.func 103) #[] #[.pointer (some ⟨w.heap.size, 0, none⟩), .pointer (some ⟨w.heap.size + 1, 0, none⟩)]) ∧ (w.alloc (.cells #[.slice A n cp] 48)).alloc (.cells #[.slice B m d] 49) = w' := by
  have hmf : ∀ (fn : Fn) (first cap : Array Value) (w : World), (Instr.makeFunc fn first cap).run Tryd.prog w = .ok (.func fn first cap) w := fun _ _ _ _ => rfl
  go_enter Tryd.func75, Tryd.ntmps75
  go_wp2
  go_ret
  exact ⟨rfl, rfl⟩
def startL (S : List Term) (ws : List ByteArray) : List Term := S.filter (fun x => startB x ws)
theorem startL_snoc (S : List Term) (ws : List ByteArray) (k : Nat) (h : k < S.length) : startL (S.take (k + 1)) ws = startL (S.take k) ws ++ if startB S[k] ws = true then [S[k]] else [] := by
  unfold startL
  rw [List.take_succ_eq_append_getElem h, List.filter_append]
  by_cases hp : startB S[k] ws = true <;> simp [hp]
theorem startL_prefix (S : List Term) (ws : List ByteArray) (k : Nat) : startL (S.take k) ws <+: startL S ws := by
  refine ⟨startL (S.drop k) ws, ?_⟩
  unfold startL
  rw [← List.filter_append, List.take_append_drop]
/-- Equal, in the midst of the region that asks for a yes. -/
def EqYes (l' : Nat) (J Jx : (Nat → Prop) → List Term → World → Prop) (Jp : List PanicEntry → World → Prop) (own : Nat → Prop) (pre : List Term) (x : Term) (b : Nat) (w4 : World) (e : Ending) (w' : World) : Prop :=
  e = .returned (.bool true) ∧ w'.heap = w4.heap ∧ (∃ fn tmps assign body, (Instr.yield l' #[.agg #[.int .i64 x.no, .int .i64 x.at_, .int .i64 x.known, .int .i64 x.lang, .slice x.src.addr x.src.xs.length x.src.cap, .slice x.tgt.addr x.tgt.xs.length x.tgt.cap, .string x.cat, .bool x.gone]]).run Tryd.prog w' = .ok (.round l' fn tmps assign body) w' ∧ RoundIn Fence.wide 0 Tryd.prog l' fn tmps assign body w' (RoundPost J Jx Jp own (pre ++ [x]) w')) ∧
  w'.cell? ⟨b, 0, none⟩ = some (.int .i64 x.no) ∧ w'.cell? ⟨b, 1, none⟩ = some (.int .i64 x.at_) ∧ w'.cell? ⟨b, 2, none⟩ = some (.int .i64 x.known) ∧ w'.cell? ⟨b, 3, none⟩ = some (.int .i64 x.lang) ∧ w'.cell? ⟨b, 4, none⟩ = some (.slice x.src.addr x.src.xs.length x.src.cap) ∧ w'.cell? ⟨b, 5, none⟩ = some (.slice x.tgt.addr x.tgt.xs.length x.tgt.cap) ∧ w'.cell? ⟨b, 6, none⟩ = some (.string x.cat) ∧ w'.cell? ⟨b, 7, none⟩ = some (.bool x.gone)
def WentOn (J Jx : (Nat → Prop) → List Term → World → Prop) (own : Nat → Prop) (ys : List Term) (W1 : World) (v : Bool) (W' : World) : Prop := ∃ own', BodyStep own own' W1 W' ∧ ((v = true ∧ J own' ys W') ∨ (v = false ∧ Jx own' ys W'))
theorem round_cases {J Jx : (Nat → Prop) → List Term → World → Prop} {Jp : List PanicEntry → World → Prop} {own : Nat → Prop} {ys : List Term} {W1 : World} {e : Ending} {W' : World} (h : RoundPost J Jx Jp own ys W1 e W') :
    (∃ v, e = .returned (.bool v) ∧ WentOn J Jx own ys W1 v W') ∨ (∃ ch, e = .panicked ch ∧ Jp ch W') := by
  rcases h with ⟨own', hb, ⟨rfl, hj⟩ | ⟨rfl, hj⟩⟩ | h
  · exact .inl ⟨true, rfl, own', hb, .inl ⟨rfl, hj⟩⟩
  · exact .inl ⟨false, rfl, own', hb, .inr ⟨rfl, hj⟩⟩
  · exact .inr h

set_option maxHeartbeats 2000000 in
theorem starting1 (b1 b2 : Nat) (A : Option Addr) (cp : Nat) (S : List Term) (s : StrS) (R : Nat → Prop) (w0 : World)
    (hK : ∀ W : World, (∀ k, R k → W.heap[k]? = w0.heap[k]?) → W.heap[b1]? = some (.cells #[.slice A S.length cp] 48 (0, 0)) ∧ W.heap[b2]? = some (.cells #[.slice s.addr s.xs.length s.cap] 49 (0, 0)) ∧ TermsAt W A S ∧ s.lies W) (hm : S.length ≤ 1000000) :
    IterC Tryd.prog 103 #[.pointer (some ⟨b1, 0, none⟩), .pointer (some ⟨b2, 0, none⟩)] (fun x : Term => #[.agg #[.int .i64 x.no, .int .i64 x.at_, .int .i64 x.known, .int .i64 x.lang, .slice x.src.addr x.src.xs.length x.src.cap, .slice x.tgt.addr x.tgt.xs.length x.tgt.cap, .string x.cat, .bool x.gone]]) R (fun _ => False) (startL S s.xs) none w0 := by
  intro l' B0 J Jx Jp own₀ W hR hown hB0 hlive hJ hJx hY h0
  refine (callsIn_wide (n := 0)).1 ?_
  refine callsIn_of_wp Tryd.func103 rfl trivial ?_
  simp only [Tryd.ntmps103, List.size_toArray, List.length_cons, List.length_nil, Nat.reduceAdd, Nat.reduceSub, Array.replicate_succ, Array.replicate_zero, List.push_toArray, List.append_toArray, List.nil_append, List.cons_append]
  have hRB : ∀ k, R k → k < B0 := fun k hk => (hR k hk).1
  have c1 := cell_one (hK W (fun k hk => (hR k hk).2)).1
  have hKk := fun k hk => (hR k hk).2
  have HK := Lib.hid hK
  have HY := Lib.hid hY
  have HJ := Lib.hid hJ
  have HRB := Lib.hid hRB
  clear hK hR hY hJx hJ hRB
  gi_wp2
  gi_loopw [9] (fun i wr => ∃ (own : Nat → Prop) (k : Nat), k ≤ S.length ∧ i = .int .i64 k ∧ J own (startL (S.take k) s.xs) wr ∧ Hid (∀ j, R j → wr.heap[j]? = w0.heap[j]?) ∧ Hid (∀ j, own j → ¬ R j) ∧ Hid (∀ j, own j → j < wr.heap.size) ∧ B0 ≤ wr.heap.size) (fun i _ => S.length - (intOf i).toNat)
  case atStart => exact ⟨own₀, 0, Nat.zero_le _, rfl, h0, hKk, hown, hlive, hB0⟩
  case round =>
    obtain ⟨own, k, hk, rfl, hj, hkeep, hdis, hliv, hBs⟩ := hrel
    by_cases hlt : k < S.length
    · obtain ⟨_, hw2, hT, hsl⟩ := HK.out wr hkeep.out
      obtain ⟨b, off, rfl, hb, hcl⟩ := hT.at_ hlt
      obtain ⟨d0, d1, d2, d3, d4, d5, d6, d7⟩ := hcl k hlt wr (Below.refl _ _)
      have hxl := hT.lie _ (List.getElem_mem hlt)
      have htk := startL_snoc S s.xs k hlt
      have hpf := startL_prefix S s.xs (k + 1)
      have Htk := Lib.hid htk
      have Hpf := Lib.hid hpf
      have HT := Lib.hid hT
      clear htk hpf hcl c1 hT
      generalize S[k] = x at *
      obtain ⟨w4, hw4⟩ : ∃ w4, wr.alloc (.cells #[.int .i64 x.no, .int .i64 x.at_, .int .i64 x.known, .int .i64 x.lang, .slice x.src.addr x.src.xs.length x.src.cap, .slice x.tgt.addr x.tgt.xs.length x.tgt.cap, .string x.cat, .bool x.gone] 51) = w4 := ⟨_, rfl⟩
      have hB4 : Below wr.heap.size wr w4 := by rw [← hw4]; exact ext_alloc (Below.refl _ _) _
      have hz4 : w4.heap.size = wr.heap.size + 1 := by rw [← hw4]; simp
      have hx4 : w4.heap[wr.heap.size]? = some (.cells #[.int .i64 x.no, .int .i64 x.at_, .int .i64 x.known, .int .i64 x.lang, .slice x.src.addr x.src.xs.length x.src.cap, .slice x.tgt.addr x.tgt.xs.length x.tgt.cap, .string x.cat, .bool x.gone] 51 (0, 0)) := by rw [← hw4]; exact World.alloc_heap_new _ _
      have e4 := gblk hx4 4
      have eb2 := cell_one ((hB4.block _ (lt_block hw2)).trans hw2)
      have HJ4 : Hid (∀ W, W.heap = w4.heap → W.os = w4.os → W.tape = w4.tape → W.output = w4.output → J own (startL (S.take k) s.xs) W) := by
        intro W h1 h2 h3 h4
        refine HJ.out own _ wr W hj ⟨h2.trans hB4.os, h3.trans hB4.tape, h4.trans hB4.output, by rw [h1]; omega, fun j hj _ => by rw [h1]; exact hB4.block j hj⟩
      have HK4 : Hid (∀ W : World, W.heap = w4.heap → ∀ j, R j → W.heap[j]? = w0.heap[j]?) := by
        intro W h1 j hj
        have h2 : j < wr.heap.size := by have := HRB.out j hj; omega
        rw [h1, hB4.block j h2]; exact hkeep.out j hj
      have hsm : s.xs.length ≤ 9223372036854775807 := Nat.le_trans hsl.cap hsl.max
      by_cases hn : x.src.xs.length ≤ s.xs.length
      · have hsub : ∀ W : World, _ := fun W => run_upto s x.src.xs.length W hn hsl.cap
        have hL := StrS.sub_len (s := s) (i := 0) (n := x.src.xs.length) (by omega)
        have cE : Hid (∀ W : World, W.heap = w4.heap → Calls Tryd.prog 104 #[.slice x.src.addr x.src.xs.length x.src.cap, .slice (s.sub 0 x.src.xs.length).addr x.src.xs.length (s.sub 0 x.src.xs.length).cap] W fun e w' => e = .returned (.bool (startB x s.xs)) ∧ ∃ q, w' = W.drewN q) := by
          intro W hW
          have hlW : ∀ (t : StrS), t.lies wr → t.lies W := fun t ht => by
            have h4 := ht.ext hB4
            refine ⟨?_, h4.cap, h4.max, h4.nil⟩
            rcases h4.rd with h | ⟨b, off, h1, h2, h3⟩
            · exact .inl h
            · exact .inr ⟨b, off, h1, by rw [hW]; exact h2, fun j u hu => by have := h3 j u hu; unfold World.cell? at this ⊢; rw [hW]; exact this⟩
          have h := equalStr_any x.src (s.sub 0 x.src.xs.length) W (hlW _ hxl.1) (hlW _ (StrS.sub_lies hsl (by omega)))
          rw [hL] at h
          refine h.mono ?_
          rintro e w' ⟨rfl, q⟩
          refine ⟨?_, q⟩
          congr 2
          unfold startB
          have he : (s.sub 0 x.src.xs.length).xs = s.xs.take x.src.xs.length := by show (s.xs.drop 0).take _ = _; rw [List.drop_zero]
          rw [he]
          exact decide_eq_decide.2 ⟨Eq.symm, Eq.symm⟩
        have hle : (x.src.xs.length : Int) ≤ (s.xs.length : Int) := by omega
        have Hsl := Lib.hid hsl
        cases hst : startB x s.xs
        · rw [hst] at cE
          have HN : Hid (startL (S.take (k + 1)) s.xs = startL (S.take k) s.xs) := by show _ = _; rw [Htk.out, hst]; simp
          clear hst hL hsl hxl
          generalize (s.sub 0 x.src.xs.length).addr = B at *
          generalize (s.sub 0 x.src.xs.length).cap = dd at *
          gi_wp2_with fail
          have hwf : ∀ f, Fence.wide.fn f = True := fun f => by simp [Fence.wide]
          gi_quiet_th (exact ⟨rfl, CallsIn.quiet_of (callsIn_wide.2 (cE.out _ rfl))⟩)
          gi_wp2
          go_roundw
          case rel =>
            refine ⟨own, k + 1, by omega, by go_num, ?_, ?_, hdis, ?_, ?_⟩
            · rw [HN.out]; exact HJ4.out _ rfl rfl rfl rfl
            · exact HK4.out _ rfl
            · intro j hj; have := hliv.out j hj; show j < w4.heap.size; omega
            · show B0 ≤ w4.heap.size; omega
          case measure => simp [intOf]; omega
        · rw [hst] at cE
          have HN : Hid (startL (S.take (k + 1)) s.xs = startL (S.take k) s.xs ++ [x]) := by show _ = _; rw [Htk.out, hst]; simp
          have hbx : wr.heap.size < w4.heap.size := by omega
          have cY : Hid (∀ W : World, W.heap = w4.heap → W.os = w4.os → W.tape = w4.tape → W.output = w4.output → Calls Tryd.prog 104 #[.slice x.src.addr x.src.xs.length x.src.cap, .slice (s.sub 0 x.src.xs.length).addr x.src.xs.length (s.sub 0 x.src.xs.length).cap] W (EqYes l' J Jx Jp own (startL (S.take k) s.xs) x wr.heap.size w4)) := by
            intro W h1 h2 h3 h4
            refine (cE.out W h1).mono ?_
            rintro e w' ⟨rfl, q, rfl⟩
            refine ⟨rfl, h1, ?_, ?_⟩
            · exact HY.out own _ x (W.drewN q) (HJ4.out _ h1 h2 h3 h4) (by rw [← HN.out]; exact Hpf.out) hdis.out (fun j hj => by have := hliv.out j hj; show j < W.heap.size; rw [h1]; omega)
            · have hxW : (W.drewN q).heap[wr.heap.size]? = _ := (congrArg (fun h => h[wr.heap.size]?) h1).trans hx4
              exact ⟨gblk hxW 0, gblk hxW 1, gblk hxW 2, gblk hxW 3, gblk hxW 4, gblk hxW 5, gblk hxW 6, gblk hxW 7⟩
          clear hst hL hsl hxl cE
          generalize (s.sub 0 x.src.xs.length).addr = B at *
          generalize (s.sub 0 x.src.xs.length).cap = dd at *
          gi_wp2_with fail
          gi_region_with (first | (refine ⟨trivial, rfl, (callsIn_wide.2 (cY.out _ ?_ ?_ ?_ ?_)).mono ?_⟩; rotate_left 4; rintro e w' ⟨rfl, hh, ⟨fn, tmps, assign, body, hy, hRd⟩, q0, q1, q2, q3, q4, q5, q6, q7⟩; rotate_right 4; exact rfl; exact rfl; exact rfl; exact rfl) | (refine ⟨rfl, hRd.mono ?_⟩; intro e w9 hpost; rcases round_cases hpost with ⟨v, rfl, hwent⟩ | ⟨ch, rfl, hjp⟩; rotate_left; exact ⟨rfl, .inr (.inr (.inl ⟨ch, rfl, hjp⟩))⟩))
          all_goals
            have hsw : w'.heap.size = wr.heap.size + 1 := by rw [hh]; exact hz4
            obtain ⟨own', hbs, ⟨rfl, hj3⟩ | ⟨rfl, hjx⟩⟩ := hwent
            · clear q0 q1 q2 q3 q4 q5 q6 q7 hRd hy
              gi_wp2
              go_roundw
              case rel =>
                refine ⟨own', k + 1, by omega, by go_num, ?_, ?_, ?_, fun j hj => hbs.live j hj, ?_⟩
                · rw [HN.out]; exact hj3
                · intro j hjR
                  have h1 := HRB.out j hjR
                  rw [hbs.block j (by omega) (fun h => hdis.out j h hjR)]
                  exact HK4.out _ hh j hjR
                · intro j hjo hjR
                  rcases hbs.owns j hjo with h | h
                  · exact hdis.out j h hjR
                  · have := HRB.out j hjR; omega
                · have := hbs.size; omega
              case measure => simp [intOf]; omega
            · clear q0 q1 q2 q3 q4 q5 q6 q7 hRd hy
              gi_wp2
              refine bodyPost_ret (results_none rfl _ _ _) rfl ?_
              exact .inr (.inl ⟨⟨_, rfl⟩, own', _, by rw [← HN.out]; exact Hpf.out, hjx⟩)
      · have hle : ¬ (x.src.xs.length : Int) ≤ (s.xs.length : Int) := by omega
        have hle2 : decide ((x.src.xs.length : Int) ≤ (s.xs.length : Int)) = false := decide_eq_false hle
        have hle3 : decide (x.src.xs.length ≤ s.xs.length) = false := decide_eq_false hn
        have HN : Hid (startL (S.take (k + 1)) s.xs = startL (S.take k) s.xs) := by show _ = _; rw [Htk.out, startB_long (by omega)]; simp
        clear hsl hxl
        gi_wp2_with fail
        have hwf : ∀ f, Fence.wide.fn f = True := fun f => by simp [Fence.wide]
        gi_quiet_th (fail)
        gi_wp2
        go_roundw
        case rel =>
          refine ⟨own, k + 1, by omega, by go_num, ?_, ?_, hdis, ?_, ?_⟩
          · rw [HN.out]; exact HJ4.out _ rfl rfl rfl rfl
          · exact HK4.out _ rfl
          · intro j hj; have := hliv.out j hj; show j < w4.heap.size; omega
          · show B0 ≤ w4.heap.size; omega
        case measure => simp [intOf]; omega
    · gi_wp2
      go_end0
      have : k = S.length := by omega
      subst this
      rw [List.take_length] at hj
      exact .inl ⟨rfl, ⟨_, rfl⟩, own, hj⟩
end Go.Proofs.YtneanannicacnaaDoor
