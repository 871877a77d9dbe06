/- The iterator of package text over the code points of a string: its contract. -/
import Derived.Test.YtneanannicacnaaDoorBase
import Derived.Test.YtneanannicacnaaDoorUtf
import Derived.Test.YtneanannicacnaaDoorShelf
import Derived.RangeFuncBound
namespace Go.Proofs.YtneanannicacnaaDoor
open Go.RowKit Go.Han
attribute [local go_sem] Oper.semAt_some

/-- The two tables of package utf8, as their initialisers lay them. -/
abbrev Tabs (w : World) : Prop := Lib.Utf8Tabs 1 2 w

def wrongChain : List PanicEntry := [{ v := .iface 154 (.agg #[]), recovered := false }]

def runesEnd (l : List UInt8) : Option (List PanicEntry) := if (runes l).2 then none else some wrongChain

set_option maxHeartbeats 400000 in
theorem points1 (b : Nat) (s : ByteArray) (w0 : World) (hT : Tabs w0) (hb : w0.heap[b]? = some (.cells #[.string s] 9 (0, 0))) :
    IterC Tryd.prog 147 #[.pointer (some ⟨b, 0, none⟩)] (fun r : Nat => #[.int .i64 r]) (fun k => k = b ∨ k = 1 ∨ k = 2) (fun k => k = b)
      (runes s.data.toList).1 (runesEnd s.data.toList) w0 := by
  intro l B0 J Jx Jp own₀ W hR hown hB0 hlive hJ hJx hY h0
  refine (callsIn_wide (n := 0)).1 ?_
  refine callsIn_of_wp Tryd.func147 rfl trivial ?_
  simp only [Tryd.ntmps147, List.size_toArray, List.length_cons, List.length_nil, Nat.reduceAdd, Nat.reduceSub, Array.replicate_succ, Array.replicate_zero, List.push_toArray, List.append_toArray, List.nil_append, List.cons_append]
  gi_wp2
  gi_loopw [3] (fun _ wr => ∃ (own : Nat → Prop) (pre : List Nat) (s' : ByteArray), J own pre wr ∧ wr.heap[b]? = some (.cells #[.string s'] 9 (0, 0)) ∧ Tabs wr ∧ (∀ k, own k → ¬ (k = b ∨ k = 1 ∨ k = 2)) ∧ (∀ k, own k → k < wr.heap.size) ∧
      Hid ((runes s.data.toList).1 = pre ++ (runes s'.data.toList).1 ∧ (runes s.data.toList).2 = (runes s'.data.toList).2))
    (fun _ wr => match wr.cell? ⟨b, 0, none⟩ with | some (.string s') => s'.size | _ => 0)
  case atStart => exact ⟨own₀, [], s, h0, (hR b (.inl rfl)).2.trans hb, utf_below hT fun k hk => (hR k (.inr hk)).2, hown, hlive, by simp, rfl⟩
  case round =>
    obtain ⟨own, pre, s', hj, hb', hT', hdis, hliv, HR⟩ := hrel
    have hc := cell_one hb'
    have hf := frozen_one hb' 0
    have hlt := lt_block hb'
    by_cases hs : s'.data.toList = []
    · have hz : s'.size = 0 := by rw [Lib.size_eq, hs]; rfl
      have hz1 : ¬ (0 : Int) < (s'.size : Int) := by omega
      have hz2 : decide ((0 : Int) < (s'.size : Int)) = false := by simpa using hz1
      gi_wp2
      go_end0
      obtain ⟨h1, h2⟩ := HR.out
      rw [hs, runes_nil] at h1 h2
      simp only [List.append_nil] at h1
      exact .inl ⟨by unfold runesEnd; rw [h2]; rfl, ⟨_, rfl⟩, own, by rw [h1]; exact hj⟩
    · have hz : 0 < s'.size := by rw [Lib.size_eq]; exact List.length_pos_iff.2 hs
      have hz1 : (0 : Int) < (s'.size : Int) := by omega
      have hz2 : decide ((0 : Int) < (s'.size : Int)) = true := by simpa using hz1
      have hdec := decodeGo_dec s' hs
      have hrg := dec_range s'.data.toList hs
      have hge := dec_ge1 s'.data.toList
      have hstep := runes_step s'.data.toList hs
      generalize dec s'.data.toList = d at *
      obtain ⟨r, n⟩ := d
      have cd := Tryd.utf8_DecodeRuneInString s' wr hT'
      rw [hdec] at cd
      have Cd := Lib.hid cd
      clear hdec cd
      have Hstep := Lib.hid hstep
      clear hstep
      simp only at hrg hge
      gi_wp2_with fail
      refine ⟨trivial, rfl, (callsIn_wide.2 Cd.out).mono ?_⟩
      rintro e w1 ⟨rfl, hb1⟩
      obtain ⟨hc1, hf1⟩ := bcell hb1
      have hz3 := hb1.size
      by_cases hbad : badB (r, n) = true
      · have hr : r = 65533 ∧ n < 2 := by simpa [badB] using hbad
        obtain ⟨rfl, hn2⟩ := hr
        have hn : (n : Int) < 2 := by omega
        gi_wp2
        obtain ⟨h1, h2⟩ := HR.out
        have h3 := Hstep.out
        rw [if_pos hbad] at h3
        rw [h3] at h1 h2
        simp only [List.append_nil] at h1
        refine ⟨rfl, .inr (.inr (.inr ⟨wrongChain, by unfold runesEnd; rw [h2]; rfl, rfl, own, ?_⟩))⟩
        rw [h1]
        exact hJ own pre wr w1 hj (IterStep.of_below hb1)
      · have hbf : badB (r, n) = false := by simpa using hbad
        have h3 := Hstep.out
        rw [if_neg hbad] at h3
        obtain ⟨h1, h2⟩ := HR.out
        rw [h3] at h1 h2
        clear h3
        have e1 : (s'.extract n s'.size).data.toList = s'.data.toList.drop n := extract_list s' n
        have H1 := Lib.hid h1
        have H2 := Lib.hid h2
        have E1 := Lib.hid e1
        clear h1 h2 e1
        have hj2 : J own pre (w1.setCell ⟨b, 0, none⟩ (.string (s'.extract n s'.size))) := hJ own pre wr _ hj (IterStep.setCell (M := fun k => k = b) (p := ⟨b, 0, none⟩) (IterStep.of_below hb1) (.inr rfl) (fun h => hdis b h (.inl rfl)) _)
        obtain ⟨fn, tmps, assign, body, hy, hRd⟩ := hY own pre r _ hj2 (by rw [H1.out]; exact ⟨(runes (s'.data.toList.drop n)).1, by simp⟩) hdis (fun k hk => by simp; have := hliv k hk; omega)
        have hns : n ≤ s'.size := by rw [Lib.size_eq]; exact hrg.2.1
        have hi32 : (r : Int) ≤ 1114111 := by have := hrg.1; omega
        have hcase : ((r : Int) == 65533) = false ∨ (((r : Int) == 65533) = true ∧ (2 : Int) ≤ (n : Int)) := by
          by_cases hr : r = 65533
          · right
            simp [badB, hr] at hbf
            refine ⟨by simp; omega, by omega⟩
          · left
            simp; omega
        rcases hcase with hr | ⟨hr, hn2⟩
        all_goals
          gi_wp2
          refine ⟨rfl, hRd.mono ?_⟩
          rintro e W3 (⟨own', hbs, (⟨rfl, hj3⟩ | ⟨rfl, hjx⟩)⟩ | ⟨ch, rfl, hjp⟩)
          · have hb3 : W3.heap[b]? = some (.cells #[.string (s'.extract n s'.size)] 9 (0, 0)) :=
              hbs.same (set_one ((hb1.block b hlt).trans hb') _) (fun h => hdis b h (.inl rfl))
            have hT3 : Tabs W3 := utf_below hT' fun k hk => by
              have hkl := utf_lt hT' k hk
              have hkb : k ≠ b := by
                rintro rfl
                have hk1 := hb'
                rcases hk with rfl | rfl
                · have := hT'.1 1 (by omega); simp [World.cell?, hk1] at this
                · have := (hT'.2 0 (by omega)).2; simp [World.cell?, hk1] at this
              rw [hbs.block k (by simp; omega) (fun h => hdis k h (.inr hk)), Below.heap_setCell _ _ _ _ hkb]
              exact hb1.block k hkl
            have hc3 := cell_one hb3
            have hdis3 : ∀ k, own' k → ¬ (k = b ∨ k = 1 ∨ k = 2) := fun k hk hr => by
              rcases hbs.owns k hk with h | h
              · exact hdis k h hr
              · simp at h
                rcases hr with hr | hr
                · omega
                · have := utf_lt hT' k hr; omega
            have Hc3 := Lib.hid hc3
            clear hc3 hc1 hf1 hc hf
            gi_wp2
            go_roundw
            case rel =>
              refine ⟨own', pre ++ [r], s'.extract n s'.size, hj3, hb3, hT3, hdis3, fun k hk => hbs.live k hk, ?_, ?_⟩
              · rw [H1.out, E1.out]; simp
              · rw [H2.out, E1.out]
            case measure =>
              rw [Hc3.out, cell_one hb']
              have : (s'.extract n s'.size).size = s'.data.toList.length - n := by rw [Lib.size_eq, E1.out]; simp
              have h4 := Lib.size_eq s'
              show (s'.extract n s'.size).size < s'.size
              omega
          · gi_wp2
            refine bodyPost_ret (results_none rfl _ _ _) rfl ?_
            exact .inr (.inl ⟨⟨_, rfl⟩, own', pre ++ [r], ⟨(runes (s'.data.toList.drop n)).1, by rw [H1.out]; simp⟩, hjx⟩)
          · exact ⟨rfl, .inr (.inr (.inl ⟨ch, rfl, hjp⟩))⟩

end Go.Proofs.YtneanannicacnaaDoor
