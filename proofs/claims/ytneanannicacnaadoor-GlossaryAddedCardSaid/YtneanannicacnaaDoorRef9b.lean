/- The reference's package of texts: the code points of a string, and whether it is a word. -/
import Derived.Test.YtneanannicacnaaDoorRef9a
import Derived.Test.YtneanannicacnaaDoorWord
namespace Go.Proofs.YtneanannicacnaaDoor
open Go.RowKit Go.Han
set_option maxRecDepth 100000

theorem ownsRow_ext {w w' : World} {base e size n : Nat} {v : Value} {xs : List Value} (h : w.ownsRow base e size v n xs) (hb : Below w.heap.size w w') : w'.ownsRow base e size v n xs :=
  ownsRow_of_block h fun g hg => hb.block g (h.lt g hg).2
def KindPost (r : Int) (w : World) (e : Ending) (w' : World) : Prop :=
  w = w' ∧ ∃ k x : Int, e = .returned (.tuple #[.int .i64 k, .int .i64 x]) ∧ (k == 1) = spaceB r
set_option maxHeartbeats 1000000 in
theorem kind_any (r : Int) (w : World) : Calls Tryd.prog 126 #[.int .i64 r] w (KindPost r w) := by
  cases hp : pointB r
  · have hs : Hid (spaceB r = false) := by
      show _ = _
      have : ¬ (r = 9 ∨ r = 10 ∨ r = 13 ∨ r = 32) := by
        rintro (rfl | rfl | rfl | rfl) <;> cases hp
      simp [spaceB]; omega
    go_enter Tryd.func126, Tryd.ntmps126
    go_wp2_with fail
    refine (point9_any _ _).mono ?_
    rintro e w' ⟨rfl, rfl⟩
    go_wp2
    go_ret2
    exact ⟨rfl, 0, 90, rfl, hs.out.symm⟩
  · cases hs : spaceB r
    · have Hs := Lib.hid hs
      have n1 : (r == 9) = false := by simp [spaceB] at hs ⊢; omega
      have n2 : (r == 10) = false := by simp [spaceB] at hs ⊢; omega
      have n3 : (r == 13) = false := by simp [spaceB] at hs ⊢; omega
      have n4 : (r == 32) = false := by simp [spaceB] at hs ⊢; omega
      clear hs
      go_enter Tryd.func126, Tryd.ntmps126
      go_wp2_with fail
      refine (point9_any _ _).mono ?_
      rintro e w' ⟨rfl, rfl⟩
      go_wp2
      all_goals go_ret2
      all_goals exact ⟨rfl, _, _, rfl, by rw [Hs.out]; rfl⟩
    · have Hs := Lib.hid hs
      have h4 : r = 32 ∨ r = 9 ∨ r = 10 ∨ r = 13 := by simp [spaceB] at hs; omega
      clear hs hp
      rcases h4 with rfl | rfl | rfl | rfl
      all_goals
        go_enter Tryd.func126, Tryd.ntmps126
        go_wp2_with fail
        refine (point9_any _ _).mono ?_
        rintro e w' ⟨rfl, rfl⟩
        go_wp2
        go_ret2
        exact ⟨rfl, 1, 0, rfl, by rw [Hs.out]; rfl⟩
theorem space9_any (r : Int) (w : World) : Calls Tryd.prog 110 #[.int .i64 r] w fun e w' => e = .returned (.bool (spaceB r)) ∧ w = w' := by
  go_enter Tryd.func110, Tryd.ntmps110
  go_wp2_with fail
  refine (kind_any _ _).mono ?_
  rintro e w' ⟨rfl, k, x, rfl, h⟩
  have H := Lib.hid h
  clear h
  go_wp2
  go_ret
  exact ⟨by rw [← H.out]; rfl, rfl⟩

def Runes9Inv (s : ByteArray) (w : World) (s0 out : Value) (wr : World) : Prop :=
  ∃ (pre : List Nat) (s' : ByteArray), s0 = .string s' ∧ wr.ownsRow w.heap.size 3 1 out pre.length (pre.map fun r : Nat => .int .i64 (r : Int)) ∧ Below w.heap.size w wr ∧
    (runes s.data.toList).1 = pre ++ (runes s'.data.toList).1 ∧ (runes s.data.toList).2 = (runes s'.data.toList).2 ∧ pre.length + s'.size ≤ 4096
def sizeOf (v : Value) : Nat := match v with | .string s => s.size | _ => 0
set_option maxHeartbeats 1000000 in
theorem runes9_any (s : ByteArray) (w : World) : Calls Tryd.prog 109 #[.string s] w (RunesPost s w) := by
  obtain ⟨i0, hi0, iz0, iz1, iz2⟩ := info_parts info_int
  by_cases hs : s.size ≤ 4096
  · have h1 : ¬ (4096 : Int) < (s.size : Int) := by omega
    go_enter Tryd.func109, Tryd.ntmps109
    go_wp2_with fail
    go_loopw [0, 4, 5, 6] (fun s0 out _ _ wr => Runes9Inv s w s0 out wr) (fun s0 _ _ _ _ => sizeOf s0)
    case atStart => exact ⟨[], s, rfl, World.ownsRow_made w #[] 0 (Nat.le_refl _) (Nat.zero_le _) rfl, (Below.refl _ _).alloc (Nat.le_refl _) _, rfl, rfl, by simpa using hs⟩
    case round =>
      obtain ⟨pre, s', rfl, hown, hB, hr1, hr2, hlen⟩ := hrel
      have H1 := Lib.hid hr1
      have H2 := Lib.hid hr2
      have hBs := hB.size
      clear hr1 hr2
      by_cases hs' : s'.data.toList = []
      · have hz : s'.size = 0 := by rw [Lib.size_eq, hs']; rfl
        have hz1 : ¬ (0 : Int) < (s'.size : Int) := by omega
        have hz2 : decide ((0 : Int) < (s'.size : Int)) = false := by simpa using hz1
        have hsl := SlOf.of_own hown
        have e1 := H1.out
        have e2 := H2.out
        rw [hs', runes_nil] at e1 e2
        simp only [List.append_nil] at e1
        obtain ⟨A, c, rfl, hn, hm, hl2, hrd⟩ := hsl
        have E1 := Lib.hid e1
        have E2 := Lib.hid e2
        clear hz hs' hl2 e1 e2 H1 H2
        go_wp2_with fail
        go_ret2
        exact ⟨hB, .inr (.inr ⟨hs, E2.out, A, c, by rw [E1.out]; rfl, by rw [E1.out]; exact hrd⟩)⟩
      · have hz : 0 < s'.size := by rw [Lib.size_eq]; exact List.length_pos_iff.2 hs'
        have hz1 : (0 : Int) < (s'.size : Int) := by omega
        have hz2 : decide ((0 : Int) < (s'.size : Int)) = true := by simpa using hz1
        have hfd := Lib.hid (firstR_dec s'.data.toList hs')
        have hstep := Lib.hid (runes_step s'.data.toList hs')
        have hrg := dec_range s'.data.toList hs'
        have hge := dec_ge1 s'.data.toList
        have hne := Lib.hid hs'
        clear hs'
        go_wp2_with fail
        refine (first_any s' hne.out wr).mono ?_
        rintro e w1 ⟨hb1, rfl⟩
        have hB1 : Below w.heap.size w w1 := hB.trans (hb1.mono hBs)
        have hBs1 := hB1.size
        have hown1 := ownsRow_ext hown hb1
        rw [hfd.out]
        generalize dec s'.data.toList = d at *
        obtain ⟨r, n⟩ := d
        simp only at hrg hge
        cases hbad : badB (r, n)
        · have e1 := H1.out
          have e2 := H2.out
          have st := hstep.out
          rw [if_neg (by simp [hbad])] at st
          rw [st] at e1 e2
          have E1 := Lib.hid e1
          have E2 := Lib.hid e2
          have XL := Lib.hid (extract_list s' n)
          have hsz := Lib.size_eq s'
          have hxs : (s'.extract n s'.size).size = s'.size - n := by rw [Lib.size_eq, XL.out, List.length_drop, ← hsz]
          have XS := Lib.hid hxs
          have hns : n ≤ s'.size := by rw [hsz]; exact hrg.2.1
          have hns2 : (n : Int) ≤ s'.size := by omega
          have hn0 : ((n : Int) == 0) = false := by simp; omega
          clear e1 e2 st hbad hstep hfd H1 H2 hsz hxs hown hne
          simp only [Bool.false_eq_true, if_false]
          have A1 : (pre.length + 1) ≤ maxLen := by unfold maxLen; omega
          have A2 : (pre.length + 1) * 8 ≤ 140737488355328 := by omega
          have A3 : w.heap.size ≤ (w1.alloc (.cells #[.int .i64 r] 3)).heap.size := by simp; omega
          have A4 : ∀ u ∈ [Value.int .i64 (r : Int)], u.oneCell' = true := by simp [Value.oneCell']
          go_wp2_with (at_builtin; refine wpList_append_own _ rfl _ _ 126 rfl w.heap.size 3 i0 (.int .i64 0) 1 8 Tryd.underlying126 hi0 iz0 iz1 iz2 rfl (by decide) _ _ _ rfl (hown1.alloc _) ⟨w1.heap.size, 0, none⟩ 1 1 [.int .i64 r] rfl rfl (cell_one_new _ _ _) A4 A1 A2 A3 ?_; intro v' w2 hown' hgrow _; clear A1 A2 A3)
          go_roundw
          case rel =>
            refine ⟨pre ++ [r], s'.extract n s'.size, rfl, by simpa using hown', ?_, ?_, ?_, ?_⟩
            · exact (hB1.alloc hBs1 _).grown hgrow (by simp; omega) (fun k hk => (hown1.lt k hk).1)
            · rw [E1.out, XL.out]; simp
            · rw [E2.out, XL.out]
            · rw [XS.out]; simp; omega
          case measure => show (s'.extract n s'.size).size < s'.size; rw [XS.out]; omega
        · have e2 := H2.out
          have st := hstep.out
          rw [if_pos hbad] at st
          rw [st] at e2
          have E2 := Lib.hid e2
          clear e2 st hbad hstep hfd H1 H2
          simp only [if_true]
          go_wp2_with fail
          go_ret2
          exact ⟨hB1, .inr (.inl ⟨hs, E2.out, rfl⟩)⟩
  · have h1 : (4096 : Int) < (s.size : Int) := by omega
    go_enter Tryd.func109, Tryd.ntmps109
    go_wp2_with fail
    go_ret2
    exact ⟨Below.refl _ _, .inl ⟨by omega, rfl⟩⟩

set_option maxHeartbeats 1000000 in
theorem word9_any (s : ByteArray) (w : World) : Calls Tryd.prog 92 #[.string s] w fun e w' => e = .returned (.bool (wordB s)) ∧ Below w.heap.size w w' := by
  by_cases h0 : s.size < 1
  · have H : Hid (wordB s = false) := by unfold wordB; rw [decide_eq_false (show ¬ 0 < s.size by omega)]; simp [Hid]
    have g1 : (s.size : Int) < 1 := by omega
    have g2 : s.size = 0 := by omega
    go_enter Tryd.func92, Tryd.ntmps92
    go_wp2_with fail
    go_ret
    exact ⟨by rw [H.out]; rfl, Below.refl _ _⟩
  by_cases h64 : 64 < s.size
  · have H : Hid (wordB s = false) := by unfold wordB; rw [decide_eq_false (show ¬ s.size ≤ 64 by omega)]; rfl
    have g1 : ¬ (s.size : Int) < 1 := by omega
    have g2 : (64 : Int) < s.size := by omega
    go_enter Tryd.func92, Tryd.ntmps92
    go_wp2_with fail
    go_ret
    exact ⟨by rw [H.out]; rfl, Below.refl _ _⟩
  have g1 : ¬ (s.size : Int) < 1 := by omega
  have g2 : ¬ (64 : Int) < s.size := by omega
  have H : Hid (wordB s = ((runes s.data.toList).2 && !(runes s.data.toList).1.any fun r => spaceB (r : Int))) := by unfold wordB; rw [decide_eq_true (show s.size ≤ 64 by omega), decide_eq_true (show 0 < s.size by omega)]; rfl
  have hlen : (runes s.data.toList).1.length ≤ 64 := by have := runes_length s.data.toList; have := Lib.size_eq s; omega
  go_enter Tryd.func92, Tryd.ntmps92
  go_wp2_with fail
  refine (runes9_any s w).mono ?_
  rintro e w1 ⟨hb1, h⟩
  have hz := hb1.size
  rcases h with ⟨hs, he⟩ | ⟨hs, hok, he⟩ | ⟨hs, hok, A, c, he, hrd⟩
  · omega
  · subst he
    have H2 : Hid (wordB s = false) := by show _ = _; rw [H.out, hok]; rfl
    clear hok H
    go_wp2_with fail
    go_ret
    exact ⟨by rw [H2.out]; rfl, hb1⟩
  · subst he
    have H2 : Hid (wordB s = !(runes s.data.toList).1.any fun r => spaceB (r : Int)) := by show _ = _; rw [H.out, hok]; rfl
    clear hok H
    generalize (runes s.data.toList).1 = l at *
    go_wp2_with fail
    go_loopw [5] (fun i wr => ∃ k : Nat, k ≤ l.length ∧ i = .int .i64 k ∧ Hid (∀ x ∈ l.take k, spaceB (x : Nat) = false) ∧ wr = w1) (fun i _ => l.length - (intOf i).toNat)
    case atStart => exact ⟨0, Nat.zero_le _, rfl, by simp [Hid], rfl⟩
    case round =>
      obtain ⟨k, hk, rfl, HR, rfl⟩ := hrel
      by_cases hlt : k < l.length
      · obtain ⟨b, off, rfl, hb, hc⟩ := hrd.at_ (k := k) (by simpa using hlt)
        have hck : wr.cell? ⟨b, off + k, none⟩ = some (.int .i64 (l[k] : Nat)) := hc k _ (by simp [hlt])
        clear hc hrd
        go_wp2_with fail
        refine (space9_any _ _).mono ?_
        rintro e w' ⟨rfl, rfl⟩
        cases hsp : spaceB (l[k] : Nat)
        · have HS := Lib.hid hsp
          clear hsp
          go_wp2_with fail
          go_roundw
          case rel =>
            refine ⟨k + 1, by omega, by go_num, ?_, trivial⟩
            intro x hx
            rw [List.take_succ_eq_append_getElem hlt, List.mem_append] at hx
            rcases hx with hx | hx
            · exact HR.out x hx
            · simp at hx; rw [hx]; exact HS.out
          case measure => simp [intOf]; omega
        · have H3 : Hid (wordB s = false) := by
            show _ = _
            rw [H2.out, Bool.not_eq_false', List.any_eq_true]
            exact ⟨l[k], List.getElem_mem _, hsp⟩
          clear hsp H2
          go_wp2_with fail
          go_ret
          exact ⟨by rw [H3.out]; rfl, hb1⟩
      · have H3 : Hid (wordB s = true) := by
          show _ = _
          obtain rfl : k = l.length := by omega
          rw [H2.out, Bool.not_eq_true', List.any_eq_false]
          intro x hx
          simp [HR.out x (by simpa using hx)]
        clear H2 HR
        go_wp2_with fail
        go_ret
        exact ⟨by rw [H3.out]; rfl, hb1⟩
end Go.Proofs.YtneanannicacnaaDoor
