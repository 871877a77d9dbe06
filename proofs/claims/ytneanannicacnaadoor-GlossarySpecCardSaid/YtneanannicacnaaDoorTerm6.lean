/- Comparing texts and terms (the reference); what counts, what is later. -/
import Derived.Test.YtneanannicacnaaDoorTerm5
namespace Go.Proofs.YtneanannicacnaaDoor
open Go.RowKit Go.Han
attribute [local irreducible] wpStill wpQuiet
set_option maxRecDepth 100000

theorem sameText_any (s t : StrS) (w : World) (hs : s.lies w) (ht : t.lies w) : Calls Tryd.prog 76 #[s.val, t.val] w fun e w' => e = .returned (.bool (decide (s.xs = t.xs))) ∧ Below w.heap.size w w' := by
  obtain ⟨A, c, l⟩ := s
  obtain ⟨B, d, l'⟩ := t
  have hm : l.length ≤ 9223372036854775807 := Nat.le_trans hs.cap hs.max
  have hat := Lib.hid (fun k hk => StrS.at_ hs (k := k) hk)
  have hat' := Lib.hid (fun k hk => StrS.at_ ht (k := k) hk)
  show Calls _ _ #[.slice A l.length c, .slice B l'.length d] w fun e w' => e = .returned (.bool (decide (l = l'))) ∧ _
  clear hs ht
  by_cases hl : l.length = l'.length
  · have hne : ((l.length : Int) != (l'.length : Int)) = false := by simp [hl]
    have Hl := Lib.hid hl
    clear hl
    go_enter Tryd.func76, Tryd.ntmps76
    go_wp2_with fail
    go_loopw [5] (fun i wr => ∃ k : Nat, k ≤ l.length ∧ i = .int .i64 k ∧ Below w.heap.size w wr ∧ Hid (l.take k = l'.take k)) (fun i _ => l.length - (intOf i).toNat)
    case atStart => exact ⟨0, Nat.zero_le _, rfl, Below.refl _ _, rfl⟩
    case round =>
      obtain ⟨k, hk, rfl, hB, HR⟩ := hrel
      by_cases hlt : k < l.length
      · have hlt' : k < l'.length := by have := Hl.out; omega
        obtain ⟨b, off, he, hb, hc⟩ := hat.out k hlt
        obtain ⟨b', off', he', hb', hc'⟩ := hat'.out k hlt'
        change A = _ at he
        change B = _ at he'
        change ∀ (j : Nat) (hj : j < l.length), w.cell? ⟨b, off + j, none⟩ = some (.string l[j]) at hc
        change ∀ (j : Nat) (hj : j < l'.length), w.cell? ⟨b', off' + j, none⟩ = some (.string l'[j]) at hc'
        subst he he'
        have h1 := (hB.cell (p := ⟨b, off + k, none⟩) hb).trans (hc k hlt)
        have h2 := (hB.cell (p := ⟨b', off' + k, none⟩) hb').trans (hc' k hlt')
        have htk : l.take (k + 1) = l.take k ++ [l[k]] := List.take_succ_eq_append_getElem hlt
        have htk' : l'.take (k + 1) = l'.take k ++ [l'[k]] := List.take_succ_eq_append_getElem hlt'
        have Htk := Lib.hid htk
        have Htk' := Lib.hid htk'
        have hf : Hid (l = l' → l[k] = l'[k]) := by rintro rfl; rfl
        clear hc hc' htk htk'
        generalize l[k] = x at *
        generalize l'[k] = y at *
        by_cases hxy : x = y
        · subst hxy
          have g1 : (x.toList != x.toList) = false := by simp
          have g2 : (x.toList == x.toList) = true := by simp
          go_wp2_with fail
          go_still (by kernel_rfl)
          go_wp2
          go_roundw
          case rel => exact ⟨k + 1, by omega, by go_num, hB.drew, by show _ = _; rw [Htk.out, Htk'.out, HR.out]⟩
          case measure => simp [intOf]; omega
        · have HF : Hid (decide (l = l') = false) := decide_eq_false (fun h => hxy (hf.out h))
          have hxl : ¬ x.toList = y.toList := fun h => hxy (by rw [ByteArray.toList_eq, ByteArray.toList_eq] at h; cases x with | mk a => cases y with | mk b => cases a; cases b; simp at h; rw [h])
          have g1 : (x.toList != y.toList) = true := by simpa using hxl
          have g2 : (x.toList == y.toList) = false := by simpa using hxl
          clear hxy hxl
          go_wp2_with fail
          go_still (by kernel_rfl)
          go_wp2
          go_ret
          exact ⟨by rw [HF.out]; rfl, hB.drew⟩
      · have HF : Hid (decide (l = l') = true) := by
          refine decide_eq_true ?_
          obtain rfl : k = l.length := by omega
          have h := HR.out
          rw [List.take_length, List.take_of_length_le (by have := Hl.out; omega)] at h
          exact h
        clear HR
        go_wp2_with fail
        go_ret
        exact ⟨by rw [HF.out]; rfl, hB⟩
  · have hne : ((l.length : Int) != (l'.length : Int)) = true := by simp; omega
    have HF : Hid (decide (l = l') = false) := decide_eq_false (fun h => hl (by rw [h]))
    clear hl
    go_enter Tryd.func76, Tryd.ntmps76
    go_wp2_with fail
    go_ret
    exact ⟨by rw [HF.out]; rfl, Below.refl _ _⟩
theorem sameText_at (s t : StrS) (w : World) (hs : s.lies w) (ht : t.lies w) : Calls Tryd.prog 76 #[.slice s.addr s.xs.length s.cap, .slice t.addr t.xs.length t.cap] w fun e w' => e = .returned (.bool (decide (s.xs = t.xs))) ∧ Below w.heap.size w w' := sameText_any s t w hs ht

def countsB (x : Term) (at_ known : Int) : Bool := decide (x.at_ ≤ at_) && decide (x.known ≤ known)
def laterB (a b : Term) : Bool := decide (b.at_ < a.at_) || (decide (a.at_ = b.at_) && decide (b.no < a.no))
def aboutB (a b : Term) : Bool := decide (a.lang = b.lang) && decide (a.src.xs = b.src.xs)
def sameTermB (a b : Term) : Bool := decide (a.no = b.no) && decide (a.at_ = b.at_) && decide (a.known = b.known) && decide (a.lang = b.lang) && decide (a.src.xs = b.src.xs) && decide (a.tgt.xs = b.tgt.xs) && decide (a.cat = b.cat) && decide (a.gone = b.gone)

theorem counts_any (x : Term) (t u : Int) (w : World) : Calls Tryd.prog 41 #[.agg #[.int .i64 x.no, .int .i64 x.at_, .int .i64 x.known, .int .i64 x.lang, .slice x.src.addr x.src.xs.length x.src.cap, .slice x.tgt.addr x.tgt.xs.length x.tgt.cap, .string x.cat, .bool x.gone], .int .i64 t, .int .i64 u] w fun e w' => e = .returned (.bool (countsB x t u)) ∧ Below w.heap.size w w' := by
  have H : Hid (countsB x t u = (decide (x.at_ ≤ t) && decide (x.known ≤ u))) := rfl
  go_enter Tryd.func41, Tryd.ntmps41
  by_cases h1 : x.at_ ≤ t
  · by_cases h2 : x.known ≤ u
    · have HF : Hid (countsB x t u = true) := by show _ = _; rw [H.out]; simp [h1, h2]
      go_wp2_with fail
      go_ret
      exact ⟨by rw [HF.out]; rfl, ext_alloc (Below.refl _ _) _⟩
    · have HF : Hid (countsB x t u = false) := by show _ = _; rw [H.out]; simp [h2]
      go_wp2_with fail
      go_ret
      exact ⟨by rw [HF.out]; first | rfl | simp [h2], ext_alloc (Below.refl _ _) _⟩
  · have HF : Hid (countsB x t u = false) := by show _ = _; rw [H.out]; simp [h1]
    go_wp2_with fail
    go_ret
    exact ⟨by rw [HF.out]; rfl, ext_alloc (Below.refl _ _) _⟩
set_option maxHeartbeats 1000000 in
theorem later_any (a b : Term) (w : World) : Calls Tryd.prog 43 #[.agg #[.int .i64 a.no, .int .i64 a.at_, .int .i64 a.known, .int .i64 a.lang, .slice a.src.addr a.src.xs.length a.src.cap, .slice a.tgt.addr a.tgt.xs.length a.tgt.cap, .string a.cat, .bool a.gone], .agg #[.int .i64 b.no, .int .i64 b.at_, .int .i64 b.known, .int .i64 b.lang, .slice b.src.addr b.src.xs.length b.src.cap, .slice b.tgt.addr b.tgt.xs.length b.tgt.cap, .string b.cat, .bool b.gone]] w fun e w' => e = .returned (.bool (laterB a b)) ∧ Below w.heap.size w w' := by
  have H : Hid (laterB a b = (decide (b.at_ < a.at_) || (decide (a.at_ = b.at_) && decide (b.no < a.no)))) := rfl
  go_enter Tryd.func43, Tryd.ntmps43
  by_cases h1 : b.at_ < a.at_
  · go_wp2_with fail
    go_ret
    exact ⟨by rw [H.out]; simp [h1], ext_alloc (ext_alloc (Below.refl _ _) _) _⟩
  · by_cases h2 : a.at_ = b.at_
    · have g1 : (a.at_ == b.at_) = true := by simp [h2]
      by_cases h3 : b.no < a.no
      · have HF : Hid (laterB a b = true) := by show _ = _; rw [H.out]; simp [h2, h3]
        clear h2
        go_wp2_with fail
        go_ret
        exact ⟨by rw [HF.out]; rfl, ext_alloc (ext_alloc (Below.refl _ _) _) _⟩
      · have HF : Hid (laterB a b = false) := by show _ = _; rw [H.out]; simp [h2, h3]
        clear h2
        go_wp2_with fail
        go_ret
        exact ⟨by rw [HF.out]; rfl, ext_alloc (ext_alloc (Below.refl _ _) _) _⟩
    · have g1 : (a.at_ == b.at_) = false := by simpa using h2
      have HF : Hid (laterB a b = false) := by show _ = _; rw [H.out]; simp [h1, h2]
      clear h2
      go_wp2_with fail
      go_ret
      exact ⟨by rw [HF.out]; rfl, ext_alloc (ext_alloc (Below.refl _ _) _) _⟩
set_option maxHeartbeats 1000000 in
theorem about_any (a b : Term) (w : World) (ha : a.lies w) (hb : b.lies w) : Calls Tryd.prog 42 #[.agg #[.int .i64 a.no, .int .i64 a.at_, .int .i64 a.known, .int .i64 a.lang, .slice a.src.addr a.src.xs.length a.src.cap, .slice a.tgt.addr a.tgt.xs.length a.tgt.cap, .string a.cat, .bool a.gone], .agg #[.int .i64 b.no, .int .i64 b.at_, .int .i64 b.known, .int .i64 b.lang, .slice b.src.addr b.src.xs.length b.src.cap, .slice b.tgt.addr b.tgt.xs.length b.tgt.cap, .string b.cat, .bool b.gone]] w fun e w' => e = .returned (.bool (aboutB a b)) ∧ Below w.heap.size w w' := by
  have hB0 : Below w.heap.size w ((w.alloc (.cells #[.int .i64 a.no, .int .i64 a.at_, .int .i64 a.known, .int .i64 a.lang, .slice a.src.addr a.src.xs.length a.src.cap, .slice a.tgt.addr a.tgt.xs.length a.tgt.cap, .string a.cat, .bool a.gone] 51)).alloc (.cells #[.int .i64 b.no, .int .i64 b.at_, .int .i64 b.known, .int .i64 b.lang, .slice b.src.addr b.src.xs.length b.src.cap, .slice b.tgt.addr b.tgt.xs.length b.tgt.cap, .string b.cat, .bool b.gone] 51)) := ext_alloc (ext_alloc (Below.refl _ _) _) _
  have cS := Lib.hid (sameText_at a.src b.src _ (ha.1.ext hB0) (hb.1.ext hB0))
  go_enter Tryd.func42, Tryd.ntmps42
  by_cases h2 : a.lang = b.lang
  · have H : Hid (aboutB a b = decide (a.src.xs = b.src.xs)) := by show _ = _; unfold aboutB; simp [h2]
    have g1 : (a.lang == b.lang) = true := by simp [h2]
    generalize decide (a.src.xs = b.src.xs) = q at *
    clear h2
    go_wp2_with fail
    refine cS.out.mono ?_
    rintro e w2 ⟨rfl, hb2⟩
    go_wp2_with fail
    go_ret
    exact ⟨by rw [H.out]; rfl, ext_trans hB0 hb2⟩
  · have H : Hid (aboutB a b = false) := by show _ = _; unfold aboutB; simp [h2]
    have g1 : (a.lang == b.lang) = false := by simpa using h2
    clear h2
    go_wp2_with fail
    go_ret
    exact ⟨by rw [H.out]; rfl, hB0⟩
theorem fewT_any (A : Option Addr) (c : Nat) (l : List Term) (w : World) (hm : l.length ≤ 9223372036854775807) : Calls Tryd.prog 31 #[.slice A l.length c] w fun e w' => e = .returned (.bool (decide (l.length ≤ 30) || (decide (1024 < l.length) && decide (l.length ≤ 1100)))) ∧ w = w' := by
  obtain ⟨q, hq⟩ : ∃ q, (decide (l.length ≤ 30) || (decide (1024 < l.length) && decide (l.length ≤ 1100))) = q := ⟨_, rfl⟩
  rw [hq]
  go_enter Tryd.func31, Tryd.ntmps31
  by_cases h1 : l.length ≤ 30
  · have H : Hid (q = true) := by show _ = _; rw [← hq]; simp [h1]
    have i1 : (l.length : Int) ≤ 30 := by omega
    clear hq
    go_wp2_with fail
    go_ret
    exact ⟨by rw [H.out]; first | rfl | (simp; done) | (simp; omega), rfl⟩
  · have i1 : ¬ (l.length : Int) ≤ 30 := by omega
    by_cases h2 : 1024 < l.length
    · have i2 : (1024 : Int) < l.length := by omega
      by_cases h3 : l.length ≤ 1100
      · have H : Hid (q = true) := by show _ = _; rw [← hq]; simp [h2, h3]
        have i3 : (l.length : Int) ≤ 1100 := by omega
        clear hq
        go_wp2_with fail
        go_ret
        exact ⟨by rw [H.out]; first | rfl | (simp; done) | (simp; omega), rfl⟩
      · have H : Hid (q = false) := by show _ = _; rw [← hq]; simp [h1, h3]
        have i3 : ¬ (l.length : Int) ≤ 1100 := by omega
        clear hq
        go_wp2_with fail
        go_ret
        exact ⟨by rw [H.out]; first | rfl | (simp; done) | (simp; omega), rfl⟩
    · have H : Hid (q = false) := by show _ = _; rw [← hq]; simp [h1, h2]
      have i2 : ¬ (1024 : Int) < l.length := by omega
      clear hq
      go_wp2_with fail
      go_ret
      exact ⟨by rw [H.out]; first | rfl | (simp; done) | (simp; omega), rfl⟩

set_option maxHeartbeats 4000000 in
theorem sameTerm_any (a b : Term) (w : World) (ha : a.lies w) (hb : b.lies w) : Calls Tryd.prog 44 #[.agg #[.int .i64 a.no, .int .i64 a.at_, .int .i64 a.known, .int .i64 a.lang, .slice a.src.addr a.src.xs.length a.src.cap, .slice a.tgt.addr a.tgt.xs.length a.tgt.cap, .string a.cat, .bool a.gone], .agg #[.int .i64 b.no, .int .i64 b.at_, .int .i64 b.known, .int .i64 b.lang, .slice b.src.addr b.src.xs.length b.src.cap, .slice b.tgt.addr b.tgt.xs.length b.tgt.cap, .string b.cat, .bool b.gone]] w fun e w' => e = .returned (.bool (sameTermB a b)) ∧ Below w.heap.size w w' := by
  obtain ⟨W0, hW0⟩ : ∃ W0, ((w.alloc (.cells #[.int .i64 a.no, .int .i64 a.at_, .int .i64 a.known, .int .i64 a.lang, .slice a.src.addr a.src.xs.length a.src.cap, .slice a.tgt.addr a.tgt.xs.length a.tgt.cap, .string a.cat, .bool a.gone] 51)).alloc (.cells #[.int .i64 b.no, .int .i64 b.at_, .int .i64 b.known, .int .i64 b.lang, .slice b.src.addr b.src.xs.length b.src.cap, .slice b.tgt.addr b.tgt.xs.length b.tgt.cap, .string b.cat, .bool b.gone] 51)) = W0 := ⟨_, rfl⟩
  have hB0 : Below w.heap.size w W0 := by rw [← hW0]; exact ext_alloc (ext_alloc (Below.refl _ _) _) _
  have hz0 : W0.heap.size = w.heap.size + 1 + 1 := by rw [← hW0]; simp
  have hka : Hid (∀ W, Below W0.heap.size W0 W → W.heap[w.heap.size]? = some (.cells #[.int .i64 a.no, .int .i64 a.at_, .int .i64 a.known, .int .i64 a.lang, .slice a.src.addr a.src.xs.length a.src.cap, .slice a.tgt.addr a.tgt.xs.length a.tgt.cap, .string a.cat, .bool a.gone] 51 (0, 0)) ∧ W.heap[w.heap.size + 1]? = some (.cells #[.int .i64 b.no, .int .i64 b.at_, .int .i64 b.known, .int .i64 b.lang, .slice b.src.addr b.src.xs.length b.src.cap, .slice b.tgt.addr b.tgt.xs.length b.tgt.cap, .string b.cat, .bool b.gone] 51 (0, 0))) := by
    intro W hb
    refine ⟨(hb.block _ (by omega)).trans ?_, (hb.block _ (by omega)).trans ?_⟩
    · rw [← hW0]; exact (Below.heap_alloc _ _ _ (by simp)).trans (World.alloc_heap_new _ _)
    · rw [← hW0]; exact galloc_at _ _ _ (by simp)
  have cS := Lib.hid (fun W (h : Below W0.heap.size W0 W) => sameText_at a.src b.src W (ha.1.ext (ext_trans hB0 h)) (hb.1.ext (ext_trans hB0 h)))
  have cT := Lib.hid (fun W (h : Below W0.heap.size W0 W) => sameText_at a.tgt b.tgt W (ha.2.ext (ext_trans hB0 h)) (hb.2.ext (ext_trans hB0 h)))
  have H : Hid (sameTermB a b = (decide (a.no = b.no) && decide (a.at_ = b.at_) && decide (a.known = b.known) && decide (a.lang = b.lang) && decide (a.src.xs = b.src.xs) && decide (a.tgt.xs = b.tgt.xs) && decide (a.cat = b.cat) && decide (a.gone = b.gone))) := rfl
  obtain ⟨q, hq⟩ : ∃ q, sameTermB a b = q := ⟨_, rfl⟩
  rw [hq] at H ⊢
  clear hq ha hb
  go_enter Tryd.func44, Tryd.ntmps44
  obtain ⟨x1, x2⟩ := hka.out W0 (Below.refl _ _)
  have a0 := gblk x1 0
  have a1 := gblk x1 1
  have a2 := gblk x1 2
  have a3 := gblk x1 3
  have a4 := gblk x1 4
  have a5 := gblk x1 5
  have b0 := gblk x2 0
  have b1 := gblk x2 1
  have b2 := gblk x2 2
  have b3 := gblk x2 3
  have b4 := gblk x2 4
  have b5 := gblk x2 5
  clear x1 x2
  by_cases n_no : a.no ≠ b.no
  · have HF : Hid (q = false) := by show _ = _; rw [H.out]; simp [n_no]
    have g1 : (a.no == b.no) = false := by simpa using n_no
    clear n_no
    go_wp2_with fail
    go_ret
    exact ⟨by rw [HF.out]; rfl, hB0⟩
  have h_no := Decidable.not_not.1 n_no
  clear n_no
  have g_no : (a.no == b.no) = true := by simp [h_no]
  have e_no : Hid (decide (a.no = b.no) = true) := decide_eq_true h_no
  clear h_no
  by_cases n_at_ : a.at_ ≠ b.at_
  · have HF : Hid (q = false) := by show _ = _; rw [H.out]; simp [n_at_]
    have g1 : (a.at_ == b.at_) = false := by simpa using n_at_
    clear n_at_
    go_wp2_with fail
    go_ret
    exact ⟨by rw [HF.out]; rfl, hB0⟩
  have h_at_ := Decidable.not_not.1 n_at_
  clear n_at_
  have g_at_ : (a.at_ == b.at_) = true := by simp [h_at_]
  have e_at_ : Hid (decide (a.at_ = b.at_) = true) := decide_eq_true h_at_
  clear h_at_
  by_cases n_known : a.known ≠ b.known
  · have HF : Hid (q = false) := by show _ = _; rw [H.out]; simp [n_known]
    have g1 : (a.known == b.known) = false := by simpa using n_known
    clear n_known
    go_wp2_with fail
    go_ret
    exact ⟨by rw [HF.out]; rfl, hB0⟩
  have h_known := Decidable.not_not.1 n_known
  clear n_known
  have g_known : (a.known == b.known) = true := by simp [h_known]
  have e_known : Hid (decide (a.known = b.known) = true) := decide_eq_true h_known
  clear h_known
  by_cases n_lang : a.lang ≠ b.lang
  · have HF : Hid (q = false) := by show _ = _; rw [H.out]; simp [n_lang]
    have g1 : (a.lang == b.lang) = false := by simpa using n_lang
    clear n_lang
    go_wp2_with fail
    go_ret
    exact ⟨by rw [HF.out]; rfl, hB0⟩
  have h_lang := Decidable.not_not.1 n_lang
  clear n_lang
  have g_lang : (a.lang == b.lang) = true := by simp [h_lang]
  have e_lang : Hid (decide (a.lang = b.lang) = true) := decide_eq_true h_lang
  clear h_lang
  go_wp2_with fail
  refine (cS.out W0 (Below.refl _ _)).mono ?_
  rintro e w2 ⟨rfl, hb2⟩
  have hB2 := ext_trans hB0 hb2
  clear a0 a1 a2 a3 a4 a5 b0 b1 b2 b3 b4 b5
  obtain ⟨x1, x2⟩ := hka.out w2 hb2
  have a5 := gblk x1 5
  have a6 := gblk x1 6
  have b5 := gblk x2 5
  have b6 := gblk x2 6
  clear x1 x2
  cases hs : decide (a.src.xs = b.src.xs)
  · have HF : Hid (q = false) := by show _ = _; rw [H.out, hs]; simp
    clear hs
    go_wp2_with fail
    go_ret
    exact ⟨by rw [HF.out]; rfl, hB2⟩
  have e_s := Lib.hid hs
  clear hs
  go_wp2_with fail
  refine (cT.out w2 hb2).mono ?_
  rintro e w3 ⟨rfl, hb3⟩
  have hB3 := ext_trans hB2 hb3
  clear a5 a6 b5 b6
  obtain ⟨x1, x2⟩ := hka.out w3 (ext_trans hb2 hb3)
  have a6 := gblk x1 6
  have a7 := gblk x1 7
  have b6 := gblk x2 6
  have b7 := gblk x2 7
  clear x1 x2
  cases ht : decide (a.tgt.xs = b.tgt.xs)
  · have HF : Hid (q = false) := by show _ = _; rw [H.out, ht]; simp
    clear ht
    go_wp2_with fail
    go_ret
    exact ⟨by rw [HF.out]; rfl, hB3⟩
  have e_t := Lib.hid ht
  clear ht
  by_cases hc : a.cat ≠ b.cat
  · have HF : Hid (q = false) := by show _ = _; rw [H.out]; simp [hc]
    have hxl : ¬ a.cat.toList = b.cat.toList := fun h => hc (by rw [ByteArray.toList_eq, ByteArray.toList_eq] at h; exact WideShapes.bytes_inj h)
    have g1 : (a.cat.toList == b.cat.toList) = false := by simpa using hxl
    clear hc hxl
    go_wp2_with fail
    go_ret
    exact ⟨by rw [HF.out]; rfl, hB3⟩
  have hc := Decidable.not_not.1 hc
  have g1 : (a.cat.toList == b.cat.toList) = true := by simp [hc]
  have e_c : Hid (decide (a.cat = b.cat) = true) := decide_eq_true hc
  clear hc
  have HF : Hid (q = decide (a.gone = b.gone)) := by show _ = _; rw [H.out, e_no.out, e_at_.out, e_known.out, e_lang.out, e_s.out, e_t.out, e_c.out]; simp
  clear H e_no e_at_ e_known e_lang e_s e_t e_c
  cases hga : a.gone <;> cases hgb : b.gone
  all_goals
    rw [hga] at a7 HF
    rw [hgb] at b7 HF
    have HF2 := HF.out
    have HG := Lib.hid HF2
    clear HF HF2 hga hgb
    go_wp2_with fail
    go_ret
    exact ⟨by rw [HG.out]; rfl, hB3⟩
end Go.Proofs.YtneanannicacnaaDoor
