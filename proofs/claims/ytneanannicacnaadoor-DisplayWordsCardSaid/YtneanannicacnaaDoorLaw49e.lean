/- The statement DisplayLater, walked. -/
import Derived.Test.YtneanannicacnaaDoorLaw49d
import Derived.Test.YtneanannicacnaaDoorLawQ
import Derived.Test.YtneanannicacnaaDoorOwn
import Derived.Test.YtneanannicacnaaDoorMap
namespace Go.Proofs.YtneanannicacnaaDoor
open Go.RowKit Go.Han
attribute [local irreducible] wpStill wpQuiet
set_option maxRecDepth 100000

def SlicePost (l' : List Spot) (w : World) (e : Ending) (w' : World) : Prop := Below w.heap.size w w' ∧ ∃ A cp, e = .returned (.tuple #[.slice A l'.length cp, .int .i64 0]) ∧ Rd w' A (flat l') ∧ (A = none → l' = []) ∧ ∀ a, A = some a → a.block < w'.heap.size
theorem Play_ok (A : Option Addr) (n cp : Nat) (l : List Change) (t : Int) (w : World) (hU : Tabs w) (hr : Rd w A (cflat l)) (hn : l.length = n) (hm : n ≤ 9223372036854775807) (h : playE l t = 0) (l' : List Spot) (hl : playL l t = l') :
    Calls Tryd.prog 23 #[.slice A n cp, .int .i64 t] w (SlicePost l' w) := by
  subst hn hl
  refine (Play_any A cp l t w hU hr hm).mono ?_
  rintro e w' ⟨hb, ⟨hn, _⟩ | ⟨_, v, rfl, hown⟩⟩
  · exact absurd h hn
  · obtain ⟨A2, cp2, rfl, hrd2, h2⟩ := own_form hown
    exact ⟨hb, A2, cp2, rfl, hrd2, h2, fun a ha => by subst ha; exact (hown.lt a.block rfl).2⟩
theorem Play_bad (A : Option Addr) (n cp : Nat) (l : List Change) (t : Int) (w : World) (hU : Tabs w) (hr : Rd w A (cflat l)) (hn : l.length = n) (hm : n ≤ 9223372036854775807) (h : playE l t ≠ 0) :
    Calls Tryd.prog 23 #[.slice A n cp, .int .i64 t] w fun e w' => e = .returned (.tuple #[.slice none 0 0, .int .i64 (playE l t)]) ∧ Below w.heap.size w w' := by
  subst hn
  refine (Play_any A cp l t w hU hr hm).mono ?_
  rintro e w' ⟨hb, ⟨_, rfl⟩ | ⟨hn, _⟩⟩
  · exact ⟨rfl, hb⟩
  · exact absurd hn h
theorem Wd_ok (A : Option Addr) (cp : Nat) (l : List Change) (t : Int) (w : World) (hU : Tabs w) (hr : Rd w A (cflat l)) (hm : l.length ≤ 9223372036854775807) (h : playE l t = 0) :
    Calls Tryd.prog 25 #[.slice A l.length cp, .int .i64 t] w fun e w' => e = .returned (.tuple #[.int .i64 (countW (upTo t l)), .int .i64 0]) ∧ Below w.heap.size w w' := by
  refine (Withdrawn_any A cp l t w hU hr hm).mono ?_
  rintro e w' ⟨hb, rfl⟩
  exact ⟨by rw [if_pos h, h], hb⟩
theorem Wd_bad (A : Option Addr) (cp : Nat) (l : List Change) (t : Int) (w : World) (hU : Tabs w) (hr : Rd w A (cflat l)) (hm : l.length ≤ 9223372036854775807) (h : playE l t ≠ 0) :
    Calls Tryd.prog 25 #[.slice A l.length cp, .int .i64 t] w fun e w' => e = .returned (.tuple #[.int .i64 0, .int .i64 (playE l t)]) ∧ Below w.heap.size w w' := by
  refine (Withdrawn_any A cp l t w hU hr hm).mono ?_
  rintro e w' ⟨hb, rfl⟩
  exact ⟨by rw [if_neg h], hb⟩

theorem few_any (A : Option Addr) (cp : Nat) (l : List Change) (w : World) (hr : Rd w A (cflat l)) (hm : l.length ≤ 9223372036854775807) :
    Calls Tryd.prog 27 #[.slice A l.length cp] w fun e w' => e = .returned (.bool (decide (l.length ≤ 100) && fewC l)) ∧ w = w' := by
  have cF := Lib.hid (fun w hr => fewc49_any A cp l w hr hm)
  obtain ⟨q, hq⟩ : ∃ q, fewC l = q := ⟨_, rfl⟩
  rw [hq] at cF ⊢
  by_cases h : l.length ≤ 100
  · have H : Hid ((decide (l.length ≤ 100) && q) = q) := by show _ = _; rw [decide_eq_true h]; rfl
    go_enter Tryd.func27, Tryd.ntmps27
    go_wp2_with fail
    refine (cF.out w hr).mono ?_
    rintro e w' ⟨rfl, rfl⟩
    go_wp2_with fail
    go_ret
    exact ⟨by rw [H.out]; rfl, rfl⟩
  · have H : Hid ((decide (l.length ≤ 100) && q) = false) := by show _ = _; rw [decide_eq_false h]; rfl
    go_enter Tryd.func27, Tryd.ntmps27
    go_wp2_with fail
    go_ret
    exact ⟨by first | rfl | (rw [H.out]; rfl), rfl⟩

theorem parts_change : ∃ i0 z, Tryd.prog.info? 26 = some i0 ∧ i0.zero = some z ∧ i0.size = 5 ∧ i0.bytes = 48 ∧ z.cells.size = 5 := by
  have h : (Tryd.prog.info? 26).map (fun i => (i.zero, i.size, i.bytes)) = some (some (.agg #[.int .i64 0, .int .i64 0, .int .i64 0, .int .i64 0, .string ⟨#[]⟩]), 5, 48) := by kernel_rfl
  obtain ⟨i, hi, h1, h2, h3⟩ := info_parts h
  exact ⟨i, _, hi, h1, h2, h3, rfl⟩
theorem change_one (x : Change) : ∀ u ∈ x.cells, u.oneCell' = true := by
  intro u hu
  simp [Change.cells] at hu
  rcases hu with rfl | rfl | rfl | rfl | rfl <;> rfl
theorem len_nat {n : Nat} (h : n ≤ 1000) : n + 1 ≤ maxLen := by unfold maxLen; omega
theorem bytes_nat {n : Nat} (h : n ≤ 1000) : (n + 1) * 48 ≤ 140737488355328 := by omega

def DoFine (l' : List Spot) (w : World) (e : Ending) (w' : World) : Prop := Below w.heap.size w w' ∧ ∃ A cp, e = .returned (.tuple #[.slice A l'.length cp, .int .i64 0]) ∧ Rd w' A (flat l') ∧ (A = none → l' = []) ∧ ∀ a, A = some a → w.heap.size ≤ a.block ∧ a.block < w'.heap.size
theorem Do_fine (A : Option Addr) (cp : Nat) (l : List Spot) (c : Change) (w : World) (hT : Tabs w) (hr : Rd w A (flat l)) (hA : A = none → l = []) (hm : l.length ≤ 9223372036854775807) (h0 : doE l c = 0) :
    Calls Tryd.prog 17 #[.slice A l.length cp, .agg #[.int .i64 c.at_, .int .i64 c.kind, .int .i64 c.spot.id, .int .i64 c.spot.ver, .string c.spot.text]] w (DoFine (madeL c l) w) := by
  refine (Do_any A cp l c w hT hr hA hm).mono ?_
  rintro e w' ⟨hb, ⟨hn, _⟩ | ⟨_, v, rfl, hown⟩⟩
  · exact absurd h0 hn
  · obtain ⟨A2, cp2, rfl, hrd2, hn2⟩ := own_form hown
    exact ⟨hb, A2, cp2, rfl, hrd2, hn2, fun a ha => by subst ha; exact hown.lt a.block rfl⟩
theorem rd_grown {w w' : World} {A : Option Addr} {xs : List Value} {row : Option Nat} (h : Rd w A xs) (hg : w.grownBy w' row) (hne : ∀ a, A = some a → some a.block ≠ row) : Rd w' A xs := by
  rcases h with h | ⟨b, off, rfl, hlt, hc⟩
  · exact .inl h
  · exact .inr ⟨b, off, rfl, Nat.lt_of_lt_of_le hlt hg.size, fun j u hu => (World.cell?_of_block (w := w) (a := ⟨b, off + j, none⟩) (hg.block b hlt (hne _ rfl))).trans (hc j u hu)⟩
theorem cells_new2 (w : World) (o : Obj) (cs : List Value) (t : Nat) : ∀ (j : Nat) (u : Value), cs[j]? = some u → ((w.alloc o).alloc (.cells cs.toArray t)).cell? ((⟨w.heap.size + 1, 0, none⟩ : Addr).add j) = some u := by
  have h := cells_new (w.alloc o) cs t
  rw [World.size_alloc] at h
  exact h
/-- Between two rounds. -/
def LaterI (l : List Change) (t u : Int) (base : Nat) (w : World) (early x i : Value) (wr : World) : Prop :=
  ∃ (k : Nat) (el : List Change) (s : List Spot) (Ax : Option Addr) (cx : Nat), k ≤ l.length ∧ i = .int .i64 k ∧ OwnL Change.cells 26 5 wr base early el ∧ x = .slice Ax s.length cx ∧ Rd wr Ax (flat s) ∧ (Ax = none → s = []) ∧ Below w.heap.size w wr ∧ base = w.heap.size ∧ (∀ a, Ax = some a → a.block < wr.heap.size ∧ early.ownBlock ≠ some a.block) ∧ LaterInv l t u k el s

set_option maxHeartbeats 1000000 in
theorem DisplayLater_any (A : Option Addr) (cp : Nat) (l : List Change) (t u : Int) (w : World) (hT : Tabs w) (hr : Rd w A (cflat l)) (hm : l.length ≤ 9223372036854775807) :
    Calls Tryd.prog 6 #[.slice A l.length cp, .int .i64 t, .int .i64 u] w (TruePost w) := by
  obtain ⟨i0, z, hi0, iz0, is0, ib0, izs⟩ := parts_change
  have HT := Lib.hid hT
  have Hr := Lib.hid hr
  have Hm := hm
  go_enter Tryd.func6, Tryd.ntmps6
  go_wp2_with fail
  refine (sane_any w hT).mono ?_
  rintro e w1 ⟨rfl, hB1⟩
  clear hT
  go_wp2_with fail
  refine (few_any A cp l w1 (Hr.out.ext hB1) hm).mono ?_
  rintro e w' ⟨rfl, rfl⟩
  cases hfw : (decide (l.length ≤ 100) && fewC l)
  · clear hfw
    go_wp2_with fail
    go_ret
    exact ⟨rfl, hB1⟩
  have hl100 : l.length ≤ 100 := by
    by_cases h : l.length ≤ 100
    · exact h
    · rw [decide_eq_false h] at hfw; cases hfw
  clear hfw hr
  by_cases htu : u < t
  · go_wp2_with fail
    go_ret
    exact ⟨rfl, hB1⟩
  by_cases e1 : playE l t = 0
  · by_cases e2 : playE l u = 0
    · have E1 := Lib.hid e1
      have E2 := Lib.hid e2
      obtain ⟨l1, hl1⟩ : ∃ l1, playL l t = l1 := ⟨_, rfl⟩
      obtain ⟨l2, hl2⟩ : ∃ l2, playL l u = l2 := ⟨_, rfl⟩
      have hlen1 := len_of_playE e1
      have hlen2 := len_of_playE e2
      rw [hl1] at hlen1
      rw [hl2] at hlen2
      have HL1 := Lib.hid hl1
      have HL2 := Lib.hid hl2
      clear e1 e2 hl1 hl2
      go_wp2_with fail
      refine (Play_ok A l.length cp l t w1 (utf_ext HT.out hB1) (Hr.out.ext hB1) rfl hm E1.out l1 HL1.out).mono ?_
      rintro e w2 ⟨hb2, A1, c1, rfl, hrd1, hnil1, hlt1⟩
      have hB2 := ext_trans hB1 hb2
      go_wp2_with fail
      refine (Play_ok A l.length cp l u w2 (utf_ext HT.out hB2) (Hr.out.ext hB2) rfl hm E2.out l2 HL2.out).mono ?_
      rintro e w3 ⟨hb3, A2, c2, rfl, hrd2, hnil2, _⟩
      have hB3 := ext_trans hB2 hb3
      go_wp2_with fail
      refine (Wd_ok A cp l t w3 (utf_ext HT.out hB3) (Hr.out.ext hB3) hm E1.out).mono ?_
      rintro e w4 ⟨rfl, hb4⟩
      have hB4 := ext_trans hB3 hb4
      go_wp2_with fail
      refine (Wd_ok A cp l u w4 (utf_ext HT.out hB4) (Hr.out.ext hB4) hm E2.out).mono ?_
      rintro e w5 ⟨rfl, hb5⟩
      have hB5 := ext_trans hB4 hb5
      have hcw : decide (countW (upTo u l) < countW (upTo t l)) = false := by
        have := count_le (l := l) (show t ≤ u by omega)
        simpa using this
      have hr1 := Lib.hid (((hrd1.ext hb3).ext hb4).ext hb5)
      have hr2 := Lib.hid ((hrd2.ext hb4).ext hb5)
      clear hrd1 hrd2 hnil2
      have hn1 := Lib.hid hnil1
      have Hlt1 : Hid (∀ a, A1 = some a → a.block < w5.heap.size) := by
        intro a ha
        have h1 := hlt1 a ha
        have h2 := hb3.size
        have h3 := hb4.size
        have h4 := hb5.size
        omega
      clear hnil1 hlt1
      obtain ⟨b0, hb0⟩ : ∃ b0, b0 = w5.heap.size := ⟨_, rfl⟩
      have Hb0 := Lib.hid hb0
      clear hb0
      go_wp2_with fail
      go_loopw [15, 7, 83] (fun early x i wr => LaterI l t u b0 w5 early x i wr) (fun _ _ i _ => l.length - (intOf i).toNat)
      case atStart =>
        exact ⟨0, [], l1, A1, c1, Nat.zero_le _, rfl, OwnL.nil _ _ _ _ _, rfl, hr1.out, hn1.out, Below.refl _ _, Hb0.out, (fun a ha => ⟨Hlt1.out a ha, fun h => by cases h⟩), by rw [← HL1.out]; exact later_start (by omega) E1.out E2.out⟩
      case round =>
        obtain ⟨k, el, s, Ax, cx, hk, rfl, hown, rfl, hrx, hnx, hB, hb0, hsep, hinv⟩ := hrel
        have hz := hB.size
        have hx0 : Hid (examFrom 0 l = true) := ((playE_zero_iff l u).1 E2.out).2.1
        by_cases hlt : k < l.length
        · obtain ⟨b, off, rfl, hb, hc⟩ := Hr.out.elem Change.size_cells (by omega) hlt
          have hw := ext_trans hB5 hB
          have d0 := (hw.cell (p := ⟨b, off + k * 5 + 0, none⟩) hb).trans (hc 0 _ rfl)
          have d1 := (hw.cell (p := ⟨b, off + k * 5 + 1, none⟩) hb).trans (hc 1 _ rfl)
          have d2 := (hw.cell (p := ⟨b, off + k * 5 + 2, none⟩) hb).trans (hc 2 _ rfl)
          have d3 := (hw.cell (p := ⟨b, off + k * 5 + 3, none⟩) hb).trans (hc 3 _ rfl)
          have d4 := (hw.cell (p := ⟨b, off + k * 5 + 4, none⟩) hb).trans (hc 4 _ rfl)
          simp only [Nat.add_zero] at d0
          clear hc
          by_cases hle : l[k].at_ ≤ t
          · have hinv2 := hinv.early_step hlt (by omega) hle
            generalize l[k] = c at *
            have A1 : el.length + 1 ≤ maxLen := len_nat (by have := hinv.len; omega)
            have A2' : (el.length + 1) * 48 ≤ 140737488355328 := bytes_nat (by have := hinv.len; omega)
            have A3 : b0 ≤ ((wr.alloc (.cells #[.int .i64 c.at_, .int .i64 c.kind, .int .i64 c.spot.id, .int .i64 c.spot.ver, .string c.spot.text] 26)).alloc (.cells #[.int .i64 c.at_, .int .i64 c.kind, .int .i64 c.spot.id, .int .i64 c.spot.ver, .string c.spot.text] 26)).heap.size := by simp; omega
            have ho : wr.ownsRow b0 26 5 _ el.length (el.flatMap Change.cells) := hown
            have Hinv := Lib.hid hinv2
            have Hrx := Lib.hid hrx
            have Hnx := Lib.hid hnx
            have Hsep := Lib.hid hsep
            have Hb0 := Lib.hid hb0
            clear hinv hinv2 hrx hnx hsep hown hb0
            go_wp2_with (at_builtin; refine wpList_append_own_at _ rfl _ _ 35 rfl b0 26 i0 z 5 48 Tryd.underlying35 hi0 iz0 is0 ib0 izs (by decide) _ _ _ rfl ((ho.alloc _).alloc _) _ _ _ [.int .i64 c.at_, .int .i64 c.kind, .int .i64 c.spot.id, .int .i64 c.spot.ver, .string c.spot.text] rfl rfl (cells_new2 wr _ [.int .i64 c.at_, .int .i64 c.kind, .int .i64 c.spot.id, .int .i64 c.spot.ver, .string c.spot.text] _) (change_one c) A1 A2' A3 ?_; intro v5 w6 hown6 hgrow6 _ hat6)
            have hg6 : wr.grownBy w6 _ := ⟨hgrow6.os, hgrow6.tape, hgrow6.output, by have := hgrow6.size; simp at this; omega, fun i hi hne => (hgrow6.block i (by simp; omega) hne).trans ((Below.heap_alloc _ _ _ (by simp; omega)).trans (Below.heap_alloc _ _ _ (by omega)))⟩
            have hsz6 := hg6.size
            have hot := ho.lt
            go_roundw
            case rel =>
              refine ⟨k + 1, el ++ [c], s, Ax, cx, by omega, by go_num, OwnL.snoc c hown6, rfl, rd_grown Hrx.out hg6 (fun a ha e => (Hsep.out a ha).2 e.symm), Hnx.out, ⟨hg6.os.trans hB.os, hg6.tape.trans hB.tape, hg6.output.trans hB.output, Nat.le_trans hB.size hg6.size, fun i hi => (hg6.block i (Nat.lt_of_lt_of_le hi hB.size) (fun e => by have h1 := (hot i e.symm).1; have h2 := Hb0.out; omega)).trans (hB.block i hi)⟩, Hb0.out, fun a ha => ⟨by have := (Hsep.out a ha).1; omega, ?_⟩, Hinv.out⟩
              rcases hat6 with h | h
              · rw [h]; exact (Hsep.out a ha).2
              · rw [h]; have := (Hsep.out a ha).1; simp; omega
            case measure => simp [intOf]; omega
          · by_cases hu : l[k].at_ ≤ u
            · obtain ⟨h0, hinv2⟩ := hinv.do_step hlt hx0.out hle hu
              generalize l[k] = c at *
              have hBc : Below wr.heap.size wr (wr.alloc (.cells #[.int .i64 c.at_, .int .i64 c.kind, .int .i64 c.spot.id, .int .i64 c.spot.ver, .string c.spot.text] 26)) := ext_alloc (Below.refl _ _) _
              have cD := Lib.hid (Do_fine Ax cx s c _ (utf_ext HT.out (ext_trans hw hBc)) (hrx.ext hBc) hnx (by have := ((checkE_iff s).1 hinv.ok).1; omega) h0)
              have Hinv := Lib.hid hinv2
              have Hb0 := Lib.hid hb0
              have Hown := Lib.hid hown
              clear hinv hinv2 hrx hnx hsep h0 hown hb0
              go_wp2_with fail
              refine cD.out.mono ?_
              rintro e w6 ⟨hb6, A6, c6, rfl, hrd6, hnil6, hlt6⟩
              have hB6 := ext_trans hBc hb6
              have hz6 := hb6.size
              have Hlt6 := Lib.hid hlt6
              have Hnil6 := Lib.hid hnil6
              clear hnil6 hlt6
              go_wp2_with fail
              go_roundw
              case rel =>
                refine ⟨k + 1, el, madeL c s, A6, c6, by omega, by go_num, Hown.out.ext hB6, rfl, hrd6, Hnil6.out, ext_trans hB hB6, Hb0.out, fun a ha => ⟨(Hlt6.out a ha).2, fun e => ?_⟩, Hinv.out⟩
                have h1 := (Hlt6.out a ha).1
                have h2 := (Hown.out.lt _ e).2
                simp at h1
                omega
              case measure => simp [intOf]; omega
            · obtain ⟨hel, hsl⟩ := hinv.stop hlt (by omega) hu
              generalize l[k] = c at *

              obtain ⟨A3, c3, rfl, hrd3, _⟩ := OwnL.form (by omega) hown
              have hx3 : playE el t = 0 ∧ playL el t = l1 := by
                have := play_early E1.out
                rw [hel, ← HL1.out]; exact this
              have hll : el.length ≤ 9223372036854775807 := by
                have := hinv.len; omega
              have hs2 : s = l2 := hsl.trans HL2.out
              have HX := Lib.hid hx3
              have HS2 := Lib.hid hs2
              have Hrx := Lib.hid hrx
              have Hr2 : Hid (Rd wr A2 (flat l2)) := hr2.out.ext hB
              have Hhll := hll
              have HBr := Lib.hid hB
              have HB5 := Lib.hid (ext_trans hB5 hB)
              have hsl2 : s.length ≤ 9223372036854775807 := by rw [hs2]; omega
              clear hx3 hs2 hrx hel hsl hown hinv hB hsep hnx
              go_wp2_with fail
              refine (Play_ok A3 el.length c3 el t _ (utf_ext HT.out (ext_trans HB5.out (ext_alloc (Below.refl _ _) _))) (hrd3.ext (ext_alloc (Below.refl _ _) _)) rfl hll HX.out.1 l1 HX.out.2).mono ?_
              rintro e w6 ⟨hb6, A6, c6, rfl, hrd6, _, _⟩
              have hB6 := ext_trans (ext_trans HB5.out (ext_alloc (Below.refl _ _) _)) hb6
              go_wp2_with fail
              refine (Play_ok _ l.length cp l t w6 (utf_ext HT.out hB6) (Hr.out.ext hB6) rfl hm E1.out l1 HL1.out).mono ?_
              rintro e w7 ⟨hb7, A7, c7, rfl, hrd7, _, _⟩
              have hB7 := ext_trans hB6 hb7
              have hB67 := ext_trans hb6 hb7
              go_wp2_with fail
              have cs := same49_any Ax A2 cx c2 s l2 w7 ((Hrx.out.ext (ext_alloc (Below.refl _ _) _)).ext hB67) ((Hr2.out.ext (ext_alloc (Below.refl _ _) _)).ext hB67) hsl2
              rw [decide_eq_true HS2.out] at cs
              refine cs.mono ?_
              rintro e w8 ⟨rfl, hb8⟩
              have hB8 := ext_trans hB7 hb8
              clear cs
              go_wp2_with fail
              have cs := same49_any A6 A7 c6 c7 l1 l1 w8 ((hrd6.ext hb7).ext hb8) (hrd7.ext hb8) (by omega)
              rw [decide_eq_true (show l1 = l1 from rfl)] at cs
              refine cs.mono ?_
              rintro e w9 ⟨rfl, hb9⟩
              go_wp2_with fail
              go_ret
              exact ⟨by simp, ext_trans hB8 hb9⟩
        · obtain ⟨hel, hsl⟩ := hinv.ended hlt

          obtain ⟨A3, c3, rfl, hrd3, _⟩ := OwnL.form (by omega) hown
          have hx3 : playE el t = 0 ∧ playL el t = l1 := by
            have := play_early E1.out
            rw [hel, ← HL1.out]; exact this
          have hll : el.length ≤ 9223372036854775807 := by
            have := hinv.len; omega
          have hs2 : s = l2 := hsl.trans HL2.out
          have HX := Lib.hid hx3
          have HS2 := Lib.hid hs2
          have Hrx := Lib.hid hrx
          have Hr2 : Hid (Rd wr A2 (flat l2)) := hr2.out.ext hB
          have Hhll := hll
          have HBr := Lib.hid hB
          have HB5 := Lib.hid (ext_trans hB5 hB)
          have hsl2 : s.length ≤ 9223372036854775807 := by rw [hs2]; omega
          clear hx3 hs2 hrx hel hsl hown hinv hB hsep hnx
          go_wp2_with fail
          refine (Play_ok A3 el.length c3 el t wr (utf_ext HT.out (HB5.out)) (hrd3) rfl hll HX.out.1 l1 HX.out.2).mono ?_
          rintro e w6 ⟨hb6, A6, c6, rfl, hrd6, _, _⟩
          have hB6 := ext_trans (HB5.out) hb6
          go_wp2_with fail
          refine (Play_ok _ l.length cp l t w6 (utf_ext HT.out hB6) (Hr.out.ext hB6) rfl hm E1.out l1 HL1.out).mono ?_
          rintro e w7 ⟨hb7, A7, c7, rfl, hrd7, _, _⟩
          have hB7 := ext_trans hB6 hb7
          have hB67 := ext_trans hb6 hb7
          go_wp2_with fail
          have cs := same49_any Ax A2 cx c2 s l2 w7 ((Hrx.out).ext hB67) ((Hr2.out).ext hB67) hsl2
          rw [decide_eq_true HS2.out] at cs
          refine cs.mono ?_
          rintro e w8 ⟨rfl, hb8⟩
          have hB8 := ext_trans hB7 hb8
          clear cs
          go_wp2_with fail
          have cs := same49_any A6 A7 c6 c7 l1 l1 w8 ((hrd6.ext hb7).ext hb8) (hrd7.ext hb8) (by omega)
          rw [decide_eq_true (show l1 = l1 from rfl)] at cs
          refine cs.mono ?_
          rintro e w9 ⟨rfl, hb9⟩
          go_wp2_with fail
          go_ret
          exact ⟨by simp, ext_trans hB8 hb9⟩
    · have E1 := Lib.hid e1
      have E2 := Lib.hid e2
      have n2 : (playE l u == 0) = false := by simpa using e2
      have n2' : (playE l u != 0) = true := by simpa using e2
      obtain ⟨l1, hl1⟩ : ∃ l1, playL l t = l1 := ⟨_, rfl⟩
      have HL1 := Lib.hid hl1
      clear e1 e2 hl1
      go_wp2_with fail
      refine (Play_ok A l.length cp l t w1 (utf_ext HT.out hB1) (Hr.out.ext hB1) rfl hm E1.out l1 HL1.out).mono ?_
      rintro e w2 ⟨hb2, A1, c1, rfl, hrd1, hnil1, hlt1⟩
      have hB2 := ext_trans hB1 hb2
      clear hnil1 hlt1
      go_wp2_with fail
      refine (Play_bad A l.length cp l u w2 (utf_ext HT.out hB2) (Hr.out.ext hB2) rfl hm E2.out).mono ?_
      rintro e w3 ⟨rfl, hb3⟩
      have hB3 := ext_trans hB2 hb3
      go_wp2_with fail
      refine (Wd_ok A cp l t w3 (utf_ext HT.out hB3) (Hr.out.ext hB3) hm E1.out).mono ?_
      rintro e w4 ⟨rfl, hb4⟩
      have hB4 := ext_trans hB3 hb4
      go_wp2_with fail
      refine (Wd_bad A cp l u w4 (utf_ext HT.out hB4) (Hr.out.ext hB4) hm E2.out).mono ?_
      rintro e w5 ⟨rfl, hb5⟩
      have hB5 := ext_trans hB4 hb5
      go_wp2_with fail
      go_ret
      exact ⟨by simp, hB5⟩
  · have E1 := Lib.hid e1
    have n1 : (playE l t == 0) = false := by simpa using e1
    have n1' : (playE l t != 0) = true := by simpa using e1
    by_cases e2 : playE l u = 0
    · have ht : t < 0 := by
        by_cases h : t < 0
        · exact h
        · exact absurd (play_earlier (show t ≤ u by omega) (by omega) e2) e1
      have E2 := Lib.hid e2
      obtain ⟨l2, hl2⟩ : ∃ l2, playL l u = l2 := ⟨_, rfl⟩
      have HL2 := Lib.hid hl2
      clear e1 e2 hl2
      go_wp2_with fail
      refine (Play_bad A l.length cp l t w1 (utf_ext HT.out hB1) (Hr.out.ext hB1) rfl hm E1.out).mono ?_
      rintro e w2 ⟨rfl, hb2⟩
      have hB2 := ext_trans hB1 hb2
      go_wp2_with fail
      refine (Play_ok A l.length cp l u w2 (utf_ext HT.out hB2) (Hr.out.ext hB2) rfl hm E2.out l2 HL2.out).mono ?_
      rintro e w3 ⟨hb3, A1, c1, rfl, hrd1, hnil1, hlt1⟩
      have hB3 := ext_trans hB2 hb3
      clear hnil1 hlt1
      go_wp2_with fail
      refine (Wd_bad A cp l t w3 (utf_ext HT.out hB3) (Hr.out.ext hB3) hm E1.out).mono ?_
      rintro e w4 ⟨rfl, hb4⟩
      have hB4 := ext_trans hB3 hb4
      go_wp2_with fail
      refine (Wd_ok A cp l u w4 (utf_ext HT.out hB4) (Hr.out.ext hB4) hm E2.out).mono ?_
      rintro e w5 ⟨rfl, hb5⟩
      have hB5 := ext_trans hB4 hb5
      go_wp2_with fail
      go_ret
      exact ⟨by simp, hB5⟩
    · have E2 := Lib.hid e2
      have n2 : (playE l u == 0) = false := by simpa using e2
      have n2' : (playE l u != 0) = true := by simpa using e2
      clear e1 e2
      go_wp2_with fail
      refine (Play_bad A l.length cp l t w1 (utf_ext HT.out hB1) (Hr.out.ext hB1) rfl hm E1.out).mono ?_
      rintro e w2 ⟨rfl, hb2⟩
      have hB2 := ext_trans hB1 hb2
      go_wp2_with fail
      refine (Play_bad A l.length cp l u w2 (utf_ext HT.out hB2) (Hr.out.ext hB2) rfl hm E2.out).mono ?_
      rintro e w3 ⟨rfl, hb3⟩
      have hB3 := ext_trans hB2 hb3
      go_wp2_with fail
      refine (Wd_bad A cp l t w3 (utf_ext HT.out hB3) (Hr.out.ext hB3) hm E1.out).mono ?_
      rintro e w4 ⟨rfl, hb4⟩
      have hB4 := ext_trans hB3 hb4
      go_wp2_with fail
      refine (Wd_bad A cp l u w4 (utf_ext HT.out hB4) (Hr.out.ext hB4) hm E2.out).mono ?_
      rintro e w5 ⟨rfl, hb5⟩
      have hB5 := ext_trans hB4 hb5
      go_wp2_with fail
      go_ret
      exact ⟨by simp, hB5⟩
end Go.Proofs.YtneanannicacnaaDoor
