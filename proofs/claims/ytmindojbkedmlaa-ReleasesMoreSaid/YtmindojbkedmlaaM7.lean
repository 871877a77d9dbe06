/- Texts of this claim, one after the other: Rel6, Rel8, Rel9, RelA, Rel7. -/
import Derived.Test.YtmindojbkedmlaaM6
import Derived.Test.YtmindojbkedmlaaM4
import Derived.Test.YtmindojbkedmlaaM5
import Derived.Maps.AppendAt
/- Releases: the reference's Timeline. -/
namespace Go.Proofs.Ytmindojbkedmlaa
open Go.RowKit Go.Han
attribute [local irreducible] wpStill wpQuiet
set_option maxRecDepth 100000

theorem info_stp : (Try.prog.info? 47).map (fun i => (i.zero, i.size, i.bytes)) = some (some (.agg #[.int .i64 0, .int .i64 0, .bool false]), 3, 24) := by kernel_rfl
theorem info_spn : (Try.prog.info? 76).map (fun i => (i.zero, i.size, i.bytes)) = some (some (.agg #[.int .i64 0, .int .i64 0]), 2, 16) := by kernel_rfl
theorem stp_one (h : Stp) : ∀ u ∈ h.cells, u.oneCell' = true := by
  intro u hu
  simp [Stp.cells] at hu
  rcases hu with rfl | rfl | rfl <;> rfl
theorem spn_one (h : Spn) : ∀ u ∈ h.cells, u.oneCell' = true := by
  intro u hu
  simp [Spn.cells] at hu
  rcases hu with rfl | rfl <;> rfl
abbrev OwnP (w : World) (base : Nat) (v : Value) (l : List Stp) : Prop := OwnL Stp.cells 47 3 w base v l
abbrev OwnN (w : World) (base : Nat) (v : Value) (l : List Spn) : Prop := OwnL Spn.cells 76 2 w base v l
theorem stp_room {n : Nat} (h : n ≤ 10000) : n + 1 ≤ maxLen ∧ (n + 1) * 24 ≤ 140737488355328 := by unfold maxLen; omega
theorem spn_room {n : Nat} (h : n ≤ 10000) : n + 1 ≤ maxLen ∧ (n + 1) * 16 ≤ 140737488355328 := by unfold maxLen; omega
/-- What Timeline returns. -/
def stpR (l : List House) (s b g kn : Int) : List Stp := if relE l s b g kn = 0 then stpL l s b g kn else []
def spnR (l : List House) (s b g kn : Int) : List Spn := if relE l s b g kn = 0 then spnL l s b g kn else []
def LinePost (l : List House) (s b g kn : Int) (w : World) (e : Ending) (w' : World) : Prop :=
  ∃ A c, e = .returned (.tuple #[.slice A (stpR l s b g kn).length c, .int .i64 (relE l s b g kn)]) ∧ Rd w' A (pflat (stpR l s b g kn)) ∧ (stpR l s b g kn).length ≤ 10000 ∧ Below w.heap.size w w'
def ShowPost (l : List House) (s b g kn : Int) (w : World) (e : Ending) (w' : World) : Prop :=
  ∃ A c, e = .returned (.tuple #[.slice A (spnR l s b g kn).length c, .int .i64 (relE l s b g kn)]) ∧ Rd w' A (nflat (spnR l s b g kn)) ∧ (spnR l s b g kn).length ≤ 10000 ∧ Below w.heap.size w w'
structure RelOk (l : List House) (s b g kn : Int) : Prop where
  chk : hchk l = 0
  s0 : 0 ≤ s
  s1 : s < 64
  b0 : 0 ≤ b
  b1 : b < 1099511627776
  g0 : 0 ≤ g
  g1 : g < 32
  k0 : 0 ≤ kn
  k1 : kn < 1099511627776
theorem rel_ok {l : List House} {s b g kn : Int} : relE l s b g kn = 0 ↔ RelOk l s b g kn := by
  unfold relE
  constructor
  · intro h
    by_cases h0 : hchk l = 0
    · rw [if_pos h0] at h
      by_cases h1 : (spkB s && timeB b && lngB g && timeB kn) = true
      · simp only [Bool.and_eq_true, spkB_iff, timeB_iff, lngB_iff] at h1
        exact ⟨h0, by omega, by omega, by omega, by omega, by omega, by omega, by omega, by omega⟩
      · rw [if_neg h1] at h; cases h
    · rw [if_neg h0] at h; exact absurd h h0
  · rintro ⟨h0, _, _, _, _, _, _, _, _⟩
    rw [if_pos h0, if_pos]
    simp only [Bool.and_eq_true, spkB_iff, timeB_iff, lngB_iff]
    omega
theorem RelOk.ask {l : List House} {s b g kn : Int} (h : RelOk l s b g kn) {t : Int} (h0 : 0 ≤ t) (h1 : t < 1099511627776) : verdE l ⟨s, b, g, t, kn⟩ = 0 ∧ verdR l ⟨s, b, g, t, kn⟩ = verd l ⟨s, b, g, t, kn⟩ :=
  verdR_ok h.chk (asked_iff.2 ⟨h.s0, h.s1, h.b0, h.b1, h.g0, h.g1, h0, h1, h.k0, h.k1⟩)
theorem RelOk.hok {l : List House} {s b g kn : Int} (h : RelOk l s b g kn) : ∀ x ∈ l, x.Ok := fun x hx => (hasc_ok (hchk_ok h.chk).2 x hx).1
theorem timL_len (l : List House) (b : Int) : (timL l b).length ≤ 1 + 3 * l.length := by have := timFold_len b l [0]; unfold timL; simpa using this
theorem stpL_len {l : List House} {s b g kn : Int} : (stpL l s b g kn).length ≤ 1 + 3 * l.length := Nat.le_trans (stepsF_len _ _ _) (timL_len l b)
theorem spansF_len : ∀ S : List Stp, (spansF S).length ≤ S.length
  | [] => Nat.le_refl _
  | [x] => by rw [spansF]; split <;> simp
  | x :: y :: r => by
    have := spansF_len (y :: r)
    rw [spansF]
    split <;> (simp at this ⊢; omega)
/-- A value whose block is one known, or new. -/
def OneOr (b n : Nat) (v : Value) : Prop := ∀ g, v.ownBlock = some g → g = b ∨ n ≤ g
theorem OneOr.next {b n m : Nat} {v v' : Value} (h : OneOr b n v) (k : v'.ownBlock = v.ownBlock ∨ v'.ownBlock = some m) (hn : n ≤ m) : OneOr b n v' := fun g hg => by
  rcases k with k | k
  · exact h g (k.symm.trans hg)
  · rw [hg] at k; cases k; exact .inr hn
theorem only_one {b : Nat} {a w w' : World} {v : Value} (h : Only (fun j => j = b) a w) (hg : w.grownBy w' v.ownBlock) (ho : OneOr b a.heap.size v) : Only (fun j => j = b) a w' :=
  ⟨hg.os.trans h.os, hg.tape.trans h.tape, hg.output.trans h.output, Nat.le_trans h.size hg.size, fun i hi hn => (hg.block i (Nat.lt_of_lt_of_le hi h.size) (fun e => by
    rcases ho i e.symm with h1 | h1
    · exact hn h1
    · omega)).trans (h.block i hi hn)⟩
def VtP (v : Int) (W : World) (e : Ending) (w' : World) : Prop := ∃ n : Int, e = .returned (.tuple #[.int .i64 v, .int .i64 n, .int .i64 0]) ∧ Below W.heap.size W w'
theorem timL_in {l : List House} {b : Int} {k : Nat} (h : k < (timL l b).length) : 0 ≤ (timL l b)[k] ∧ (timL l b)[k] < 1099511627776 := by
  rcases mem_timL.1 (List.getElem_mem h) with ⟨_, h⟩ | h
  · exact h
  · omega
set_option maxHeartbeats 4000000 in
theorem Timeline38_any (A : Option Addr) (c : Nat) (l : List House) (s b g kn : Int) (w : World) (hr : Rd w A (hflat l)) (hm : l.length ≤ 9223372036854775807) :
    Calls Try.prog 16 #[.slice A l.length c, .int .i64 s, .int .i64 b, .int .i64 g, .int .i64 kn] w (LinePost l s b g kn w) := by
  obtain ⟨i0, hi0, iz0, is0, ib0⟩ := info_parts info_stp
  have cC := Lib.hid (error38_any A c l s b g kn w hr hm)
  unfold RelPost at cC
  by_cases hre : relE l s b g kn = 0
  · have hok := rel_ok.1 hre
    have hlen := (hchk_ok hok.chk).1
    have HR : Hid (stpR l s b g kn = stepsF (vAt l s b g kn) (-1) (timL l b)) := by show _ = _; unfold stpR; rw [if_pos hre]; rfl
    have cT := Lib.hid (fun W (hW : Below w.heap.size w W) => times38_any A c l b W (hr.ext hW) hlen hok.hok hok.b0 hok.b1)
    have cV : Hid (∀ W, Below w.heap.size w W → ∀ t : Int, 0 ≤ t → t < 1099511627776 → Calls Try.prog 47 #[.slice A l.length c, .int .i64 s, .int .i64 b, .int .i64 g, .int .i64 t, .int .i64 kn] W (VtP (vAt l s b g kn t) W)) := fun W hW t h0 h1 => by
      have h := Verdict36_any A c l ⟨s, b, g, t, kn⟩ W (hr.ext hW) hm
      unfold VerdPost at h
      rw [(hok.ask h0 h1).1, (hok.ask h0 h1).2] at h
      refine h.mono ?_
      rintro e w' ⟨rfl, hb⟩
      exact ⟨_, rfl, hb⟩
    have Hin := Lib.hid (fun k (h : k < (timL l b).length) => timL_in h)
    have hTl := timL_len l b
    have HNN : Hid (∀ t, vAt l s b g kn t ≠ -1) := fun t => by have := (verd_nonneg l ⟨s, b, g, t, kn⟩).1; unfold vAt; omega
    unfold LinePost
    rw [hre] at cC
    rw [hre, HR.out]
    unfold TimPost at cT
    generalize vAt l s b g kn = v at *
    generalize timL l b = T at *
    clear hok hr HR hre
    go_enter Try.func16, Try.ntmps16
    go_wp2_with fail
    refine cC.out.mono ?_
    rintro e w1 ⟨rfl, hb1⟩
    clear cC
    go_wp2_with fail
    obtain ⟨w2, hw2⟩ : ∃ W, w1.alloc (.cells #[] 47) = W := ⟨_, rfl⟩
    have hb2 : Below w1.heap.size w1 w2 := by subst hw2; exact ext_alloc (Below.refl _ _) _
    have ho2 : OwnP w2 w1.heap.size (.slice (some ⟨w1.heap.size, 0, none⟩) 0 0) [] := by subst hw2; exact own_empty (World.alloc_heap_new _ _) (Nat.le_refl _)
    have hz2 : w2.heap.size = w1.heap.size + 1 := by subst hw2; simp
    rw [hw2]
    have Ho2 := Lib.hid ho2
    have Hz2 := Lib.hid hz2
    clear hz2
    have hB2 := ext_trans hb1 hb2
    clear hw2 ho2
    refine (cT.out w2 hB2).mono ?_
    rintro e w3 ⟨A3, c3, rfl, hr3, hc3, hb3, hnb⟩
    have Hr3 := Lib.hid hr3
    have hB3 := ext_trans hB2 hb3
    have ho3 := Lib.hid (Ho2.out.ext hb3)
    have hz1 := hb1.size
    have hz3 := hb3.size
    have Hb1 := Lib.hid hb1
    have hBb := ext_trans hb2 hb3
    clear hr3 hc3 cT Ho2 hB2 hb2 hb3 hb1
    go_wp2_with fail
    go_loopw [13, 15] (fun vo i wr => ∃ k : Nat, k ≤ T.length ∧ i = .int .i64 k ∧ OwnP wr w1.heap.size vo (stepsF v (-1) (T.take k)) ∧ Only (fun j => j = w1.heap.size) w3 wr ∧ Below w1.heap.size w1 wr ∧ OneOr w1.heap.size w3.heap.size vo) (fun _ i _ => T.length - (intOf i).toNat)
    case atStart => exact ⟨0, Nat.zero_le _, rfl, ho3.out, Only.refl _ _, hBb, fun g hg => by cases hg; exact .inl rfl⟩
    case round =>
      obtain ⟨k, hk, rfl, hown, hon, hBr1, hoo⟩ := hrel
      by_cases hlt : k < T.length
      · obtain ⟨b1, off, rfl, hb, hc⟩ := Hr3.out.elem (f := intC) (s := 1) (fun _ => rfl) (by omega) hlt
        have hbn : b1 ≠ w1.heap.size := by have := hnb _ rfl; have := Hz2.out; simp only at *; omega
        have d0 := (World.cell?_of_block (w := w3) (w' := wr) (a := ⟨b1, off + k * 1 + 0, none⟩) (hon.block b1 hb hbn)).trans (hc 0 _ rfl)
        simp only [Nat.mul_one, Nat.add_zero] at d0
        have hin := Hin.out k hlt
        have hst := stepsF_snoc v (T.take k) (-1) T[k]
        have htk : T.take (k + 1) = T.take k ++ [T[k]] := List.take_succ_eq_append_getElem hlt
        rw [← htk] at hst
        have hsl := stepsF_last v (T.take k) (-1)
        have hel : (stepsF v (-1) (T.take k)).length ≤ 8000 := by have := stepsF_len v (T.take k) (-1); rw [List.length_take] at this; omega
        have hnn := HNN.out T[k]
        have cVk := Lib.hid (cV.out wr (ext_trans Hb1.out hBr1) T[k] hin.1 hin.2)
        have hlt2 : (k : Int) < T.length := by omega
        have hbw : b1 < wr.heap.size := Nat.lt_of_lt_of_le hb hon.size
        clear hc htk hin hbn
        generalize lastS v (-1) (T.take k) = ls at *
        generalize stepsF v (-1) (T.take k) = el at *
        generalize hvt : v T[k] = vt at *
        clear hvt
        generalize T[k] = t at *
        obtain ⟨A9, c9, rfl, hrd9, _⟩ := OwnL.form (by omega) hown
        have Hst := Lib.hid hst
        have HB := Lib.hid hon
        have HB1 := Lib.hid hBr1
        have HOO := Lib.hid hoo
        clear hst hBr1 hon hoo
        rcases hsl with ⟨rfl, rfl⟩ | ⟨r, x, rfl, hx⟩
        · have HN : Hid (stepsF v (-1) (T.take (k + 1)) = [] ++ [⟨t, vt⟩]) := by show _ = _; rw [Hst.out, if_neg hnn]
          have Hown := Lib.hid hown
          clear Hst hnn hrd9 hown
          obtain ⟨A1, A2⟩ := stp_room (n := 0) (by omega)
          simp only [List.length_nil]
          simp only [List.length_nil] at Hown HOO
          go_wp2_with fail
          refine cVk.out.mono ?_
          rintro e w4 ⟨n4, rfl, hb4⟩
          have ho4 := Hown.out.ext hb4
          have hB4 := HB.out.ext hb4
          have hB41 := ext_trans HB1.out hb4
          have hz4 := hB41.size
          have e0 := (hb4.cell (p := ⟨b1, off + k, none⟩) hbw).trans d0
          clear cVk d0 Hown
          go_wp2_with (at_builtin; refine wpList_append_rd rfl _ _ 31 rfl w1.heap.size 47 i0 _ 3 24 Try.underlying31 hi0 iz0 is0 ib0 rfl (by decide) _ _ _ rfl (some ⟨w4.heap.size, 0, none⟩) 1 1 (Stp.cells ⟨t, vt⟩) rfl (ho4.ext (ext_alloc (Below.refl w4.heap.size w4) _)) rfl (grd_blk (World.alloc_heap_new w4 _) rfl) (stp_one _) A1 A2 (Nat.le_trans hz4 (by simp)) ?_; intro v5 w5 hown5 hgrow5 hat5)
          have hB51 : Below w1.heap.size w1 w5 := (ext_trans hB41 (ext_alloc (Below.refl w4.heap.size w4) _)).grown hgrow5 (Nat.le_trans hz4 (by simp)) (fun k hk => (ho4.lt k hk).1)
          have hB5 : Only (fun j => j = w1.heap.size) w3 w5 := only_one (hB4.ext (ext_alloc (Below.refl w4.heap.size w4) _)) hgrow5 HOO.out
          have hO5 : OneOr w1.heap.size w3.heap.size v5 := HOO.out.next hat5 (Nat.le_trans hB4.size (by simp))
          have hs5 := OwnL.snoc (f := Stp.cells) ⟨t, vt⟩ hown5
          clear hown5 hgrow5 hat5
          go_wp2_with fail
          go_roundw
          case rel => exact ⟨k + 1, by omega, by go_num, by rw [HN.out]; exact hs5, hB5, hB51, hO5⟩
          case measure => simp [intOf]; omega
        · obtain ⟨n9, hn9⟩ : ∃ n9, (r ++ [x]).length = n9 := ⟨_, rfl⟩
          have hn9' : n9 = r.length + 1 := by rw [← hn9]; simp
          obtain ⟨b9, off9, rfl, hb9, hc9⟩ := hrd9.elem (f := Stp.cells) (s := 3) Stp.size_cells (by omega) (k := r.length) (by simp)
          have x1 := hc9 1 _ rfl
          simp only [List.getElem_append_right (Nat.le_refl _), Nat.sub_self, List.getElem_cons_zero] at x1
          have hrl : r.length = n9 - 1 := by omega
          have hpos : 1 ≤ n9 := by omega
          have hn8 : n9 ≤ 8000 := by omega
          rw [hrl, hx] at x1
          rw [hn9] at hown HOO ⊢
          have Hown := Lib.hid hown
          have HN9 := Lib.hid hn9
          clear hc9 hrd9 hown hn9 hn9' hrl hel
          have z1 : ((n9 : Int) == 0) = false := by simp; omega
          have z2 : IntKind.i64.wrap ((n9 : Int) - 1) = (n9 : Int) - 1 := IntWalk.i64_in _ (by omega)
          have z3 : (0 : Int) ≤ (n9 : Int) - 1 := by omega
          have z4 : (n9 : Int) - 1 < n9 := by omega
          have z5 : ((n9 : Int) - 1).toNat = n9 - 1 := by omega
          have z6 : (1 : Int) ≤ (n9 : Int) := by omega
          by_cases hv : vt = ls
          · have HN : Hid (stepsF v (-1) (T.take (k + 1)) = r ++ [x]) := by show _ = _; rw [Hst.out, if_pos hv, List.append_nil]
            have g1 : (ls != vt) = false := by simp [hv]
            clear Hst hnn hv
            go_wp2_with fail
            refine cVk.out.mono ?_
            rintro e w4 ⟨n4, rfl, hb4⟩
            have ho4 := Hown.out.ext hb4
            have hB4 := HB.out.ext hb4
            have hB41 := ext_trans HB1.out hb4
            have x4 := (hb4.cell (p := ⟨b9, off9 + (n9 - 1) * 3 + 1, none⟩) hb9).trans x1
            clear cVk d0 Hown x1
            go_wp2_with fail
            go_roundw
            case rel => exact ⟨k + 1, by omega, by go_num, by rw [HN.out]; exact ho4, hB4, hB41, HOO.out⟩
            case measure => simp [intOf]; omega
          · have HN : Hid (stepsF v (-1) (T.take (k + 1)) = (r ++ [x]) ++ [⟨t, vt⟩]) := by show _ = _; rw [Hst.out, if_neg hv]
            have g1 : (ls != vt) = true := by simp; omega
            clear Hst hnn hv
            obtain ⟨A1, A2⟩ := stp_room (n := n9) (by omega)
            rw [← HN9.out] at A1 A2
            go_wp2_with fail
            refine cVk.out.mono ?_
            rintro e w4 ⟨n4, rfl, hb4⟩
            have ho4 := Hown.out.ext hb4
            have hB4 := HB.out.ext hb4
            have hB41 := ext_trans HB1.out hb4
            have hz4 := hB41.size
            have e0 := (hb4.cell (p := ⟨b1, off + k, none⟩) hbw).trans d0
            have x4 := (hb4.cell (p := ⟨b9, off9 + (n9 - 1) * 3 + 1, none⟩) hb9).trans x1
            clear cVk d0 Hown x1
            go_wp2_with (at_builtin; refine wpList_append_rd rfl _ _ 31 rfl w1.heap.size 47 i0 _ 3 24 Try.underlying31 hi0 iz0 is0 ib0 rfl (by decide) _ _ _ rfl (some ⟨w4.heap.size, 0, none⟩) 1 1 (Stp.cells ⟨t, vt⟩) rfl (ho4.ext (ext_alloc (Below.refl w4.heap.size w4) _)) rfl (grd_blk (World.alloc_heap_new w4 _) rfl) (stp_one _) A1 A2 (Nat.le_trans hz4 (by simp)) ?_; intro v5 w5 hown5 hgrow5 hat5)
            have hB51 : Below w1.heap.size w1 w5 := (ext_trans hB41 (ext_alloc (Below.refl w4.heap.size w4) _)).grown hgrow5 (Nat.le_trans hz4 (by simp)) (fun k hk => (ho4.lt k hk).1)
            have hB5 : Only (fun j => j = w1.heap.size) w3 w5 := only_one (hB4.ext (ext_alloc (Below.refl w4.heap.size w4) _)) hgrow5 HOO.out
            have hO5 : OneOr w1.heap.size w3.heap.size v5 := HOO.out.next hat5 (Nat.le_trans hB4.size (by simp))
            have hs5 := OwnL.snoc (f := Stp.cells) ⟨t, vt⟩ hown5
            clear hown5 hgrow5 hat5
            go_wp2_with fail
            go_roundw
            case rel => exact ⟨k + 1, by omega, by go_num, by rw [HN.out]; exact hs5, hB5, hB51, hO5⟩
            case measure => simp [intOf]; omega
      · obtain rfl : k = T.length := by omega
        rw [List.take_length] at hown
        obtain ⟨A9, c9, rfl, hrd9, _⟩ := OwnL.form (by omega) hown
        have hlen9 := stepsF_len v T (-1)
        have hfin : Hid (∃ A c, Ending.returned (.tuple #[.slice A9 (stepsF v (-1) T).length c9, .int .i64 0]) = .returned (.tuple #[.slice A (stepsF v (-1) T).length c, .int .i64 0]) ∧ Rd wr A (pflat (stepsF v (-1) T)) ∧ (stepsF v (-1) T).length ≤ 10000 ∧ Below w.heap.size w wr) := ⟨A9, c9, rfl, hrd9, by omega, ext_trans Hb1.out hBr1⟩
        clear hown hrd9
        go_wp2_with fail
        go_ret2
        exact hfin.out
  · have HR : Hid (stpR l s b g kn = []) := by show _ = _; unfold stpR; rw [if_neg hre]
    unfold LinePost
    rw [HR.out]
    have hc1 : (relE l s b g kn != 0) = true := by simpa using hre
    generalize relE l s b g kn = re at *
    clear hre HR
    go_enter Try.func16, Try.ntmps16
    go_wp2_with fail
    refine cC.out.mono ?_
    rintro e w1 ⟨rfl, hb1⟩
    go_wp2_with fail
    go_ret2
    exact ⟨none, 0, rfl, Rd.nil _ _, Nat.zero_le _, hb1⟩
end Go.Proofs.Ytmindojbkedmlaa

/- Package releases: steps. -/
namespace Go.Proofs.Ytmindojbkedmlaa
open Go.RowKit Go.Han Go.Maps Go.Shelf
attribute [local irreducible] wpStill wpQuiet
attribute [local go_sem] Oper.semAt_some
set_option maxRecDepth 100000

/-- The instants of a decision, and of all. -/
def chF (b : Int) (h : House) : List Int := [h.frm, h.until_] ++ (if h.kind = 3 then [b + h.ms] else [])
def keysR (l : List House) (b : Int) : List Int := 0 :: l.flatMap (chF b)
theorem mem_keysR {l : List House} {b x : Int} : x ∈ keysR l b ↔ x = 0 ∨ ∃ h ∈ l, instB b h x := by
  unfold keysR
  rw [List.mem_cons, List.mem_flatMap]
  constructor
  · rintro (h | ⟨h, hh, hc⟩)
    · exact .inl h
    · refine .inr ⟨h, hh, ?_⟩
      unfold chF at hc
      unfold instB
      rcases List.mem_append.1 hc with hc | hc
      · rcases List.mem_cons.1 hc with hc | hc
        · exact .inl hc
        · exact .inr (.inl (by simpa using hc))
      · split at hc
        · rename_i hk; exact .inr (.inr ⟨hk, by simpa using hc⟩)
        · cases hc
  · rintro (h | ⟨h, hh, hc⟩)
    · exact .inl h
    · refine .inr ⟨h, hh, ?_⟩
      unfold chF
      rcases hc with hc | hc | ⟨hk, hc⟩
      · subst hc; simp
      · subst hc; simp
      · subst hc; rw [if_pos hk]; simp
theorem chF_len (b : Int) (h : House) : (chF b h).length ≤ 3 := by unfold chF; split <;> simp
theorem keysR_len (b : Int) : ∀ l : List House, (keysR l b).length ≤ 1 + 3 * l.length
  | [] => by simp [keysR]
  | h :: l => by
    have h1 := keysR_len b l
    have h2 := chF_len b h
    unfold keysR at h1 ⊢
    simp only [List.flatMap_cons, List.length_cons, List.length_append] at h1 ⊢
    omega
theorem keysR_take {l : List House} {b : Int} {k : Nat} (h : k < l.length) : keysR (l.take (k + 1)) b = keysR (l.take k) b ++ chF b l[k] := by
  unfold keysR
  rw [List.take_succ_eq_append_getElem h, List.flatMap_append]
  simp
theorem setF_two (l : List Int) (x y : Int) : ∀ n, setF (l ++ [x, y]) n = if n = y then some true else if n = x then some true else setF l n := fun n => by
  rw [show l ++ [x, y] = (l ++ [x]) ++ [y] by simp, setF_snoc, setF_snoc]
structure StepsAt (A : Option Addr) (c : Nat) (l : List House) (s b g kn : Int) (bm bl bs bb bg bk mp : Nat) (w : World) : Prop where
  hm : w.heap[bm]? = some (.cells #[.map (some mp)] 64 (0, 0))
  hl : w.heap[bl]? = some (.cells #[.slice A l.length c] 22 (0, 0))
  hs : w.heap[bs]? = some (.cells #[.int .i64 s] 3 (0, 0))
  hb : w.heap[bb]? = some (.cells #[.int .i64 b] 3 (0, 0))
  hg : w.heap[bg]? = some (.cells #[.int .i64 g] 3 (0, 0))
  hk : w.heap[bk]? = some (.cells #[.int .i64 kn] 3 (0, 0))
  map : MapF w intS blE mp (keysR l b).length (setF (keysR l b))
def StepsPost (A : Option Addr) (c : Nat) (l : List House) (s b g kn : Int) (w : World) (e : Ending) (w' : World) : Prop :=
  ∃ bm bl bs bb bg bk mp : Nat, e = .returned (.func (.func 82) #[] #[.pointer (some ⟨bm, 0, none⟩), .pointer (some ⟨bl, 0, none⟩), .pointer (some ⟨bs, 0, none⟩), .pointer (some ⟨bb, 0, none⟩), .pointer (some ⟨bg, 0, none⟩), .pointer (some ⟨bk, 0, none⟩)]) ∧
    StepsAt A c l s b g kn bm bl bs bb bg bk mp w' ∧ Below w.heap.size w w' ∧ (w.heap.size ≤ bm ∧ w.heap.size ≤ bl ∧ w.heap.size ≤ bs ∧ w.heap.size ≤ bb ∧ w.heap.size ≤ bg ∧ w.heap.size ≤ bk ∧ w.heap.size ≤ mp)
theorem good_any {n : Int} (h0 : 0 ≤ n) (h1 : n ≤ 1200000000000) : intS.good n := by
  show (Lit.int .i64 n).wf = true
  simp [Lit.wf, IntKind.min, IntKind.max, IntKind.signed, IntKind.bits]; omega
set_option maxHeartbeats 4000000 in
theorem steps_any (A : Option Addr) (c : Nat) (l : List House) (s b g kn : Int) (w : World) (hr : Rd w A (hflat l)) (hok : RelOk l s b g kn) :
    Calls Try.prog 44 #[.slice A l.length c, .int .i64 s, .int .i64 b, .int .i64 g, .int .i64 kn] w (StepsPost A c l s b g kn w) := by
  have hmf : ∀ (fn : Fn) (first cap : Array Value) (w : World), (Instr.makeFunc fn first cap).run Try.prog w = .ok (.func fn first cap) w := fun _ _ _ _ => rfl
  have hmm := @run_makeMap Try.prog
  obtain ⟨W5, hW5⟩ : ∃ W, (((((w.alloc (.cells #[.slice A l.length c] 22)).alloc (.cells #[.int .i64 s] 3)).alloc (.cells #[.int .i64 b] 3)).alloc (.cells #[.int .i64 g] 3)).alloc (.cells #[.int .i64 kn] 3)) = W := ⟨_, rfl⟩
  have hB5 : Below w.heap.size w W5 := by subst hW5; exact ext_alloc (ext_alloc (ext_alloc (ext_alloc (ext_alloc (Below.refl _ _) _) _) _) _) _
  have kl : W5.heap[w.heap.size]? = some (.cells #[.slice A l.length c] 22 (0, 0)) := by
    subst hW5; exact (Below.heap_alloc _ _ _ (by first | (simp; done) | (simp; omega))).trans ((Below.heap_alloc _ _ _ (by first | (simp; done) | (simp; omega))).trans ((Below.heap_alloc _ _ _ (by first | (simp; done) | (simp; omega))).trans ((Below.heap_alloc _ _ _ (by simp)).trans (galloc_at _ _ _ (by simp)))))
  have ks : W5.heap[w.heap.size + 1]? = some (.cells #[.int .i64 s] 3 (0, 0)) := by
    subst hW5; exact (Below.heap_alloc _ _ _ (by first | (simp; done) | (simp; omega))).trans ((Below.heap_alloc _ _ _ (by first | (simp; done) | (simp; omega))).trans ((Below.heap_alloc _ _ _ (by simp)).trans (galloc_at _ _ _ (by simp))))
  have kb : W5.heap[w.heap.size + 2]? = some (.cells #[.int .i64 b] 3 (0, 0)) := by
    subst hW5; exact (Below.heap_alloc _ _ _ (by first | (simp; done) | (simp; omega))).trans ((Below.heap_alloc _ _ _ (by simp)).trans (galloc_at _ _ _ (by simp)))
  have kg : W5.heap[w.heap.size + 3]? = some (.cells #[.int .i64 g] 3 (0, 0)) := by
    subst hW5; exact (Below.heap_alloc _ _ _ (by simp)).trans (galloc_at _ _ _ (by simp))
  have kk : W5.heap[w.heap.size + 4]? = some (.cells #[.int .i64 kn] 3 (0, 0)) := by
    subst hW5; exact galloc_at _ _ _ (by simp)
  have hz5 : W5.heap.size = w.heap.size + 5 := by subst hW5; simp
  obtain ⟨W6, hrun, hm6, hg6, hz6⟩ := (MapF.made W5 intS blE).store _ keyed_int Try.underlying64 (by unfold maxLen; omega) 0 true (good_any (by omega) (by omega))
  change (Instr.mapUpdate _ _ (.int .i64 0) (.bool true)).run _ _ = _ at hrun
  obtain ⟨W7, hW7⟩ : ∃ W, W6.alloc (.cells #[.map (some W5.heap.size)] 64) = W := ⟨_, rfl⟩
  have km7 : W7.heap[W6.heap.size]? = some (.cells #[.map (some W5.heap.size)] 64 (0, 0)) := by subst hW7; exact galloc_at _ _ _ rfl
  have hb7 : Below W6.heap.size W6 W7 := by subst hW7; exact ext_alloc (Below.refl _ _) _
  have hm7 : MapF W7 intS blE W5.heap.size 1 (setF (keysR (l.take 0) b)) := (hm6.of_block (hb7.block _ hm6.lt)).congr fun n _ => by
    show setF [0] n = if n = 0 then some true else none
    unfold setF
    by_cases h : n = 0 <;> simp [h]
  rw [World.size_alloc] at hz6
  have hB7 : Below W5.heap.size W5 W7 := ((ext_alloc (Below.refl _ _) _).grown hg6 (by simp) (fun k hk => by cases hk; exact Nat.le_refl _)).trans (hb7.mono (by omega))
  have hz7 : W7.heap.size = W5.heap.size + 2 := by subst hW7; simp; omega
  have hlen := (hchk_ok hok.chk).1
  have HOK := Lib.hid hok.hok
  have b0 := hok.b0
  have b1 := hok.b1
  have K : Hid (∀ W, Only (fun j => j = W5.heap.size) W7 W → W.heap[w.heap.size]? = some (.cells #[.slice A l.length c] 22 (0, 0)) ∧ W.heap[w.heap.size + 1]? = some (.cells #[.int .i64 s] 3 (0, 0)) ∧ W.heap[w.heap.size + 2]? = some (.cells #[.int .i64 b] 3 (0, 0)) ∧ W.heap[w.heap.size + 3]? = some (.cells #[.int .i64 g] 3 (0, 0)) ∧ W.heap[w.heap.size + 4]? = some (.cells #[.int .i64 kn] 3 (0, 0)) ∧ W.heap[W6.heap.size]? = some (.cells #[.map (some W5.heap.size)] 64 (0, 0)) ∧ Below w.heap.size w W) := fun W hW => by
    have low : ∀ j, j < W5.heap.size → W.heap[j]? = W5.heap[j]? := fun j hj => (hW.block j (by omega) (by omega)).trans (hB7.block j hj)
    refine ⟨(low _ (by omega)).trans kl, (low _ (by omega)).trans ks, (low _ (by omega)).trans kb, (low _ (by omega)).trans kg, (low _ (by omega)).trans kk, (hW.block _ (by omega) (by omega)).trans km7, ?_⟩
    have h1 := ext_trans hB5 hB7
    exact ⟨hW.os.trans h1.os, hW.tape.trans h1.tape, hW.output.trans h1.output, Nat.le_trans h1.size hW.size, fun k hk => (hW.block k (Nat.lt_of_lt_of_le hk h1.size) (by omega)).trans (h1.block k hk)⟩
  have c5 := cell_one (((ext_alloc (Below.refl W5.heap.size W5) (.map #[] 0)).block _ (lt_block kl)).trans kl)
  have l7 : W7.cell? ⟨w.heap.size, 0, none⟩ = some (.slice A l.length c) := by
    have := (K.out W7 (Only.refl _ _)).1
    exact cell_one this
  have Hz5 := Lib.hid hz5
  have Hz6 := Lib.hid hz6
  have Hz7 := Lib.hid hz7
  clear hok hB5 kl ks kb kg kk hz5 hm6 hg6 hz6 km7 hb7 hB7 hz7 c5
  go_enter Try.func44, Try.ntmps44
  go_wp2_with fail
  clear hrun hW7 hW5 hmm l7
  have hz5 := Hz5.out
  have hz6 := Hz6.out
  have hz7 := Hz7.out
  have hrW := hr
  go_loopw [18] (fun i wr => ∃ k : Nat, k ≤ l.length ∧ i = .int .i64 k ∧ Only (fun j => j = W5.heap.size) W7 wr ∧ MapF wr intS blE W5.heap.size (keysR (l.take k) b).length (setF (keysR (l.take k) b))) (fun i _ => l.length - (intOf i).toNat)
  case atStart => exact ⟨0, Nat.zero_le _, rfl, Only.refl _ _, hm7⟩
  case round =>
    obtain ⟨k, hk, rfl, hon, hmp⟩ := hrel
    by_cases hlt : k < l.length
    · obtain ⟨kl, ks, kb, kg, kk, km, hBw⟩ := K.out wr hon
      obtain ⟨b9, off, rfl, hb9, hc⟩ := hou_elem hr hlt
      obtain ⟨d0, d1, d2, d3, d4, d5, d6, d7, d8, d9⟩ := hc wr hBw
      have htk := keysR_take (b := b) hlt
      have hkn := keysR_len b (l.take k)
      rw [List.length_take] at hkn
      have hxo := HOK.out _ (List.getElem_mem hlt)
      clear hc
      generalize l[k] = x at *
      generalize keysR (l.take k) b = ks0 at *
      obtain ⟨V, hV, hbV, hxV, hzV⟩ := hou_new x wr
      have hmV := hmp.of_block (hbV.block _ hmp.lt)
      have honV := hon.ext hbV
      have hszw := hon.size
      have cm : V.cell? ⟨W6.heap.size, 0, none⟩ = some (.map (some W5.heap.size)) := cell_one ((hbV.block _ (lt_block km)).trans km)
      have cb : V.cell? ⟨w.heap.size + 1 + 1, 0, none⟩ = some (.int .i64 b) := cell_one ((hbV.block _ (lt_block kb)).trans kb)
      obtain ⟨p0, p1, p2, p3, p4, p5, p6, p7, p8, p9⟩ := hou_at hxV
      have gf : intS.good x.frm := good_any hxo.t0 (by have := hxo.t1; have := hxo.t2; omega)
      have gu : intS.good x.until_ := good_any (by have := hxo.t0; have := hxo.t1; omega) (by have := hxo.t2; omega)
      have Htk := Lib.hid htk
      have n1 : ks0.length < maxLen := by unfold maxLen; omega
      have n2 : ks0.length + 1 < maxLen := by unfold maxLen; omega
      have n3 : ks0.length + 2 < maxLen := by unfold maxLen; omega
      have Honv := Lib.hid honV
      have HxV := Lib.hid hxV
      have Hkm := Lib.hid ((hbV.block _ (lt_block km)).trans km)
      have Hkb := Lib.hid ((hbV.block _ (lt_block kb)).trans kb)
      have Hn := Lib.hid hkn
      have HX := Lib.hid hxo
      clear kl ks kb kg kk km htk hmp hon honV hbV hBw hkn hxo hr
      have ne1 : (some wr.heap.size : Option Nat) ≠ some W5.heap.size := by simp; omega
      have ne2 : (some W6.heap.size : Option Nat) ≠ some W5.heap.size := by simp; omega
      have Hszw := Lib.hid hszw
      clear hz5 hz6 hz7 hszw
      obtain ⟨w5, hrun1, hm5, hg5, hs5⟩ := (hmV.of_block (w' := V.drew) rfl).store _ keyed_int Try.underlying64 n1 x.frm true gf
      obtain ⟨w6, hrun2, hm6, hg6, hs6⟩ := hm5.store _ keyed_int Try.underlying64 n2 x.until_ true gu
      change (Instr.mapUpdate _ _ (.int .i64 x.frm) (.bool true)).run _ _ = _ at hrun1
      change (Instr.mapUpdate _ _ (.int .i64 x.until_) (.bool true)).run _ _ = _ at hrun2
      have hx5 := (hg5.block _ (lt_block HxV.out) ne1).trans HxV.out
      have cm1 : w5.cell? ⟨W6.heap.size, 0, none⟩ = some (.map (some W5.heap.size)) := cell_one ((hg5.block _ (lt_block Hkm.out) ne2).trans Hkm.out)
      have q7 : w5.cell? ⟨wr.heap.size, 7, none⟩ = some (.int .i64 x.until_) := gblk hx5 7
      have Hhs := Lib.hid (And.intro hs5 hs6)
      clear hs5 hs6
      go_wp2_with fail
      apply wp_meet (w' := w6)
      · go_region_law fail
        all_goals exact ⟨rfl, rfl⟩
      have honX : Hid (Only (fun j => j = W5.heap.size) W7 w6) := by
        have h5 : Only (fun j => j = W5.heap.size) V w5 := ⟨hg5.os, hg5.tape, hg5.output, hg5.size, fun i hi hn => hg5.block i hi (fun e => hn (by cases e; rfl))⟩
        have h6 : Only (fun j => j = W5.heap.size) w5 w6 := ⟨hg6.os, hg6.tape, hg6.output, hg6.size, fun i hi hn => hg6.block i hi (fun e => hn (by cases e; rfl))⟩
        exact (Honv.out.trans h5).trans h6
      have hm62 : MapF w6 intS blE W5.heap.size (ks0 ++ [x.frm, x.until_]).length (setF (ks0 ++ [x.frm, x.until_])) := by
        rw [List.length_append]
        exact hm6.congr fun n _ => setF_two ks0 x.frm x.until_ n
      have hx6 := (hg6.block _ (lt_block hx5) ne1).trans hx5
      have Hx6 := Lib.hid hx6
      have z1 : w6.cell? ⟨wr.heap.size, 1, none⟩ = some (.int .i64 x.kind) := gblk hx6 1
      have Hm62 := Lib.hid hm62
      clear hm5 hm6 hg5 hg6 hrun1 hrun2 hm62 hx5 cm1 q7 cm cb p0 p1 p2 p3 p4 p5 p6 p7 p8 p9 hx6
      by_cases hk3 : x.kind = 3
      · have hft : Hid (keysR (l.take (k + 1)) b = (ks0 ++ [x.frm, x.until_]) ++ [b + x.ms]) := by show _ = _; rw [Htk.out]; unfold chF; rw [if_pos hk3]; simp
        have g1 : (x.kind == 3) = true := by simp [hk3]
        have hms := ms_in HX.out hk3
        have hwr : IntKind.i64.wrap (b + x.ms) = b + x.ms := IntWalk.i64_in _ (by omega)
        obtain ⟨_, _, kb6, _, _, km6, _⟩ := K.out w6 honX.out
        have cb6 : w6.cell? ⟨w.heap.size + 1 + 1, 0, none⟩ = some (.int .i64 b) := cell_one kb6
        have cm6 := cell_one km6
        have z9 : w6.cell? ⟨wr.heap.size, 9, none⟩ = some (.int .i64 x.ms) := gblk Hx6.out 9
        obtain ⟨w8, hrun8, hm8, hg8, hs8⟩ := Hm62.out.store _ keyed_int Try.underlying64 (by simp; unfold maxLen; have := Hn.out; omega) (b + x.ms) true (good_any (by omega) (by omega))
        change (Instr.mapUpdate _ _ (.int .i64 (b + x.ms)) (.bool true)).run _ _ = _ at hrun8
        have hon8 : Hid (Only (fun j => j = W5.heap.size) W7 w8) := honX.out.trans ⟨hg8.os, hg8.tape, hg8.output, hg8.size, fun i hi hn => hg8.block i hi (fun e => hn (by cases e; rfl))⟩
        have hm82 : Hid (MapF w8 intS blE W5.heap.size (keysR (l.take (k + 1)) b).length (setF (keysR (l.take (k + 1)) b))) := by
          show MapF _ _ _ _ _ _
          rw [hft.out, List.length_append (bs := [b + x.ms])]
          exact hm8.congr fun n _ => setF_snoc _ _ n
        clear hk3 hms hg8 hs8 hm8 kb6 km6
        go_wp2_with fail
        go_roundw
        case rel => exact ⟨k + 1, by omega, by go_num, hon8.out, hm82.out⟩
        case measure => simp [intOf]; omega
      · have hft : Hid (keysR (l.take (k + 1)) b = ks0 ++ [x.frm, x.until_]) := by show _ = _; rw [Htk.out]; unfold chF; rw [if_neg hk3, List.append_nil]
        have g1 : (x.kind == 3) = false := by simp [hk3]
        clear hk3
        go_wp2_with fail
        go_roundw
        case rel => exact ⟨k + 1, by omega, by go_num, honX.out, by rw [hft.out]; exact Hm62.out⟩
        case measure => simp [intOf]; omega
    · obtain rfl : k = l.length := by omega
      rw [List.take_length] at hmp
      obtain ⟨kl, ks, kb, kg, kk, km, hBw⟩ := K.out wr hon
      have hfin : Hid (StepsPost A c l s b g kn w (.returned (.func (.func 82) #[] #[.pointer (some ⟨W6.heap.size, 0, none⟩), .pointer (some ⟨w.heap.size, 0, none⟩), .pointer (some ⟨w.heap.size + 1, 0, none⟩), .pointer (some ⟨w.heap.size + 1 + 1, 0, none⟩), .pointer (some ⟨w.heap.size + 1 + 1 + 1, 0, none⟩), .pointer (some ⟨w.heap.size + 1 + 1 + 1 + 1, 0, none⟩)])) wr) :=
        ⟨_, _, _, _, _, _, _, rfl, ⟨km, kl, ks, kb, kg, kk, hmp⟩, hBw, by omega, by omega, by omega, by omega, by omega, by omega, by omega⟩
      clear hmp hon kl ks kb kg kk km hBw hz5 hz6 hz7
      go_wp2_with fail
      go_ret
      exact hfin.out
end Go.Proofs.Ytmindojbkedmlaa

/- Package releases: the iterator of steps. -/
namespace Go.Proofs.Ytmindojbkedmlaa
open Go.RowKit Go.Han Go.Maps Go.Shelf
attribute [local irreducible] wpStill wpQuiet
attribute [local go_sem] Oper.semAt_some
set_option maxRecDepth 100000

theorem asc_split {E : Int} : ∀ {T : List Int}, T.Pairwise (fun a b => a < b) → T = T.filter (fun x => decide (x < E)) ++ T.filter (fun x => decide (E ≤ x))
  | [], _ => rfl
  | x :: T, h => by
    rw [List.pairwise_cons] at h
    have ih := asc_split (E := E) h.2
    by_cases hx : x < E
    · rw [List.filter_cons_of_pos (by simpa using hx), List.filter_cons_of_neg (by simpa using hx), List.cons_append, ← ih]
    · have e : T.filter (fun x => decide (x < E)) = [] := by
        rw [List.filter_eq_nil_iff]
        intro y hy
        have := h.1 y hy
        simp; omega
      rw [e, List.nil_append] at ih
      rw [List.filter_cons_of_neg (by simpa using hx), List.filter_cons_of_pos (by simp; omega), e, List.nil_append, ← ih]
theorem keys_split {l : List House} {b : Int} {T : List Int} (hp : T.Pairwise (fun a b => a < b)) (hm : ∀ x, x ∈ T ↔ x ∈ keysR l b) (hpos : ∀ x ∈ keysR l b, 0 ≤ x) : ∃ R, T = timL l b ++ R ∧ ∀ x ∈ R, 1099511627776 ≤ x := by
  have e : T.filter (fun x => decide (x < 1099511627776)) = timL l b := by
    refine asc_ext (List.Pairwise.filter _ hp) (asc_timL l b) fun x => ?_
    rw [List.mem_filter, hm x, mem_keysR, mem_timL]
    have hx := hpos x
    rw [mem_keysR] at hx
    simp only [decide_eq_true_eq]
    constructor
    · rintro ⟨h | h, h1⟩
      · exact .inr h
      · exact .inl ⟨h, hx (.inr h), h1⟩
    · rintro (⟨h, h0, h1⟩ | rfl)
      · exact ⟨.inr h, h1⟩
      · exact ⟨.inl rfl, by omega⟩
  refine ⟨_, by rw [← e]; exact asc_split hp, fun x hx => by simpa using (List.mem_filter.1 hx).2⟩
theorem keysR_good {l : List House} {b : Int} (hok : ∀ x ∈ l, x.Ok) (b0 : 0 ≤ b) (b1 : b < 1099511627776) : ∀ x ∈ keysR l b, 0 ≤ x ∧ intS.good x := by
  intro x hx
  rcases mem_keysR.1 hx with rfl | ⟨h, hh, hc⟩
  · exact ⟨by omega, good_any (by omega) (by omega)⟩
  · have ho := hok h hh
    have := ho.t0
    have := ho.t1
    have := ho.t2
    rcases hc with rfl | rfl | ⟨hk, rfl⟩
    · exact ⟨by omega, good_any (by omega) (by omega)⟩
    · exact ⟨by omega, good_any (by omega) (by omega)⟩
    · have := ms_in ho hk
      exact ⟨by omega, good_any (by omega) (by omega)⟩
theorem row_form1 {w : World} {base E : Nat} {v : Value} {T : List Int} (h : w.ownsRow base E 1 v T.length (T.map fun x => Value.int .i64 x)) :
    ∃ A cap, v = .slice A T.length cap ∧ ∀ (k : Nat) (hk : k < T.length), ∃ g, A = some ⟨g, 0, none⟩ ∧ base ≤ g ∧ g < w.heap.size ∧ w.cell? ⟨g, k, none⟩ = some (.int .i64 T[k]) := by
  rcases h.2 with ⟨rfl, hn⟩ | ⟨g, cap, cur, rfl, hb, hc, _, _, hsz, ht⟩
  · exact ⟨none, 0, by rw [hn], fun k hk => by omega⟩
  · refine ⟨_, cap, rfl, fun k hk => ⟨g, rfl, hb, lt_block hc, ?_⟩⟩
    rw [gblk hc]
    have h1 : (cur.toList.take (T.length * 1))[k]? = (T.map fun x => Value.int .i64 x)[k]? := by rw [ht]
    rw [List.getElem?_take, if_pos (by omega)] at h1
    simpa [hk] using h1
def encS (x : Stp) : Array Value := #[.agg #[.int .i64 x.at_, .int .i64 x.state, .bool true]]
def StepsR (A : Option Addr) (l : List House) (bm bl bs bb bg bk mp : Nat) (j : Nat) : Prop := j = bm ∨ j = bl ∨ j = bs ∨ j = bb ∨ j = bg ∨ j = bk ∨ j = mp ∨ (l ≠ [] ∧ ∃ a, A = some a ∧ j = a.block)
section
variable {A : Option Addr} {c : Nat} {l : List House} {s b g kn : Int} {bm bl bs bb bg bk mp : Nat} {w0 W : World}
theorem steps_same (h : StepsAt A c l s b g kn bm bl bs bb bg bk mp w0) (hs : ∀ j, StepsR A l bm bl bs bb bg bk mp j → W.heap[j]? = w0.heap[j]?) : StepsAt A c l s b g kn bm bl bs bb bg bk mp W :=
  ⟨(hs _ (.inl rfl)).trans h.hm, (hs _ (.inr (.inl rfl))).trans h.hl, (hs _ (.inr (.inr (.inl rfl)))).trans h.hs, (hs _ (.inr (.inr (.inr (.inl rfl))))).trans h.hb, (hs _ (.inr (.inr (.inr (.inr (.inl rfl)))))).trans h.hg, (hs _ (.inr (.inr (.inr (.inr (.inr (.inl rfl))))))).trans h.hk,
    h.map.of_block (hs _ (.inr (.inr (.inr (.inr (.inr (.inr (.inl rfl)))))))) ⟩
theorem steps_rd (hr : Rd w0 A (hflat l)) (hs : ∀ j, StepsR A l bm bl bs bb bg bk mp j → W.heap[j]? = w0.heap[j]?) : Rd W A (hflat l) :=
  rd_same hr fun hx a ha => hs _ (.inr (.inr (.inr (.inr (.inr (.inr (.inr ⟨hflat_nil hx, a, ha, rfl⟩)))))))
theorem steps_alive (h : StepsAt A c l s b g kn bm bl bs bb bg bk mp w0) (hr : Rd w0 A (hflat l)) : Alive w0 (StepsR A l bm bl bs bb bg bk mp) := by
  rintro j (rfl | rfl | rfl | rfl | rfl | rfl | rfl | ⟨hl, a', rfl, rfl⟩)
  · exact lt_block h.hm
  · exact lt_block h.hl
  · exact lt_block h.hs
  · exact lt_block h.hb
  · exact lt_block h.hg
  · exact lt_block h.hk
  · exact h.map.lt
  · obtain ⟨b, off, he, hb, _⟩ := hou_elem hr (k := 0) (List.length_pos_iff.2 hl)
    cases he; exact hb
end
theorem lastS_take {v : Int → Int} {T : List Int} {k : Nat} (h : k < T.length) : lastS v (-1) (T.take (k + 1)) = v T[k] := by
  rw [List.take_succ_eq_append_getElem h, lastS_snoc]
theorem steps_take {v : Int → Int} {T : List Int} {k : Nat} (h : k < T.length) : stepsF v (-1) (T.take (k + 1)) = stepsF v (-1) (T.take k) ++ (if v T[k] = lastS v (-1) (T.take k) then [] else [⟨T[k], v T[k]⟩]) := by
  rw [List.take_succ_eq_append_getElem h, stepsF_snoc]
theorem stepsF_app (v : Int → Int) : ∀ (T U : List Int) (last : Int), stepsF v last T <+: stepsF v last (T ++ U)
  | [], U, last => by rw [stepsF]; exact List.nil_prefix
  | t :: T, U, last => by
    rw [List.cons_append, stepsF, stepsF]
    split
    · exact stepsF_app v T U last
    · obtain ⟨r, hr⟩ := stepsF_app v T U (v t)
      exact ⟨r, by rw [List.cons_append, hr]⟩
theorem steps_pre (v : Int → Int) (T : List Int) (k : Nat) : stepsF v (-1) (T.take k) <+: stepsF v (-1) T := by
  have := stepsF_app v (T.take k) (T.drop k) (-1)
  rwa [List.take_append_drop] at this
set_option maxHeartbeats 4000000 in
theorem steps1 (A : Option Addr) (c : Nat) (l : List House) (s b g kn : Int) (bm bl bs bb bg bk mp : Nat) (w0 : World) (hat : StepsAt A c l s b g kn bm bl bs bb bg bk mp w0) (hr : Rd w0 A (hflat l)) (hok : RelOk l s b g kn) :
    IterN Try.prog 82 #[.pointer (some ⟨bm, 0, none⟩), .pointer (some ⟨bl, 0, none⟩), .pointer (some ⟨bs, 0, none⟩), .pointer (some ⟨bb, 0, none⟩), .pointer (some ⟨bg, 0, none⟩), .pointer (some ⟨bk, 0, none⟩)] encS (StepsR A l bm bl bs bb bg bk mp) (fun _ => False) (stpL l s b g kn) w0 := by
  intro l' B0 J Jx own₀ W hR hown hB0 hlive hJ hJx hY h0
  refine (callsIn_wide (n := 0)).1 ?_
  refine callsIn_of_wp Try.func82 rfl trivial ?_
  simp only [Try.ntmps82, List.size_toArray, List.length_cons, List.length_nil, Nat.reduceAdd, Nat.reduceSub, Array.replicate_succ, Array.replicate_zero, List.push_toArray, List.append_toArray, List.nil_append, List.cons_append]
  have hatW := steps_same hat (fun j hj => (hR j hj).2)
  have hrW := steps_rd hr (fun j hj => (hR j hj).2)
  have halW := steps_alive hatW hrW
  have hlen := (hchk_ok hok.chk).1
  have hkl := keysR_len b l
  have c1 := cell_one hatW.hm
  obtain ⟨w1, hw1⟩ : ∃ W1, W.alloc (.cells #[.map (some mp)] 64) = W1 := ⟨_, rfl⟩
  have hb1 : Below W.heap.size W w1 := by subst hw1; exact ext_alloc (Below.refl _ _) _
  have hx1 : w1.heap[W.heap.size]? = some (.cells #[.map (some mp)] 64 (0, 0)) := by subst hw1; exact galloc_at _ _ _ rfl
  have cS := Lib.hid (sortedB_any mp (keysR l b).length W.heap.size (setF (keysR l b)) w1 (hatW.map.of_block (hb1.block _ hatW.map.lt)) (by omega) hx1)
  have cK := Lib.hid (keysB_any (some mp) W)
  rw [hw1] at cK
  have HKS : Hid (∀ T, SortedKeys Try.prog Try.underlying3 (setF (keysR l b)) T → ∃ R, T = timL l b ++ R ∧ ∀ x ∈ R, 1099511627776 ≤ x) := fun T hT => by
    have hg := keysR_good hok.hok hok.b0 hok.b1
    refine keys_split hT.asc (fun x => ?_) (fun x hx => (hg x hx).1)
    rw [hT.mem x]
    unfold setF
    constructor
    · rintro ⟨_, h⟩
      by_cases hx : x ∈ keysR l b
      · exact hx
      · rw [if_neg hx] at h; cases h
    · intro hx
      exact ⟨(hg x hx).2, by rw [if_pos hx]; rfl⟩
  have cV : Hid (∀ (wr : World), Rd wr A (hflat l) → ∀ t : Int, 0 ≤ t → t < 1099511627776 → Calls Try.prog 24 #[.slice A l.length c, .int .i64 s, .int .i64 b, .int .i64 g, .int .i64 t, .int .i64 kn] wr (VtP (vAt l s b g kn t) wr)) := fun wr hw t h0 h1 => by
    have h := Verdict_any A c l ⟨s, b, g, t, kn⟩ wr hw (by omega)
    unfold VerdPost at h
    rw [(hok.ask h0 h1).1, (hok.ask h0 h1).2] at h
    refine h.mono ?_
    rintro e w' ⟨rfl, hb⟩
    exact ⟨_, rfl, hb⟩
  have cV2 : Hid (∀ (wr : World), Rd wr A (hflat l) → ∀ t : Int, Calls Try.prog 24 #[.slice A l.length c, .int .i64 s, .int .i64 b, .int .i64 g, .int .i64 t, .int .i64 kn] wr (fun e w' => ∃ n m k : Int, e = .returned (.tuple #[.int .i64 n, .int .i64 m, .int .i64 k]) ∧ Below wr.heap.size wr w')) := fun wr hw t => by
    refine (Verdict_any A c l ⟨s, b, g, t, kn⟩ wr hw (by omega)).mono ?_
    rintro e w' ⟨rfl, hb⟩
    exact ⟨_, _, _, rfl, hb⟩
  have HX : Hid (stpL l s b g kn = stepsF (vAt l s b g kn) (-1) (timL l b)) := rfl
  have HY := Lib.hid hY
  have HJ := Lib.hid hJ
  have HAt := Lib.hid hatW
  have HrW := Lib.hid hrW
  have HAl := Lib.hid halW
  have Hown := Lib.hid hown
  have Hlive := Lib.hid hlive
  have H0 := Lib.hid h0
  have Hin := Lib.hid (fun k (h : k < (timL l b).length) => timL_in h)
  have Hb1 := Lib.hid hb1
  have Hkl := Lib.hid (timL_len l b)
  clear hR hY hJ hJx h0 hown hlive hat hr hatW hrW halW hok hb1 hx1 hw1
  generalize vAt l s b g kn = v at *
  gi_wp2_with fail
  refine ⟨trivial, rfl, (callsIn_wide.2 cK.out).mono ?_⟩
  rintro e w' ⟨rfl, rfl⟩
  clear cK c1
  gi_wp2_with fail
  refine ⟨trivial, rfl, (callsIn_wide.2 cS.out).mono ?_⟩
  rintro e w2 ⟨hb2, v2, T, rfl, hsk, hrow⟩
  obtain ⟨AT, cT, rfl, hel⟩ := row_form1 hrow
  obtain ⟨R9, hT, hR9⟩ := HKS.out T hsk
  have hW2 : Below W.heap.size W w2 := ext_trans Hb1.out hb2
  obtain ⟨R2, hR2⟩ : ∃ R2 : Nat → Prop, R2 = fun j => StepsR A l bm bl bs bb bg bk mp j ∨ (W.heap.size ≤ j ∧ j < w2.heap.size) := ⟨_, rfl⟩
  have HR2 : Hid (∀ j, StepsR A l bm bl bs bb bg bk mp j → R2 j) := fun j hj => by rw [hR2]; exact .inl hj
  have hAl2 : Alive w2 R2 := fun j hj => by
    rw [hR2] at hj
    rcases hj with hj | ⟨_, hj⟩
    · exact Nat.lt_of_lt_of_le (HAl.out j hj) hW2.size
    · exact hj
  have hI0 : ItInv w2 B0 R2 J [] w2 := ⟨own₀, HJ.out own₀ [] W w2 H0.out (IterStep.of_below hW2), fun j _ => rfl, (fun j hj hr => by
    rw [hR2] at hr
    rcases hr with hr | ⟨h1, _⟩
    · exact Hown.out j hj hr
    · have := Hlive.out j hj; omega), fun j hj => Nat.lt_of_lt_of_le (Hlive.out j hj) hW2.size, Nat.le_trans hB0 hW2.size⟩
  have HMK : Hid (∀ wr : World, (∀ j, R2 j → wr.heap[j]? = w2.heap[j]?) → StepsAt A c l s b g kn bm bl bs bb bg bk mp wr ∧ Rd wr A (hflat l) ∧ ∀ (k : Nat) (hk : k < T.length), ∃ g, AT = some ⟨g, 0, none⟩ ∧ g < wr.heap.size ∧ wr.cell? ⟨g, k, none⟩ = some (.int .i64 T[k])) := fun wr hwr => by
    have hs : ∀ j, StepsR A l bm bl bs bb bg bk mp j → wr.heap[j]? = W.heap[j]? := fun j hj => (hwr j (HR2.out j hj)).trans (hW2.block j (HAl.out j hj))
    refine ⟨steps_same HAt.out hs, steps_rd HrW.out hs, fun k hk => ?_⟩
    obtain ⟨g, hg1, hg2, hg3, hg4⟩ := hel k hk
    have hgR : R2 g := by rw [hR2]; exact .inr ⟨Nat.le_trans Hb1.out.size hg2, hg3⟩
    exact ⟨g, hg1, alive_lt hAl2 hwr hgR, (World.cell?_of_block (w := w2) (a := ⟨g, k, none⟩) (hwr g hgR)).trans hg4⟩
  have HAl2 := Lib.hid hAl2
  have HT := Lib.hid hT
  have HR9 := Lib.hid hR9
  have hTl : (timL l b).length ≤ 4000 := by have := Hkl.out; omega
  clear hsk hrow cS HKS hel hR2 hW2 hb2 Hown Hlive H0 HAt HrW HAl hAl2 Hb1 hT hR9
  gi_wp2
  gi_loopw [8, 18] (fun vl i wr => ∃ k : Nat, k ≤ (timL l b).length ∧ i = .int .i64 k ∧ vl = .int .i64 (lastS v (-1) ((timL l b).take k)) ∧ ItInv w2 B0 R2 J (stepsF v (-1) ((timL l b).take k)) wr) (fun _ i _ => T.length - (intOf i).toNat)
  case atStart => exact ⟨0, Nat.zero_le _, rfl, rfl, hI0⟩
  case round =>
    obtain ⟨k, hk, rfl, rfl, hI⟩ := hrel
    have hRw : ∀ j, R2 j → wr.heap[j]? = w2.heap[j]? := by obtain ⟨_, _, h, _⟩ := hI; exact h
    obtain ⟨hat, hrd, hcl⟩ := HMK.out wr hRw
    by_cases hlt : k < T.length
    · have hlt2 : (k : Int) < T.length := by omega
      obtain ⟨gg, rfl, hgl, hgc⟩ := hcl k hlt
      have cl := cell_one hat.hl
      have cs := cell_one hat.hs
      have cb := cell_one hat.hb
      have cg := cell_one hat.hg
      have ck := cell_one hat.hk
      by_cases hin : k < (timL l b).length
      · have htk : T[k] = (timL l b)[k] := by
          have h := HT.out
          subst h
          exact List.getElem_append_left hin
        have hbd := Hin.out k hin
        have hst := steps_take (v := v) hin
        have hls := lastS_take (v := v) hin
        have hpre := steps_pre v (timL l b) (k + 1)
        rw [htk] at hgc
        have cVk := Lib.hid (cV.out wr hrd _ hbd.1 hbd.2)
        have g1 : decide (1099511627776 ≤ (timL l b)[k]) = false := decide_eq_false (by omega)
        clear htk hbd hat hrd hcl hRw
        generalize (timL l b)[k] = t at *
        generalize lastS v (-1) ((timL l b).take k) = ls at *
        generalize stepsF v (-1) ((timL l b).take k) = el at *
        generalize hvt : v t = vt at *
        have Hst := Lib.hid hst
        have Hls := Lib.hid hls
        have Hpre := Lib.hid hpre
        have HI := Lib.hid hI
        clear hvt hst hls hpre hI
        by_cases hv : vt = ls
        · have g2 : (vt != ls) = false := by simp [hv]
          have HN : Hid (stepsF v (-1) ((timL l b).take (k + 1)) = el) := by show _ = _; rw [Hst.out, if_pos hv, List.append_nil]
          clear hv Hst
          gi_wp2_with fail
          refine ⟨trivial, rfl, (callsIn_wide.2 cVk.out).mono ?_⟩
          rintro e w4 ⟨n4, rfl, hb4⟩
          have hI4 := HI.out.ext HJ.out HAl2.out hb4
          clear cVk cl cs cb cg ck hgc
          gi_wp2_with fail
          refine ⟨fun _ h => (by cases h), ?_⟩
          gi_wp2_with fail
          go_roundw
          case rel => exact ⟨k + 1, by omega, by go_num, by rw [Hls.out], by rw [HN.out]; exact hI4⟩
          case measure => simp [intOf]; omega
        · have g2 : (vt != ls) = true := by simp [hv]
          have HN : Hid (stepsF v (-1) ((timL l b).take (k + 1)) = el ++ [⟨t, vt⟩]) := by show _ = _; rw [Hst.out, if_neg hv]
          have Hpre2 : Hid (el ++ [⟨t, vt⟩] <+: stpL l s b g kn) := by show _ <+: _; rw [HX.out, ← HN.out]; exact Hpre.out
          clear hv Hst Hpre
          gi_wp2_with fail
          refine ⟨trivial, rfl, (callsIn_wide.2 cVk.out).mono ?_⟩
          rintro e w4 ⟨n4, rfl, hb4⟩
          obtain ⟨own, hj, hkeep, hdis, hliv, hBs⟩ := HI.out.ext HJ.out HAl2.out hb4
          obtain ⟨fn, tmps, assign, body, hyy, hRd⟩ := HY.out own _ ⟨t, vt⟩ w4 hj Hpre2.out (fun j hj hr => hdis j hj (HR2.out j hr)) hliv
          change (Instr.yield l' #[.agg #[.int .i64 t, .int .i64 vt, .bool true]]).run _ _ = _ at hyy
          have Hkeep := Lib.hid hkeep
          have Hdis := Lib.hid hdis
          clear hkeep hdis hj cVk cl cs cb cg ck hgc HI
          gi_wp2_with fail
          refine ⟨rfl, hRd.mono ?_⟩
          rintro e W3 (⟨own', hbs, (⟨rfl, hj3⟩ | ⟨rfl, hjx⟩)⟩ | ⟨ch, rfl, hjp⟩)
          · have hI3 : Hid (ItInv w2 B0 R2 J (stepsF v (-1) ((timL l b).take (k + 1))) W3) := by
              show ItInv _ _ _ _ _ _
              rw [HN.out]
              exact ItInv.body hj3 hbs HAl2.out Hkeep.out Hdis.out hBs
            clear hyy hRd hbs hj3
            gi_wp2_with fail
            go_roundw
            case rel => exact ⟨k + 1, by omega, by go_num, by rw [Hls.out], hI3.out⟩
            case measure => simp [intOf]; omega
          · gi_wp2_with fail
            refine bodyPost_ret (results_none rfl _ _ _) rfl ?_
            exact .inr (.inl ⟨⟨_, rfl⟩, own', _, Hpre2.out, hjx⟩)
          · exact hjp.elim
      · obtain rfl : k = (timL l b).length := by omega
        have hbig : 1099511627776 ≤ T[(timL l b).length] := by
          refine HR9.out _ ?_
          have h := HT.out
          subst h
          rw [List.getElem_append_right (Nat.le_refl _)]
          exact List.getElem_mem _
        have g1 : decide (1099511627776 ≤ T[(timL l b).length]) = true := decide_eq_true hbig
        rw [List.take_length] at hI
        rw [List.take_length]
        clear hbig hat hcl hRw
        generalize T[(timL l b).length] = t at *
        have cVk := Lib.hid (cV2.out wr hrd t)
        have HI := Lib.hid hI
        clear hI
        gi_wp2_with fail
        refine ⟨trivial, rfl, (callsIn_wide.2 cVk.out).mono ?_⟩
        rintro e w4 ⟨n4, m4, k4, rfl, hb4⟩
        obtain ⟨own, hj, _⟩ := HI.out.ext HJ.out HAl2.out hb4
        clear cVk cl cs cb cg ck hgc HI
        gi_wp2_with fail
        refine bodyPost_ret (results_none rfl _ _ _) rfl ?_
        exact .inl ⟨rfl, ⟨_, rfl⟩, own, by rw [HX.out]; exact hj⟩
    · have hk2 : k = (timL l b).length := by
        have h := congrArg List.length HT.out
        rw [List.length_append] at h
        omega
      subst hk2
      gi_wp2
      go_end0
      obtain ⟨own, hj, _⟩ := hI
      rw [List.take_length] at hj
      exact .inl ⟨rfl, ⟨_, rfl⟩, own, by rw [HX.out]; exact hj⟩
end Go.Proofs.Ytmindojbkedmlaa

/- Package releases: Timeline (slices.Collect and slices.AppendSeq at steps). -/
namespace Go.Proofs.Ytmindojbkedmlaa
open Go.RowKit Go.Han
attribute [local irreducible] wpStill wpQuiet
attribute [local go_sem] Oper.semAt_some
set_option maxRecDepth 100000

/-- Between two rounds: the box holds a slice of the call's own, with what has come. -/
def SqInv (w : World) (own : Nat → Prop) (pre : List Stp) (W : World) : Prop :=
  ∃ v, (∀ k, own k ↔ (k = w.heap.size ∨ v.ownBlock = some k)) ∧ Boxed W w.heap.size 31 v ∧ OwnP W w.heap.size v pre ∧ Only (fun _ => False) w W
theorem sqInv_stable (w : World) (B1 : Nat) (hB : w.heap.size < B1) : Stable B1 (fun _ => False) (SqInv w) := by
  rintro own pre W W' ⟨v, ho, hv, hr, hon⟩ st
  refine ⟨v, ho, (st.block _ hv.lt (.inr ((ho _).2 (.inl rfl)))).trans hv, ownsRow_of_block hr fun g hg => st.block g (hr.lt g hg).2 (.inr ((ho _).2 (.inr hg))), only_iterN hon st (by omega)⟩
def SqAsg (w : World) (F : Value → Value → Array Value) (x : Stp) (a' : Act) (own : Nat → Prop) (pre : List Stp) (W : World) : Prop :=
  ∃ bx own1, a' = { tmps := F (.pointer (some ⟨bx, 0, none⟩)) (.agg #[.int .i64 x.at_, .int .i64 x.state, .bool true]), defers := [] } ∧ (∀ k, own k ↔ (own1 k ∨ k = bx)) ∧ W.heap[bx]? = some (.cells #[.int .i64 x.at_, .int .i64 x.state, .bool true] 47 (0, 0)) ∧ SqInv w own1 pre W
theorem sqAsg_stable (w : World) (F : Value → Value → Array Value) (x : Stp) (a' : Act) (B1 : Nat) (hB : w.heap.size < B1) : Stable B1 (fun _ => False) (SqAsg w F x a') := by
  rintro own pre W W' ⟨bx, own1, ha', ho, hx, hI⟩ st
  exact ⟨bx, own1, ha', ho, (st.block _ (lt_block hx) (.inr ((ho _).2 (.inr rfl)))).trans hx, sqInv_stable w B1 hB own1 pre W W' hI ⟨st.os, st.tape, st.output, st.size, fun k hk h => st.block k hk (h.imp id fun h => (ho k).2 (.inl h))⟩⟩
def SeqPostS (xs : List Stp) (w : World) (e : Ending) (w' : World) : Prop := Below w.heap.size w w' ∧ ∃ v, e = .returned v ∧ OwnP w' w.heap.size v xs
set_option maxHeartbeats 1000000 in
theorem appendSeq_stp (gf : Nat) (lb : Array Value) (R : Nat → Prop) (xs : List Stp) (w0 w : World) (hit : IterN Try.prog gf lb encS R (fun _ => False) xs w0) (eg : ∀ args w, (callFunc gf args).run Try.prog w = .ok (.enter gf args) w)
    (hR : ∀ k, R k → k < w.heap.size ∧ w.heap[k]? = w0.heap[k]?) (hlen : xs.length ≤ 8000) :
    Calls Try.prog 81 #[.slice none 0 0, .func (.func gf) #[] lb] w (SeqPostS xs w) := by
  obtain ⟨i0, hi0, hz0, hz1, hz2⟩ := info_parts info_stp
  refine calls_of_wpAt Try.func81 rfl ?_
  simp only [Try.ntmps81, List.size_toArray, List.length_cons, List.length_nil, Nat.reduceAdd, Nat.reduceSub, Array.replicate_succ, Array.replicate_zero, List.push_toArray, List.append_toArray, List.nil_append, List.cons_append]
  refine wpAt_seq_wp fun K1 hK1 => ?_
  go_wp2
  refine wpAt_seq ?_
  refine wpAt_seq_wp fun K2 hK2 => ?_
  go_wp2
  refine wpAt_block ?_
  have hbx : Boxed (w.alloc (.cells #[.slice none 0 0] 31)) w.heap.size 31 (.slice none 0 0) := Boxed.new _ _ _
  refine wp_rangeN (xs := xs) (R := R) (M := fun _ => False) (w0 := w0) Try.func81 rfl eg hit (fun k hk => ⟨by have := (hR k hk).1; simp; omega, (Below.heap_alloc _ _ _ (hR k hk).1).trans (hR k hk).2⟩) (fun _ => rfl)
    (SqInv w) (fun _ _ _ _ => False) (sqInv_stable w _ (by simp)) (fun c _ _ _ _ h _ => h) (fun k => k = w.heap.size) ?_ ?_
    (SqAsg w (fun px vx => #[.slice none 0 0, .func (.func gf) #[] lb, .pointer (some ⟨w.heap.size, 0, none⟩), undef, .slice none 0 0, px, .func (.func gf) #[] lb, vx, undef, undef, undef, undef, undef]))
    (fun x a' => sqAsg_stable w _ x a' _ (by simp)) ?_ ?_ ?_ ?_
  · rintro k rfl
    exact ⟨by simp, fun h => by have := (hR _ h).1; omega⟩
  · exact ⟨.slice none 0 0, fun k => by simp [Value.ownBlock], hbx, OwnL.nil _ _ _ _ _, (Only.refl _ w).alloc _⟩
  · rintro l1 own pre x X hI hl1 hl2 ho hpre
    refine wpIn_mono (Q := Exit.then (fun a' W' => ∃ own', BodyStep own own' X W' ∧ SqAsg w (fun px vx => #[.slice none 0 0, .func (.func gf) #[] lb, .pointer (some ⟨w.heap.size, 0, none⟩), undef, .slice none 0 0, px, .func (.func gf) #[] lb, vx, undef, undef, undef, undef, undef]) x a' own' pre W') (fun _ _ _ => False)) ?_ (fun e a w h => h)
    have hlv : ∀ k, own k → k < X.heap.size := fun k hk => (ho k hk).2.1
    have hwX : w.heap.size < X.heap.size := by simp at hl1; omega
    unfold encS
    gi_wp2
    refine ⟨fun k => own k ∨ k = X.heap.size, BodyStep.turn ((BodyStep.refl hlv).alloc _) ?_ ?_, X.heap.size, own, rfl, fun k => Iff.rfl, World.alloc_heap_new _ _, ?_⟩
    · rintro k (h | h)
      · exact .inl h
      · exact .inr (by omega)
    · rintro k (h | h)
      · have := hlv k h; simp; omega
      · simp; omega
    · exact sqInv_stable w X.heap.size hwX own pre X _ hI ((IterStep.refl X.heap.size _ _ _).alloc _)
  · rintro l1 own pre x a' X ⟨bx, own1, rfl, hoi, hbx1, v, hown, hv, hrow, hon⟩ hl1 hl2 ho hpre
    have hlen1 : pre.length < 8000 := by have := List.IsPrefix.length_le hpre; simp at this; omega
    have hlv : ∀ k, own k → k < X.heap.size := fun k hk => (ho k hk).2.1
    have hc := hv.cell
    have p0 : X.cell? ⟨bx, 0, none⟩ = some (.int .i64 x.at_) := gblk hbx1 0
    have p1 : X.cell? ⟨bx, 1, none⟩ = some (.int .i64 x.state) := gblk hbx1 1
    have p2 : X.cell? ⟨bx, 2, none⟩ = some (.bool true) := gblk hbx1 2
    have hBs := hon.size
    obtain ⟨A1, A2⟩ := stp_room (n := pre.length) (by omega)
    clear hlen
    gi_wp2_with (gi_at_builtin; refine wpListIn_append_at _ rfl _ _ 31 rfl w.heap.size 47 i0 _ 3 24 Try.underlying31 hi0 hz0 hz1 hz2 rfl (by decide) _ _ _ rfl (hrow.alloc _) ⟨X.heap.size, 0, none⟩ 1 1 (Stp.cells x) rfl rfl (gcells_new _ _ _) (stp_one x) A1 A2 (by simp; omega) ?_; intro v' w1 hown' hgrow hat; obtain ⟨g', cap', rfl⟩ := ownsRow_succ hown'; obtain ⟨hv1, hv2, hr2, hk2, hb2⟩ := hv.appended (by decide) hrow hBs (Nat.le_refl _) hown' hgrow; have hc1 := hv1.cell; have hf1 := hv1.frozen)
    have hB : BodyStep own (fun k => k = w.heap.size ∨ k = g') X (w1.setCell ⟨w.heap.size, 0, none⟩ (.slice (some ⟨g', 0, none⟩) (pre.length + 1) cap')) := by
      refine BodyStep.turn ((((BodyStep.refl hlv).alloc _).grown hgrow (fun k hk => .inl ((hoi k).2 (.inl ((hown k).2 (.inr hk)))))).setCell (p := ⟨w.heap.size, 0, none⟩) (.inl ((hoi _).2 (.inl ((hown _).2 (.inl rfl))))) _) ?_ ?_
      · rintro k (rfl | rfl)
        · exact .inl ((hoi _).2 (.inl ((hown _).2 (.inl rfl))))
        · rcases hat with h | h
          · exact .inl ((hoi _).2 (.inl ((hown _).2 (.inr h.symm))))
          · simp [Value.ownBlock] at h; exact .inr (by omega)
      · rintro k (rfl | rfl)
        · exact hv2.lt
        · exact (hr2.lt k rfl).2
    refine ⟨_, hB, _, fun k => by simp [Value.ownBlock, eq_comm], hv2, ?_, ?_⟩
    · exact OwnL.snoc (f := Stp.cells) x hr2
    · have hbw : Below w.heap.size X (w1.setCell ⟨w.heap.size, 0, none⟩ (.slice (some ⟨g', 0, none⟩) (pre.length + 1) cap')) := hb2
      exact hon.of_below' hbw (fun i hi _ => hi)
  · rintro D own X hD hoD ⟨v, hown, hv, hrow, hon⟩ hdef
    have hc := hv.cell
    refine wpAt_wp ?_
    go_wp2
    refine leavesM_ret hdef (results_tmp rfl _ _ _) ⟨(hon.of_below' (putObj_below _ (B := D) _ (Nat.le_refl _)) (fun i hi _ => by simp at hD; omega)).below (fun k h => h.elim), v, rfl, ownsRow_putObj hrow _ hdef rfl⟩
  · rintro D own c pre X _ _ _ h
    exact h.elim
theorem collect_stp (gf : Nat) (lb : Array Value) (R : Nat → Prop) (xs : List Stp) (w0 w : World) (hit : IterN Try.prog gf lb encS R (fun _ => False) xs w0) (eg : ∀ args w, (callFunc gf args).run Try.prog w = .ok (.enter gf args) w)
    (hR : ∀ k, R k → k < w.heap.size ∧ w.heap[k]? = w0.heap[k]?) (hlen : xs.length ≤ 8000) :
    Calls Try.prog 43 #[.func (.func gf) #[] lb] w (SeqPostS xs w) := by
  go_enter Try.func43, Try.ntmps43
  go_wp2_with fail
  refine (appendSeq_stp gf lb R xs w0 w hit eg hR hlen).mono ?_
  rintro e w1 ⟨hb, v, rfl, hrow⟩
  go_wp2
  go_ret
  exact ⟨hb, v, rfl, hrow⟩
theorem steps_enter (args : Array Value) (w : World) : (callFunc 82 args).run Try.prog w = .ok (.enter 82 args) w := enters_of Try.func82 (by kernel_rfl) rfl args w
set_option maxHeartbeats 1000000 in
theorem Timeline_any (A : Option Addr) (c : Nat) (l : List House) (s b g kn : Int) (w : World) (hr : Rd w A (hflat l)) (hm : l.length ≤ 9223372036854775807) :
    Calls Try.prog 15 #[.slice A l.length c, .int .i64 s, .int .i64 b, .int .i64 g, .int .i64 kn] w (LinePost l s b g kn w) := by
  have cC := Lib.hid (checkR_any A c l s b g kn w hr hm)
  unfold RelPost at cC
  unfold LinePost
  by_cases hre : relE l s b g kn = 0
  · have hok := rel_ok.1 hre
    have hlen := (hchk_ok hok.chk).1
    have HR : Hid (stpR l s b g kn = stpL l s b g kn) := by show _ = _; unfold stpR; rw [if_pos hre]
    have hsl := stpL_len (l := l) (s := s) (b := b) (g := g) (kn := kn)
    have cS := Lib.hid (fun W (hW : Below w.heap.size w W) => steps_any A c l s b g kn W (hr.ext hW) hok)
    have cG : Hid (∀ W W' (bm bl bs bb bg bk mp : Nat), Below w.heap.size w W' → StepsAt A c l s b g kn bm bl bs bb bg bk mp W' → W = W' → Calls Try.prog 43 #[.func (.func 82) #[] #[.pointer (some ⟨bm, 0, none⟩), .pointer (some ⟨bl, 0, none⟩), .pointer (some ⟨bs, 0, none⟩), .pointer (some ⟨bb, 0, none⟩), .pointer (some ⟨bg, 0, none⟩), .pointer (some ⟨bk, 0, none⟩)]] W (SeqPostS (stpL l s b g kn) W)) := fun W W' bm bl bs bb bg bk mp hW hat e => by
      subst e
      have hrW := hr.ext hW
      have hal := steps_alive hat hrW
      exact collect_stp _ _ _ _ _ W (steps1 A c l s b g kn bm bl bs bb bg bk mp W hat hrW hok) steps_enter (fun k hk => ⟨hal k hk, rfl⟩) (by omega)
    rw [hre] at cC
    rw [hre, HR.out]
    unfold SeqPostS at cG
    generalize stpL l s b g kn = S at *
    clear HR hok hre hr
    go_enter Try.func15, Try.ntmps15
    go_wp2_with fail
    refine cC.out.mono ?_
    rintro e w1 ⟨rfl, hb1⟩
    clear cC
    go_wp2_with fail
    refine (cS.out w1 hb1).mono ?_
    rintro e w2 ⟨bm, bl, bs, bb, bg, bk, mp, rfl, hat, hb2, _⟩
    have hB2 := ext_trans hb1 hb2
    have cG2 := Lib.hid (cG.out w2 w2 bm bl bs bb bg bk mp hB2 hat rfl)
    clear cS cG hat hb1 hb2
    go_wp2_with fail
    refine cG2.out.mono ?_
    rintro e w3 ⟨hb3, v, rfl, hrow⟩
    obtain ⟨A9, c9, rfl, hrd9, _⟩ := OwnL.form (by omega) hrow
    have hB3 := ext_trans hB2 hb3
    clear hrow cG2
    go_wp2_with fail
    go_ret2
    exact ⟨A9, c9, rfl, hrd9, by omega, hB3⟩
  · have HR : Hid (stpR l s b g kn = []) := by show _ = _; unfold stpR; rw [if_neg hre]
    rw [HR.out]
    have hc1 : (relE l s b g kn != 0) = true := by simpa using hre
    generalize relE l s b g kn = re at *
    clear hre HR
    go_enter Try.func15, Try.ntmps15
    go_wp2_with fail
    refine cC.out.mono ?_
    rintro e w1 ⟨rfl, hb1⟩
    go_wp2_with fail
    go_ret2
    exact ⟨none, 0, rfl, Rd.nil _ _, Nat.zero_le _, hb1⟩
end Go.Proofs.Ytmindojbkedmlaa

/- Releases: the reference's Shows and Next. -/
namespace Go.Proofs.Ytmindojbkedmlaa
open Go.RowKit Go.Han
attribute [local irreducible] wpStill wpQuiet
set_option maxRecDepth 100000

def untF (S : List Stp) (k : Nat) : Int := match S[k + 1]? with | some y => y.at_ | none => 1099511627776
def spK (S : List Stp) : Nat → List Spn
  | 0 => []
  | k + 1 => spK S k ++ (match S[k]? with | some x => if x.state = 0 then [⟨x.at_, untF S k⟩] else [] | none => [])
theorem spansF_cons (x : Stp) (r : List Stp) : spansF (x :: r) = (if x.state = 0 then [⟨x.at_, match r[0]? with | some y => y.at_ | none => 1099511627776⟩] else []) ++ spansF r := by
  cases r with
  | nil => rw [spansF, spansF]; simp
  | cons y r => rw [spansF]; simp
theorem spK_drop (S : List Stp) : ∀ k, k ≤ S.length → spK S k ++ spansF (S.drop k) = spansF S
  | 0, _ => by simp [spK]
  | k + 1, h => by
    have ih := spK_drop S k (by omega)
    rw [List.drop_eq_getElem_cons (by omega : k < S.length), spansF_cons] at ih
    rw [spK, List.getElem?_eq_getElem (by omega : k < S.length), ← ih, List.append_assoc]
    have e : (S.drop (k + 1))[0]? = S[k + 1]? := by simp
    rw [e]
    rfl
theorem spK_all (S : List Stp) : spK S S.length = spansF S := by
  have := spK_drop S S.length (Nat.le_refl _)
  rw [List.drop_length] at this
  simpa [spansF] using this
theorem spK_len (S : List Stp) : ∀ k, (spK S k).length ≤ k
  | 0 => Nat.le_refl _
  | k + 1 => by
    have := spK_len S k
    rw [spK, List.length_append]
    split
    · split
      · simp; omega
      · simp; omega
    · simp; omega
theorem spK_at {S : List Stp} {k : Nat} (h : k < S.length) : spK S (k + 1) = spK S k ++ (if S[k].state = 0 then [⟨S[k].at_, untF S k⟩] else []) := by
  rw [spK, List.getElem?_eq_getElem h]
theorem stp_elem {w : World} {A : Option Addr} {l : List Stp} (h : Rd w A (pflat l)) {k : Nat} (hk : k < l.length) :
    ∃ b off, A = some ⟨b, off, none⟩ ∧ b < w.heap.size ∧ ∀ wr, Below w.heap.size w wr →
      (wr.cell? ⟨b, off + k * 3, none⟩ = some (.int .i64 l[k].at_)) ∧ (wr.cell? ⟨b, off + k * 3 + 1, none⟩ = some (.int .i64 l[k].state)) ∧ (wr.cell? ⟨b, off + k * 3 + 2, none⟩ = some (.bool true)) := by
  obtain ⟨b, off, hA, hb, hc⟩ := h.elem Stp.size_cells (by omega) hk
  refine ⟨b, off, hA, hb, fun wr hB => ?_⟩
  have hcc : ∀ (j : Nat) (u : Value), l[k].cells[j]? = some u → wr.cell? ⟨b, off + k * 3 + j, none⟩ = some u := fun j u hu => (hB.cell (p := ⟨b, off + k * 3 + j, none⟩) hb).trans (hc j u hu)
  exact ⟨hcc 0 _ rfl, hcc 1 _ rfl, hcc 2 _ rfl⟩
theorem spn_elem {w : World} {A : Option Addr} {l : List Spn} (h : Rd w A (nflat l)) {k : Nat} (hk : k < l.length) :
    ∃ b off, A = some ⟨b, off, none⟩ ∧ b < w.heap.size ∧ ∀ wr, Below w.heap.size w wr →
      (wr.cell? ⟨b, off + k * 2, none⟩ = some (.int .i64 l[k].frm)) ∧ (wr.cell? ⟨b, off + k * 2 + 1, none⟩ = some (.int .i64 l[k].until_)) := by
  obtain ⟨b, off, hA, hb, hc⟩ := h.elem Spn.size_cells (by omega) hk
  refine ⟨b, off, hA, hb, fun wr hB => ?_⟩
  have hcc : ∀ (j : Nat) (u : Value), l[k].cells[j]? = some u → wr.cell? ⟨b, off + k * 2 + j, none⟩ = some u := fun j u hu => (hB.cell (p := ⟨b, off + k * 2 + j, none⟩) hb).trans (hc j u hu)
  exact ⟨hcc 0 _ rfl, hcc 1 _ rfl⟩
set_option maxHeartbeats 4000000 in
theorem Shows38_any (A : Option Addr) (c : Nat) (l : List House) (s b g kn : Int) (w : World) (hr : Rd w A (hflat l)) (hm : l.length ≤ 9223372036854775807) :
    Calls Try.prog 18 #[.slice A l.length c, .int .i64 s, .int .i64 b, .int .i64 g, .int .i64 kn] w (ShowPost l s b g kn w) := by
  obtain ⟨i0, hi0, iz0, is0, ib0⟩ := info_parts info_spn
  have cC := Timeline38_any A c l s b g kn w hr hm
  unfold LinePost at cC
  unfold ShowPost
  by_cases hre : relE l s b g kn = 0
  · have HR : Hid (spnR l s b g kn = spansF (stpR l s b g kn)) := by show _ = _; unfold spnR stpR; rw [if_pos hre, if_pos hre]; rfl
    rw [HR.out]
    rw [hre] at cC ⊢
    generalize stpR l s b g kn = S at *
    have cC := Lib.hid cC
    clear hre HR hr
    go_enter Try.func18, Try.ntmps18
    go_wp2_with fail
    refine cC.out.mono ?_
    rintro e w1 ⟨A1, c1, rfl, hr1, hl1, hb1⟩
    clear cC
    go_wp2_with fail
    obtain ⟨w2, hw2⟩ : ∃ W, w1.alloc (.cells #[] 76) = W := ⟨_, rfl⟩
    have hb2 : Below w1.heap.size w1 w2 := by subst hw2; exact ext_alloc (Below.refl _ _) _
    have ho2 : OwnN w2 w1.heap.size (.slice (some ⟨w1.heap.size, 0, none⟩) 0 0) [] := by subst hw2; exact own_empty (World.alloc_heap_new _ _) (Nat.le_refl _)
    rw [hw2]
    clear hw2
    go_loopw [14, 15] (fun vo i wr => ∃ k : Nat, k ≤ S.length ∧ i = .int .i64 k ∧ OwnN wr w1.heap.size vo (spK S k) ∧ Below w1.heap.size w1 wr) (fun _ i _ => S.length - (intOf i).toNat)
    case atStart => exact ⟨0, Nat.zero_le _, rfl, ho2, hb2⟩
    case round =>
      obtain ⟨k, hk, rfl, hown, hBr⟩ := hrel
      by_cases hlt : k < S.length
      · obtain ⟨b1, off, rfl, hb, hc⟩ := stp_elem hr1 hlt
        obtain ⟨d0, d1, d2⟩ := hc wr hBr
        have hsk := spK_at hlt
        have hkl := spK_len S k
        have hlt2 : (k : Int) < S.length := by omega
        have i1 : (0 : Int) ≤ (k : Int) + 1 := by omega
        have i3 : ((k : Int) + 1).toNat = k + 1 := by omega
        have i4 : IntKind.i64.wrap ((k : Int) + 1) = (k : Int) + 1 := IntWalk.i64_in _ (by omega)
        have hz := hBr.size
        have Hc := Lib.hid hc
        -- what the next step says
        have nxt : ∃ (p : Bool) (u : Int), decide ((k : Int) + 1 < (S.length : Int)) = p ∧ untF S k = u ∧ (p = true → (k : Int) + 1 < (S.length : Int) ∧ ∀ wr, Below w1.heap.size w1 wr → wr.cell? ⟨b1, off + (k + 1) * 3, none⟩ = some (.int .i64 u)) ∧ (p = false → u = 1099511627776) := by
          by_cases h1 : k + 1 < S.length
          · obtain ⟨b1', off', he, hb', hc'⟩ := stp_elem hr1 h1
            cases he
            refine ⟨true, S[k + 1].at_, by simp; omega, by unfold untF; rw [List.getElem?_eq_getElem h1], fun _ => ⟨by omega, fun wr hB => (hc' wr hB).1⟩, fun h => by cases h⟩
          · exact ⟨false, 1099511627776, by simp; omega, by unfold untF; rw [List.getElem?_eq_none (by omega)], fun h => by (cases h), fun _ => rfl⟩
        obtain ⟨p, u, hp, hu, hpt, hpf⟩ := nxt
        rw [hu] at hsk
        clear hu hc
        generalize S[k] = x at *
        generalize spK S k = el at *
        have Hsk := Lib.hid hsk
        have Hown := Lib.hid hown
        have HB := Lib.hid hBr
        obtain ⟨A1, A2⟩ := spn_room (n := el.length) (by omega)
        clear hsk hown hBr
        by_cases hv : x.state = 0
        · have HN : Hid (spK S (k + 1) = el ++ [⟨x.at_, u⟩]) := by show _ = _; rw [Hsk.out, if_pos hv]
          have g1 : (x.state == 0) = true := by simp [hv]
          clear Hsk hv
          cases p
          · obtain rfl := hpf rfl
            clear hpt hpf
            go_wp2_with (at_builtin; refine wpList_append_rd rfl _ _ 34 rfl w1.heap.size 76 i0 _ 2 16 Try.underlying34 hi0 iz0 is0 ib0 rfl (by decide) _ _ _ rfl (some ⟨wr.heap.size, 0, none⟩) 1 1 (Spn.cells ⟨x.at_, 1099511627776⟩) rfl (Hown.out.ext (ext_alloc (Below.refl wr.heap.size wr) _)) rfl (grd_blk (World.alloc_heap_new wr _) rfl) (spn_one _) A1 A2 (Nat.le_trans hz (by simp)) ?_; intro v5 w5 hown5 hgrow5 _)
            have hB5 : Below w1.heap.size w1 w5 := (ext_trans HB.out (ext_alloc (Below.refl wr.heap.size wr) _)).grown hgrow5 (Nat.le_trans hz (by simp)) (fun k hk => (Hown.out.lt k hk).1)
            have hs5 := OwnL.snoc (f := Spn.cells) ⟨x.at_, 1099511627776⟩ hown5
            clear hown5 hgrow5
            go_wp2_with fail
            go_roundw
            case rel => exact ⟨k + 1, by omega, by go_num, by rw [HN.out]; exact hs5, hB5⟩
            case measure => simp [intOf]; omega
          · obtain ⟨i2, hcu⟩ := hpt rfl
            have du := hcu wr HB.out
            clear hpt hpf hcu
            go_wp2_with (at_builtin; refine wpList_append_rd rfl _ _ 34 rfl w1.heap.size 76 i0 _ 2 16 Try.underlying34 hi0 iz0 is0 ib0 rfl (by decide) _ _ _ rfl (some ⟨wr.heap.size, 0, none⟩) 1 1 (Spn.cells ⟨x.at_, u⟩) rfl (Hown.out.ext (ext_alloc (Below.refl wr.heap.size wr) _)) rfl (grd_blk (World.alloc_heap_new wr _) rfl) (spn_one _) A1 A2 (Nat.le_trans hz (by simp)) ?_; intro v5 w5 hown5 hgrow5 _)
            have hB5 : Below w1.heap.size w1 w5 := (ext_trans HB.out (ext_alloc (Below.refl wr.heap.size wr) _)).grown hgrow5 (Nat.le_trans hz (by simp)) (fun k hk => (Hown.out.lt k hk).1)
            have hs5 := OwnL.snoc (f := Spn.cells) ⟨x.at_, u⟩ hown5
            clear hown5 hgrow5
            go_wp2_with fail
            go_roundw
            case rel => exact ⟨k + 1, by omega, by go_num, by rw [HN.out]; exact hs5, hB5⟩
            case measure => simp [intOf]; omega
        · have HN : Hid (spK S (k + 1) = el) := by show _ = _; rw [Hsk.out, if_neg hv, List.append_nil]
          have g1 : (x.state == 0) = false := by simpa using hv
          clear Hsk hv
          cases p
          · clear hpt hpf
            go_wp2_with fail
            go_roundw
            case rel => exact ⟨k + 1, by omega, by go_num, by rw [HN.out]; exact Hown.out, HB.out⟩
            case measure => simp [intOf]; omega
          · obtain ⟨i2, hcu⟩ := hpt rfl
            have du := hcu wr HB.out
            clear hpt hpf hcu
            go_wp2_with fail
            go_roundw
            case rel => exact ⟨k + 1, by omega, by go_num, by rw [HN.out]; exact Hown.out, HB.out⟩
            case measure => simp [intOf]; omega
      · obtain rfl : k = S.length := by omega
        rw [spK_all] at hown
        obtain ⟨A9, c9, rfl, hrd9, _⟩ := OwnL.form (by omega) hown
        have hlen9 := spansF_len S
        have hfin : Hid (∃ A c, Ending.returned (.tuple #[.slice A9 (spansF S).length c9, .int .i64 0]) = .returned (.tuple #[.slice A (spansF S).length c, .int .i64 0]) ∧ Rd wr A (nflat (spansF S)) ∧ (spansF S).length ≤ 10000 ∧ Below w.heap.size w wr) := ⟨A9, c9, rfl, hrd9, by omega, ext_trans hb1 hBr⟩
        clear hown hrd9
        go_wp2_with fail
        go_ret2
        exact hfin.out
  · have HR : Hid (spnR l s b g kn = []) := by show _ = _; unfold spnR; rw [if_neg hre]
    rw [HR.out]
    have hc1 : (relE l s b g kn != 0) = true := by simpa using hre
    generalize relE l s b g kn = re at *
    generalize stpR l s b g kn = S at *
    have cC := Lib.hid cC
    clear hre HR
    go_enter Try.func18, Try.ntmps18
    go_wp2_with fail
    refine cC.out.mono ?_
    rintro e w1 ⟨A1, c1, rfl, hr1, hl1, hb1⟩
    go_wp2_with fail
    go_ret2
    exact ⟨none, 0, rfl, Rd.nil _ _, Nat.zero_le _, hb1⟩
def nextV (o : Option Int) : Int × Bool := match o with | some u => (u, true) | none => (0, false)
def nxtE (l : List House) (s b g kn t : Int) : Int := if relE l s b g kn = 0 then (if timeB t then 0 else 1) else relE l s b g kn
def nxtR (l : List House) (s b g kn t : Int) : Int × Bool := if nxtE l s b g kn t = 0 then nextV (nextF t (spnL l s b g kn)) else (0, false)
def NextPost (l : List House) (s b g kn t : Int) (w : World) (e : Ending) (w' : World) : Prop :=
  e = .returned (.tuple #[.int .i64 (nxtR l s b g kn t).1, .bool (nxtR l s b g kn t).2, .int .i64 (nxtE l s b g kn t)]) ∧ Below w.heap.size w w'
theorem nextF_drop {t : Int} {X : List Spn} {k : Nat} (h : k < X.length) : nextF t (X.drop k) = if t < X[k].until_ then some (max t X[k].frm) else nextF t (X.drop (k + 1)) := by
  rw [List.drop_eq_getElem_cons h, nextF]
set_option maxHeartbeats 4000000 in
theorem Next38_any (A : Option Addr) (c : Nat) (l : List House) (s b g kn t : Int) (w : World) (hr : Rd w A (hflat l)) (hm : l.length ≤ 9223372036854775807) :
    Calls Try.prog 22 #[.slice A l.length c, .int .i64 s, .int .i64 b, .int .i64 g, .int .i64 kn, .int .i64 t] w (NextPost l s b g kn t w) := by
  have cC := Shows38_any A c l s b g kn w hr hm
  unfold ShowPost at cC
  unfold NextPost
  by_cases hre : relE l s b g kn = 0
  · have HE : Hid (nxtE l s b g kn t = if timeB t then 0 else 1) := by show _ = _; unfold nxtE; rw [if_pos hre]
    have HS : Hid (spnR l s b g kn = spnL l s b g kn) := by show _ = _; unfold spnR; rw [if_pos hre]
    rw [hre] at cC
    cases htb : timeB t
    · have HF : Hid (nxtE l s b g kn t = 1) := by show _ = _; rw [HE.out, htb]; rfl
      have HR : Hid (nxtR l s b g kn t = (0, false)) := by show _ = _; unfold nxtR; rw [HF.out]; rfl
      rw [HF.out, HR.out]
      have cT := Lib.hid (fun W => time35_any t W)
      rw [htb] at cT
      generalize spnR l s b g kn = S at *
      have cC := Lib.hid cC
      clear hre HR HF HE HS htb
      go_enter Try.func22, Try.ntmps22
      go_wp2_with fail
      refine cC.out.mono ?_
      rintro e w1 ⟨A1, c1, rfl, hr1, hl1, hb1⟩
      go_wp2_with fail
      refine (cT.out _).mono ?_
      rintro e w' ⟨rfl, rfl⟩
      go_wp2_with fail
      go_ret3
      exact ⟨rfl, hb1⟩
    · have HF : Hid (nxtE l s b g kn t = 0) := by show _ = _; rw [HE.out, htb]; rfl
      have HR : Hid (nxtR l s b g kn t = nextV (nextF t (spnR l s b g kn))) := by show _ = _; unfold nxtR; rw [HF.out, HS.out]; rfl
      rw [HF.out, HR.out]
      have cT := Lib.hid (fun W => time35_any t W)
      rw [htb] at cT
      generalize spnR l s b g kn = S at *
      have cC := Lib.hid cC
      clear hre HR HF HE HS htb hr
      go_enter Try.func22, Try.ntmps22
      go_wp2_with fail
      refine cC.out.mono ?_
      rintro e w1 ⟨A1, c1, rfl, hr1, hl1, hb1⟩
      clear cC
      go_wp2_with fail
      refine (cT.out _).mono ?_
      rintro e w' ⟨rfl, rfl⟩
      clear cT
      go_wp2_with fail
      go_loopw [17] (fun i wr => ∃ k : Nat, k ≤ S.length ∧ i = .int .i64 k ∧ Below w1.heap.size w1 wr ∧ Hid (nextF t S = nextF t (S.drop k))) (fun i _ => S.length - (intOf i).toNat)
      case atStart => exact ⟨0, Nat.zero_le _, rfl, Below.refl _ _, rfl⟩
      case round =>
        obtain ⟨k, hk, rfl, hBr, HN⟩ := hrel
        by_cases hlt : k < S.length
        · obtain ⟨b1, off, rfl, hb, hc⟩ := spn_elem hr1 hlt
          obtain ⟨d0, d1⟩ := hc wr hBr
          have hd := nextF_drop (t := t) hlt
          have hlt2 : (k : Int) < S.length := by omega
          clear hc
          generalize S[k] = x at *
          have Hd := Lib.hid hd
          clear hd
          by_cases h : t < x.until_
          · have HF : Hid (nextF t S = some (max t x.frm)) := by show _ = _; rw [HN.out, Hd.out, if_pos h]
            clear Hd HN
            go_wp2_with fail
            go_ret3
            exact ⟨by rw [HF.out]; rfl, ext_trans hb1 hBr⟩
          · have HF : Hid (nextF t S = nextF t (S.drop (k + 1))) := by show _ = _; rw [HN.out, Hd.out, if_neg h]
            have g1 : decide (t < x.until_) = false := decide_eq_false h
            clear Hd HN h
            go_wp2_with fail
            go_roundw
            case rel => exact ⟨k + 1, by omega, by go_num, hBr, HF⟩
            case measure => simp [intOf]; omega
        · obtain rfl : k = S.length := by omega
          have HF : Hid (nextF t S = none) := by show _ = _; rw [HN.out, List.drop_length]; rfl
          clear HN
          go_wp2_with fail
          go_ret3
          exact ⟨by rw [HF.out]; rfl, ext_trans hb1 hBr⟩
  · have HE : Hid (nxtE l s b g kn t = relE l s b g kn) := by show _ = _; unfold nxtE; rw [if_neg hre]
    have HR : Hid (nxtR l s b g kn t = (0, false)) := by show _ = _; unfold nxtR; rw [HE.out, if_neg hre]
    rw [HE.out, HR.out]
    have hc1 : (relE l s b g kn != 0) = true := by simpa using hre
    generalize relE l s b g kn = re at *
    generalize spnR l s b g kn = S at *
    have cC := Lib.hid cC
    clear hre HR HE
    go_enter Try.func22, Try.ntmps22
    go_wp2_with fail
    refine cC.out.mono ?_
    rintro e w1 ⟨A1, c1, rfl, hr1, hl1, hb1⟩
    go_wp2_with fail
    go_ret3
    exact ⟨rfl, hb1⟩
end Go.Proofs.Ytmindojbkedmlaa
