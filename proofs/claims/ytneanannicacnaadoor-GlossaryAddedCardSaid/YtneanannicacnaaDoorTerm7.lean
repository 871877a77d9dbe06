/- Lists of terms compared; terms that stand (the reference). -/
import Derived.Test.YtneanannicacnaaDoorStandP
namespace Go.Proofs.YtneanannicacnaaDoor
open Go.RowKit Go.Han
attribute [local irreducible] wpStill wpQuiet
set_option maxRecDepth 100000

def sameTermsB : List Term → List Term → Bool
  | [], [] => true
  | a :: l, b :: l' => sameTermB a b && sameTermsB l l'
  | _, _ => false
theorem sameTermsB_take : ∀ (l l' : List Term) (k : Nat), sameTermsB (l.take k) (l'.take k) = true → ∀ (h : k < l.length) (h' : k < l'.length), sameTermsB (l.take (k + 1)) (l'.take (k + 1)) = sameTermB l[k] l'[k]
  | a :: l, b :: l', 0, _, _, _ => by simp [sameTermsB]
  | a :: l, b :: l', k + 1, h0, h, h' => by
    simp only [List.take_succ_cons, sameTermsB, Bool.and_eq_true] at h0 ⊢
    rw [h0.1, Bool.true_and, sameTermsB_take l l' k h0.2 (by simpa using h) (by simpa using h')]
    rfl
theorem sameTermsB_false : ∀ (l l' : List Term) (k : Nat) (h : k < l.length) (h' : k < l'.length), sameTermB l[k] l'[k] = false → sameTermsB l l' = false
  | a :: l, b :: l', 0, _, _, h0 => by
    simp only [List.getElem_cons_zero] at h0
    simp [sameTermsB, h0]
  | a :: l, b :: l', k + 1, h, h', h0 => by
    simp only [List.getElem_cons_succ] at h0
    simp [sameTermsB, sameTermsB_false l l' k (by simpa using h) (by simpa using h') h0]
theorem sameTermsB_len : ∀ (l l' : List Term), sameTermsB l l' = true → l.length = l'.length
  | [], [], _ => rfl
  | [], _ :: _, h => by cases h
  | _ :: _, [], h => by cases h
  | a :: l, b :: l', h => by
    simp only [sameTermsB, Bool.and_eq_true] at h
    simp [sameTermsB_len l l' h.2]

set_option maxHeartbeats 2000000 in
theorem sameL27_any (A B : Option Addr) (c d : Nat) (l l' : List Term) (w : World) (hr : TermsAt w A l) (hr' : TermsAt w B l') (hm : l.length ≤ 9223372036854775807) :
    Calls Tryd.prog 36 #[.slice A l.length c, .slice B l'.length d] w fun e w' => e = .returned (.bool (sameTermsB l l')) ∧ Below w.heap.size w w' := by
  by_cases hl : l.length = l'.length
  · have hne : ((l.length : Int) != (l'.length : Int)) = false := by simp [hl]
    have Hl := Lib.hid hl
    clear hl
    go_enter Tryd.func36, Tryd.ntmps36
    go_wp2_with fail
    go_loopw [5] (fun i wr => ∃ k : Nat, k ≤ l.length ∧ i = .int .i64 k ∧ Below w.heap.size w wr ∧ Hid (sameTermsB (l.take k) (l'.take k) = true)) (fun i _ => l.length - (intOf i).toNat)
    case atStart => exact ⟨0, Nat.zero_le _, rfl, Below.refl _ _, rfl⟩
    case round =>
      obtain ⟨k, hk, rfl, hB, HR⟩ := hrel
      by_cases hlt : k < l.length
      · have hlt' : k < l'.length := by have := Hl.out; omega
        obtain ⟨b, off, rfl, hb, hc⟩ := hr.at_ hlt
        obtain ⟨b', off', rfl, hb', hc'⟩ := hr'.at_ hlt'
        obtain ⟨d0, d1, d2, d3, d4, d5, d6, d7⟩ := hc k hlt wr hB
        obtain ⟨e0, e1, e2, e3, e4, e5, e6, e7⟩ := hc' k hlt' wr hB
        have hbw : b < wr.heap.size := Nat.lt_of_lt_of_le hb hB.size
        have hbw2 : b' < wr.heap.size := Nat.lt_of_lt_of_le hb' hB.size
        have hx : l[k].lies wr := (hr.lie _ (List.getElem_mem hlt)).ext hB
        have hy : l'[k].lies wr := (hr'.lie _ (List.getElem_mem hlt')).ext hB
        have Htk := Lib.hid (sameTermsB_take l l' k HR.out hlt hlt')
        have Hfl := Lib.hid (sameTermsB_false l l' k hlt hlt')
        clear hc hc'
        generalize l[k] = x at *
        generalize l'[k] = y at *
        have cs : ∀ p : ExtBy wr, Calls Tryd.prog 44 _ p.to _ := fun p => sameTerm_any x y p.to (hx.ext p.ext) (hy.ext p.ext)
        have c0 := fun p => cell_ext (w := wr) (a := ⟨b, off + k * 8, none⟩) hbw d0 p
        have c1 := fun p => cell_ext (w := wr) (a := ⟨b, off + k * 8 + 1, none⟩) hbw d1 p
        have c2 := fun p => cell_ext (w := wr) (a := ⟨b, off + k * 8 + 2, none⟩) hbw d2 p
        have c3 := fun p => cell_ext (w := wr) (a := ⟨b, off + k * 8 + 3, none⟩) hbw d3 p
        have c4 := fun p => cell_ext (w := wr) (a := ⟨b, off + k * 8 + 4, none⟩) hbw d4 p
        have c5 := fun p => cell_ext (w := wr) (a := ⟨b, off + k * 8 + 5, none⟩) hbw d5 p
        have c6 := fun p => cell_ext (w := wr) (a := ⟨b, off + k * 8 + 6, none⟩) hbw d6 p
        have c7 := fun p => cell_ext (w := wr) (a := ⟨b, off + k * 8 + 7, none⟩) hbw d7 p
        have g0 := fun p => cell_ext (w := wr) (a := ⟨b', off' + k * 8, none⟩) hbw2 e0 p
        have g1 := fun p => cell_ext (w := wr) (a := ⟨b', off' + k * 8 + 1, none⟩) hbw2 e1 p
        have g2 := fun p => cell_ext (w := wr) (a := ⟨b', off' + k * 8 + 2, none⟩) hbw2 e2 p
        have g3 := fun p => cell_ext (w := wr) (a := ⟨b', off' + k * 8 + 3, none⟩) hbw2 e3 p
        have g4 := fun p => cell_ext (w := wr) (a := ⟨b', off' + k * 8 + 4, none⟩) hbw2 e4 p
        have g5 := fun p => cell_ext (w := wr) (a := ⟨b', off' + k * 8 + 5, none⟩) hbw2 e5 p
        have g6 := fun p => cell_ext (w := wr) (a := ⟨b', off' + k * 8 + 6, none⟩) hbw2 e6 p
        have g7 := fun p => cell_ext (w := wr) (a := ⟨b', off' + k * 8 + 7, none⟩) hbw2 e7 p
        cases hxy : sameTermB x y
        · have HF : Hid (sameTermsB l l' = false) := Hfl.out hxy
          rw [hxy] at cs
          have Cs := Lib.hid cs
          clear hxy cs hx hy
          go_wp2_with fail
          refine wp_region_ext (by kernel_rfl) (by kernel_rfl) ?_
          repeat (quiet_step ((go_at_call 44; exact Calls.ext_of (Cs.out _))))
          refine wpQuiet_nil ?_
          intro _ hw'
          obtain ⟨p, rfl⟩ := hw'
          go_wp2
          go_ret
          exact ⟨by rw [HF.out]; rfl, ext_trans hB p.ext⟩
        · have HF : Hid (sameTermsB (l.take (k + 1)) (l'.take (k + 1)) = true) := by show _ = _; rw [Htk.out, hxy]
          rw [hxy] at cs
          have Cs := Lib.hid cs
          clear hxy cs hx hy
          go_wp2_with fail
          refine wp_region_ext (by kernel_rfl) (by kernel_rfl) ?_
          repeat (quiet_step ((go_at_call 44; exact Calls.ext_of (Cs.out _))))
          refine wpQuiet_nil ?_
          intro _ hw'
          obtain ⟨p, rfl⟩ := hw'
          go_wp2
          go_roundw
          case rel => exact ⟨k + 1, by omega, by go_num, ext_trans hB p.ext, HF⟩
          case measure => simp [intOf]; omega
      · have HF : Hid (sameTermsB l l' = true) := by
          show _ = _
          have h := HR.out
          rw [List.take_of_length_le (by omega), List.take_of_length_le (by have := Hl.out; omega)] at h
          exact h
        clear HR
        go_wp2_with fail
        go_ret
        exact ⟨by rw [HF.out]; rfl, hB⟩
  · have hne : ((l.length : Int) != (l'.length : Int)) = true := by simp; omega
    have HF : Hid (sameTermsB l l' = false) := by
      cases h : sameTermsB l l'
      · rfl
      · exact absurd (sameTermsB_len _ _ h) hl
    clear hl
    go_enter Tryd.func36, Tryd.ntmps36
    go_wp2_with fail
    go_ret
    exact ⟨by rw [HF.out]; rfl, Below.refl _ _⟩

def laterAny (l : List Term) (t u : Int) (x : Term) : Bool := l.any fun z => aboutB z x && countsB z t u && laterB z x
theorem counts_at (x : Term) (t u : Int) (w : World) : Calls Tryd.prog 41 #[.agg #[.int .i64 x.no, .int .i64 x.at_, .int .i64 x.known, .int .i64 x.lang, .slice x.src.addr x.src.xs.length x.src.cap, .slice x.tgt.addr x.tgt.xs.length x.tgt.cap, .string x.cat, .bool x.gone], .int .i64 t, .int .i64 u] w fun e w' => e = .returned (.bool (countsB x t u)) ∧ Below w.heap.size w w' := counts_any x t u w

set_option maxHeartbeats 4000000 in
theorem stands27_any (A : Option Addr) (c : Nat) (l : List Term) (x : Term) (t u : Int) (w : World) (hr : TermsAt w A l) (hx : x.lies w) (hm : l.length ≤ 9223372036854775807) :
    Calls Tryd.prog 74 #[.slice A l.length c, .agg #[.int .i64 x.no, .int .i64 x.at_, .int .i64 x.known, .int .i64 x.lang, .slice x.src.addr x.src.xs.length x.src.cap, .slice x.tgt.addr x.tgt.xs.length x.tgt.cap, .string x.cat, .bool x.gone], .int .i64 t, .int .i64 u] w fun e w' => e = .returned (.bool (standsB l t u x)) ∧ Below w.heap.size w w' := by
  obtain ⟨w0, hw0⟩ : ∃ w0, w.alloc (.cells #[.int .i64 x.no, .int .i64 x.at_, .int .i64 x.known, .int .i64 x.lang, .slice x.src.addr x.src.xs.length x.src.cap, .slice x.tgt.addr x.tgt.xs.length x.tgt.cap, .string x.cat, .bool x.gone] 51) = w0 := ⟨_, rfl⟩
  have hB0 : Below w.heap.size w w0 := by rw [← hw0]; exact ext_alloc (Below.refl _ _) _
  have hz0 : w0.heap.size = w.heap.size + 1 := by rw [← hw0]; simp
  have hx0 : w0.heap[w.heap.size]? = some (.cells #[.int .i64 x.no, .int .i64 x.at_, .int .i64 x.known, .int .i64 x.lang, .slice x.src.addr x.src.xs.length x.src.cap, .slice x.tgt.addr x.tgt.xs.length x.tgt.cap, .string x.cat, .bool x.gone] 51 (0, 0)) := by rw [← hw0]; exact World.alloc_heap_new _ _
  have H : Hid (standsB l t u x = (!x.gone && countsB x t u && !laterAny l t u x)) := rfl
  have Hr := Lib.hid (hr.ext hB0)
  have Hx := Lib.hid (hx.ext hB0)
  obtain ⟨q, hq⟩ : ∃ q, standsB l t u x = q := ⟨_, rfl⟩
  rw [hq] at H ⊢
  clear hr hx hq
  have b0 := gblk hx0 0
  have b1 := gblk hx0 1
  have b2 := gblk hx0 2
  have b3 := gblk hx0 3
  have b4 := gblk hx0 4
  have b5 := gblk hx0 5
  have b6 := gblk hx0 6
  have b7 := gblk hx0 7
  go_enter Tryd.func74, Tryd.ntmps74
  cases hg : x.gone
  · have cc := counts_at x t u w0
    rw [hg] at b7 H cc hx0 hw0
    generalize hcx : countsB x t u = cx at *
    have Hg := Lib.hid hg
    have Cc := Lib.hid cc
    have Hcx := Lib.hid hcx
    clear hg cc hcx
    go_wp2_with fail
    refine Cc.out.mono ?_
    rintro e w1 ⟨rfl, hb1⟩
    have hB1 := ext_trans hB0 hb1
    cases cx
    · have HF : Hid (q = false) := by show _ = _; rw [H.out]; simp
      go_wp2_with fail
      go_ret
      exact ⟨by rw [HF.out]; rfl, hB1⟩
    · have HF : Hid (q = !laterAny l t u x) := by show _ = _; rw [H.out]; simp
      clear H b0 b1 b2 b3 b4 b5 b6 b7
      go_wp2_with fail
      go_loopw [9] (fun i wr => ∃ k : Nat, k ≤ l.length ∧ i = .int .i64 k ∧ Below w0.heap.size w0 wr ∧ Hid (laterAny (l.take k) t u x = false)) (fun i _ => l.length - (intOf i).toNat)
      case atStart => exact ⟨0, Nat.zero_le _, rfl, hb1, rfl⟩
      case round =>
        obtain ⟨k, hk, rfl, hB, HR⟩ := hrel
        by_cases hlt : k < l.length
        · obtain ⟨b, off, rfl, hb, hc⟩ := Hr.out.at_ hlt
          obtain ⟨d0, d1, d2, d3, d4, d5, d6, d7⟩ := hc k hlt wr hB
          have hbw : b < wr.heap.size := Nat.lt_of_lt_of_le hb hB.size
          have hbx : w.heap.size < wr.heap.size := by have := hB.size; omega
          have hxw := (hB.block _ (by omega)).trans hx0
          have e0 := gblk hxw 0
          have e1 := gblk hxw 1
          have e2 := gblk hxw 2
          have e3 := gblk hxw 3
          have e4 := gblk hxw 4
          have e5 := gblk hxw 5
          have e6 := gblk hxw 6
          have e7 := gblk hxw 7
          have hy : l[k].lies wr := (Hr.out.lie _ (List.getElem_mem hlt)).ext hB
          have htk : laterAny (l.take (k + 1)) t u x = (laterAny (l.take k) t u x || (aboutB l[k] x && countsB l[k] t u && laterB l[k] x)) := by
            unfold laterAny
            rw [List.take_succ_eq_append_getElem hlt, List.any_append]
            simp
          have hfl : (aboutB l[k] x && countsB l[k] t u && laterB l[k] x) = true → laterAny l t u x = true := fun h => List.any_eq_true.2 ⟨_, List.getElem_mem hlt, h⟩
          have Htk := Lib.hid htk
          have Hfl := Lib.hid hfl
          clear hc htk hfl hxw
          generalize l[k] = y at *
          have ca : ∀ p : ExtBy wr, Calls Tryd.prog 42 _ p.to _ := fun p => about_any y x p.to (hy.ext p.ext) (Hx.out.ext (ext_trans hB p.ext))
          have cb : ∀ p : ExtBy wr, Calls Tryd.prog 41 _ p.to _ := fun p => counts_any y t u p.to
          have cd : ∀ p : ExtBy wr, Calls Tryd.prog 43 _ p.to _ := fun p => later_any y x p.to
          rw [Hg.out] at ca cd
          have c0 := fun p => cell_ext (w := wr) (a := ⟨b, off + k * 8, none⟩) hbw d0 p
          have c1 := fun p => cell_ext (w := wr) (a := ⟨b, off + k * 8 + 1, none⟩) hbw d1 p
          have c2 := fun p => cell_ext (w := wr) (a := ⟨b, off + k * 8 + 2, none⟩) hbw d2 p
          have c3 := fun p => cell_ext (w := wr) (a := ⟨b, off + k * 8 + 3, none⟩) hbw d3 p
          have c4 := fun p => cell_ext (w := wr) (a := ⟨b, off + k * 8 + 4, none⟩) hbw d4 p
          have c5 := fun p => cell_ext (w := wr) (a := ⟨b, off + k * 8 + 5, none⟩) hbw d5 p
          have c6 := fun p => cell_ext (w := wr) (a := ⟨b, off + k * 8 + 6, none⟩) hbw d6 p
          have c7 := fun p => cell_ext (w := wr) (a := ⟨b, off + k * 8 + 7, none⟩) hbw d7 p
          have g0 := fun p => cell_ext (w := wr) (a := ⟨w.heap.size, 0, none⟩) hbx e0 p
          have g1 := fun p => cell_ext (w := wr) (a := ⟨w.heap.size, 1, none⟩) hbx e1 p
          have g2 := fun p => cell_ext (w := wr) (a := ⟨w.heap.size, 2, none⟩) hbx e2 p
          have g3 := fun p => cell_ext (w := wr) (a := ⟨w.heap.size, 3, none⟩) hbx e3 p
          have g4 := fun p => cell_ext (w := wr) (a := ⟨w.heap.size, 4, none⟩) hbx e4 p
          have g5 := fun p => cell_ext (w := wr) (a := ⟨w.heap.size, 5, none⟩) hbx e5 p
          have g6 := fun p => cell_ext (w := wr) (a := ⟨w.heap.size, 6, none⟩) hbx e6 p
          have g7 := fun p => cell_ext (w := wr) (a := ⟨w.heap.size, 7, none⟩) hbx e7 p
          cases hva : aboutB y x
          · have HN : Hid (laterAny (l.take (k + 1)) t u x = false) := by show _ = _; rw [Htk.out, HR.out, hva]; rfl
            rw [hva] at ca
            have Ca := Lib.hid ca
            have Cb := Lib.hid cb
            have Cd := Lib.hid cd
            clear hva ca cb cd hy
            go_wp2_with fail
            refine wp_region_ext (by kernel_rfl) (by kernel_rfl) ?_
            repeat (quiet_step (first | (go_at_call 42; exact Calls.ext_of (Ca.out _)) | (go_at_call 41; exact Calls.ext_of (Cb.out _)) | (go_at_call 43; exact Calls.ext_of (Cd.out _))))
            refine wpQuiet_nil ?_
            intro _ hw'
            obtain ⟨p, rfl⟩ := hw'
            go_wp2
            go_roundw
            case rel => exact ⟨k + 1, by omega, by go_num, ext_trans hB p.ext, HN⟩
            case measure => simp [intOf]; omega
          cases hvb : countsB y t u
          · have HN : Hid (laterAny (l.take (k + 1)) t u x = false) := by show _ = _; rw [Htk.out, HR.out, hvb]; simp
            rw [hva] at ca
            rw [hvb] at cb
            have Ca := Lib.hid ca
            have Cb := Lib.hid cb
            have Cd := Lib.hid cd
            clear hva hvb ca cb cd hy
            go_wp2_with fail
            refine wp_region_ext (by kernel_rfl) (by kernel_rfl) ?_
            repeat (quiet_step (first | (go_at_call 42; exact Calls.ext_of (Ca.out _)) | (go_at_call 41; exact Calls.ext_of (Cb.out _)) | (go_at_call 43; exact Calls.ext_of (Cd.out _))))
            refine wpQuiet_nil ?_
            intro _ hw'
            obtain ⟨p, rfl⟩ := hw'
            go_wp2
            go_roundw
            case rel => exact ⟨k + 1, by omega, by go_num, ext_trans hB p.ext, HN⟩
            case measure => simp [intOf]; omega
          cases hvd : laterB y x
          · have HN : Hid (laterAny (l.take (k + 1)) t u x = false) := by show _ = _; rw [Htk.out, HR.out, hvd]; simp
            rw [hva] at ca
            rw [hvb] at cb
            rw [hvd] at cd
            have Ca := Lib.hid ca
            have Cb := Lib.hid cb
            have Cd := Lib.hid cd
            clear hva hvb hvd ca cb cd hy
            go_wp2_with fail
            refine wp_region_ext (by kernel_rfl) (by kernel_rfl) ?_
            repeat (quiet_step (first | (go_at_call 42; exact Calls.ext_of (Ca.out _)) | (go_at_call 41; exact Calls.ext_of (Cb.out _)) | (go_at_call 43; exact Calls.ext_of (Cd.out _))))
            refine wpQuiet_nil ?_
            intro _ hw'
            obtain ⟨p, rfl⟩ := hw'
            go_wp2
            go_roundw
            case rel => exact ⟨k + 1, by omega, by go_num, ext_trans hB p.ext, HN⟩
            case measure => simp [intOf]; omega
          · have HN : Hid (laterAny l t u x = true) := Hfl.out (by rw [hva, hvb, hvd]; rfl)
            rw [hva] at ca
            rw [hvb] at cb
            rw [hvd] at cd
            have Ca := Lib.hid ca
            have Cb := Lib.hid cb
            have Cd := Lib.hid cd
            clear hva hvb hvd ca cb cd hy
            go_wp2_with fail
            refine wp_region_ext (by kernel_rfl) (by kernel_rfl) ?_
            repeat (quiet_step (first | (go_at_call 42; exact Calls.ext_of (Ca.out _)) | (go_at_call 41; exact Calls.ext_of (Cb.out _)) | (go_at_call 43; exact Calls.ext_of (Cd.out _))))
            refine wpQuiet_nil ?_
            intro _ hw'
            obtain ⟨p, rfl⟩ := hw'
            go_wp2
            go_ret
            exact ⟨by rw [HF.out, HN.out]; rfl, ext_trans hB0 (ext_trans hB p.ext)⟩
        · have HF2 : Hid (laterAny l t u x = false) := by
            show _ = _
            have h := HR.out
            rw [List.take_of_length_le (by omega)] at h
            exact h
          clear HR
          go_wp2_with fail
          go_ret
          exact ⟨by rw [HF.out, HF2.out]; rfl, ext_trans hB0 hB⟩
  · have HF : Hid (q = false) := by show _ = _; rw [H.out, hg]; rfl
    rw [hg] at b7
    clear hg
    go_wp2_with fail
    go_ret
    exact ⟨by rw [HF.out]; rfl, by first | exact hB0 | (rw [hg] at hB0; exact hB0) | exact ext_alloc (Below.refl _ _) _⟩
end Go.Proofs.YtneanannicacnaaDoor
