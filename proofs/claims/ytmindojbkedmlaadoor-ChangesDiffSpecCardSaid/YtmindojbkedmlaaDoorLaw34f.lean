/- The reference's Diff; ChangesDiffSpec. -/
import Derived.Test.YtmindojbkedmlaaDoorR21c
import Derived.Test.YtmindojbkedmlaaDoorLaw34c
namespace Go.Proofs.YtmindojbkedmlaaDoor
open Go.RowKit Go.Han
attribute [local irreducible] wpStill wpQuiet
set_option maxRecDepth 100000

theorem oddW_take {l : Ws} {k : Nat} (h : k < l.length) : oddW (l.take (k + 1)) = (oddW (l.take k) || !wordB l[k]) := any_take h
set_option maxHeartbeats 2000000 in
theorem words34_any (A : Option Addr) (c : Nat) (l : List Tgt) (w : World) (hr : Rd w A (l.flatMap Tgt.cells)) (hm : l.length ≤ 64) :
    Calls Tryd.prog 33 #[.slice A l.length c] w fun e w' => e = .returned (.bool (!oddW (txts l))) ∧ Below w.heap.size w w' := by
  have HR := Lib.hid hr
  have tl := Lib.hid (txts_len l)
  clear hr
  go_enter Tryd.func33, Tryd.ntmps33
  go_wp2_with fail
  go_loopw [3] (fun i wr => ∃ k : Nat, k ≤ l.length ∧ i = .int .i64 k ∧ Below w.heap.size w wr ∧ Hid (oddW ((txts l).take k) = false)) (fun i _ => l.length - (intOf i).toNat)
  case atStart => exact ⟨0, Nat.zero_le _, rfl, Below.refl _ _, rfl⟩
  case round =>
    obtain ⟨k, hk, rfl, hB, HO⟩ := hrel
    by_cases hlt : k < l.length
    · have hlt' : k < (txts l).length := by rw [tl.out]; exact hlt
      obtain ⟨b, off, rfl, hb, hc⟩ := tgt_text HR.out hlt
      have d0 := (hB.cell (p := ⟨b, off + k * 3, none⟩) hb).trans hc
      have Htk := Lib.hid (oddW_take hlt')
      have Hmem := Lib.hid (List.getElem_mem hlt')
      have Hlt := Lib.hid hlt
      clear hc
      generalize (txts l)[k] = x at *
      have cW := Lib.hid (word9_any x wr)
      go_wp2_with fail
      refine cW.out.mono ?_
      rintro e w1 ⟨rfl, hb1⟩
      have hB1 := ext_trans hB hb1
      cases hx : wordB x
      · have HF : Hid (oddW (txts l) = true) := List.any_eq_true.2 ⟨x, Hmem.out, by rw [hx]; rfl⟩
        clear hx d0
        go_wp2_with fail
        go_ret
        exact ⟨by rw [HF.out]; rfl, hB1⟩
      · have HN : Hid (oddW ((txts l).take (k + 1)) = false) := by show _ = _; rw [Htk.out, HO.out, hx]; rfl
        clear hx d0
        go_wp2_with fail
        go_roundw
        case rel => exact ⟨k + 1, Hlt.out, by go_num, hB1, HN⟩
        case measure => have := Hlt.out; simp [intOf]; omega
    · have HN : Hid (oddW (txts l) = false) := by
        have h := HO.out
        rw [List.take_of_length_le (by rw [tl.out]; omega)] at h
        exact h
      go_wp2_with fail
      go_ret
      exact ⟨by rw [HN.out]; rfl, hB⟩
set_option maxHeartbeats 2000000 in
theorem texts34_any (A : Option Addr) (c : Nat) (l : List Tgt) (w : World) (hr : Rd w A (l.flatMap Tgt.cells)) (hm : l.length ≤ 64) :
    Calls Tryd.prog 35 #[.slice A l.length c] w (MapPost l w) := by
  obtain ⟨i0, hi0, iz0, is0, ib0⟩ := info_parts info_strA
  have HR := Lib.hid hr
  clear hr
  go_enter Tryd.func35, Tryd.ntmps35
  go_wp2_with fail
  obtain ⟨w0, hw0⟩ : ∃ w0, w.alloc (.cells #[] 9) = w0 := ⟨_, rfl⟩
  have hb0 : Below w.heap.size w w0 := by rw [← hw0]; exact ext_alloc (Below.refl _ _) _
  have ho0 : OwnL strC 9 1 w0 w.heap.size (.slice (some ⟨w.heap.size, 0, none⟩) 0 0) ((txts l).take 0) := by rw [← hw0]; exact own_empty (World.alloc_heap_new _ _) (Nat.le_refl _)
  try rw [hw0]
  clear hw0
  go_loopw [3, 4] (fun vo i wr => ∃ k : Nat, k ≤ l.length ∧ i = .int .i64 k ∧ OwnL strC 9 1 wr w.heap.size vo ((txts l).take k) ∧ Below w.heap.size w wr) (fun _ i _ => l.length - (intOf i).toNat)
  case atStart => exact ⟨0, Nat.zero_le _, rfl, ho0, hb0⟩
  case round =>
    obtain ⟨k, hk, rfl, hown, hBr⟩ := hrel
    by_cases hlt : k < l.length
    · obtain ⟨b, off, rfl, hb, hc⟩ := tgt_elem HR.out hlt
      obtain ⟨d0, d1, d2⟩ := hc wr hBr
      have Htk := Lib.hid (txts_take l hlt)
      have hlen2 : ((txts l).take k).length ≤ 10000 := by rw [List.length_take]; omega
      obtain ⟨A1, A2⟩ := str_room hlen2
      have Hlt := Lib.hid hlt
      clear hc d1 d2
      generalize l[k] = x at *
      generalize (txts l).take k = el at *
      have hz1 := hBr.size
      go_wp2_with (at_builtin; refine wpList_append_rd rfl _ _ 23 rfl w.heap.size 9 i0 _ 1 16 Tryd.underlying23 hi0 iz0 is0 ib0 rfl (by decide) _ _ _ rfl (some ⟨wr.heap.size, 0, none⟩) 1 1 (strC x.text) rfl (hown.ext (ext_alloc (Below.refl wr.heap.size wr) _)) rfl (grd_blk (World.alloc_heap_new wr _) rfl) (strC_one x.text) A1 A2 (Nat.le_trans hz1 (by simp)) ?_; intro v5 w5 hown5 hgrow5 _)
      have hB5 : Below w.heap.size w w5 := (ext_trans hBr (ext_alloc (Below.refl wr.heap.size wr) _)).grown hgrow5 (Nat.le_trans hz1 (by simp)) (fun k hk => (hown.lt k hk).1)
      have hs5 := OwnL.snoc (f := strC) x.text hown5
      clear hown5 hgrow5 d0
      try go_wp2_with fail
      go_roundw
      case rel => exact ⟨k + 1, Hlt.out, by go_num, by rw [Htk.out]; exact hs5, hB5⟩
      case measure => have := Hlt.out; simp [intOf]; omega
    · obtain rfl : k = l.length := by omega
      rw [List.take_of_length_le (by rw [txts_len]; omega)] at hown
      obtain ⟨s, rfl, hx, hl⟩ := own_lies hown
      have hfin : Hid (MapPost l w (.returned (.slice s.addr s.xs.length s.cap)) wr) := ⟨s, rfl, hx, hl, hBr⟩
      clear hown
      go_wp2_with fail
      go_ret
      exact hfin.out
set_option maxHeartbeats 2000000 in
theorem rDiff_any (A : Option Addr) (c : Nat) (a : List Tgt) (B : Option Addr) (d : Nat) (b : List Tgt) (w : World) (hr : Rd w A (a.flatMap Tgt.cells)) (hr' : Rd w B (b.flatMap Tgt.cells)) :
    Calls Tryd.prog 14 #[.slice A a.length c, .slice B b.length d] w (DifPost a b w) := by
  by_cases h1 : 64 < a.length
  · have g1 : (64 : Int) < (a.length : Int) := by omega
    have hfin := Lib.hid (fun W (hb : Below w.heap.size w W) => dif_err (a := a) (b := b) (k := 2) hb (by unfold difE; rw [if_pos (by omega)]) (by decide))
    clear h1 hr hr'
    go_enter Tryd.func14, Tryd.ntmps14
    go_wp2_with fail
    go_ret3
    exact hfin.out _ (Below.refl _ _)
  by_cases h2 : 64 < b.length
  · have g1 : ¬ (64 : Int) < (a.length : Int) := by omega
    have g2 : (64 : Int) < (b.length : Int) := by omega
    have hfin := Lib.hid (fun W (hb : Below w.heap.size w W) => dif_err (a := a) (b := b) (k := 2) hb (by unfold difE; rw [if_pos (by omega)]) (by decide))
    clear h1 h2 hr hr'
    go_enter Tryd.func14, Tryd.ntmps14
    go_wp2_with fail
    go_ret3
    exact hfin.out _ (Below.refl _ _)
  have g1 : ¬ (64 : Int) < (a.length : Int) := by omega
  have g2 : ¬ (64 : Int) < (b.length : Int) := by omega
  have h64 : ¬ 64 < max a.length b.length := by omega
  have la : a.length ≤ 64 := by omega
  have lb : b.length ≤ 64 := by omega
  have c1 := Lib.hid (words34_any A c a w hr la)
  have c2 := Lib.hid (fun W (hb : Below w.heap.size w W) => words34_any B d b W (hr'.ext hb) lb)
  have cM1 := Lib.hid (fun W (hb : Below w.heap.size w W) => texts34_any A c a W (hr.ext hb) la)
  have cM2 := Lib.hid (fun W (hb : Below w.heap.size w W) => texts34_any B d b W (hr'.ext hb) lb)
  have hE1 := Lib.hid (fun h : oddW (txts a) = true => show difE a b = 300 by unfold difE; rw [if_neg h64, if_pos h])
  have hE2 := Lib.hid (fun (h0 : oddW (txts a) = false) (h : oddW (txts b) = true) => show difE a b = 300 by unfold difE; rw [if_neg h64, if_neg (by rw [h0]; decide), if_pos h])
  have hE3 := Lib.hid (fun (h0 : oddW (txts a) = false) (h : oddW (txts b) = false) => show difE a b = 0 by unfold difE; rw [if_neg h64, if_neg (by rw [h0]; decide), if_neg (by rw [h]; decide)])
  have Tla := Lib.hid (txts_len a)
  have Tlb := Lib.hid (txts_len b)
  clear h64 hr hr' h1 h2
  cases q1 : oddW (txts a)
  · rw [q1] at c1
    cases q2 : oddW (txts b)
    · simp only [q2] at c2
      have hE := Lib.hid (hE3.out q1 q2)
      have Q1 := Lib.hid (oddW_no q1)
      have Q2 := Lib.hid (oddW_no q2)
      clear q1 q2 hE1 hE2 hE3
      go_enter Tryd.func14, Tryd.ntmps14
      go_wp2_with fail
      refine c1.out.mono ?_
      rintro e w1 ⟨rfl, hb1⟩
      go_wp2_with fail
      refine (c2.out w1 hb1).mono ?_
      rintro e w2 ⟨rfl, hb2⟩
      have hB2 := ext_trans hb1 hb2
      go_wp2_with fail
      refine (cM1.out w2 hB2).mono ?_
      rintro e w3 ⟨s, rfl, hs', hl1, hb3⟩
      have Hs := Lib.hid hs'
      have hB3 := ext_trans hB2 hb3
      clear hs'
      go_wp2_with fail
      refine (cM2.out w3 hB3).mono ?_
      rintro e w4 ⟨t, rfl, ht', hl2, hb4⟩
      have Ht := Lib.hid ht'
      have hB4 := ext_trans hB3 hb4
      have cA := Lib.hid (Align21r_any s t w4 (hl1.ext hb4) hl2 (by rw [Hs.out, Tla.out]; exact la) (by rw [Ht.out, Tlb.out]; exact lb) (by rw [Hs.out]; exact Q1.out) (by rw [Ht.out]; exact Q2.out))
      clear ht' hl1 hl2
      go_wp2_with fail
      refine cA.out.mono ?_
      rintro e w5 hp
      rw [Hs.out, Ht.out] at hp
      have hfin := Lib.hid (dif_ok hB4 hE.out hp)
      obtain ⟨A5, c5, rfl, _, _⟩ := hp
      go_wp2_with fail
      go_ret3
      exact hfin.out
    · simp only [q2] at c2
      have hE := Lib.hid (hE2.out q1 q2)
      clear q1 q2 hE1 hE2 hE3
      go_enter Tryd.func14, Tryd.ntmps14
      go_wp2_with fail
      refine c1.out.mono ?_
      rintro e w1 ⟨rfl, hb1⟩
      go_wp2_with fail
      refine (c2.out w1 hb1).mono ?_
      rintro e w2 ⟨rfl, hb2⟩
      go_wp2_with fail
      go_ret3
      exact dif_err (ext_trans hb1 hb2) hE.out (by decide)
  · rw [q1] at c1
    have hE := Lib.hid (hE1.out q1)
    clear q1 hE1 hE2 hE3
    go_enter Tryd.func14, Tryd.ntmps14
    go_wp2_with fail
    refine c1.out.mono ?_
    rintro e w1 ⟨rfl, hb1⟩
    go_wp2_with fail
    go_ret3
    exact dif_err hb1 hE.out (by decide)
theorem difL_le (a b : List Tgt) : (difL a b).length ≤ 128 := by
  unfold difL
  split
  · rename_i h
    obtain ⟨h1, h2, _⟩ := dif_zero h
    have := alS_len (txts a) (txts b)
    rw [txts_len, txts_len] at this
    omega
  · exact Nat.zero_le _
set_option maxHeartbeats 4000000 in
theorem ChangesDiffSpec_any (A : Option Addr) (c : Nat) (a : List Tgt) (B : Option Addr) (d : Nat) (b : List Tgt) (w : World) (hT : Tabs w) (hr : Rd w A (a.flatMap Tgt.cells)) (hr' : Rd w B (b.flatMap Tgt.cells)) (hm : a.length ≤ 9223372036854775807) (hm' : b.length ≤ 9223372036854775807) :
    Calls Tryd.prog 4 #[.slice A a.length c, .slice B b.length d] w fun e w' => e = .returned (.bool true) ∧ Below w.heap.size w w' := by
  have cs := Lib.hid (sane34_any w hT)
  have cD := Lib.hid (fun W (hW : Below w.heap.size w W) => Diff_any A c a B d b W (utf_ext hT hW) (hr.ext hW) (hr'.ext hW) hm hm')
  have cE := Lib.hid (fun W (hW : Below w.heap.size w W) => rDiff_any A c a B d b W (hr.ext hW) (hr'.ext hW))
  have Hle := Lib.hid (difL_le a b)
  unfold DifPost at cD cE
  generalize difL a b = l at *
  generalize difC a b = cost at *
  generalize difE a b = er at *
  clear hT hr hr'
  go_enter Tryd.func4, Tryd.ntmps4
  go_wp2_with fail
  refine cs.out.mono ?_
  rintro e w1 ⟨rfl, hb1⟩
  go_wp2_with fail
  obtain ⟨w2, hw2⟩ : ∃ w2, w1.alloc (.cells #[.slice A a.length c, .slice B b.length d] 36) = w2 := ⟨_, rfl⟩
  have hb2 : Below w1.heap.size w1 w2 := by rw [← hw2]; exact ext_alloc (Below.refl _ _) _
  have hx2 : w2.heap[w1.heap.size]? = some (.cells #[.slice A a.length c, .slice B b.length d] 36 (0, 0)) := by rw [← hw2]; exact World.alloc_heap_new _ _
  have hB2 := ext_trans hb1 hb2
  try rw [hw2]
  clear hw2
  go_loopw [19] (fun vi wr => ∃ j : Nat, j ≤ 2 ∧ vi = .int .i64 j ∧ Below w2.heap.size w2 wr) (fun vi _ => 2 - (intOf vi).toNat)
  case atStart => exact ⟨0, by omega, rfl, Below.refl _ _⟩
  case round =>
    obtain ⟨j, hj, rfl, hB⟩ := hrel
    have hxw := (hB.block _ (lt_block hx2)).trans hx2
    have c0 : wr.cell? ⟨w1.heap.size, 0, none⟩ = some (.slice A a.length c) := gblk hxw 0
    have c1 : wr.cell? ⟨w1.heap.size, 1, none⟩ = some (.slice B b.length d) := gblk hxw 1
    have hBr := ext_trans hB2 hB
    clear hxw
    rcases (show j = 0 ∨ j = 1 ∨ j = 2 by omega) with rfl | rfl | rfl
    · go_wp2_with fail
      all_goals first
        | (go_ret; exact ⟨rfl, hBr⟩)
        | (go_roundw
           case rel => exact ⟨1, by omega, rfl, hB⟩
           case measure => simp [intOf])
    · go_wp2_with fail
      all_goals first
        | (go_ret; exact ⟨rfl, hBr⟩)
        | (go_roundw
           case rel => exact ⟨2, by omega, rfl, hB⟩
           case measure => simp [intOf])
    · go_wp2_with fail
      refine (cD.out wr hBr).mono ?_
      rintro e w3 ⟨F, f, rfl, hrF, hb3⟩
      have hB3 := ext_trans hBr hb3
      go_wp2_with fail
      refine (cE.out w3 hB3).mono ?_
      rintro e w4 ⟨G, g, rfl, hrG, hb4⟩
      have hB4 := ext_trans hB3 hb4
      have cq := sameNats_any F G f g l l w4 (hrF.ext hb4) hrG (by have := Hle.out; omega)
      rw [decide_eq_true rfl] at cq
      have CQ := Lib.hid cq
      clear cq hrF hrG
      go_wp2_with fail
      refine CQ.out.mono ?_
      rintro e w5 ⟨rfl, hb5⟩
      go_wp2_with fail
      go_ret
      exact ⟨by first | rfl | (simp; done), ext_trans hB4 hb5⟩
end Go.Proofs.YtmindojbkedmlaaDoor
