/- The statement DisplayWords, walked. -/
import Derived.Test.YtneanannicacnaaDoorLaw49e
import Derived.Test.YtneanannicacnaaDoorLawW
import Derived.Test.YtneanannicacnaaDoorMap
import Derived.Test.YtneanannicacnaaDoorQuiet
namespace Go.Proofs.YtneanannicacnaaDoor
open Go.RowKit Go.Han
attribute [local irreducible] wpStill wpQuiet
set_option maxRecDepth 100000

/-! ### the changes up to a time, gathered -/
def seenC (t : Int) (l : List Change) (k : Nat) : List Change := (l.take k).filter (fun c => decide (c.at_ ≤ t))
theorem seenC_succ (t : Int) (l : List Change) (k : Nat) (h : k < l.length) : seenC t l (k + 1) = if l[k].at_ ≤ t then seenC t l k ++ [l[k]] else seenC t l k := by
  unfold seenC
  rw [List.take_succ_eq_append_getElem h, List.filter_append]
  by_cases h1 : l[k].at_ ≤ t <;> simp [h1]
theorem putW_snoc (p : List Change) (c : Change) : putW (p ++ [c]) = putW p + if c.kind = 1 then 1 else 0 := by
  unfold putW; rw [List.filter_append]; by_cases h : c.kind = 1 <;> simp [h]
theorem dropW_snoc (p : List Change) (c : Change) : dropW (p ++ [c]) = dropW p + if c.kind = 2 then 1 else 0 := by
  unfold dropW; rw [List.filter_append]; by_cases h : c.kind = 2 <;> simp [h]
theorem countW_snoc (p : List Change) (c : Change) : countW (p ++ [c]) = countW p + if c.kind = 1 then 0 else 1 := by
  unfold countW; rw [List.filter_append]; by_cases h : c.kind = 1 <;> simp [h]

/-! ### the map -/
def mapS : KeyShape Tryd.prog 3 Int := intShape Tryd.underlying3
theorem change_inj (x y : Change) (h : x.val = y.val) : x = y := by
  obtain ⟨a, b, ⟨c, d, s⟩⟩ := x
  obtain ⟨a', b', ⟨c', d', s'⟩⟩ := y
  simp [Change.val] at h
  obtain ⟨rfl, rfl, rfl, rfl, rfl⟩ := h
  rfl
def mapE : ElemShape Change := ⟨Change.val, change_inj⟩
theorem keyed_int : Maps.Keyed Tryd.prog 3 := Maps.int_keyed Tryd.underlying3
theorem good_int {n : Int} (h0 : 0 ≤ n) (h1 : n ≤ 1048576) : mapS.good n := by
  show (Lit.int .i64 n).wf = true
  simp [Lit.wf, IntKind.min, IntKind.max, IntKind.signed, IntKind.bits]; omega
theorem zero_change (w : World) : (zeroValue 26).run Tryd.prog w = .ok (mapE.val ⟨0, 0, ⟨0, 0, ⟨#[]⟩⟩⟩) w := by kernel_rfl
theorem ok_ids {c : Change} (h : c.ok = true) : 0 ≤ c.spot.id ∧ c.spot.id ≤ 1048576 := by
  have := (ok_parts h).2.2
  unfold Spot.ok idB at this
  simp only [Bool.and_eq_true, decide_eq_true_eq] at this
  exact this.1.1

/-- What is shown of a word: its last change. -/
theorem shown_of {l1 : List Spot} {p : List Change} (hasc : Asc l1) (h : ∀ n, getS n l1 = (lastC n p).bind madeG) {y : Spot} (hy : y ∈ l1) : ∃ ca ck, lastC y.id p = some ⟨ca, ck, y⟩ ∧ ck ≠ 2 := by
  have h1 := getS_mem hasc hy
  rw [h] at h1
  cases hc : lastC y.id p with
  | none => rw [hc] at h1; cases h1
  | some c =>
    rw [hc] at h1
    obtain ⟨ca, ck, cs⟩ := c
    simp only [Option.bind_some, madeG] at h1
    by_cases h2 : ck = 2
    · rw [if_pos h2] at h1; cases h1
    · rw [if_neg h2] at h1
      cases h1
      exact ⟨ca, ck, rfl, h2⟩
theorem lastC_mem {n : Int} {p : List Change} {c : Change} (h : lastC n p = some c) : c ∈ p ∧ c.spot.id = n := by
  unfold lastC at h
  have := List.mem_of_getLast? h
  simpa using List.mem_filter.1 this
theorem ownC_succ (n : Int) (l : List Change) (k : Nat) (h : k < l.length) : ownC n (l.take (k + 1)) = if l[k].spot.id = n then ownC n (l.take k) ++ [l[k]] else ownC n (l.take k) := by
  rw [List.take_succ_eq_append_getElem h, ownC_snoc]
theorem ownC_len (n : Int) (l : List Change) (k : Nat) : (ownC n (l.take k)).length ≤ k := Nat.le_trans (List.length_filter_le _ _) (List.length_take_le _ _)
def valC (c : Change) : Value := .agg #[.int .i64 c.at_, .int .i64 c.kind, .int .i64 c.spot.id, .int .i64 c.spot.ver, .string c.spot.text]
/-- Between two rounds of the innermost loop. -/
def Words3 (l : List Change) (x : Int) (w4 : World) (own i : Value) (wr : World) : Prop :=
  ∃ k, k ≤ l.length ∧ i = .int .i64 k ∧ OwnL Change.cells 26 5 wr w4.heap.size own (ownC x (l.take k)) ∧ Below w4.heap.size w4 wr

/-- Between two rounds of the first loop. -/
def Words1 (l : List Change) (t : Int) (w5 : World) (many wd i : Value) (wr : World) : Prop :=
  ∃ (k : Nat) (m : Int) (n : Nat), k ≤ l.length ∧ i = .int .i64 k ∧ many = .int .i64 m ∧ wd = .int .i64 n ∧ m + dropW (seenC t l k) = putW (seenC t l k) ∧ n = countW (seenC t l k) ∧ -(k : Int) ≤ m ∧ m ≤ k ∧ n ≤ k ∧
    Below w5.heap.size w5 wr ∧ MapF wr mapS mapE w5.heap.size k (fun x => lastC x (seenC t l k))

set_option maxHeartbeats 2000000 in
theorem DisplayWords_any (A : Option Addr) (cp : Nat) (l : List Change) (t : Int) (w : World) (hT : Tabs w) (hr : Rd w A (cflat l)) (hm : l.length ≤ 9223372036854775807) :
    Calls Tryd.prog 5 #[.slice A l.length cp, .int .i64 t] w (TruePost w) := by
  obtain ⟨i0, z, hi0, iz0, is0, ib0, izs⟩ := parts_change
  have hmm := @run_makeMap Tryd.prog
  have HT := Lib.hid hT
  have Hr := Lib.hid hr
  go_enter Tryd.func5, Tryd.ntmps5
  go_wp2_with fail
  refine (sane_any w hT).mono ?_
  rintro e w1 ⟨rfl, hB1⟩
  clear hT
  go_wp2_with fail
  refine (few_any A cp l w1 (Hr.out.ext hB1) hm).mono ?_
  rintro e w' ⟨rfl, rfl⟩
  cases hfw : (decide (l.length ≤ 100) && fewC l)
  · clear hfw
    go_wp2_with fail
    go_ret
    exact ⟨rfl, hB1⟩
  have hl100 : l.length ≤ 100 := by
    by_cases h : l.length ≤ 100
    · exact h
    · rw [decide_eq_false h] at hfw; cases hfw
  clear hfw hr
  by_cases e1 : playE l t = 0
  · have E1 := Lib.hid e1
    obtain ⟨l1, hl1⟩ : ∃ l1, playL l t = l1 := ⟨_, rfl⟩
    have hlen1 := len_of_playE e1
    have hck : checkE l1 = 0 := by rw [← hl1]; exact play_ok e1
    have hok : Hid (examFrom 0 l = true) := ((playE_zero_iff l t).1 e1).2.1
    have hwp := words_play e1
    rw [hl1] at hlen1 hwp
    have HL1 := Lib.hid hl1
    have HCK := Lib.hid hck
    have HWP := Lib.hid hwp
    clear e1 hl1 hck hwp
    go_wp2_with fail
    refine (Play_ok A l.length cp l t w1 (utf_ext HT.out hB1) (Hr.out.ext hB1) rfl hm E1.out l1 HL1.out).mono ?_
    rintro e w2 ⟨hb2, A1, c1, rfl, hrd1, hnil1, hlt1⟩
    have hB2 := ext_trans hB1 hb2
    clear hnil1 hlt1
    go_wp2_with fail
    refine (Wd_ok A cp l t w2 (utf_ext HT.out hB2) (Hr.out.ext hB2) hm E1.out).mono ?_
    rintro e w3 ⟨rfl, hb3⟩
    have hB3 := ext_trans hB2 hb3
    go_wp2_with fail
    refine (Check_is A1 l1.length c1 l1 0 w3 (utf_ext HT.out hB3) (hrd1.ext hb3) rfl (by omega) HCK.out).mono ?_
    rintro e w5 ⟨rfl, hb5⟩
    have hB5 := ext_trans hB3 hb5
    have Hr1 : Hid (Rd w5 A1 (flat l1)) := (hrd1.ext hb3).ext hb5
    clear hrd1
    go_wp2_with fail
    go_loopw [10, 11, 60] (fun many wd i wr => Words1 l t w5 many wd i wr) (fun _ _ i _ => l.length - (intOf i).toNat)
    case atStart => exact ⟨0, 0, 0, Nat.zero_le _, rfl, rfl, rfl, rfl, rfl, by simp, by simp, by simp, ext_alloc (Below.refl _ _) _, MapF.made _ _ _⟩
    case round =>
      obtain ⟨k, m, n, hk, rfl, rfl, rfl, hm1, hn1, hlo, hhi, hnk, hB, hmap⟩ := hrel
      have hz := hB.size
      have Hm1 := Lib.hid hm1
      have Hn1 := Lib.hid hn1
      clear hm1 hn1
      by_cases hlt : k < l.length
      · obtain ⟨b, off, rfl, hb, hc⟩ := Hr.out.elem Change.size_cells (by omega) hlt
        have hw := ext_trans hB5 hB
        have d0 := (hw.cell (p := ⟨b, off + k * 5 + 0, none⟩) hb).trans (hc 0 _ rfl)
        have d1 := (hw.cell (p := ⟨b, off + k * 5 + 1, none⟩) hb).trans (hc 1 _ rfl)
        have d2 := (hw.cell (p := ⟨b, off + k * 5 + 2, none⟩) hb).trans (hc 2 _ rfl)
        have d3 := (hw.cell (p := ⟨b, off + k * 5 + 3, none⟩) hb).trans (hc 3 _ rfl)
        have d4 := (hw.cell (p := ⟨b, off + k * 5 + 4, none⟩) hb).trans (hc 4 _ rfl)
        simp only [Nat.add_zero] at d0
        have hsn := seenC_succ t l k hlt
        have hcok : l[k].ok = true := exam_ok 0 l hok.out _ (List.getElem_mem _)
        clear hc
        by_cases hle : l[k].at_ ≤ t
        · rw [if_pos hle] at hsn
          generalize l[k] = c at *
          have hki := ok_kind hcok
          have hk3 : c.kind = 1 ∨ c.kind = 2 ∨ c.kind = 3 := by
            have : 1 ≤ c.kind ∧ c.kind ≤ 3 := by simpa [kindB] using hki
            omega
          have hids := ok_ids hcok
          have hgood : mapS.good c.spot.id := good_int hids.1 hids.2
          have Hsn := Lib.hid hsn
          have hmb := hmap.lt
          have hmapc : MapF (wr.alloc (.cells #[.int .i64 c.at_, .int .i64 c.kind, .int .i64 c.spot.id, .int .i64 c.spot.ver, .string c.spot.text] 26)) mapS mapE w5.heap.size k (fun x => lastC x (seenC t l k)) := hmap.of_block (Below.heap_alloc _ _ _ (by omega))
          have hkm : k < maxLen := by unfold maxLen; omega
          have Hgood := Lib.hid hgood
          have Hkind := Lib.hid hk3
          clear hsn hcok hki hids hgood hmap hk3
          have Hfun : Hid (∀ x, mapS.good x → lastC x (seenC t l (k + 1)) = if x = c.spot.id then some c else lastC x (seenC t l k)) := by
            intro x _
            rw [Hsn.out, lastC_snoc]
            by_cases e : x = c.spot.id
            · rw [if_pos e, if_pos e.symm]
            · rw [if_neg e, if_neg (Ne.symm e)]
          have hp := putW_snoc (seenC t l k) c
          have hd := dropW_snoc (seenC t l k) c
          have hcw := countW_snoc (seenC t l k) c
          rw [← Hsn.out] at hp hd hcw
          rcases Hkind.out with hk1 | hk1 | hk1
          · have HK := Lib.hid hk1
            rw [if_pos hk1] at hp hcw
            rw [if_neg (by omega)] at hd
            have F1 : Hid ((m + 1) + dropW (seenC t l (k + 1)) = putW (seenC t l (k + 1)) ∧ n = countW (seenC t l (k + 1))) := by
              have h1 := Hm1.out
              have h2 := Hn1.out
              constructor
              · rw [hp, hd]; push_cast; omega
              · omega
            clear hk1 hp hd hcw
            go_wp2_with (at_mapUpdate; refine wpList_mapUpdate_f _ rfl _ _ _ 41 rfl 26 keyed_int Tryd.underlying41 mapS mapE w5.heap.size k _ rfl hmapc hkm c.spot.id c rfl rfl Hgood.out ?_; intro w6 hm6 hg6 hs6; have y1 : w6.cell? ⟨wr.heap.size, 1, none⟩ = some (.int .i64 1) := by (rw [← HK.out]; exact cell_blk ((hg6.block _ (by simp) (by simp; omega)).trans (World.alloc_heap_new _ _)) 1))
            have hB6 : Below w5.heap.size w5 w6 := ⟨hg6.os.trans hB.os, hg6.tape.trans hB.tape, hg6.output.trans hB.output, by have := hg6.size; simp at this; omega, fun i hi => (hg6.block i (by simp; omega) (by simp; omega)).trans ((Below.heap_alloc _ _ _ (by omega)).trans (hB.block i hi))⟩
            have hm6' := hm6.congr Hfun.out
            go_roundw
            case rel => exact ⟨k + 1, m + 1, n, by omega, by go_num, by go_num, rfl, F1.out.1, F1.out.2, by omega, by omega, by omega, hB6, hm6'⟩
            case measure => simp [intOf]; omega
          · have HK := Lib.hid hk1
            rw [if_pos hk1] at hd
            rw [if_neg (by omega)] at hp hcw
            have F1 : Hid ((m - 1) + dropW (seenC t l (k + 1)) = putW (seenC t l (k + 1)) ∧ n + 1 = countW (seenC t l (k + 1))) := by
              have h1 := Hm1.out
              have h2 := Hn1.out
              constructor
              · rw [hp, hd]; push_cast; omega
              · omega
            clear hk1 hp hd hcw
            go_wp2_with (at_mapUpdate; refine wpList_mapUpdate_f _ rfl _ _ _ 41 rfl 26 keyed_int Tryd.underlying41 mapS mapE w5.heap.size k _ rfl hmapc hkm c.spot.id c rfl rfl Hgood.out ?_; intro w6 hm6 hg6 hs6; have y1 : w6.cell? ⟨wr.heap.size, 1, none⟩ = some (.int .i64 2) := by (rw [← HK.out]; exact cell_blk ((hg6.block _ (by simp) (by simp; omega)).trans (World.alloc_heap_new _ _)) 1))
            have hB6 : Below w5.heap.size w5 w6 := ⟨hg6.os.trans hB.os, hg6.tape.trans hB.tape, hg6.output.trans hB.output, by have := hg6.size; simp at this; omega, fun i hi => (hg6.block i (by simp; omega) (by simp; omega)).trans ((Below.heap_alloc _ _ _ (by omega)).trans (hB.block i hi))⟩
            have hm6' := hm6.congr Hfun.out
            go_roundw
            case rel => exact ⟨k + 1, m - 1, n + 1, by omega, by go_num, by go_num, by go_num, F1.out.1, F1.out.2, by omega, by omega, by omega, hB6, hm6'⟩
            case measure => simp [intOf]; omega
          · have HK := Lib.hid hk1
            rw [if_neg (by omega)] at hp hcw hd
            have F1 : Hid (m + dropW (seenC t l (k + 1)) = putW (seenC t l (k + 1)) ∧ n + 1 = countW (seenC t l (k + 1))) := by
              have h1 := Hm1.out
              have h2 := Hn1.out
              constructor
              · rw [hp, hd]; push_cast; omega
              · omega
            clear hk1 hp hd hcw
            go_wp2_with (at_mapUpdate; refine wpList_mapUpdate_f _ rfl _ _ _ 41 rfl 26 keyed_int Tryd.underlying41 mapS mapE w5.heap.size k _ rfl hmapc hkm c.spot.id c rfl rfl Hgood.out ?_; intro w6 hm6 hg6 hs6; have y1 : w6.cell? ⟨wr.heap.size, 1, none⟩ = some (.int .i64 3) := by (rw [← HK.out]; exact cell_blk ((hg6.block _ (by simp) (by simp; omega)).trans (World.alloc_heap_new _ _)) 1))
            have hB6 : Below w5.heap.size w5 w6 := ⟨hg6.os.trans hB.os, hg6.tape.trans hB.tape, hg6.output.trans hB.output, by have := hg6.size; simp at this; omega, fun i hi => (hg6.block i (by simp; omega) (by simp; omega)).trans ((Below.heap_alloc _ _ _ (by omega)).trans (hB.block i hi))⟩
            have hm6' := hm6.congr Hfun.out
            go_roundw
            case rel => exact ⟨k + 1, m, n + 1, by omega, by go_num, rfl, by go_num, F1.out.1, F1.out.2, by omega, by omega, by omega, hB6, hm6'⟩
            case measure => simp [intOf]; omega
        · rw [if_neg hle] at hsn
          generalize l[k] = c at *
          have Hsn := Lib.hid hsn
          have hmb := hmap.lt
          have hmapc : Hid (MapF (wr.alloc (.cells #[.int .i64 c.at_, .int .i64 c.kind, .int .i64 c.spot.id, .int .i64 c.spot.ver, .string c.spot.text] 26)) mapS mapE w5.heap.size (k + 1) (fun x => lastC x (seenC t l (k + 1)))) := by
            rw [Hsn.out]
            exact (hmap.of_block (Below.heap_alloc _ _ _ (by omega))).mono (by omega)
          clear hsn hcok hmap
          go_wp2_with fail
          go_roundw
          case rel => exact ⟨k + 1, m, n, by omega, by go_num, rfl, rfl, by rw [Hsn.out]; exact Hm1.out, by rw [Hsn.out]; exact Hn1.out, by omega, by omega, by omega, ext_alloc hB _, hmapc.out⟩
          case measure => simp [intOf]; omega
      · obtain rfl : k = l.length := by omega
        have hup : seenC t l l.length = upTo t l := by
          unfold seenC
          rw [List.take_length, upTo_filter t hok.out]
        rw [hup] at hmap
        have hm2 := Hm1.out
        have hn2 := Hn1.out
        rw [hup] at hm2 hn2
        have HM2 := Lib.hid hm2
        have HN2 := Lib.hid hn2
        have HMAP := Lib.hid hmap
        obtain ⟨wq, hwq⟩ : ∃ wq, wq = wr := ⟨_, rfl⟩
        subst hwq
        clear hup hm2 hn2 hmap Hm1 Hn1 hlt hk
        go_wp2_with fail
        have HB := Lib.hid hB
        clear hz hlo hhi hnk
        go_loopw [90] (fun i wr => ∃ k : Nat, k ≤ l1.length ∧ i = .int .i64 k ∧ Below w5.heap.size w5 wr ∧ MapF wr mapS mapE w5.heap.size l.length (fun x => lastC x (upTo t l))) (fun i _ => l1.length - (intOf i).toNat)
        case atStart => exact ⟨0, Nat.zero_le _, rfl, HB.out, HMAP.out⟩
        case round =>
          obtain ⟨k, hk, rfl, hB, hmap⟩ := hrel
          by_cases hlt : k < l1.length
          · obtain ⟨b1, off1, rfl, hb1', hc1⟩ := Hr1.out.elem Spot.size_cells (by omega) hlt
            have d0 := (hB.cell (p := ⟨b1, off1 + k * 3 + 0, none⟩) hb1').trans (hc1 0 _ rfl)
            have d1 := (hB.cell (p := ⟨b1, off1 + k * 3 + 1, none⟩) hb1').trans (hc1 1 _ rfl)
            have d2 := (hB.cell (p := ⟨b1, off1 + k * 3 + 2, none⟩) hb1').trans (hc1 2 _ rfl)
            simp only [Nat.add_zero] at d0
            have hmem : l1[k] ∈ l1 := List.getElem_mem _
            obtain ⟨ca, ck, hlc, hck2⟩ := shown_of HWP.out.2.2.2 HWP.out.1 hmem
            have hyok := ((checkE_iff l1).1 HCK.out).2.1 _ hmem
            clear hc1
            generalize l1[k] = y at *
            have hgood : mapS.good y.id := by
              unfold Spot.ok idB at hyok
              simp only [Bool.and_eq_true, decide_eq_true_eq] at hyok
              exact good_int hyok.1.1.1 hyok.1.1.2
            have hq : ∀ w, (Op.equalIn 10000 24 (.agg #[.int .i64 y.id, .int .i64 y.ver, .string y.text]) (.agg #[.int .i64 y.id, .int .i64 y.ver, .string y.text])).run Tryd.prog w = .ok true w := fun w => by rw [run_equalIn_spot]; simp
            have hmapc : MapF (wr.alloc (.cells #[.int .i64 y.id, .int .i64 y.ver, .string y.text] 24)) mapS mapE w5.heap.size l.length (fun x => lastC x (upTo t l)) := hmap.of_block (Below.heap_alloc _ _ _ (by have := hmap.lt; omega))
            have hck : (ck == 2) = false := by simpa using hck2
            have Hlc := Lib.hid hlc
            have Hgood := Lib.hid hgood
            clear hlc hgood hck2 hyok hmem
            go_wp2_with (at_lookup; refine wpList_lookup_is _ rfl _ _ 41 rfl 26 keyed_int Tryd.underlying41 mapS mapE ⟨0, 0, ⟨0, 0, ⟨#[]⟩⟩⟩ w5.heap.size l.length _ (zero_change _) rfl hmapc y.id rfl Hgood.out (.agg #[.int .i64 ca, .int .i64 ck, .int .i64 y.id, .int .i64 y.ver, .string y.text]) true (by show mapE.val ((lastC y.id (upTo t l)).getD _) = _; rw [Hlc.out]; rfl) (by show (lastC y.id (upTo t l)).isSome = true; rw [Hlc.out]; rfl) ?_)
            go_roundw
            case rel => exact ⟨k + 1, by omega, by go_num, ext_alloc (ext_alloc hB _) _, hmapc.of_block (Below.heap_alloc _ _ _ (by have := hmapc.lt; omega))⟩
            case measure => simp [intOf]; omega
          · obtain rfl : k = l1.length := by omega
            have hml : m = l1.length := by
              have h1 := HM2.out
              have h2 := HWP.out.2.2.1
              omega
            have hnl : n = countW (upTo t l) := HN2.out
            obtain ⟨w6, hw6⟩ : ∃ w6, w6 = wr := ⟨_, rfl⟩
            subst hw6
            have hz := hB.size
            have Hml := Lib.hid hml
            have Hnl := Lib.hid hnl
            have hrz : w5.heap.size < w6.heap.size := hmap.lt
            clear hml hnl hk hlt
            go_wp2_with (at_range; refine wpList_range_f _ rfl _ 41 rfl 26 keyed_int Tryd.underlying41 mapS mapE w5.heap.size l.length _ rfl hmap ?_; intro w7 cnt0 hrg0 hg0 hs0)
            go_frame
            go_loopw [18] (fun _ wr => ∃ left cnt, RangeF wr mapS mapE w5.heap.size w6.heap.size l.length (fun x => lastC x (upTo t l)) left cnt ∧ Below w5.heap.size w5 wr) (fun _ wr => wr.rangeLeft w5.heap.size w6.heap.size)
            case atStart => exact ⟨_, _, hrg0, ⟨hg0.os.trans hB.os, hg0.tape.trans hB.tape, hg0.output.trans hB.output, by omega, fun i hi => (hg0.block i (by omega) (by simp)).trans (hB.block i hi)⟩⟩
            case round =>
              obtain ⟨left, cnt, hrg, hB⟩ := hrel
              go_wp2_with (at_next; refine wpList_next_f _ rfl _ rfl keyed_int mapS mapE w5.heap.size w6.heap.size l.length _ left cnt (fun x => .int .i64 x) (fun c => .agg #[.int .i64 c.at_, .int .i64 c.kind, .int .i64 c.spot.id, .int .i64 c.spot.ver, .string c.spot.text]) (fun _ => rfl) (fun _ => rfl) rfl hrg ?_ ?_)
              · intro _
                have g1 : ((l1.length : Int) == m) = true := by rw [Hml.out]; simp
                have g2 : ((countW (upTo t l) : Int) == (n : Int)) = true := by rw [Hnl.out]; simp
                go_wp2_with fail
                go_ret
                exact ⟨by simp, ext_trans hB5 hB⟩
              · intro x c w8 cnt1 hgx hlx hfx hrg1 hlt1 hg1 hs1 hen
                have hrlt := hrg.lt
                have hB8 : Below w5.heap.size w5 w8 := ⟨hg1.os.trans hB.os, hg1.tape.trans hB.tape, hg1.output.trans hB.output, by have := hB.size; omega, fun i hi => (hg1.block i (by have := hB.size; omega) (by simp; omega)).trans (hB.block i hi)⟩
                obtain ⟨wc, hwc⟩ : ∃ wc, w8.alloc (.cells #[.int .i64 c.at_, .int .i64 c.kind, .int .i64 c.spot.id, .int .i64 c.spot.ver, .string c.spot.text] 26) = wc := ⟨_, rfl⟩
                have hBc : Below w8.heap.size w8 wc := by rw [← hwc]; exact ext_alloc (Below.refl _ _) _
                have hxc : wc.heap[w8.heap.size]? = some (.cells #[.int .i64 c.at_, .int .i64 c.kind, .int .i64 c.spot.id, .int .i64 c.spot.ver, .string c.spot.text] 26 (0, 0)) := by rw [← hwc]; exact World.alloc_heap_new _ _
                have hzc : wc.heap.size = w8.heap.size + 1 := by rw [← hwc]; simp
                have hrgc : RangeF wc mapS mapE w5.heap.size w6.heap.size l.length (fun x => lastC x (upTo t l)) (fun y => left y && !decide (y = x)) cnt1 := hrg1.kept (below_grownBy hBc none) (by simp) (by simp)
                have Hen := Lib.hid hen
                have Hlt1 := Lib.hid hlt1
                have Hrl := Lib.hid hrg.left_eq
                have hpl := HWP.out.2.1 x
                rw [hfx] at hpl
                have hcid : c.spot.id = x := (lastC_mem hfx).2
                have hget : getS x l1 = madeG c := by rw [HWP.out.1, hfx]; rfl
                have Hpl := Lib.hid hpl
                have Hget := Lib.hid hget
                have Hhid := Lib.hid hcid
                have hen2 := hen
                clear hpl hget hcid hfx hlx hgx hg1 hs1 hrg hlt1 hrg1 hB
                have hcN : ∀ p : ExtBy wc, Calls Tryd.prog 28 #[.slice A1 l1.length c1, .int .i64 x] p.to fun e w' => e = .returned (.int .i64 (findR l1 x)) ∧ p.to = w' := fun p => find49_any A1 c1 l1 x p.to (Hr1.out.ext (ext_trans (ext_trans hB8 hBc) p.ext)) (by omega)
                by_cases hk2 : c.kind = 2
                · have hfr : findR l1 x = -1 := by
                    have hg := Hget.out
                    unfold madeG at hg
                    rw [if_pos hk2] at hg
                    rcases findR_get l1 x with ⟨k, hk, _, h2⟩ | ⟨h1, _⟩
                    · rw [hg] at h2; cases h2
                    · exact h1
                  have hpl1 : ((some c : Option Change).bind madeG).toList = [] := by simp [madeG, hk2]
                  have hpl2 := Hpl.out
                  rw [hpl1] at hpl2
                  have Hpl2 := Lib.hid hpl2
                  rw [hfr] at hcN
                  have y1 : ∀ p : ExtBy wc, p.to.cell? ⟨w8.heap.size, 1, none⟩ = some (.int .i64 2) := fun p => by rw [← hk2]; exact cell_ext (show w8.heap.size < wc.heap.size by omega) (cell_blk hxc 1) p
                  have cN := Lib.hid hcN
                  have Hk2 := Lib.hid hk2
                  clear hcN hfr hpl1 hpl2 hk2
                  go_wp2_with fail
                  refine wp_region_ext (by kernel_rfl) (by kernel_rfl) ?_
                  repeat (quiet_step ((go_at_call 28; exact Calls.ext_same (cN.out _))))
                  refine wpQuiet_nil ?_
                  intro _ hw'
                  obtain ⟨p9, rfl⟩ := hw'
                  obtain ⟨w9, hw9⟩ : ∃ w9, w9 = p9.to := ⟨_, rfl⟩
                  have hB9 : Below wc.heap.size wc w9 := by rw [hw9]; exact p9.ext
                  rw [← hw9]
                  clear hw9 y1 cN
                  have hz9 := hB9.size
                  have hrg9 := hrgc.kept (below_grownBy hB9 none) (by simp) (by simp)
                  have hxc9 := (hB9.block _ (by omega)).trans hxc
                  have hw59 := ext_trans (ext_trans hB8 hBc) hB9
                  go_wp2_with fail
                  go_loopw [20, 132] (fun own i wr => Words3 l x w9 own i wr) (fun _ i _ => l.length - (intOf i).toNat)
                  case atStart => exact ⟨0, Nat.zero_le _, rfl, OwnL.nil _ _ _ _ _, Below.refl _ _⟩
                  case round =>
                    obtain ⟨k, hk, rfl, hown, hBi⟩ := hrel
                    by_cases hlt : k < l.length
                    · obtain ⟨b, off, rfl, hb, hc⟩ := Hr.out.elem Change.size_cells (by omega) hlt
                      have hw := ext_trans hB5 (ext_trans hw59 hBi)
                      have d0 := (hw.cell (p := ⟨b, off + k * 5 + 0, none⟩) hb).trans (hc 0 _ rfl)
                      have d1 := (hw.cell (p := ⟨b, off + k * 5 + 1, none⟩) hb).trans (hc 1 _ rfl)
                      have d2 := (hw.cell (p := ⟨b, off + k * 5 + 2, none⟩) hb).trans (hc 2 _ rfl)
                      have d3 := (hw.cell (p := ⟨b, off + k * 5 + 3, none⟩) hb).trans (hc 3 _ rfl)
                      have d4 := (hw.cell (p := ⟨b, off + k * 5 + 4, none⟩) hb).trans (hc 4 _ rfl)
                      simp only [Nat.add_zero] at d0
                      have hoc := ownC_succ x l k hlt
                      have hol := ownC_len x l k
                      clear hc
                      by_cases hid : l[k].spot.id = x
                      · rw [if_pos hid] at hoc
                        generalize l[k] = d at *
                        have g1 : (d.spot.id == x) = true := by simpa using hid
                        have A1' : (ownC x (l.take k)).length + 1 ≤ maxLen := len_nat (by omega)
                        have A2' : ((ownC x (l.take k)).length + 1) * 48 ≤ 140737488355328 := bytes_nat (by omega)
                        have A3' : w9.heap.size ≤ ((wr.alloc (.cells #[.int .i64 d.at_, .int .i64 d.kind, .int .i64 d.spot.id, .int .i64 d.spot.ver, .string d.spot.text] 26)).alloc (.cells #[.int .i64 d.at_, .int .i64 d.kind, .int .i64 d.spot.id, .int .i64 d.spot.ver, .string d.spot.text] 26)).heap.size := by have := hBi.size; simp; omega
                        have ho : wr.ownsRow w9.heap.size 26 5 _ (ownC x (l.take k)).length ((ownC x (l.take k)).flatMap Change.cells) := hown
                        have Hoc := Lib.hid hoc
                        clear hid hoc hown
                        go_wp2_with (at_builtin; refine wpList_append_own _ rfl _ _ 35 rfl w9.heap.size 26 i0 z 5 48 Tryd.underlying35 hi0 iz0 is0 ib0 izs (by decide) _ _ _ rfl ((ho.alloc _).alloc _) _ _ _ [.int .i64 d.at_, .int .i64 d.kind, .int .i64 d.spot.id, .int .i64 d.spot.ver, .string d.spot.text] rfl rfl (cells_new2 wr _ [.int .i64 d.at_, .int .i64 d.kind, .int .i64 d.spot.id, .int .i64 d.spot.ver, .string d.spot.text] _) (change_one d) A1' A2' A3' ?_; intro v5 w10 hown6 hgrow6 _)
                        have hB10 : Below w9.heap.size w9 w10 := (ext_alloc (ext_alloc hBi _) _).grown hgrow6 A3' (fun k hk => (ho.lt k hk).1)
                        go_roundw
                        case rel => exact ⟨k + 1, by omega, by go_num, by rw [Hoc.out]; exact OwnL.snoc d hown6, hB10⟩
                        case measure => simp [intOf]; omega
                      · rw [if_neg hid] at hoc
                        generalize l[k] = d at *
                        have g1 : (d.spot.id == x) = false := by simpa using hid
                        have Hoc := Lib.hid hoc
                        have Hown := Lib.hid hown
                        clear hid hoc hown
                        go_wp2_with fail
                        go_roundw
                        case rel => exact ⟨k + 1, by omega, by go_num, by rw [Hoc.out]; exact Hown.out.block (fun g hg => Below.heap_alloc _ _ _ (by have := (Hown.out.lt g hg).2; omega)), ext_alloc hBi _⟩
                        case measure => simp [intOf]; omega
                    · obtain rfl : k = l.length := by omega
                      rw [List.take_length] at hown
                      obtain ⟨A6, c6, rfl, hrd6, _⟩ := OwnL.form (by omega) hown
                      have hol : (ownC x l).length ≤ 9223372036854775807 := by have := List.length_filter_le (fun c : Change => c.spot.id == x) l; show (List.filter _ l).length ≤ _; omega
                      have hw := ext_trans hB5 (ext_trans hw59 hBi)
                      have hxc10 := (hBi.block _ (by omega)).trans hxc9
                      obtain ⟨lo, hlo⟩ : ∃ lo, ownC x l = lo := ⟨_, rfl⟩
                      rw [hlo] at hrd6 hol
                      have hpl2 := Hpl2.out
                      rw [hlo] at hpl2
                      have HPL := Lib.hid hpl2
                      have HLO := Lib.hid hlo
                      rw [hlo]
                      clear hown hlo hlt hk hpl2
                      go_wp2_with fail
                      refine (Play_ok A6 lo.length c6 lo t wr (utf_ext HT.out hw) hrd6 rfl hol HPL.out.1 [] HPL.out.2).mono ?_
                      rintro e w10 ⟨hb10, A7, c7, rfl, hrd7, _, _⟩
                      have hBi10 := ext_trans hBi hb10
                      have hxc11 := (hBi10.block _ (by omega)).trans hxc9
                      have z1 := cell_blk hxc11 1
                      have z2 := cell_blk hxc11 2
                      have z3 := cell_blk hxc11 3
                      have z4 := cell_blk hxc11 4
                      rw [Hk2.out] at z1
                      go_wp2_with fail
                      go_still (by kernel_rfl)
                      go_wp2_with fail
                      have hrgF := (hrg9.kept (below_grownBy hBi10 none) (by simp) (by simp)).kept (below_grownBy ((Below.refl w10.heap.size w10).drew) none) (by simp) (by simp)
                      have hBF := (ext_trans hw59 hBi10).drew
                      go_roundw
                      case rel => exact ⟨_, cnt1, hrgF, hBF⟩
                      case measure => exact Nat.lt_of_le_of_lt (Nat.le_of_eq hrgF.left_eq) (Nat.lt_of_lt_of_le Hlt1.out (Nat.le_of_eq Hrl.out.symm))
                · obtain ⟨kf, hfr⟩ : ∃ kf : Nat, findR l1 x = kf := by
                    have hg := Hget.out
                    unfold madeG at hg
                    rw [if_neg hk2] at hg
                    rcases findR_get l1 x with ⟨k, hk, h1, _⟩ | ⟨_, h2⟩
                    · exact ⟨k, h1⟩
                    · rw [hg] at h2; cases h2
                  have hpl1 : ((some c : Option Change).bind madeG).toList = [c.spot] := by simp [madeG, hk2]
                  have hpl2 := Hpl.out
                  rw [hpl1] at hpl2
                  have Hpl2 := Lib.hid hpl2
                  rw [hfr] at hcN
                  have y1 : ∀ p : ExtBy wc, p.to.cell? ⟨w8.heap.size, 1, none⟩ = some (.int .i64 c.kind) := fun p => cell_ext (show w8.heap.size < wc.heap.size by omega) (cell_blk hxc 1) p
                  have cN := Lib.hid hcN
                  have Hk2 : (c.kind == 2) = false := by simpa using hk2
                  have Hk3 : (c.kind != 2) = true := by simpa using hk2
                  clear hcN hfr hpl1 hpl2 hk2
                  go_wp2_with fail
                  refine wp_region_ext (by kernel_rfl) (by kernel_rfl) ?_
                  repeat (quiet_step ((go_at_call 28; exact Calls.ext_same (cN.out _))))
                  refine wpQuiet_nil ?_
                  intro _ hw'
                  obtain ⟨p9, rfl⟩ := hw'
                  obtain ⟨w9, hw9⟩ : ∃ w9, w9 = p9.to := ⟨_, rfl⟩
                  have hB9 : Below wc.heap.size wc w9 := by rw [hw9]; exact p9.ext
                  rw [← hw9]
                  clear hw9 y1 cN
                  have hz9 := hB9.size
                  have hrg9 := hrgc.kept (below_grownBy hB9 none) (by simp) (by simp)
                  have hxc9 := (hB9.block _ (by omega)).trans hxc
                  have hw59 := ext_trans (ext_trans hB8 hBc) hB9
                  go_wp2_with fail
                  go_loopw [20, 132] (fun own i wr => Words3 l x w9 own i wr) (fun _ i _ => l.length - (intOf i).toNat)
                  case atStart => exact ⟨0, Nat.zero_le _, rfl, OwnL.nil _ _ _ _ _, Below.refl _ _⟩
                  case round =>
                    obtain ⟨k, hk, rfl, hown, hBi⟩ := hrel
                    by_cases hlt : k < l.length
                    · obtain ⟨b, off, rfl, hb, hc⟩ := Hr.out.elem Change.size_cells (by omega) hlt
                      have hw := ext_trans hB5 (ext_trans hw59 hBi)
                      have d0 := (hw.cell (p := ⟨b, off + k * 5 + 0, none⟩) hb).trans (hc 0 _ rfl)
                      have d1 := (hw.cell (p := ⟨b, off + k * 5 + 1, none⟩) hb).trans (hc 1 _ rfl)
                      have d2 := (hw.cell (p := ⟨b, off + k * 5 + 2, none⟩) hb).trans (hc 2 _ rfl)
                      have d3 := (hw.cell (p := ⟨b, off + k * 5 + 3, none⟩) hb).trans (hc 3 _ rfl)
                      have d4 := (hw.cell (p := ⟨b, off + k * 5 + 4, none⟩) hb).trans (hc 4 _ rfl)
                      simp only [Nat.add_zero] at d0
                      have hoc := ownC_succ x l k hlt
                      have hol := ownC_len x l k
                      clear hc
                      by_cases hid : l[k].spot.id = x
                      · rw [if_pos hid] at hoc
                        generalize l[k] = d at *
                        have g1 : (d.spot.id == x) = true := by simpa using hid
                        have A1' : (ownC x (l.take k)).length + 1 ≤ maxLen := len_nat (by omega)
                        have A2' : ((ownC x (l.take k)).length + 1) * 48 ≤ 140737488355328 := bytes_nat (by omega)
                        have A3' : w9.heap.size ≤ ((wr.alloc (.cells #[.int .i64 d.at_, .int .i64 d.kind, .int .i64 d.spot.id, .int .i64 d.spot.ver, .string d.spot.text] 26)).alloc (.cells #[.int .i64 d.at_, .int .i64 d.kind, .int .i64 d.spot.id, .int .i64 d.spot.ver, .string d.spot.text] 26)).heap.size := by have := hBi.size; simp; omega
                        have ho : wr.ownsRow w9.heap.size 26 5 _ (ownC x (l.take k)).length ((ownC x (l.take k)).flatMap Change.cells) := hown
                        have Hoc := Lib.hid hoc
                        clear hid hoc hown
                        go_wp2_with (at_builtin; refine wpList_append_own _ rfl _ _ 35 rfl w9.heap.size 26 i0 z 5 48 Tryd.underlying35 hi0 iz0 is0 ib0 izs (by decide) _ _ _ rfl ((ho.alloc _).alloc _) _ _ _ [.int .i64 d.at_, .int .i64 d.kind, .int .i64 d.spot.id, .int .i64 d.spot.ver, .string d.spot.text] rfl rfl (cells_new2 wr _ [.int .i64 d.at_, .int .i64 d.kind, .int .i64 d.spot.id, .int .i64 d.spot.ver, .string d.spot.text] _) (change_one d) A1' A2' A3' ?_; intro v5 w10 hown6 hgrow6 _)
                        have hB10 : Below w9.heap.size w9 w10 := (ext_alloc (ext_alloc hBi _) _).grown hgrow6 A3' (fun k hk => (ho.lt k hk).1)
                        go_roundw
                        case rel => exact ⟨k + 1, by omega, by go_num, by rw [Hoc.out]; exact OwnL.snoc d hown6, hB10⟩
                        case measure => simp [intOf]; omega
                      · rw [if_neg hid] at hoc
                        generalize l[k] = d at *
                        have g1 : (d.spot.id == x) = false := by simpa using hid
                        have Hoc := Lib.hid hoc
                        have Hown := Lib.hid hown
                        clear hid hoc hown
                        go_wp2_with fail
                        go_roundw
                        case rel => exact ⟨k + 1, by omega, by go_num, by rw [Hoc.out]; exact Hown.out.block (fun g hg => Below.heap_alloc _ _ _ (by have := (Hown.out.lt g hg).2; omega)), ext_alloc hBi _⟩
                        case measure => simp [intOf]; omega
                    · obtain rfl : k = l.length := by omega
                      rw [List.take_length] at hown
                      obtain ⟨A6, c6, rfl, hrd6, _⟩ := OwnL.form (by omega) hown
                      have hol : (ownC x l).length ≤ 9223372036854775807 := by have := List.length_filter_le (fun c : Change => c.spot.id == x) l; show (List.filter _ l).length ≤ _; omega
                      have hw := ext_trans hB5 (ext_trans hw59 hBi)
                      have hxc10 := (hBi.block _ (by omega)).trans hxc9
                      obtain ⟨lo, hlo⟩ : ∃ lo, ownC x l = lo := ⟨_, rfl⟩
                      rw [hlo] at hrd6 hol
                      have hpl2 := Hpl2.out
                      rw [hlo] at hpl2
                      have HPL := Lib.hid hpl2
                      have HLO := Lib.hid hlo
                      rw [hlo]
                      clear hown hlo hlt hk hpl2
                      go_wp2_with fail
                      refine (Play_ok A6 lo.length c6 lo t wr (utf_ext HT.out hw) hrd6 rfl hol HPL.out.1 [c.spot] HPL.out.2).mono ?_
                      rintro e w10 ⟨hb10, A7, c7, rfl, hrd7, _, _⟩
                      have hBi10 := ext_trans hBi hb10
                      have hxc11 := (hBi10.block _ (by omega)).trans hxc9
                      have z1 := cell_blk hxc11 1
                      have z2 := cell_blk hxc11 2
                      have z3 := cell_blk hxc11 3
                      have z4 := cell_blk hxc11 4
                      obtain ⟨b7, off7, rfl, hb7, hc7⟩ := hrd7.elem Spot.size_cells (by simp) (show 0 < [c.spot].length by simp)
                      have x0 := hc7 0 _ rfl
                      have x1 := hc7 1 _ rfl
                      have x2 := hc7 2 _ rfl
                      simp only [Nat.zero_mul, Nat.add_zero, List.getElem_cons_zero] at x0 x1 x2
                      have hq : ∀ w, (Op.equalIn 10000 24 (.agg #[.int .i64 c.spot.id, .int .i64 c.spot.ver, .string c.spot.text]) (.agg #[.int .i64 c.spot.id, .int .i64 c.spot.ver, .string c.spot.text])).run Tryd.prog w = .ok true w := fun w => by rw [run_equalIn_spot]; simp
                      clear hc7
                      go_wp2_with fail
                      go_still (by kernel_rfl)
                      go_wp2_with fail
                      have hrgF := (hrg9.kept (below_grownBy hBi10 none) (by simp) (by simp)).kept (below_grownBy ((Below.refl w10.heap.size w10).drew) none) (by simp) (by simp)
                      have hBF := (ext_trans hw59 hBi10).drew
                      go_roundw
                      case rel => exact ⟨_, cnt1, hrgF, hBF⟩
                      case measure => exact Nat.lt_of_le_of_lt (Nat.le_of_eq hrgF.left_eq) (Nat.lt_of_lt_of_le Hlt1.out (Nat.le_of_eq Hrl.out.symm))
  · have E1 := Lib.hid e1
    have n1 : (playE l t == 0) = false := by simpa using e1
    have n1' : (playE l t != 0) = true := by simpa using e1
    clear e1
    go_wp2_with fail
    refine (Play_bad A l.length cp l t w1 (utf_ext HT.out hB1) (Hr.out.ext hB1) rfl hm E1.out).mono ?_
    rintro e w2 ⟨rfl, hb2⟩
    have hB2 := ext_trans hB1 hb2
    go_wp2_with fail
    refine (Wd_bad A cp l t w2 (utf_ext HT.out hB2) (Hr.out.ext hB2) hm E1.out).mono ?_
    rintro e w3 ⟨rfl, hb3⟩
    have hB3 := ext_trans hB2 hb3
    go_wp2_with fail
    go_ret
    exact ⟨by simp, hB3⟩
end Go.Proofs.YtneanannicacnaaDoor
