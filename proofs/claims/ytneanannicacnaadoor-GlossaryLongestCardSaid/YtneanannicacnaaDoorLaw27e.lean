/- GlossaryLongest. -/
import Derived.Test.YtneanannicacnaaDoorLaw27c
namespace Go.Proofs.YtneanannicacnaaDoor
open Go.RowKit Go.Han
attribute [local irreducible] wpStill wpQuiet
set_option maxRecDepth 100000

/-! ### plain -/
def mostStep (ws : List ByteArray) (m : Nat) (x : Term) : Nat := if startB x ws = true then max m x.src.xs.length else m
def mostL (ws : List ByteArray) (p : List Term) : Nat := p.foldl (mostStep ws) 0
theorem mostL_succ (ws : List ByteArray) (l : List Term) (k : Nat) (h : k < l.length) : mostL ws (l.take (k + 1)) = mostStep ws (mostL ws (l.take k)) l[k] := by
  unfold mostL
  rw [List.take_succ_eq_append_getElem h, List.foldl_append]; rfl
theorem most_le (ws : List ByteArray) (B : Nat) : ∀ (p : List Term) (m : Nat), m ≤ B → (∀ x ∈ p, x.src.xs.length ≤ B) → p.foldl (mostStep ws) m ≤ B
  | [], m, h, _ => h
  | x :: p, m, h, hx => by
    refine most_le ws B p _ ?_ (fun y hy => hx y (by simp [hy]))
    unfold mostStep
    have := hx x (by simp)
    split <;> omega
def LongP (ws : List ByteArray) (p : List Term) (o : Option Term) : Prop := match o with | none => mostL ws p = 0 | some b => mostL ws p = b.src.xs.length ∧ b ∈ p ∧ startB b ws = true ∧ 1 ≤ b.src.xs.length
theorem long_snoc (ws : List ByteArray) (p : List Term) (x : Term) (h1 : 1 ≤ x.src.xs.length) (h : LongP ws p (bestF p ws)) : LongP ws (p ++ [x]) (bestF (p ++ [x]) ws) := by
  rw [bestF_snoc]
  have e : mostL ws (p ++ [x]) = mostStep ws (mostL ws p) x := by unfold mostL; rw [List.foldl_append]; rfl
  unfold bestStep
  by_cases hs : startB x ws = true
  · rw [hs, Bool.true_and]
    unfold mostStep at e
    rw [if_pos hs] at e
    cases ho : bestF p ws with
    | none =>
      rw [ho] at h
      change mostL ws p = 0 at h
      refine ⟨?_, by simp, hs, h1⟩
      rw [e, h]; omega
    | some b =>
      rw [ho] at h
      obtain ⟨h2, h3, h4, h5⟩ := h
      by_cases hb : b.src.xs.length < x.src.xs.length
      · have hb2 : betterB (some b) x = true := decide_eq_true hb
        rw [if_pos hb2]
        exact ⟨by rw [e, h2]; omega, by simp, hs, h1⟩
      · have hb2 : ¬ betterB (some b) x = true := by show ¬ decide _ = true; simpa using hb
        rw [if_neg hb2]
        exact ⟨by rw [e, h2]; omega, by simp [h3], h4, h5⟩
  · have hs2 : startB x ws = false := by simpa using hs
    unfold mostStep at e
    rw [if_neg hs] at e
    rw [hs2, Bool.false_and, if_neg (by simp)]
    cases ho : bestF p ws with
    | none => rw [ho] at h; exact e.trans h
    | some b =>
      rw [ho] at h
      obtain ⟨h2, h3, h4, h5⟩ := h
      exact ⟨e.trans h2, by simp [h3], h4, h5⟩
theorem long_take (ws : List ByteArray) (S : List Term) (h1 : ∀ x ∈ S, 1 ≤ x.src.xs.length) : ∀ k, k ≤ S.length → LongP ws (S.take k) (bestF (S.take k) ws)
  | 0, _ => rfl
  | k + 1, hk => by
    rw [List.take_succ_eq_append_getElem (by omega)]
    exact long_snoc ws _ _ (h1 _ (List.getElem_mem _)) (long_take ws S h1 k (by omega))
theorem long_all (ws : List ByteArray) (S : List Term) (h1 : ∀ x ∈ S, 1 ≤ x.src.xs.length) : LongP ws S (bestF S ws) := by
  have := long_take ws S h1 S.length (Nat.le_refl _)
  rwa [List.take_length] at this
def inB (ws : List ByteArray) (no : Int) (m : Nat) (x : Term) : Bool := decide (x.no = no) && startB x ws && decide (x.src.xs.length = m)
theorem long_found (ws : List ByteArray) (S : List Term) (h1 : ∀ x ∈ S, 1 ≤ x.src.xs.length) : (foundV (bestF S ws) = .tuple #[.int .i64 0, .bool false, .int .i64 0] ∧ mostL ws S = 0) ∨
    (∃ no, foundV (bestF S ws) = .tuple #[.int .i64 no, .bool true, .int .i64 0] ∧ 0 < mostL ws S ∧ S.any (inB ws no (mostL ws S)) = true) := by
  have h := long_all ws S h1
  cases ho : bestF S ws with
  | none => rw [ho] at h; exact .inl ⟨rfl, h⟩
  | some b =>
    rw [ho] at h
    obtain ⟨h2, h3, h4, h5⟩ := h
    refine .inr ⟨b.no, rfl, by omega, List.any_eq_true.2 ⟨b, h3, ?_⟩⟩
    simp [inB, h4, h2]

theorem isAt_at (x : Term) (s : StrS) (i : Nat) (w : World) (hx : x.lies w) (hs : s.lies w) (hi : i ≤ s.xs.length) : Calls Tryd.prog 45 #[.agg #[.int .i64 x.no, .int .i64 x.at_, .int .i64 x.known, .int .i64 x.lang, .slice x.src.addr x.src.xs.length x.src.cap, .slice x.tgt.addr x.tgt.xs.length x.tgt.cap, .string x.cat, .bool x.gone], .slice s.addr s.xs.length s.cap, .int .i64 i] w fun e w' => e = .returned (.bool (startB x (s.xs.drop i))) ∧ Below w.heap.size w w' := isAt_any x s i w hx hs hi

set_option maxHeartbeats 16000000 in
theorem GlossaryLongest_any (A : Option Addr) (cp : Nat) (l : List Term) (lang : Int) (s : StrS) (i t u : Int) (w : World) (hU : Tabs w) (hr : TermsAt w A l) (hs : s.lies w) (hm : l.length ≤ 9223372036854775807) :
    Calls Tryd.prog 14 #[.slice A l.length cp, .int .i64 lang, .slice s.addr s.xs.length s.cap, .int .i64 i, .int .i64 t, .int .i64 u] w fun e w' => e = .returned (.bool true) ∧ Below w.heap.size w w' := by
  have hmax := Nat.le_trans hs.cap hs.max
  have Hr := Lib.hid hr
  have Hs := Lib.hid hs
  have HU := Lib.hid hU
  have Hm := Lib.hid hm
  have cs := sane27_any w hU
  have cf := Lib.hid (fun w => fewT_any A cp l w hm)
  generalize (decide (l.length ≤ 30) || (decide (1024 < l.length) && decide (l.length ≤ 1100))) = q at *
  clear hr hs hU
  go_enter Tryd.func14, Tryd.ntmps14
  go_wp2_with fail
  refine cs.mono ?_
  rintro e w1 ⟨rfl, hb1⟩
  have HB1 := Lib.hid hb1
  clear cs hb1
  go_wp2_with fail
  refine (cf.out _).mono ?_
  rintro e w' ⟨rfl, rfl⟩
  cases q
  · go_wp2_with fail
    go_ret
    exact ⟨rfl, HB1.out⟩
  by_cases hbig : s.xs.length > 1000
  · have g1 : decide ((s.xs.length : Int) > 1000) = true := decide_eq_true (by omega)
    have g2 : decide (1000 < s.xs.length) = true := decide_eq_true hbig
    have g3 : 1000 < s.xs.length := hbig
    go_wp2_with fail
    go_ret
    exact ⟨rfl, HB1.out⟩
  have g1 : decide ((s.xs.length : Int) > 1000) = false := decide_eq_false (by omega)
  have g2 : decide (1000 < s.xs.length) = false := decide_eq_false hbig
  have g3 : ¬ 1000 < s.xs.length := hbig
  clear hbig
  go_wp2_with fail
  refine (Find_any A cp l lang s i t u w1 (utf_ext HU.out HB1.out) (Hr.out.ext HB1.out) (Hs.out.ext HB1.out) Hm.out).mono ?_
  rintro e w2 ⟨rfl, hb2⟩
  have HB2 := Lib.hid (ext_trans HB1.out hb2)
  clear hb2
  by_cases hE : findE l lang s.xs.length i t u ≠ 0
  · have hV : findV l lang s.xs i t u = .tuple #[.int .i64 0, .bool false, .int .i64 (findE l lang s.xs.length i t u)] := by unfold findV; rw [if_pos hE]
    have n1 : (findE l lang s.xs.length i t u == 0) = false := by simpa using hE
    have n2 : (findE l lang s.xs.length i t u != 0) = true := by simpa using hE
    rw [hV]
    clear hE hV
    go_wp2_with fail
    go_ret
    exact ⟨by first | rfl | (simp; done), HB2.out⟩
  have hE0 := Decidable.not_not.1 hE
  have hV : findV l lang s.xs i t u = foundV (bestF (standT l lang t u) (s.xs.drop i.toNat)) := by unfold findV; rw [if_neg hE]
  have hz : standE l lang t u = 0 := by
    unfold findE at hE0
    by_cases h : standE l lang t u = 0
    · exact h
    · rw [if_pos h] at hE0; exact absurd hE0 h
  have hi : ¬ (i < 0 ∨ (s.xs.length : Int) < i) := by
    intro h
    unfold findE at hE0
    rw [if_neg (by simpa using hz), if_pos h] at hE0
    cases hE0
  have hso : standOut l lang t u = standT l lang t u := by unfold standOut; rw [if_pos hz]
  obtain ⟨hl1, hok, _⟩ := checkT_zero (standE_zero hz).1
  obtain ⟨S, hS⟩ : ∃ S, standT l lang t u = S := ⟨_, rfl⟩
  have hSl : ∀ x ∈ S, x ∈ l := by rw [← hS]; exact fun x hx => (List.mem_filter.1 hx).1
  have hSm : S.length ≤ 1024 := by rw [← hS]; exact Nat.le_trans (List.length_filter_le _ _) hl1
  have h1s : ∀ x ∈ S, 1 ≤ x.src.xs.length := fun x hx => (ok_src (hok x (hSl x hx))).1
  have h4s : ∀ x ∈ S, x.src.xs.length ≤ 4 := fun x hx => (ok_src (hok x (hSl x hx))).2.1
  obtain ⟨ii, rfl⟩ : ∃ ii : Nat, i = ii := ⟨i.toNat, by omega⟩
  have hil : ii ≤ s.xs.length := by omega
  have g5 : decide (s.xs.length < ii) = false := decide_eq_false (by omega)
  have g6 : ¬ s.xs.length < ii := by omega
  have hti : ((ii : Int)).toNat = ii := by omega
  rw [hS, hti] at hV
  obtain ⟨ws, hws⟩ : ∃ ws, s.xs.drop ii = ws := ⟨_, rfl⟩
  rw [hws] at hV
  have hfd := long_found ws S h1s
  have hmle := fun k => most_le ws 4 (S.take k) 0 (by omega) (fun x hx => h4s x (List.mem_of_mem_take hx))
  have hform : ∃ no ok, findV l lang s.xs ii t u = .tuple #[.int .i64 no, .bool ok, .int .i64 0] ∧ ((ok = false ∧ no = 0 ∧ mostL ws S = 0) ∨ (ok = true ∧ 0 < mostL ws S ∧ S.any (inB ws no (mostL ws S)) = true)) := by
    rcases hfd with ⟨h1, h2⟩ | ⟨no, h1, h2, h3⟩
    · exact ⟨0, false, hV.trans h1, .inl ⟨rfl, rfl, h2⟩⟩
    · exact ⟨no, true, hV.trans h1, .inr ⟨rfl, h2, h3⟩⟩
  obtain ⟨no, ok, hV2, hfin⟩ := hform
  have cSt := Lib.hid (Standing_any A cp l lang t u w2 (utf_ext HU.out HB2.out) (Hr.out.ext HB2.out) Hm.out)
  have HZ := Lib.hid (And.intro hz (And.intro hso hS))
  have Hfin := Lib.hid hfin
  have Hws := Lib.hid hws
  have Hmle := Lib.hid hmle
  have Hh4 := Lib.hid h4s
  rw [hV2]
  clear hE hE0 hV hV2 hi hso hok hSl h1s h4s hti hfd hmle hfin hz hS hws
  go_wp2_with fail
  refine cSt.out.mono ?_
  intro e w3 h3
  obtain ⟨hb3, A2, c2, rfl, hT2, hN2⟩ := standPost_out h3
  have HB3 := Lib.hid (ext_trans HB2.out hb3)
  rw [HZ.out.2.1, HZ.out.2.2] at hT2 ⊢
  rw [HZ.out.1]
  have HT3 := Lib.hid hT2
  clear h3 hN2 hb3 hT2 cSt
  go_wp2_with fail
  go_loopw [18, 20] (fun m j wr => ∃ n m0 : Nat, n ≤ S.length ∧ j = .int .i64 n ∧ m = .int .i64 m0 ∧ Hid (mostL ws (S.take n) = m0) ∧ Below w3.heap.size w3 wr) (fun _ j _ => S.length - (intOf j).toNat)
  case atStart => exact ⟨0, 0, Nat.zero_le _, rfl, rfl, rfl, Below.refl _ _⟩
  case round =>
    obtain ⟨n, m0, hn, rfl, rfl, hm0, hB⟩ := hrel
    by_cases hnl : n < S.length
    · obtain ⟨b, off, rfl, hb, hcl⟩ := HT3.out.at_ hnl
      obtain ⟨d0, d1, d2, d3, d4, d5, d6, d7⟩ := hcl n hnl wr hB
      have hxl := (HT3.out.lie _ (List.getElem_mem hnl)).ext hB
      have hms := mostL_succ ws S n hnl
      have hz4 := Hh4.out _ (List.getElem_mem hnl)
      have hm4 := Hmle.out n
      change mostL ws (S.take n) ≤ 4 at hm4
      rw [hm0.out] at hms hm4
      have hbw : b < wr.heap.size := Nat.lt_of_lt_of_le hb hB.size
      generalize S[n] = z at *
      have Hms := Lib.hid hms
      have cI := isAt_at z s ii wr hxl (Hs.out.ext (ext_trans HB3.out hB)) hil
      rw [Hws.out] at cI
      obtain ⟨qs, hqs⟩ : ∃ qs, startB z ws = qs := ⟨_, rfl⟩
      rw [hqs] at cI
      have CI := Lib.hid cI
      have Hqs := Lib.hid hqs
      clear cI hqs hxl hcl hms hm0
      go_wp2_with fail
      refine CI.out.mono ?_
      rintro e w6 ⟨rfl, hb6⟩
      have e0 := (hb6.cell (p := ⟨b, off + n * 8, none⟩) hbw).trans d0
      have e1 := (hb6.cell (p := ⟨b, off + n * 8 + 1, none⟩) hbw).trans d1
      have e2 := (hb6.cell (p := ⟨b, off + n * 8 + 2, none⟩) hbw).trans d2
      have e3 := (hb6.cell (p := ⟨b, off + n * 8 + 3, none⟩) hbw).trans d3
      have e4 := (hb6.cell (p := ⟨b, off + n * 8 + 4, none⟩) hbw).trans d4
      have e5 := (hb6.cell (p := ⟨b, off + n * 8 + 5, none⟩) hbw).trans d5
      have e6 := (hb6.cell (p := ⟨b, off + n * 8 + 6, none⟩) hbw).trans d6
      have e7 := (hb6.cell (p := ⟨b, off + n * 8 + 7, none⟩) hbw).trans d7
      cases qs
      · have HN : Hid (mostL ws (S.take (n + 1)) = m0) := by show _ = _; rw [Hms.out]; unfold mostStep; rw [Hqs.out]; rfl
        go_wp2_with fail
        go_roundw
        case rel => exact ⟨n + 1, m0, by omega, by go_num, rfl, HN, ext_trans hB hb6⟩
        case measure => simp [intOf]; omega
      · have HN : Hid (mostL ws (S.take (n + 1)) = max m0 z.src.xs.length) := by show _ = _; rw [Hms.out]; unfold mostStep; rw [Hqs.out]; rfl
        go_wp2_with fail
        go_roundw
        case rel => exact ⟨n + 1, max m0 z.src.xs.length, by omega, by go_num, by first | rfl | (congr 1; omega) | (simp; omega), HN, ext_trans hB hb6⟩
        case measure => simp [intOf]; omega
    · obtain rfl : n = S.length := by omega
      have hm2 := hm0.out
      rw [List.take_length] at hm2
      have hm4 := Hmle.out S.length
      rw [List.take_length] at hm4
      change mostL ws S ≤ 4 at hm4
      have hfin := Hfin.out
      rw [hm2] at hfin hm4
      have HF := Lib.hid hfin
      obtain ⟨wo, hwo⟩ : ∃ wo, wo = wr := ⟨_, rfl⟩
      rw [← hwo] at hB ⊢
      have HBo := Lib.hid (ext_trans HB3.out hB)
      have HTo := Lib.hid (HT3.out.ext hB)
      clear hm0 hm2 hfin Hfin hwo hnl hn hB HT3
      go_wp2_with fail
      go_loopw [19, 21] (fun q j wr => ∃ (n : Nat) (qi : Bool), n ≤ S.length ∧ j = .int .i64 n ∧ q = .bool qi ∧ Hid ((S.take n).any (inB ws no m0) = qi) ∧ Below wo.heap.size wo wr) (fun _ j _ => S.length - (intOf j).toNat)
      case atStart => exact ⟨0, false, Nat.zero_le _, rfl, rfl, rfl, Below.refl _ _⟩
      case round =>
        obtain ⟨n, qi, hn, rfl, rfl, hqi, hB⟩ := hrel
        by_cases hnl : n < S.length
        · obtain ⟨b, off, rfl, hb, hcl⟩ := HTo.out.at_ hnl
          obtain ⟨d0, d1, d2, d3, d4, d5, d6, d7⟩ := hcl n hnl wr hB
          have hxl := (HTo.out.lie _ (List.getElem_mem hnl)).ext hB
          have hbw : b < wr.heap.size := Nat.lt_of_lt_of_le hb hB.size
          have hsn : (S.take (n + 1)).any (inB ws no m0) = (qi || inB ws no m0 S[n]) := by
            rw [List.take_succ_eq_append_getElem hnl, List.any_append, hqi.out]; simp
          have hz4 := Hh4.out _ (List.getElem_mem hnl)
          generalize S[n] = z at *
          have Hsn := Lib.hid hsn
          have cI := isAt_at z s ii wr hxl (Hs.out.ext (ext_trans HBo.out hB)) hil
          rw [Hws.out] at cI
          obtain ⟨qs, hqs⟩ : ∃ qs, startB z ws = qs := ⟨_, rfl⟩
          rw [hqs] at cI
          have CI := Lib.hid cI
          have Hqs := Lib.hid hqs
          clear cI hqs hxl hcl hsn hqi
          cases qi
          · by_cases hno : z.no = no
            · have k1 : (z.no == no) = true := by simpa using hno
              have Hno := Lib.hid hno
              clear hno
              cases qs
              · have HN : Hid ((S.take (n + 1)).any (inB ws no m0) = false) := by show _ = _; rw [Hsn.out]; unfold inB; rw [Hqs.out]; simp
                go_wp2_with fail
                refine CI.out.mono ?_
                rintro e w6 ⟨rfl, hb6⟩
                go_wp2_with fail
                go_roundw
                case rel => exact ⟨n + 1, false, by omega, by go_num, rfl, HN, ext_trans hB hb6⟩
                case measure => simp [intOf]; omega
              · obtain ⟨qe, hqe⟩ : ∃ qe, decide (z.src.xs.length = m0) = qe := ⟨_, rfl⟩
                have HN : Hid ((S.take (n + 1)).any (inB ws no m0) = qe) := by show _ = _; rw [Hsn.out]; unfold inB; rw [Hqs.out, hqe, decide_eq_true Hno.out]; simp
                have k2 : ((z.src.xs.length : Int) == (m0 : Int)) = qe := by rw [← hqe]; by_cases h : z.src.xs.length = m0 <;> simp [h]; omega
                have k3 : (z.src.xs.length == m0) = qe := by rw [← hqe]; by_cases h : z.src.xs.length = m0 <;> simp [h]
                clear hqe
                go_wp2_with fail
                refine CI.out.mono ?_
                rintro e w6 ⟨rfl, hb6⟩
                have e0 := (hb6.cell (p := ⟨b, off + n * 8, none⟩) hbw).trans d0
                have e1 := (hb6.cell (p := ⟨b, off + n * 8 + 1, none⟩) hbw).trans d1
                have e2 := (hb6.cell (p := ⟨b, off + n * 8 + 2, none⟩) hbw).trans d2
                have e3 := (hb6.cell (p := ⟨b, off + n * 8 + 3, none⟩) hbw).trans d3
                have e4 := (hb6.cell (p := ⟨b, off + n * 8 + 4, none⟩) hbw).trans d4
                have e5 := (hb6.cell (p := ⟨b, off + n * 8 + 5, none⟩) hbw).trans d5
                have e6 := (hb6.cell (p := ⟨b, off + n * 8 + 6, none⟩) hbw).trans d6
                have e7 := (hb6.cell (p := ⟨b, off + n * 8 + 7, none⟩) hbw).trans d7
                go_wp2_with fail
                go_roundw
                case rel => exact ⟨n + 1, qe, by omega, by go_num, rfl, HN, ext_trans hB hb6⟩
                case measure => simp [intOf]; omega
            · have k1 : (z.no == no) = false := by simpa using hno
              have HN : Hid ((S.take (n + 1)).any (inB ws no m0) = false) := by show _ = _; rw [Hsn.out]; unfold inB; rw [decide_eq_false hno]; simp
              clear hno
              go_wp2_with fail
              go_roundw
              case rel => exact ⟨n + 1, false, by omega, by go_num, rfl, HN, hB⟩
              case measure => simp [intOf]; omega
          · have HN : Hid ((S.take (n + 1)).any (inB ws no m0) = true) := by show _ = _; rw [Hsn.out]; rfl
            go_wp2_with fail
            go_roundw
            case rel => exact ⟨n + 1, true, by omega, by go_num, rfl, HN, hB⟩
            case measure => simp [intOf]; omega
        · obtain rfl : n = S.length := by omega
          have hq2 := hqi.out
          rw [List.take_length] at hq2
          rcases HF.out with ⟨rfl, rfl, rfl⟩ | ⟨rfl, h1, h2⟩
          · clear hqi hq2
            go_wp2_with fail
            go_ret
            exact ⟨by first | rfl | (simp; done), ext_trans HBo.out hB⟩
          · rw [h2] at hq2
            subst hq2
            have k1 : decide ((m0 : Int) > 0) = true := decide_eq_true (by omega)
            have k2 : decide (0 < m0) = true := decide_eq_true h1
            clear hqi h2
            go_wp2_with fail
            go_ret
            exact ⟨by first | rfl | (simp; done) | (simp; omega), ext_trans HBo.out hB⟩
end Go.Proofs.YtneanannicacnaaDoor
