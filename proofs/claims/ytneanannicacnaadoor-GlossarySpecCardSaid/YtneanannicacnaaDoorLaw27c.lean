/- GlossaryLater. -/
import Derived.Test.YtneanannicacnaaDoorLaw27b
namespace Go.Proofs.YtneanannicacnaaDoor
open Go.RowKit Go.Han
attribute [local irreducible] wpStill wpQuiet
set_option maxRecDepth 100000

/-! ### plain -/
theorem chkT_mk : ∀ (last : Int) (l : List Term), (∀ x ∈ l, x.ok = true) → (∀ x ∈ l, last < x.no) → l.Pairwise (fun x y => x.no < y.no) → chkT last l = true
  | _, [], _, _, _ => rfl
  | last, x :: l, h1, h2, h3 => by
    unfold chkT
    rw [h1 x (by simp), decide_eq_true (h2 x (by simp)), chkT_mk x.no l (fun y hy => h1 y (by simp [hy])) (fun y hy => (List.pairwise_cons.1 h3).1 y hy) (List.pairwise_cons.1 h3).2]
    rfl
theorem checkT_mk {l : List Term} (h0 : l.length ≤ 1024) (h1 : ∀ x ∈ l, x.ok = true) (h3 : l.Pairwise (fun x y => x.no < y.no)) : checkT l = 0 := by
  unfold checkT
  rw [if_neg (by omega), if_pos (chkT_mk _ l h1 (fun x hx => by have := (ok_no (h1 x hx)).1; omega) h3)]
theorem checkT_filter {l : List Term} (p : Term → Bool) (h : checkT l = 0) : checkT (l.filter p) = 0 := by
  obtain ⟨h1, h2, h3⟩ := checkT_zero h
  exact checkT_mk (Nat.le_trans (List.length_filter_le _ _) h1) (fun x hx => h2 x (List.mem_filter.1 hx).1) (h3.filter _)
def cntL (l : List Term) (t u : Int) : List Term := l.filter (fun x => countsB x t u)
theorem standE_zero {l : List Term} {lang t u : Int} (h : standE l lang t u = 0) : checkT l = 0 ∧ (langB lang && tmB t && tmB u) = true := by
  unfold standE at h
  by_cases hc : checkT l = 0
  · rw [if_neg (by simpa using hc)] at h
    refine ⟨hc, ?_⟩
    cases hb : (langB lang && tmB t && tmB u)
    · rw [hb] at h; cases h
    · rfl
  · rw [if_pos hc] at h; exact absurd h hc
theorem standE_mk {l : List Term} {lang t u : Int} (h : checkT l = 0) (h2 : (langB lang && tmB t && tmB u) = true) : standE l lang t u = 0 := by
  unfold standE
  rw [if_neg (by simpa using h), h2]; rfl
theorem later_standE {l : List Term} {lang t u : Int} (h : standE l lang t u = 0) : standE (cntL l t u) lang t u = 0 :=
  standE_mk (checkT_filter _ (standE_zero h).1) (standE_zero h).2
theorem later_stands (l : List Term) (t u : Int) (x : Term) : (standsB (cntL l t u) t u x && countsB x t u) = standsB l t u x := by
  unfold standsB cntL
  rw [List.any_filter]
  have e : (l.any fun z => countsB z t u && (aboutB z x && countsB z t u && laterB z x)) = l.any fun z => aboutB z x && countsB z t u && laterB z x := by
    congr 1
    funext z
    cases countsB z t u <;> simp
  rw [e]
  cases countsB x t u <;> simp
theorem later_standT (l : List Term) (lang t u : Int) : standT (cntL l t u) lang t u = standT l lang t u := by
  unfold standT
  show (cntL l t u).filter _ = _
  conv => lhs; unfold cntL
  rw [List.filter_filter]
  refine List.filter_congr fun x _ => ?_
  rw [← later_stands l t u x]
  show (decide (x.lang = lang) && standsB (cntL l t u) t u x && countsB x t u) = _
  rw [Bool.and_assoc]
theorem later_findV {l : List Term} {lang t u : Int} (ws : List ByteArray) (i : Int) (h : standE l lang t u = 0) : findV (cntL l t u) lang ws i t u = findV l lang ws i t u := by
  unfold findV findE
  rw [later_standE h, h, later_standT]
theorem findV_err {l : List Term} {lang t u : Int} (ws : List ByteArray) (i : Int) (h : standE l lang t u ≠ 0) : findV l lang ws i t u = .tuple #[.int .i64 0, .bool false, .int .i64 (standE l lang t u)] := by
  unfold findV findE
  rw [if_pos h, if_pos h]

theorem stand_post2 (A : Option Addr) (cp : Nat) (l : List Term) (lang t u : Int) (w : World) (hT : Tabs w) (hr : TermsAt w A l) (hm : l.length ≤ 9223372036854775807) (h0 : standE l lang t u = 0) {S : List Term} (hS : standT l lang t u = S) :
    Calls Tryd.prog 37 #[.slice A l.length cp, .int .i64 lang, .int .i64 t, .int .i64 u] w fun e W' => Below w.heap.size w W' ∧ ∃ B c, e = .returned (.tuple #[.slice B S.length c, .int .i64 0]) ∧ TermsAt W' B S := by
  refine (Standing_any A cp l lang t u w hT hr hm).mono ?_
  rintro e W' ⟨hb, ⟨hne, _⟩ | ⟨_, B, c, rfl, hB, _⟩⟩
  · exact absurd h0 hne
  · rw [hS] at hB ⊢
    exact ⟨hb, B, c, rfl, hB⟩
set_option maxHeartbeats 4000000 in
theorem GlossaryLater_any (A : Option Addr) (cp : Nat) (l : List Term) (lang : Int) (s : StrS) (i t u : Int) (w : World) (hU : Tabs w) (hr : TermsAt w A l) (hs : s.lies w) (hm : l.length ≤ 9223372036854775807) :
    Calls Tryd.prog 12 #[.slice A l.length cp, .int .i64 lang, .slice s.addr s.xs.length s.cap, .int .i64 i, .int .i64 t, .int .i64 u] w fun e w' => e = .returned (.bool true) ∧ Below w.heap.size w w' := by
  obtain ⟨i0, z0, hi0, iz0, is0, ib0, izs⟩ := parts_term
  have hmax := Nat.le_trans hs.cap hs.max
  have Hr := Lib.hid hr
  have Hs := Lib.hid hs
  have HU := Lib.hid hU
  have Hm := Lib.hid hm
  have cs := sane27_any w hU
  have cf := Lib.hid (fun w => fewT_any A cp l w hm)
  generalize (decide (l.length ≤ 30) || (decide (1024 < l.length) && decide (l.length ≤ 1100))) = q at *
  clear hr hs hU
  go_enter Tryd.func12, Tryd.ntmps12
  go_wp2_with fail
  refine cs.mono ?_
  rintro e w1 ⟨rfl, hb1⟩
  have HB1 := Lib.hid hb1
  clear cs hb1
  go_wp2_with fail
  refine (cf.out _).mono ?_
  rintro e w' ⟨rfl, rfl⟩
  cases q
  · go_wp2_with fail
    go_ret
    exact ⟨rfl, HB1.out⟩
  by_cases hbig : s.xs.length > 1000
  · have g1 : decide ((s.xs.length : Int) > 1000) = true := decide_eq_true (by omega)
    have g2 : decide (1000 < s.xs.length) = true := decide_eq_true hbig
    have g3 : 1000 < s.xs.length := hbig
    go_wp2_with fail
    go_ret
    exact ⟨rfl, HB1.out⟩
  have g1 : decide ((s.xs.length : Int) > 1000) = false := decide_eq_false (by omega)
  have g2 : decide (1000 < s.xs.length) = false := decide_eq_false hbig
  have g3 : ¬ 1000 < s.xs.length := hbig
  clear hbig
  go_wp2_with fail
  refine (Standing_any A cp l lang t u w1 (utf_ext HU.out HB1.out) (Hr.out.ext HB1.out) Hm.out).mono ?_
  intro e w2 h2
  obtain ⟨hb2, A2, c2, rfl, hT2, hN2⟩ := standPost_out h2
  have HB2 := Lib.hid (ext_trans HB1.out hb2)
  have HT2 := Lib.hid hT2
  clear h2 hN2 hb2 hT2
  obtain ⟨no, ok, er, hV⟩ := findV_form l lang s.xs i t u
  have HV := Lib.hid hV
  by_cases hne : standE l lang t u ≠ 0
  · have hV2 := hV
    rw [findV_err s.xs i hne] at hV2
    injection hV2 with hV2
    simp only [Array.mk.injEq, List.cons.injEq, Value.int.injEq, Value.bool.injEq, true_and, and_true] at hV2
    obtain ⟨rfl, rfl, rfl⟩ := hV2
    have n1 : (standE l lang t u == 0) = false := by simpa using hne
    have n2 : (standE l lang t u != 0) = true := by simpa using hne
    have Hne := Lib.hid hne
    clear hV hne
    go_wp2_with fail
    refine (Find_any A cp l lang s i t u w2 (utf_ext HU.out HB2.out) (Hr.out.ext HB2.out) (Hs.out.ext HB2.out) Hm.out).mono ?_
    rintro e w4 ⟨rfl, hb4⟩
    have HB4 := Lib.hid (ext_trans HB2.out hb4)
    clear hb4
    rw [HV.out]
    go_wp2_with fail
    go_ret
    exact ⟨by first | rfl | (simp; done), HB4.out⟩
  have hz := Decidable.not_not.1 hne
  have Hz := Lib.hid hz
  have hso : standOut l lang t u = standT l lang t u := by unfold standOut; rw [if_pos hz]
  rw [hso] at HT2 ⊢
  rw [hz]
  clear hne hV hso
  go_wp2_with fail
  refine (Find_any A cp l lang s i t u w2 (utf_ext HU.out HB2.out) (Hr.out.ext HB2.out) (Hs.out.ext HB2.out) Hm.out).mono ?_
  rintro e w4 ⟨rfl, hb4⟩
  obtain ⟨w5, hw5⟩ : ∃ w5, w5 = w4 := ⟨_, rfl⟩
  rw [← hw5] at hb4 ⊢
  clear hw5
  have HB5 := Lib.hid (ext_trans HB2.out hb4)
  have HT5 := Lib.hid (HT2.out.ext hb4)
  clear hb4 HT2 hz
  rw [HV.out]
  have hl := (checkT_zero (standE_zero Hz.out).1).1
  go_wp2_with fail
  go_loopw [18, 19] (fun x i wr => ∃ k : Nat, k ≤ l.length ∧ i = .int .i64 k ∧ OwnT wr w5.heap.size x (cntL (l.take k) t u) ∧ Below w5.heap.size w5 wr) (fun _ i _ => l.length - (intOf i).toNat)
  case atStart => exact ⟨0, Nat.zero_le _, rfl, OwnL.nil _ _ _ _ _, Below.refl _ _⟩
  case round =>
    obtain ⟨k, hk, rfl, hown, hB⟩ := hrel
    by_cases hlt : k < l.length
    · obtain ⟨b, off, rfl, hb, hcl⟩ := Hr.out.at_ hlt
      obtain ⟨d0, d1, d2, d3, d4, d5, d6, d7⟩ := hcl k hlt wr (ext_trans HB5.out hB)
      have htk : cntL (l.take (k + 1)) t u = cntL (l.take k) t u ++ (if countsB l[k] t u = true then [l[k]] else []) := by
        unfold cntL
        rw [List.take_succ_eq_append_getElem hlt, List.filter_append]
        by_cases hp : countsB l[k] t u = true <;> simp [hp]
      have hfl : (cntL (l.take k) t u).length ≤ k := Nat.le_trans (List.length_filter_le _ _) (List.length_take_le _ _)
      clear hcl
      generalize l[k] = y at *
      have cS := Lib.hid (counts_at y t u wr)
      have Htk := Lib.hid htk
      have Hown := Lib.hid hown
      clear htk hown
      generalize countsB y t u = q at *
      cases q
      · have HN : Hid (cntL (l.take (k + 1)) t u = cntL (l.take k) t u) := by show _ = _; rw [Htk.out]; simp
        go_wp2_with fail
        refine cS.out.mono ?_
        rintro e w6 ⟨rfl, hb6⟩
        go_wp2_with fail
        go_roundw
        case rel => exact ⟨k + 1, by omega, by go_num, by rw [HN.out]; exact Hown.out.ext hb6, ext_trans hB hb6⟩
        case measure => simp [intOf]; omega
      · have HN : Hid (cntL (l.take (k + 1)) t u = cntL (l.take k) t u ++ [y]) := by show _ = _; rw [Htk.out]; simp
        go_wp2_with fail
        refine cS.out.mono ?_
        rintro e w6 ⟨rfl, hb6⟩
        have hbw : b < wr.heap.size := Nat.lt_of_lt_of_le hb (ext_trans HB5.out hB).size
        have e0 := (hb6.cell (p := ⟨b, off + k * 8, none⟩) hbw).trans d0
        have e1 := (hb6.cell (p := ⟨b, off + k * 8 + 1, none⟩) hbw).trans d1
        have e2 := (hb6.cell (p := ⟨b, off + k * 8 + 2, none⟩) hbw).trans d2
        have e3 := (hb6.cell (p := ⟨b, off + k * 8 + 3, none⟩) hbw).trans d3
        have e4 := (hb6.cell (p := ⟨b, off + k * 8 + 4, none⟩) hbw).trans d4
        have e5 := (hb6.cell (p := ⟨b, off + k * 8 + 5, none⟩) hbw).trans d5
        have e6 := (hb6.cell (p := ⟨b, off + k * 8 + 6, none⟩) hbw).trans d6
        have e7 := (hb6.cell (p := ⟨b, off + k * 8 + 7, none⟩) hbw).trans d7
        have ho : w6.ownsRow w5.heap.size 51 8 _ (cntL (l.take k) t u).length ((cntL (l.take k) t u).flatMap Term.cells) := Hown.out.ext hb6
        generalize cntL (l.take k) t u = el at *
        obtain ⟨A1, A2'⟩ := ownT_room (el := el) (by omega)
        have A3 : w5.heap.size ≤ (w6.alloc (.cells #[.int .i64 y.no, .int .i64 y.at_, .int .i64 y.known, .int .i64 y.lang, .slice y.src.addr y.src.xs.length y.src.cap, .slice y.tgt.addr y.tgt.xs.length y.tgt.cap, .string y.cat, .bool y.gone] 51)).heap.size := by have h1 := hB.size; have h2 := hb6.size; simp; omega
        clear d0 d1 d2 d3 d4 d5 d6 d7
        go_wp2_with (at_builtin; refine wpList_append_own _ rfl _ _ 48 rfl w5.heap.size 51 i0 z0 8 104 Tryd.underlying48 hi0 iz0 is0 ib0 izs (by decide) _ _ _ rfl (ho.alloc _) _ _ _ [.int .i64 y.no, .int .i64 y.at_, .int .i64 y.known, .int .i64 y.lang, .slice y.src.addr y.src.xs.length y.src.cap, .slice y.tgt.addr y.tgt.xs.length y.tgt.cap, .string y.cat, .bool y.gone] rfl rfl (gcells_new w6 [.int .i64 y.no, .int .i64 y.at_, .int .i64 y.known, .int .i64 y.lang, .slice y.src.addr y.src.xs.length y.src.cap, .slice y.tgt.addr y.tgt.xs.length y.tgt.cap, .string y.cat, .bool y.gone] _) (one_term y) A1 A2' A3 ?_; intro v5 w10 hown6 hgrow6 _)
        have hB10 : Below w5.heap.size w5 w10 := (ext_alloc (ext_trans hB hb6) _).grown hgrow6 A3 (fun k hk => (ho.lt k hk).1)
        have hown7 : w10.ownsRow w5.heap.size 51 8 v5 (el.length + 1) (el.flatMap Term.cells ++ y.cells) := hown6
        go_roundw
        case rel => exact ⟨k + 1, by omega, by go_num, by rw [HN.out]; exact OwnL.snoc y hown7, hB10⟩
        case measure => simp [intOf]; omega
    · obtain rfl : k = l.length := by omega
      rw [List.take_length] at hown
      obtain ⟨A9, c9, rfl, hrd9, hn9⟩ := OwnL.form (by omega) hown
      have hCl : (cntL l t u).length ≤ 9223372036854775807 := Nat.le_trans (List.length_filter_le _ _) Hm.out
      have HC : Hid (TermsAt wr A9 (cntL l t u)) := ⟨hrd9, fun y hy => (Hr.out.ext (ext_trans HB5.out hB)).lie y (List.mem_filter.1 hy).1⟩
      have HBr := Lib.hid (ext_trans HB5.out hB)
      have HTr := Lib.hid (HT5.out.ext hB)
      have cSt := Lib.hid (stand_post2 A9 c9 (cntL l t u) lang t u wr (utf_ext HU.out HBr.out) HC.out hCl (later_standE Hz.out) (later_standT l lang t u))
      have cFi := Lib.hid (fun W (hb : Below wr.heap.size wr W) => Find_any A9 c9 (cntL l t u) lang s i t u W (utf_ext HU.out (ext_trans HBr.out hb)) (HC.out.ext hb) (Hs.out.ext (ext_trans HBr.out hb)) hCl)
      rw [later_findV s.xs i Hz.out, HV.out] at cFi
      generalize (cntL l t u).length = nC at *
      clear hown hrd9 hn9 hlt hk hCl HC hB
      go_wp2_with fail
      refine cSt.out.mono ?_
      rintro e w7 ⟨hb7, B7, c7, rfl, hT7⟩
      have HB7 := Lib.hid (ext_trans HBr.out hb7)
      have H7 := Lib.hid hb7
      have HTT := Lib.hid (And.intro (HTr.out.ext hb7) hT7)
      clear hb7 hT7 cSt
      go_wp2_with fail
      refine (cFi.out w7 H7.out).mono ?_
      rintro e w8 ⟨rfl, hb8⟩
      have HB8 := Lib.hid (ext_trans HB7.out hb8)
      have cS := sameL27_any A2 B7 c2 c7 _ _ w8 (HTT.out.1.ext hb8) (HTT.out.2.ext hb8) (Nat.le_trans (List.length_filter_le _ _) Hm.out)
      rw [sameTermsB_refl] at cS
      have CS := Lib.hid cS
      clear cS cFi hb8
      generalize (standT l lang t u).length = nS at *
      go_wp2_with fail
      refine CS.out.mono ?_
      rintro e w9 ⟨rfl, hb9⟩
      have HB9 := Lib.hid (ext_trans HB8.out hb9)
      clear hb9 CS
      go_wp2_with fail
      go_ret
      exact ⟨by first | rfl | (simp; done), HB9.out⟩
end Go.Proofs.YtneanannicacnaaDoor
