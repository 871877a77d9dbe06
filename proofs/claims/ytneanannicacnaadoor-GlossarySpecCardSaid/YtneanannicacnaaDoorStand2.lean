/- Package glossary: Standing. -/
import Derived.Test.YtneanannicacnaaDoorKeyT
namespace Go.Proofs.YtneanannicacnaaDoor
open Go.RowKit Go.Han
attribute [local irreducible] wpStill wpQuiet
set_option maxRecDepth 100000

def StandPost (l : List Term) (lang t u : Int) (w : World) (e : Ending) (w' : World) : Prop :=
  Below w.heap.size w w' ∧ ((standE l lang t u ≠ 0 ∧ e = .returned (.tuple #[.slice none 0 0, .int .i64 (standE l lang t u)])) ∨ (standE l lang t u = 0 ∧ ∃ A c, e = .returned (.tuple #[.slice A (standT l lang t u).length c, .int .i64 0]) ∧ TermsAt w' A (standT l lang t u) ∧ (A = none → standT l lang t u = [])))
/-- about, in the midst of a region that stores into the map of the last terms. -/
def AboutIn (y : Term) (l : List Term) (lang t u : Int) (k b : Nat) (w5 : World) (e : Ending) (w' : World) : Prop :=
  ∃ w9, e = .returned (.agg #[.int .i64 y.lang, .string ⟨(joined y.src.xs).toArray⟩]) ∧ Below w5.heap.size w5 w' ∧ (Instr.mapUpdate 93 (.map (some w5.heap.size)) (.agg #[.int .i64 y.lang, .string ⟨(joined y.src.xs).toArray⟩]) (.agg #[.int .i64 y.no, .int .i64 y.at_, .int .i64 y.known, .int .i64 y.lang, .slice y.src.addr y.src.xs.length y.src.cap, .slice y.tgt.addr y.tgt.xs.length y.tgt.cap, .string y.cat, .bool y.gone])).run Tryd.prog w' = .ok () w9 ∧
    MapF w9 keyShape termShape w5.heap.size (k + 1) (fun K => if K = aboutK y then some y.shown else (lastF lang t u (l.take k) K).map Term.shown) ∧ w'.grownBy w9 (some w5.heap.size) ∧ w9.heap.size = w'.heap.size ∧ w'.cell? ⟨b, 0, none⟩ = some (.int .i64 y.no) ∧ w'.cell? ⟨b, 1, none⟩ = some (.int .i64 y.at_) ∧ w'.cell? ⟨b, 2, none⟩ = some (.int .i64 y.known) ∧ w'.cell? ⟨b, 3, none⟩ = some (.int .i64 y.lang) ∧ w'.cell? ⟨b, 4, none⟩ = some (.slice y.src.addr y.src.xs.length y.src.cap) ∧ w'.cell? ⟨b, 5, none⟩ = some (.slice y.tgt.addr y.tgt.xs.length y.tgt.cap) ∧ w'.cell? ⟨b, 6, none⟩ = some (.string y.cat) ∧ w'.cell? ⟨b, 7, none⟩ = some (.bool y.gone)
theorem one_false (y : Term) : ∀ v ∈ [.int .i64 y.no, .int .i64 y.at_, .int .i64 y.known, .int .i64 y.lang, .slice y.src.addr y.src.xs.length y.src.cap, .slice y.tgt.addr y.tgt.xs.length y.tgt.cap, .string y.cat, .bool false], Value.oneCell' v = true := by
  intro v hv
  simp at hv
  rcases hv with rfl | rfl | rfl | rfl | rfl | rfl | rfl | rfl <;> rfl
theorem wf_i64 {n : Nat} (h : n ≤ 2000) : n < maxLen := by unfold maxLen; omega

set_option maxHeartbeats 4000000 in
theorem Standing_any (A : Option Addr) (cp : Nat) (l : List Term) (lang t u : Int) (w : World) (hT : Tabs w) (hr : TermsAt w A l) (hm : l.length ≤ 9223372036854775807) :
    Calls Tryd.prog 37 #[.slice A l.length cp, .int .i64 lang, .int .i64 t, .int .i64 u] w (StandPost l lang t u w) := by
  obtain ⟨i0, z0, hi0, iz0, is0, ib0, izs⟩ := parts_term
  have hmm := @run_makeMap Tryd.prog
  have HE : Hid (standE l lang t u = if checkT l ≠ 0 then checkT l else if (langB lang && tmB t && tmB u) = false then 1 else 0) := rfl
  have Hr := Lib.hid hr
  have HT := Lib.hid hT
  go_enter Tryd.func37, Tryd.ntmps37
  go_wp2_with fail
  refine (CheckT_any A cp l w hT hr hm).mono ?_
  rintro e w1 ⟨rfl, hB1⟩
  clear hr hT
  by_cases hc : checkT l ≠ 0
  · have HF : Hid (standE l lang t u = checkT l) := by show _ = _; rw [HE.out, if_pos hc]
    have n1 : (checkT l == 0) = false := by simpa using hc
    have n2 : (checkT l != 0) = true := by simpa using hc
    have Hc := Lib.hid hc
    clear hc
    go_wp2_with fail
    go_ret2
    exact ⟨hB1, .inl ⟨by rw [HF.out]; exact Hc.out, by rw [HF.out]; rfl⟩⟩
  have hc := Decidable.not_not.1 hc
  obtain ⟨hl, hoks, hpw⟩ := checkT_zero hc
  have HC := Lib.hid hc
  have Hoks := Lib.hid hoks
  have Hpw := Lib.hid hpw
  rw [hc]
  clear hc hoks hpw
  have c2 := Lib.hid (fun w => isTime_any t w)
  have c3 := Lib.hid (fun w => isTime_any u w)
  go_wp2_with fail
  refine (isLang_any lang w1).mono ?_
  rintro e w' ⟨rfl, rfl⟩
  generalize langB lang = b1 at *
  generalize tmB t = b2 at *
  generalize tmB u = b3 at *
  cases b1
  · have HF : Hid (standE l lang t u = 1) := by show _ = _; rw [HE.out, HC.out]; rfl
    go_wp2_with fail
    go_ret2
    exact ⟨hB1, .inl ⟨by rw [HF.out]; decide, by rw [HF.out]; rfl⟩⟩
  go_wp2_with fail
  refine (c2.out _).mono ?_
  rintro e w' ⟨rfl, rfl⟩
  cases b2
  · have HF : Hid (standE l lang t u = 1) := by show _ = _; rw [HE.out, HC.out]; rfl
    go_wp2_with fail
    go_ret2
    exact ⟨hB1, .inl ⟨by rw [HF.out]; decide, by rw [HF.out]; rfl⟩⟩
  go_wp2_with fail
  refine (c3.out _).mono ?_
  rintro e w' ⟨rfl, rfl⟩
  cases b3
  · have HF : Hid (standE l lang t u = 1) := by show _ = _; rw [HE.out, HC.out]; rfl
    go_wp2_with fail
    go_ret2
    exact ⟨hB1, .inl ⟨by rw [HF.out]; decide, by rw [HF.out]; rfl⟩⟩
  have HF : Hid (standE l lang t u = 0) := by show _ = _; rw [HE.out, HC.out]; rfl
  clear c2 c3 HE
  obtain ⟨w5, hw5⟩ : ∃ w5, w5 = w1 := ⟨_, rfl⟩
  have hB5 : Below w.heap.size w w5 := by rw [hw5]; exact hB1
  subst hw5
  go_wp2_with fail
  go_loopw [40] (fun i wr => ∃ k : Nat, k ≤ l.length ∧ i = .int .i64 k ∧ Below w5.heap.size w5 wr ∧ MapF wr keyShape termShape w5.heap.size k (fun K => (lastF lang t u (l.take k) K).map Term.shown)) (fun i _ => l.length - (intOf i).toNat)
  case atStart => exact ⟨0, Nat.zero_le _, rfl, ext_alloc (Below.refl _ _) _, MapF.made _ _ _⟩
  case round =>
    obtain ⟨k, hk, rfl, hB, hmap⟩ := hrel
    by_cases hlt : k < l.length
    · obtain ⟨b, off, rfl, hb, hcl⟩ := Hr.out.at_ hlt
      obtain ⟨d0, d1, d2, d3, d4, d5, d6, d7⟩ := hcl k hlt wr (ext_trans hB5 hB)
      have hmem : l[k] ∈ l := List.getElem_mem hlt
      have htk : l.take (k + 1) = l.take k ++ [l[k]] := List.take_succ_eq_append_getElem hlt
      have hyok := Hoks.out _ hmem
      clear hcl
      generalize l[k] = y at *
      by_cases hl1 : y.lang ≠ lang
      · have g1 : (y.lang != lang) = true := by simpa using hl1
        have HM : Hid (MapF (wr.alloc (.cells #[.int .i64 y.no, .int .i64 y.at_, .int .i64 y.known, .int .i64 y.lang, .slice y.src.addr y.src.xs.length y.src.cap, .slice y.tgt.addr y.tgt.xs.length y.tgt.cap, .string y.cat, .bool y.gone] 51)) keyShape termShape w5.heap.size (k + 1) (fun K => (lastF lang t u (l.take (k + 1)) K).map Term.shown)) := by
          refine ((hmap.of_block (Below.heap_alloc _ _ _ (by have := hmap.lt; omega))).mono (by omega)).congr fun K _ => ?_
          rw [htk, lastF_snoc]
          unfold lastStep
          rw [if_neg (by rintro ⟨h, _⟩; simp [cntB, countsB] at h; omega)]
        clear htk hmap
        go_wp2_with fail
        go_roundw
        case rel => exact ⟨k + 1, by omega, by go_num, ext_alloc hB _, HM.out⟩
        case measure => simp [intOf]; omega

      have hl1 := Decidable.not_not.1 hl1
      have g1 : (y.lang != lang) = false := by simp [hl1]
      by_cases hl2 : t < y.at_
      · clear hl1
        have HM : Hid (MapF (wr.alloc (.cells #[.int .i64 y.no, .int .i64 y.at_, .int .i64 y.known, .int .i64 y.lang, .slice y.src.addr y.src.xs.length y.src.cap, .slice y.tgt.addr y.tgt.xs.length y.tgt.cap, .string y.cat, .bool y.gone] 51)) keyShape termShape w5.heap.size (k + 1) (fun K => (lastF lang t u (l.take (k + 1)) K).map Term.shown)) := by
          refine ((hmap.of_block (Below.heap_alloc _ _ _ (by have := hmap.lt; omega))).mono (by omega)).congr fun K _ => ?_
          rw [htk, lastF_snoc]
          unfold lastStep
          rw [if_neg (by rintro ⟨h, _⟩; simp [cntB, countsB] at h; omega)]
        clear htk hmap
        go_wp2_with fail
        go_roundw
        case rel => exact ⟨k + 1, by omega, by go_num, ext_alloc hB _, HM.out⟩
        case measure => simp [intOf]; omega

      by_cases hl3 : u < y.known
      · clear hl1
        have HM : Hid (MapF (wr.alloc (.cells #[.int .i64 y.no, .int .i64 y.at_, .int .i64 y.known, .int .i64 y.lang, .slice y.src.addr y.src.xs.length y.src.cap, .slice y.tgt.addr y.tgt.xs.length y.tgt.cap, .string y.cat, .bool y.gone] 51)) keyShape termShape w5.heap.size (k + 1) (fun K => (lastF lang t u (l.take (k + 1)) K).map Term.shown)) := by
          refine ((hmap.of_block (Below.heap_alloc _ _ _ (by have := hmap.lt; omega))).mono (by omega)).congr fun K _ => ?_
          rw [htk, lastF_snoc]
          unfold lastStep
          rw [if_neg (by rintro ⟨h, _⟩; simp [cntB, countsB] at h; omega)]
        clear htk hmap
        go_wp2_with fail
        go_roundw
        case rel => exact ⟨k + 1, by omega, by go_num, ext_alloc hB _, HM.out⟩
        case measure => simp [intOf]; omega

      have Hcnt : Hid (cntB lang t u y = true) := by show _ = _; simp [cntB, countsB, hl1]; omega
      have Hyok := Lib.hid hyok
      have Hmem := Lib.hid hmem
      have hkm : k < maxLen := wf_i64 (by omega)
      have Hkm := Lib.hid hkm
      have hBy : Below wr.heap.size wr (wr.alloc (.cells #[.int .i64 y.no, .int .i64 y.at_, .int .i64 y.known, .int .i64 y.lang, .slice y.src.addr y.src.xs.length y.src.cap, .slice y.tgt.addr y.tgt.xs.length y.tgt.cap, .string y.cat, .bool y.gone] 51)) := ext_alloc (Below.refl _ _) _
      have n0 := World.alloc_heap_new wr (.cells #[.int .i64 y.no, .int .i64 y.at_, .int .i64 y.known, .int .i64 y.lang, .slice y.src.addr y.src.xs.length y.src.cap, .slice y.tgt.addr y.tgt.xs.length y.tgt.cap, .string y.cat, .bool y.gone] 51)
      have hylie : y.lies wr := (Hr.out.ext (ext_trans hB5 hB)).lie y hmem
      have HMAP := Lib.hid hmap
      have Htk := Lib.hid htk
      have cA := Lib.hid (about_at y _ hyok (hylie.ext hBy))
      clear hmap hkm hyok hmem hl1 htk hylie
      go_wp2_with fail
      refine cA.out.mono ?_
      rintro e w6 ⟨rfl, hb6⟩
      have hB6 := ext_trans hBy hb6
      have hx6 := (hb6.block _ (lt_block n0)).trans n0
      have e0 := gblk hx6 0
      have e1 := gblk hx6 1
      have e2 := gblk hx6 2
      have e3 := gblk hx6 3
      have e4 := gblk hx6 4
      have e5 := gblk hx6 5
      have e6 := gblk hx6 6
      have e7 := gblk hx6 7
      have hbw : wr.heap.size < w6.heap.size := lt_block hx6
      have hm6 : MapF w6 keyShape termShape w5.heap.size k (fun K => (lastF lang t u (l.take k) K).map Term.shown) := HMAP.out.of_block (hB6.block _ HMAP.out.lt)
      clear cA n0 d0 d1 d2 d3 d4 d5 d6 d7
      cases hlf : lastF lang t u (l.take k) (aboutK y) with
      | none =>
        have Hlf := Lib.hid hlf
        have Hfun : Hid (∀ K, keyShape.good K → (lastF lang t u (l.take (k + 1)) K).map Term.shown = if K = aboutK y then some y.shown else (lastF lang t u (l.take k) K).map Term.shown) := by
          intro K _
          rw [Htk.out, lastF_snoc]
          unfold lastStep
          by_cases e : K = aboutK y
          · subst e; rw [if_pos ⟨Hcnt.out, rfl⟩, if_pos rfl, Hlf.out]; rfl
          · rw [if_neg (fun h => e h.2.symm), if_neg e]
        clear hlf
        go_wp2_with (at_lookup; refine wpList_lookup_is _ rfl _ _ 93 rfl 51 keyed_gkey Tryd.underlying93 keyShape termShape zeroTV w5.heap.size k _ (zero_termV _) rfl hm6 (aboutK y) rfl (aboutK_good Hyok.out) (.agg #[.int .i64 0, .int .i64 0, .int .i64 0, .int .i64 0, .slice none 0 0, .slice none 0 0, .string ⟨#[]⟩, .bool false]) false (by show termShape.val (((lastF lang t u (l.take k) (aboutK y)).map Term.shown).getD zeroTV) = _; rw [Hlf.out]; rfl) (by show ((lastF lang t u (l.take k) (aboutK y)).map Term.shown).isSome = _; rw [Hlf.out]; rfl) ?_)
        have hB7 : Below wr.heap.size wr (w6.alloc (.cells #[.int .i64 0, .int .i64 0, .int .i64 0, .int .i64 0, .slice none 0 0, .slice none 0 0, .string ⟨#[]⟩, .bool false] 51)) := ext_alloc hB6 _
        have hx7 : (w6.alloc (.cells #[.int .i64 0, .int .i64 0, .int .i64 0, .int .i64 0, .slice none 0 0, .slice none 0 0, .string ⟨#[]⟩, .bool false] 51)).heap[wr.heap.size]? = some (.cells #[.int .i64 y.no, .int .i64 y.at_, .int .i64 y.known, .int .i64 y.lang, .slice y.src.addr y.src.xs.length y.src.cap, .slice y.tgt.addr y.tgt.xs.length y.tgt.cap, .string y.cat, .bool y.gone] 51 (0, 0)) := (Below.heap_alloc _ _ _ (by omega)).trans hx6
        generalize w6.alloc (.cells #[.int .i64 0, .int .i64 0, .int .i64 0, .int .i64 0, .slice none 0 0, .slice none 0 0, .string ⟨#[]⟩, .bool false] 51) = w7 at *
        have hB57 := ext_trans hB hB7
        clear e0 e1 e2 e3 e4 e5 e6 e7 hm6
        have cA7 : Hid (∀ W, Below w7.heap.size w7 W → Calls Tryd.prog 71 #[.agg #[.int .i64 y.no, .int .i64 y.at_, .int .i64 y.known, .int .i64 y.lang, .slice y.src.addr y.src.xs.length y.src.cap, .slice y.tgt.addr y.tgt.xs.length y.tgt.cap, .string y.cat, .bool y.gone]] W (AboutIn y l lang t u k wr.heap.size w5)) := by
          intro W hbW
          have hW5 : Below w5.heap.size w5 W := ext_trans hB57 hbW
          refine (about_at y W Hyok.out ((Hr.out.ext (ext_trans hB5 hW5)).lie y Hmem.out)).mono ?_
          rintro e w8 ⟨rfl, hb8⟩
          have hbb := ext_trans hbW hb8
          have hm8 : MapF w8 keyShape termShape w5.heap.size k (fun K => (lastF lang t u (l.take k) K).map Term.shown) := HMAP.out.of_block ((ext_trans hB7 hbb).block _ HMAP.out.lt)
          obtain ⟨w9, hrun, hm9, hg9, hs9⟩ := hm8.store w8 keyed_gkey Tryd.underlying93 Hkm.out (aboutK y) y.shown (aboutK_good Hyok.out)
          have hx8 : w8.heap[wr.heap.size]? = some (.cells #[.int .i64 y.no, .int .i64 y.at_, .int .i64 y.known, .int .i64 y.lang, .slice y.src.addr y.src.xs.length y.src.cap, .slice y.tgt.addr y.tgt.xs.length y.tgt.cap, .string y.cat, .bool y.gone] 51 (0, 0)) := (hbb.block _ (lt_block hx7)).trans hx7
          exact ⟨w9, rfl, ext_trans hW5 hb8, hrun, hm9, hg9, hs9, gblk hx8 0, gblk hx8 1, gblk hx8 2, gblk hx8 3, gblk hx8 4, gblk hx8 5, gblk hx8 6, gblk hx8 7⟩
        have p0 := gblk hx7 0
        have p1 := gblk hx7 1
        have p2 := gblk hx7 2
        have p3 := gblk hx7 3
        have p4 := gblk hx7 4
        have p5 := gblk hx7 5
        have p6 := gblk hx7 6
        have p7 := gblk hx7 7
        go_region_with (go_at_call 71; refine (cA7.out _ ?_).mono ?_; (repeat (first | exact Below.refl _ _ | refine ext_drew ?_ | refine ext_alloc ?_ _)); rintro e w8 ⟨w9, rfl, hb8, hrun8, hm8, hg8, hs8, q0, q1, q2, q3, q4, q5, q6, q7⟩)
        all_goals
          have hB9 : Below w5.heap.size w5 w9 := ⟨hg8.os.trans hb8.os, hg8.tape.trans hb8.tape, hg8.output.trans hb8.output, Nat.le_trans hb8.size hg8.size, fun i hi => (hg8.block i (Nat.lt_of_lt_of_le hi hb8.size) (by simp; omega)).trans (hb8.block i hi)⟩
          have hm9 := hm8.congr Hfun.out
          clear q0 q1 q2 q3 q4 q5 q6 q7 hrun8
          go_wp2_with fail
          go_roundw
          case rel => exact ⟨k + 1, by omega, by go_num, hB9, hm9⟩
          case measure => simp [intOf]; omega

      | some z =>
        have Hlf := Lib.hid hlf
        by_cases hza : z.at_ ≤ y.at_
        · have Hfun : Hid (∀ K, keyShape.good K → (lastF lang t u (l.take (k + 1)) K).map Term.shown = if K = aboutK y then some y.shown else (lastF lang t u (l.take k) K).map Term.shown) := by
            intro K _
            rw [Htk.out, lastF_snoc]
            unfold lastStep
            by_cases e : K = aboutK y
            · subst e; rw [if_pos ⟨Hcnt.out, rfl⟩, if_pos rfl, Hlf.out]; simp [hza]
            · rw [if_neg (fun h => e h.2.symm), if_neg e]
          clear hlf
          go_wp2_with (at_lookup; refine wpList_lookup_is _ rfl _ _ 93 rfl 51 keyed_gkey Tryd.underlying93 keyShape termShape zeroTV w5.heap.size k _ (zero_termV _) rfl hm6 (aboutK y) rfl (aboutK_good Hyok.out) (.agg #[.int .i64 z.no, .int .i64 z.at_, .int .i64 z.known, .int .i64 z.lang, .slice z.src.addr z.src.xs.length z.src.cap, .slice z.tgt.addr z.tgt.xs.length z.tgt.cap, .string z.cat, .bool z.gone]) true (by show termShape.val (((lastF lang t u (l.take k) (aboutK y)).map Term.shown).getD zeroTV) = _; rw [Hlf.out]; rfl) (by show ((lastF lang t u (l.take k) (aboutK y)).map Term.shown).isSome = _; rw [Hlf.out]; rfl) ?_)
          have hB7 : Below wr.heap.size wr (w6.alloc (.cells #[.int .i64 z.no, .int .i64 z.at_, .int .i64 z.known, .int .i64 z.lang, .slice z.src.addr z.src.xs.length z.src.cap, .slice z.tgt.addr z.tgt.xs.length z.tgt.cap, .string z.cat, .bool z.gone] 51)) := ext_alloc hB6 _
          have hx7 : (w6.alloc (.cells #[.int .i64 z.no, .int .i64 z.at_, .int .i64 z.known, .int .i64 z.lang, .slice z.src.addr z.src.xs.length z.src.cap, .slice z.tgt.addr z.tgt.xs.length z.tgt.cap, .string z.cat, .bool z.gone] 51)).heap[wr.heap.size]? = some (.cells #[.int .i64 y.no, .int .i64 y.at_, .int .i64 y.known, .int .i64 y.lang, .slice y.src.addr y.src.xs.length y.src.cap, .slice y.tgt.addr y.tgt.xs.length y.tgt.cap, .string y.cat, .bool y.gone] 51 (0, 0)) := (Below.heap_alloc _ _ _ (by omega)).trans hx6
          generalize w6.alloc (.cells #[.int .i64 z.no, .int .i64 z.at_, .int .i64 z.known, .int .i64 z.lang, .slice z.src.addr z.src.xs.length z.src.cap, .slice z.tgt.addr z.tgt.xs.length z.tgt.cap, .string z.cat, .bool z.gone] 51) = w7 at *
          have hB57 := ext_trans hB hB7
          clear e0 e1 e2 e3 e4 e5 e6 e7 hm6 hza
          have cA7 : Hid (∀ W, Below w7.heap.size w7 W → Calls Tryd.prog 71 #[.agg #[.int .i64 y.no, .int .i64 y.at_, .int .i64 y.known, .int .i64 y.lang, .slice y.src.addr y.src.xs.length y.src.cap, .slice y.tgt.addr y.tgt.xs.length y.tgt.cap, .string y.cat, .bool y.gone]] W (AboutIn y l lang t u k wr.heap.size w5)) := by
            intro W hbW
            have hW5 : Below w5.heap.size w5 W := ext_trans hB57 hbW
            refine (about_at y W Hyok.out ((Hr.out.ext (ext_trans hB5 hW5)).lie y Hmem.out)).mono ?_
            rintro e w8 ⟨rfl, hb8⟩
            have hbb := ext_trans hbW hb8
            have hm8 : MapF w8 keyShape termShape w5.heap.size k (fun K => (lastF lang t u (l.take k) K).map Term.shown) := HMAP.out.of_block ((ext_trans hB7 hbb).block _ HMAP.out.lt)
            obtain ⟨w9, hrun, hm9, hg9, hs9⟩ := hm8.store w8 keyed_gkey Tryd.underlying93 Hkm.out (aboutK y) y.shown (aboutK_good Hyok.out)
            have hx8 : w8.heap[wr.heap.size]? = some (.cells #[.int .i64 y.no, .int .i64 y.at_, .int .i64 y.known, .int .i64 y.lang, .slice y.src.addr y.src.xs.length y.src.cap, .slice y.tgt.addr y.tgt.xs.length y.tgt.cap, .string y.cat, .bool y.gone] 51 (0, 0)) := (hbb.block _ (lt_block hx7)).trans hx7
            exact ⟨w9, rfl, ext_trans hW5 hb8, hrun, hm9, hg9, hs9, gblk hx8 0, gblk hx8 1, gblk hx8 2, gblk hx8 3, gblk hx8 4, gblk hx8 5, gblk hx8 6, gblk hx8 7⟩
          have p0 := gblk hx7 0
          have p1 := gblk hx7 1
          have p2 := gblk hx7 2
          have p3 := gblk hx7 3
          have p4 := gblk hx7 4
          have p5 := gblk hx7 5
          have p6 := gblk hx7 6
          have p7 := gblk hx7 7
          go_region_with (go_at_call 71; refine (cA7.out _ ?_).mono ?_; (repeat (first | exact Below.refl _ _ | refine ext_drew ?_ | refine ext_alloc ?_ _)); rintro e w8 ⟨w9, rfl, hb8, hrun8, hm8, hg8, hs8, q0, q1, q2, q3, q4, q5, q6, q7⟩)
          all_goals
            have hB9 : Below w5.heap.size w5 w9 := ⟨hg8.os.trans hb8.os, hg8.tape.trans hb8.tape, hg8.output.trans hb8.output, Nat.le_trans hb8.size hg8.size, fun i hi => (hg8.block i (Nat.lt_of_lt_of_le hi hb8.size) (by simp; omega)).trans (hb8.block i hi)⟩
            have hm9 := hm8.congr Hfun.out
            clear q0 q1 q2 q3 q4 q5 q6 q7 hrun8
            go_wp2_with fail
            go_roundw
            case rel => exact ⟨k + 1, by omega, by go_num, hB9, hm9⟩
            case measure => simp [intOf]; omega

        · have Hfun : Hid (∀ K, keyShape.good K → (lastF lang t u (l.take (k + 1)) K).map Term.shown = (lastF lang t u (l.take k) K).map Term.shown) := by
            intro K _
            rw [Htk.out, lastF_snoc]
            unfold lastStep
            by_cases e : K = aboutK y
            · subst e; rw [if_pos ⟨Hcnt.out, rfl⟩, Hlf.out]; simp [hza]
            · rw [if_neg (fun h => e h.2.symm)]
          clear hlf
          go_wp2_with (at_lookup; refine wpList_lookup_is _ rfl _ _ 93 rfl 51 keyed_gkey Tryd.underlying93 keyShape termShape zeroTV w5.heap.size k _ (zero_termV _) rfl hm6 (aboutK y) rfl (aboutK_good Hyok.out) (.agg #[.int .i64 z.no, .int .i64 z.at_, .int .i64 z.known, .int .i64 z.lang, .slice z.src.addr z.src.xs.length z.src.cap, .slice z.tgt.addr z.tgt.xs.length z.tgt.cap, .string z.cat, .bool z.gone]) true (by show termShape.val (((lastF lang t u (l.take k) (aboutK y)).map Term.shown).getD zeroTV) = _; rw [Hlf.out]; rfl) (by show ((lastF lang t u (l.take k) (aboutK y)).map Term.shown).isSome = _; rw [Hlf.out]; rfl) ?_)
          go_roundw
          case rel => exact ⟨k + 1, by omega, by go_num, ext_alloc (ext_trans hB hB6) _, ((hm6.of_block (Below.heap_alloc _ _ _ (by have := hm6.lt; omega))).mono (by omega)).congr Hfun.out⟩
          case measure => simp [intOf]; omega
    · obtain rfl : k = l.length := by omega
      rw [List.take_length] at hmap
      obtain ⟨w6, hw6⟩ : ∃ w6, w6 = wr := ⟨_, rfl⟩
      subst hw6
      have hB6 := ext_trans hB5 hB
      have HMAP := Lib.hid hmap
      clear hlt hk hB hmap
      go_wp2_with fail
      go_loopw [8, 83] (fun x i wr => ∃ k : Nat, k ≤ l.length ∧ i = .int .i64 k ∧ OwnT wr w6.heap.size x ((l.take k).filter (pickB lang t u l)) ∧ Below w6.heap.size w6 wr) (fun _ i _ => l.length - (intOf i).toNat)
      case atStart => exact ⟨0, Nat.zero_le _, rfl, OwnL.nil _ _ _ _ _, Below.refl _ _⟩
      case round =>
        obtain ⟨k, hk, rfl, hown, hB⟩ := hrel
        by_cases hlt : k < l.length
        · obtain ⟨b, off, rfl, hb, hcl⟩ := Hr.out.at_ hlt
          obtain ⟨d0, d1, d2, d3, d4, d5, d6, d7⟩ := hcl k hlt wr (ext_trans hB6 hB)
          have hmem : l[k] ∈ l := List.getElem_mem hlt
          have htk : (l.take (k + 1)).filter (pickB lang t u l) = (l.take k).filter (pickB lang t u l) ++ (if pickB lang t u l l[k] = true then [l[k]] else []) := by
            rw [List.take_succ_eq_append_getElem hlt, List.filter_append]
            by_cases hp : pickB lang t u l l[k] = true <;> simp [hp]
          have hyok := Hoks.out _ hmem
          have hpick : pickB lang t u l l[k] = match lastF lang t u l (aboutK l[k]) with | some z => z.no == l[k].no && !l[k].gone | none => false := rfl
          have hfl : ((l.take k).filter (pickB lang t u l)).length ≤ k := Nat.le_trans (List.length_filter_le _ _) (List.length_take_le _ _)
          clear hcl
          generalize l[k] = y at *
          have hBy : Below wr.heap.size wr (wr.alloc (.cells #[.int .i64 y.no, .int .i64 y.at_, .int .i64 y.known, .int .i64 y.lang, .slice y.src.addr y.src.xs.length y.src.cap, .slice y.tgt.addr y.tgt.xs.length y.tgt.cap, .string y.cat, .bool y.gone] 51)) := ext_alloc (Below.refl _ _) _
          have n0 := World.alloc_heap_new wr (.cells #[.int .i64 y.no, .int .i64 y.at_, .int .i64 y.known, .int .i64 y.lang, .slice y.src.addr y.src.xs.length y.src.cap, .slice y.tgt.addr y.tgt.xs.length y.tgt.cap, .string y.cat, .bool y.gone] 51)
          have hylie : y.lies wr := (Hr.out.ext (ext_trans hB6 hB)).lie y hmem
          have Htk := Lib.hid htk
          have Hpk := Lib.hid hpick
          have Hyok := Lib.hid hyok
          have cA := Lib.hid (about_at y _ hyok (hylie.ext hBy))
          have Hown := Lib.hid hown
          clear hyok hmem htk hylie hpick hown
          go_wp2_with fail
          refine cA.out.mono ?_
          rintro e w7 ⟨rfl, hb7⟩
          have hB7 := ext_trans hBy hb7
          have hx7 := (hb7.block _ (lt_block n0)).trans n0
          have e0 := gblk hx7 0
          have e1 := gblk hx7 1
          have e2 := gblk hx7 2
          have e3 := gblk hx7 3
          have e4 := gblk hx7 4
          have e5 := gblk hx7 5
          have e6 := gblk hx7 6
          have e7 := gblk hx7 7
          have hbw : wr.heap.size < w7.heap.size := lt_block hx7
          have hm7 : MapF w7 keyShape termShape w5.heap.size l.length (fun K => (lastF lang t u l K).map Term.shown) := HMAP.out.of_block ((ext_trans hB hB7).block _ HMAP.out.lt)
          have hbm := HMAP.out.lt
          clear cA n0 d0 d1 d2 d3 d4 d5 d6 d7
          cases hlf : lastF lang t u l (aboutK y) with
          | none =>
            have Hlf := Lib.hid hlf
            have hp0 : pickB lang t u l y = false := by rw [Hpk.out, hlf]
            have Htk2 : Hid ((l.take (k + 1)).filter (pickB lang t u l) = (l.take k).filter (pickB lang t u l)) := by show _ = _; rw [Htk.out, hp0]; simp
            clear hlf hp0
            go_wp2_with (at_lookup; refine wpList_lookup_is _ rfl _ _ 93 rfl 51 keyed_gkey Tryd.underlying93 keyShape termShape zeroTV w5.heap.size l.length _ (zero_termV _) rfl hm7 (aboutK y) rfl (aboutK_good Hyok.out) (.agg #[.int .i64 0, .int .i64 0, .int .i64 0, .int .i64 0, .slice none 0 0, .slice none 0 0, .string ⟨#[]⟩, .bool false]) false (by show termShape.val (((lastF lang t u l (aboutK y)).map Term.shown).getD zeroTV) = _; rw [Hlf.out]; rfl) (by show ((lastF lang t u l (aboutK y)).map Term.shown).isSome = _; rw [Hlf.out]; rfl) ?_)
            go_roundw
            case rel => exact ⟨k + 1, by omega, by go_num, by rw [Htk2.out]; exact (Hown.out.ext hB7).ext (ext_alloc (Below.refl _ _) _), ext_alloc (ext_trans hB hB7) _⟩
            case measure => simp [intOf]; omega
          | some z =>
            have Hlf := Lib.hid hlf
            have hp0 : pickB lang t u l y = (z.no == y.no && !y.gone) := by rw [Hpk.out, hlf]
            by_cases hno : z.no = y.no
            · have g1 : (z.no == y.no) = true := by simp [hno]
              cases hg : y.gone
              · have hp1 : pickB lang t u l y = true := by rw [hp0, g1, hg]; rfl
                have Htk2 : Hid ((l.take (k + 1)).filter (pickB lang t u l) = (l.take k).filter (pickB lang t u l) ++ [y]) := by show _ = _; rw [Htk.out, hp1]; simp
                have Hg := Lib.hid hg
                rw [hg] at e7
                have ho : w7.ownsRow w6.heap.size 51 8 _ ((l.take k).filter (pickB lang t u l)).length (((l.take k).filter (pickB lang t u l)).flatMap Term.cells) := Hown.out.ext hB7
                generalize (l.take k).filter (pickB lang t u l) = el at *
                have A1 : el.length + 1 ≤ maxLen := by unfold maxLen; omega
                have A2 : (el.length + 1) * 104 ≤ 140737488355328 := by omega
                have A3 : w6.heap.size ≤ ((w7.alloc (.cells #[.int .i64 z.no, .int .i64 z.at_, .int .i64 z.known, .int .i64 z.lang, .slice z.src.addr z.src.xs.length z.src.cap, .slice z.tgt.addr z.tgt.xs.length z.tgt.cap, .string z.cat, .bool z.gone] 51)).alloc (.cells #[.int .i64 y.no, .int .i64 y.at_, .int .i64 y.known, .int .i64 y.lang, .slice y.src.addr y.src.xs.length y.src.cap, .slice y.tgt.addr y.tgt.xs.length y.tgt.cap, .string y.cat, .bool false] 51)).heap.size := by have h1 := hB.size; simp; omega
                clear hlf hp0 hp1 hno hg
                go_wp2_with (first | (at_lookup; refine wpList_lookup_is _ rfl _ _ 93 rfl 51 keyed_gkey Tryd.underlying93 keyShape termShape zeroTV w5.heap.size l.length _ (zero_termV _) rfl hm7 (aboutK y) rfl (aboutK_good Hyok.out) (.agg #[.int .i64 z.no, .int .i64 z.at_, .int .i64 z.known, .int .i64 z.lang, .slice z.src.addr z.src.xs.length z.src.cap, .slice z.tgt.addr z.tgt.xs.length z.tgt.cap, .string z.cat, .bool z.gone]) true (by show termShape.val (((lastF lang t u l (aboutK y)).map Term.shown).getD zeroTV) = _; rw [Hlf.out]; rfl) (by show ((lastF lang t u l (aboutK y)).map Term.shown).isSome = _; rw [Hlf.out]; rfl) ?_) | (at_builtin; refine wpList_append_own _ rfl _ _ 48 rfl w6.heap.size 51 i0 z0 8 104 Tryd.underlying48 hi0 iz0 is0 ib0 izs (by decide) _ _ _ rfl ((ho.alloc _).alloc _) _ _ _ [.int .i64 y.no, .int .i64 y.at_, .int .i64 y.known, .int .i64 y.lang, .slice y.src.addr y.src.xs.length y.src.cap, .slice y.tgt.addr y.tgt.xs.length y.tgt.cap, .string y.cat, .bool false] rfl rfl (gcells_new2 w7 _ [.int .i64 y.no, .int .i64 y.at_, .int .i64 y.known, .int .i64 y.lang, .slice y.src.addr y.src.xs.length y.src.cap, .slice y.tgt.addr y.tgt.xs.length y.tgt.cap, .string y.cat, .bool false] _) (one_false y) A1 A2 A3 ?_; intro v5 w10 hown6 hgrow6 _))
                have hB10 : Below w6.heap.size w6 w10 := (ext_alloc (ext_alloc (ext_trans hB hB7) _) _).grown hgrow6 A3 (fun k hk => (ho.lt k hk).1)
                have hown7 : w10.ownsRow w6.heap.size 51 8 v5 (el.length + 1) (el.flatMap Term.cells ++ y.cells) := by
                  have e : y.cells = [.int .i64 y.no, .int .i64 y.at_, .int .i64 y.known, .int .i64 y.lang, .slice y.src.addr y.src.xs.length y.src.cap, .slice y.tgt.addr y.tgt.xs.length y.tgt.cap, .string y.cat, .bool false] := by unfold Term.cells; rw [Hg.out]; rfl
                  rw [e]; exact hown6
                go_roundw
                case rel => exact ⟨k + 1, by omega, by go_num, by rw [Htk2.out]; exact OwnL.snoc y hown7, hB10⟩
                case measure => simp [intOf]; omega
              · have hp1 : pickB lang t u l y = false := by rw [hp0, hg]; simp
                have Htk2 : Hid ((l.take (k + 1)).filter (pickB lang t u l) = (l.take k).filter (pickB lang t u l)) := by show _ = _; rw [Htk.out, hp1]; simp
                rw [hg] at e7
                clear hlf hp0 hp1 hno hg
                go_wp2_with (at_lookup; refine wpList_lookup_is _ rfl _ _ 93 rfl 51 keyed_gkey Tryd.underlying93 keyShape termShape zeroTV w5.heap.size l.length _ (zero_termV _) rfl hm7 (aboutK y) rfl (aboutK_good Hyok.out) (.agg #[.int .i64 z.no, .int .i64 z.at_, .int .i64 z.known, .int .i64 z.lang, .slice z.src.addr z.src.xs.length z.src.cap, .slice z.tgt.addr z.tgt.xs.length z.tgt.cap, .string z.cat, .bool z.gone]) true (by show termShape.val (((lastF lang t u l (aboutK y)).map Term.shown).getD zeroTV) = _; rw [Hlf.out]; rfl) (by show ((lastF lang t u l (aboutK y)).map Term.shown).isSome = _; rw [Hlf.out]; rfl) ?_)
                go_roundw
                case rel => exact ⟨k + 1, by omega, by go_num, by rw [Htk2.out]; exact (Hown.out.ext hB7).ext (ext_alloc (Below.refl _ _) _), ext_alloc (ext_trans hB hB7) _⟩
                case measure => simp [intOf]; omega
            · have g1 : (z.no == y.no) = false := by simpa using hno
              have hp1 : pickB lang t u l y = false := by rw [hp0, g1]; rfl
              have Htk2 : Hid ((l.take (k + 1)).filter (pickB lang t u l) = (l.take k).filter (pickB lang t u l)) := by show _ = _; rw [Htk.out, hp1]; simp
              clear hlf hp0 hp1 hno
              go_wp2_with (at_lookup; refine wpList_lookup_is _ rfl _ _ 93 rfl 51 keyed_gkey Tryd.underlying93 keyShape termShape zeroTV w5.heap.size l.length _ (zero_termV _) rfl hm7 (aboutK y) rfl (aboutK_good Hyok.out) (.agg #[.int .i64 z.no, .int .i64 z.at_, .int .i64 z.known, .int .i64 z.lang, .slice z.src.addr z.src.xs.length z.src.cap, .slice z.tgt.addr z.tgt.xs.length z.tgt.cap, .string z.cat, .bool z.gone]) true (by show termShape.val (((lastF lang t u l (aboutK y)).map Term.shown).getD zeroTV) = _; rw [Hlf.out]; rfl) (by show ((lastF lang t u l (aboutK y)).map Term.shown).isSome = _; rw [Hlf.out]; rfl) ?_)
              go_roundw
              case rel => exact ⟨k + 1, by omega, by go_num, by rw [Htk2.out]; exact (Hown.out.ext hB7).ext (ext_alloc (Below.refl _ _) _), ext_alloc (ext_trans hB hB7) _⟩
              case measure => simp [intOf]; omega
        · obtain rfl : k = l.length := by omega
          rw [List.take_length, filter_pick Hpw.out Hoks.out] at hown
          obtain ⟨A9, c9, rfl, hrd9, hn9⟩ := OwnL.form (by omega) hown
          have hfin : Hid (StandPost l lang t u w (.returned (.tuple #[.slice A9 (standT l lang t u).length c9, .int .i64 0])) wr) := by
            refine ⟨ext_trans hB6 hB, .inr ⟨HF.out, A9, c9, rfl, ⟨hrd9, fun y hy => ?_⟩, hn9⟩⟩
            exact (Hr.out.ext (ext_trans hB6 hB)).lie y (List.mem_filter.1 hy).1
          clear hown hrd9 hn9 hlt hk
          go_wp2_with fail
          go_ret2
          exact hfin.out
end Go.Proofs.YtneanannicacnaaDoor
