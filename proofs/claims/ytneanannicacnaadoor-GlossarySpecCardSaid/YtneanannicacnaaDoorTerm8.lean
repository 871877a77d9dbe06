/- The reference's Standing. -/
import Derived.Test.YtneanannicacnaaDoorTerm7
import Derived.Test.YtneanannicacnaaDoorStand2
namespace Go.Proofs.YtneanannicacnaaDoor
open Go.RowKit Go.Han
attribute [local irreducible] wpStill wpQuiet
set_option maxRecDepth 100000

theorem one_term (y : Term) : ∀ v ∈ [.int .i64 y.no, .int .i64 y.at_, .int .i64 y.known, .int .i64 y.lang, .slice y.src.addr y.src.xs.length y.src.cap, .slice y.tgt.addr y.tgt.xs.length y.tgt.cap, .string y.cat, .bool y.gone], Value.oneCell' v = true := by
  intro v hv
  simp at hv
  rcases hv with rfl | rfl | rfl | rfl | rfl | rfl | rfl | rfl <;> rfl
def fitB (l : List Term) (lang t u : Int) (x : Term) : Bool := decide (x.lang = lang) && standsB l t u x
theorem ownT_room {el : List Term} (h : el.length ≤ 1024) : el.length + 1 ≤ maxLen ∧ (el.length + 1) * 104 ≤ 140737488355328 := by
  unfold maxLen; omega
set_option maxHeartbeats 4000000 in
theorem Standing27_any (A : Option Addr) (cp : Nat) (l : List Term) (lang t u : Int) (w : World) (hr : TermsAt w A l) (hm : l.length ≤ 9223372036854775807) :
    Calls Tryd.prog 38 #[.slice A l.length cp, .int .i64 lang, .int .i64 t, .int .i64 u] w (StandPost l lang t u w) := by
  obtain ⟨i0, z0, hi0, iz0, is0, ib0, izs⟩ := parts_term
  have HE : Hid (standE l lang t u = if checkT l ≠ 0 then checkT l else if (langB lang && tmB t && tmB u) = false then 1 else 0) := rfl
  have HS : Hid (standT l lang t u = l.filter (fitB l lang t u)) := rfl
  have Hr := Lib.hid hr
  have Hm := Lib.hid hm
  go_enter Tryd.func38, Tryd.ntmps38
  go_wp2_with fail
  refine (check27_any A cp l w hr hm).mono ?_
  rintro e w1 ⟨rfl, hB1⟩
  clear hr
  by_cases hc : checkT l ≠ 0
  · have HF : Hid (standE l lang t u = checkT l) := by show _ = _; rw [HE.out, if_pos hc]
    have n1 : (checkT l == 0) = false := by simpa using hc
    have n2 : (checkT l != 0) = true := by simpa using hc
    have Hc := Lib.hid hc
    clear hc
    go_wp2_with fail
    go_ret2
    exact ⟨hB1, .inl ⟨by rw [HF.out]; exact Hc.out, by rw [HF.out]; rfl⟩⟩
  have hc := Decidable.not_not.1 hc
  obtain ⟨hl, hoks, hpw⟩ := checkT_zero hc
  have HC := Lib.hid hc
  rw [hc]
  clear hc hoks hpw hm
  have c2 := Lib.hid (fun w => time27_any t w)
  have c3 := Lib.hid (fun w => time27_any u w)
  go_wp2_with fail
  refine (language27_any lang w1).mono ?_
  rintro e w' ⟨rfl, rfl⟩
  generalize langB lang = b1 at *
  generalize tmB t = b2 at *
  generalize tmB u = b3 at *
  cases b1
  · have HF : Hid (standE l lang t u = 1) := by show _ = _; rw [HE.out, HC.out]; rfl
    go_wp2_with fail
    go_ret2
    exact ⟨hB1, .inl ⟨by rw [HF.out]; decide, by rw [HF.out]; rfl⟩⟩
  go_wp2_with fail
  refine (c2.out _).mono ?_
  rintro e w' ⟨rfl, rfl⟩
  cases b2
  · have HF : Hid (standE l lang t u = 1) := by show _ = _; rw [HE.out, HC.out]; rfl
    go_wp2_with fail
    go_ret2
    exact ⟨hB1, .inl ⟨by rw [HF.out]; decide, by rw [HF.out]; rfl⟩⟩
  go_wp2_with fail
  refine (c3.out _).mono ?_
  rintro e w' ⟨rfl, rfl⟩
  cases b3
  · have HF : Hid (standE l lang t u = 1) := by show _ = _; rw [HE.out, HC.out]; rfl
    go_wp2_with fail
    go_ret2
    exact ⟨hB1, .inl ⟨by rw [HF.out]; decide, by rw [HF.out]; rfl⟩⟩
  have HF : Hid (standE l lang t u = 0) := by show _ = _; rw [HE.out, HC.out]; rfl
  clear c2 c3 HE
  obtain ⟨w5, hw5⟩ : ∃ w5, w5 = w1 := ⟨_, rfl⟩
  have hB5 : Below w.heap.size w w5 := by rw [hw5]; exact hB1
  subst hw5
  go_wp2_with fail
  go_loopw [11, 12] (fun x i wr => ∃ k : Nat, k ≤ l.length ∧ i = .int .i64 k ∧ OwnT wr w5.heap.size x ((l.take k).filter (fitB l lang t u)) ∧ Below w5.heap.size w5 wr) (fun _ i _ => l.length - (intOf i).toNat)
  case atStart => exact ⟨0, Nat.zero_le _, rfl, OwnL.nil _ _ _ _ _, Below.refl _ _⟩
  case round =>
    obtain ⟨k, hk, rfl, hown, hB⟩ := hrel
    by_cases hlt : k < l.length
    · obtain ⟨b, off, rfl, hb, hcl⟩ := Hr.out.at_ hlt
      obtain ⟨d0, d1, d2, d3, d4, d5, d6, d7⟩ := hcl k hlt wr (ext_trans hB5 hB)
      have hmem : l[k] ∈ l := List.getElem_mem hlt
      have htk : (l.take (k + 1)).filter (fitB l lang t u) = (l.take k).filter (fitB l lang t u) ++ (if fitB l lang t u l[k] = true then [l[k]] else []) := by
        rw [List.take_succ_eq_append_getElem hlt, List.filter_append]
        by_cases hp : fitB l lang t u l[k] = true <;> simp [hp]
      have hfl : ((l.take k).filter (fitB l lang t u)).length ≤ k := Nat.le_trans (List.length_filter_le _ _) (List.length_take_le _ _)
      have hfb : fitB l lang t u l[k] = (decide (l[k].lang = lang) && standsB l t u l[k]) := rfl
      clear hcl
      generalize l[k] = y at *
      have hylie : y.lies wr := (Hr.out.ext (ext_trans hB5 hB)).lie y hmem
      have cS : Hid _ := Lib.hid (stands27_any (some ⟨b, off, none⟩) cp l y t u wr (Hr.out.ext (ext_trans hB5 hB)) hylie Hm.out)
      have Htk := Lib.hid htk
      have Hfb := Lib.hid hfb
      have Hown := Lib.hid hown
      clear hmem htk hfb hylie hown
      by_cases hl1 : y.lang ≠ lang
      · have g1 : (y.lang == lang) = false := by simpa using hl1
        have HN : Hid ((l.take (k + 1)).filter (fitB l lang t u) = (l.take k).filter (fitB l lang t u)) := by show _ = _; rw [Htk.out, Hfb.out, decide_eq_false hl1]; simp
        clear hl1
        go_wp2_with fail
        go_roundw
        case rel => exact ⟨k + 1, by omega, by go_num, by rw [HN.out]; exact Hown.out, hB⟩
        case measure => simp [intOf]; omega
      have hl1 := Decidable.not_not.1 hl1
      have g1 : (y.lang == lang) = true := by simp [hl1]
      rw [decide_eq_true hl1, Bool.true_and] at Hfb
      clear hl1
      generalize standsB l t u y = q at *
      cases q
      · have HN : Hid ((l.take (k + 1)).filter (fitB l lang t u) = (l.take k).filter (fitB l lang t u)) := by show _ = _; rw [Htk.out, Hfb.out]; simp
        go_wp2_with fail
        refine cS.out.mono ?_
        rintro e w6 ⟨rfl, hb6⟩
        go_wp2_with fail
        go_roundw
        case rel => exact ⟨k + 1, by omega, by go_num, by rw [HN.out]; exact Hown.out.ext hb6, ext_trans hB hb6⟩
        case measure => simp [intOf]; omega
      · have HN : Hid ((l.take (k + 1)).filter (fitB l lang t u) = (l.take k).filter (fitB l lang t u) ++ [y]) := by show _ = _; rw [Htk.out, Hfb.out]; simp
        go_wp2_with fail
        refine cS.out.mono ?_
        rintro e w6 ⟨rfl, hb6⟩
        have hbw : b < wr.heap.size := Nat.lt_of_lt_of_le hb (ext_trans hB5 hB).size
        have e0 := (hb6.cell (p := ⟨b, off + k * 8, none⟩) hbw).trans d0
        have e1 := (hb6.cell (p := ⟨b, off + k * 8 + 1, none⟩) hbw).trans d1
        have e2 := (hb6.cell (p := ⟨b, off + k * 8 + 2, none⟩) hbw).trans d2
        have e3 := (hb6.cell (p := ⟨b, off + k * 8 + 3, none⟩) hbw).trans d3
        have e4 := (hb6.cell (p := ⟨b, off + k * 8 + 4, none⟩) hbw).trans d4
        have e5 := (hb6.cell (p := ⟨b, off + k * 8 + 5, none⟩) hbw).trans d5
        have e6 := (hb6.cell (p := ⟨b, off + k * 8 + 6, none⟩) hbw).trans d6
        have e7 := (hb6.cell (p := ⟨b, off + k * 8 + 7, none⟩) hbw).trans d7
        have ho : w6.ownsRow w5.heap.size 51 8 _ ((l.take k).filter (fitB l lang t u)).length (((l.take k).filter (fitB l lang t u)).flatMap Term.cells) := Hown.out.ext hb6
        generalize (l.take k).filter (fitB l lang t u) = el at *
        obtain ⟨A1, A2⟩ := ownT_room (el := el) (by omega)
        have A3 : w5.heap.size ≤ (w6.alloc (.cells #[.int .i64 y.no, .int .i64 y.at_, .int .i64 y.known, .int .i64 y.lang, .slice y.src.addr y.src.xs.length y.src.cap, .slice y.tgt.addr y.tgt.xs.length y.tgt.cap, .string y.cat, .bool y.gone] 51)).heap.size := by have h1 := hB.size; have h2 := hb6.size; simp; omega
        clear d0 d1 d2 d3 d4 d5 d6 d7
        go_wp2_with (at_builtin; refine wpList_append_own _ rfl _ _ 48 rfl w5.heap.size 51 i0 z0 8 104 Tryd.underlying48 hi0 iz0 is0 ib0 izs (by decide) _ _ _ rfl (ho.alloc _) _ _ _ [.int .i64 y.no, .int .i64 y.at_, .int .i64 y.known, .int .i64 y.lang, .slice y.src.addr y.src.xs.length y.src.cap, .slice y.tgt.addr y.tgt.xs.length y.tgt.cap, .string y.cat, .bool y.gone] rfl rfl (gcells_new w6 [.int .i64 y.no, .int .i64 y.at_, .int .i64 y.known, .int .i64 y.lang, .slice y.src.addr y.src.xs.length y.src.cap, .slice y.tgt.addr y.tgt.xs.length y.tgt.cap, .string y.cat, .bool y.gone] _) (one_term y) A1 A2 A3 ?_; intro v5 w10 hown6 hgrow6 _)
        have hB10 : Below w5.heap.size w5 w10 := (ext_alloc (ext_trans hB hb6) _).grown hgrow6 A3 (fun k hk => (ho.lt k hk).1)
        have hown7 : w10.ownsRow w5.heap.size 51 8 v5 (el.length + 1) (el.flatMap Term.cells ++ y.cells) := hown6
        go_roundw
        case rel => exact ⟨k + 1, by omega, by go_num, by rw [HN.out]; exact OwnL.snoc y hown7, hB10⟩
        case measure => simp [intOf]; omega
    · obtain rfl : k = l.length := by omega
      rw [List.take_length, ← HS.out] at hown
      obtain ⟨A9, c9, rfl, hrd9, hn9⟩ := OwnL.form (by omega) hown
      have hfin : Hid (StandPost l lang t u w (.returned (.tuple #[.slice A9 (standT l lang t u).length c9, .int .i64 0])) wr) := by
        refine ⟨ext_trans hB5 hB, .inr ⟨HF.out, A9, c9, rfl, ⟨hrd9, fun y hy => ?_⟩, hn9⟩⟩
        exact (Hr.out.ext (ext_trans hB5 hB)).lie y (List.mem_filter.1 hy).1
      clear hown hrd9 hn9 hlt hk
      go_wp2_with fail
      go_ret2
      exact hfin.out
end Go.Proofs.YtneanannicacnaaDoor
