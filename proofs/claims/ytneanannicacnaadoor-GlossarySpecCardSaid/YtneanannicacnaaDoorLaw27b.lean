/- GlossaryFindSpec. -/
import Derived.Test.YtneanannicacnaaDoorLaw27a
namespace Go.Proofs.YtneanannicacnaaDoor
open Go.RowKit Go.Han
attribute [local irreducible] wpStill wpQuiet
set_option maxRecDepth 100000

theorem sameTermB_refl (x : Term) : sameTermB x x = true := by simp [sameTermB]
theorem sameTermsB_refl : ∀ l : List Term, sameTermsB l l = true
  | [] => rfl
  | x :: l => by show (sameTermB x x && sameTermsB l l) = true; rw [sameTermB_refl, sameTermsB_refl l]; rfl
/-- What Standing hands out. -/
def standOut (l : List Term) (lang t u : Int) : List Term := if standE l lang t u = 0 then standT l lang t u else []
theorem standPost_out {l : List Term} {lang t u : Int} {w w' : World} {e : Ending} (h : StandPost l lang t u w e w') :
    Below w.heap.size w w' ∧ ∃ A c, e = .returned (.tuple #[.slice A (standOut l lang t u).length c, .int .i64 (standE l lang t u)]) ∧ TermsAt w' A (standOut l lang t u) ∧ (A = none → standOut l lang t u = []) := by
  rcases h with ⟨hb, ⟨hne, rfl⟩ | ⟨hz, A, c, rfl, hT, hN⟩⟩
  · refine ⟨hb, none, 0, ?_, ?_, fun _ => ?_⟩
    · unfold standOut; rw [if_neg hne]; rfl
    · unfold standOut; rw [if_neg hne]; exact TermsAt.nil _ _
    · unfold standOut; rw [if_neg hne]
  · refine ⟨hb, A, c, ?_, ?_, fun h => ?_⟩
    · unfold standOut; rw [if_pos hz, hz]
    · unfold standOut; rw [if_pos hz]; exact hT
    · unfold standOut; rw [if_pos hz]; exact hN h
theorem standOut_len {l : List Term} {lang t u : Int} (h : l.length ≤ 9223372036854775807) : (standOut l lang t u).length ≤ 9223372036854775807 := by
  unfold standOut
  split
  · exact Nat.le_trans (List.length_filter_le _ _) h
  · exact Nat.zero_le _
theorem findV_form (l : List Term) (lang : Int) (ws : List ByteArray) (i t u : Int) : ∃ (n : Int) (k : Bool) (e : Int), findV l lang ws i t u = .tuple #[.int .i64 n, .bool k, .int .i64 e] := by
  unfold findV
  split
  · exact ⟨_, _, _, rfl⟩
  · unfold foundV
    split
    · exact ⟨_, _, _, rfl⟩
    · exact ⟨_, _, _, rfl⟩

set_option maxHeartbeats 4000000 in
theorem GlossaryFindSpec_any (A : Option Addr) (cp : Nat) (l : List Term) (lang : Int) (s : StrS) (i t u : Int) (w : World) (hU : Tabs w) (hr : TermsAt w A l) (hs : s.lies w) (hm : l.length ≤ 9223372036854775807) :
    Calls Tryd.prog 10 #[.slice A l.length cp, .int .i64 lang, .slice s.addr s.xs.length s.cap, .int .i64 i, .int .i64 t, .int .i64 u] w fun e w' => e = .returned (.bool true) ∧ Below w.heap.size w w' := by
  have hmax := Nat.le_trans hs.cap hs.max
  have Hr := Lib.hid hr
  have Hs := Lib.hid hs
  have HU := Lib.hid hU
  have Hm := Lib.hid hm
  have cs := sane27_any w hU
  have cf := Lib.hid (fun w => fewT_any A cp l w hm)
  generalize (decide (l.length ≤ 30) || (decide (1024 < l.length) && decide (l.length ≤ 1100))) = q at *
  clear hr hs hU hm
  go_enter Tryd.func10, Tryd.ntmps10
  go_wp2_with fail
  refine cs.mono ?_
  rintro e w1 ⟨rfl, hb1⟩
  have HB1 := Lib.hid hb1
  clear cs hb1
  go_wp2_with fail
  refine (cf.out _).mono ?_
  rintro e w' ⟨rfl, rfl⟩
  cases q
  · go_wp2_with fail
    go_ret
    exact ⟨rfl, HB1.out⟩
  by_cases hbig : s.xs.length > 1000
  · have g1 : decide ((s.xs.length : Int) > 1000) = true := decide_eq_true (by omega)
    have g2 : decide (1000 < s.xs.length) = true := decide_eq_true hbig
    have g3 : 1000 < s.xs.length := hbig
    go_wp2_with fail
    go_ret
    exact ⟨rfl, HB1.out⟩
  have g1 : decide ((s.xs.length : Int) > 1000) = false := decide_eq_false (by omega)
  have g2 : decide (1000 < s.xs.length) = false := decide_eq_false hbig
  have g3 : ¬ 1000 < s.xs.length := hbig
  clear hbig
  go_wp2_with fail
  refine (Standing_any A cp l lang t u w1 (utf_ext HU.out HB1.out) (Hr.out.ext HB1.out) Hm.out).mono ?_
  intro e w2 h2
  obtain ⟨hb2, A2, c2, rfl, hT2, hN2⟩ := standPost_out h2
  have HB2 := Lib.hid (ext_trans HB1.out hb2)
  clear h2 hN2 hb2
  have HT2 := Lib.hid hT2
  clear hT2
  go_wp2_with fail
  refine (Standing27_any A cp l lang t u w2 (Hr.out.ext HB2.out) Hm.out).mono ?_
  intro e w3 h3
  obtain ⟨hb3, A3, c3, rfl, hT3, hN3⟩ := standPost_out h3
  have HB3 := Lib.hid (ext_trans HB2.out hb3)
  have HT23 := Lib.hid (And.intro (HT2.out.ext hb3) hT3)
  clear h3 hN3 hb3 hT3 HT2
  obtain ⟨no, ok, er, hV⟩ := findV_form l lang s.xs i t u
  go_wp2_with fail
  refine (Find_any A cp l lang s i t u w3 (utf_ext HU.out HB3.out) (Hr.out.ext HB3.out) (Hs.out.ext HB3.out) Hm.out).mono ?_
  rintro e w4 ⟨rfl, hb4⟩
  have HB4 := Lib.hid (ext_trans HB3.out hb4)
  have HT4 := Lib.hid (And.intro (HT23.out.1.ext hb4) (HT23.out.2.ext hb4))
  clear hb4 HT23
  rw [hV]
  go_wp2_with fail
  refine (Find27_any A cp l lang s i t u w4 (Hr.out.ext HB4.out) (Hs.out.ext HB4.out) Hm.out).mono ?_
  rintro e w5 ⟨rfl, hb5⟩
  have HB5 := Lib.hid (ext_trans HB4.out hb5)
  have HT5 := Lib.hid (And.intro (HT4.out.1.ext hb5) (HT4.out.2.ext hb5))
  clear hb5 HT4
  rw [hV]
  clear hV
  have cS := sameL27_any A2 A3 c2 c3 _ _ w5 HT5.out.1 HT5.out.2 (standOut_len Hm.out)
  rw [sameTermsB_refl] at cS
  generalize standE l lang t u = E at *
  generalize (standOut l lang t u).length = nS at *
  have CS := Lib.hid cS
  clear cS HT5
  go_wp2_with fail
  refine CS.out.mono ?_
  rintro e w6 ⟨rfl, hb6⟩
  have HB6 := Lib.hid (ext_trans HB5.out hb6)
  clear hb6 CS
  go_wp2_with fail
  go_ret
  exact ⟨by first | rfl | (simp; done), HB6.out⟩
end Go.Proofs.YtneanannicacnaaDoor
