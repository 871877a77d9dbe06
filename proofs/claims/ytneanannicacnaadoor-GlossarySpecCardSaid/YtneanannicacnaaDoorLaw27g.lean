/- GlossarySpec. -/
import Derived.Test.YtneanannicacnaaDoorAdd27
namespace Go.Proofs.YtneanannicacnaaDoor
open Go.RowKit Go.Han
attribute [local irreducible] wpStill wpQuiet
set_option maxRecDepth 100000

theorem Add27_at (A : Option Addr) (cp : Nat) (l : List Term) (x : Term) (w : World) (hr : TermsAt w A l) (hx : x.lies w) (hcp : l.length ≤ cp) (hcm : cp ≤ 9223372036854775807) :
    Calls Tryd.prog 33 #[.slice A l.length cp, .agg #[.int .i64 x.no, .int .i64 x.at_, .int .i64 x.known, .int .i64 x.lang, .slice x.src.addr x.src.xs.length x.src.cap, .slice x.tgt.addr x.tgt.xs.length x.tgt.cap, .string x.cat, .bool x.gone]] w fun e w' => Below w.heap.size w w' ∧ ∃ A c, e = .returned (.tuple #[.slice A (addOut l x).length c, .int .i64 (addE l x)]) ∧ TermsAt w' A (addOut l x) ∧ (A = none → addOut l x = []) :=
  (Add27_any A cp l x w hr hx hcp hcm).mono fun _ _ h => addPost_out h
theorem AddT_out (A : Option Addr) (cp : Nat) (l : List Term) (x : Term) (w : World) (hT : Tabs w) (hr : TermsAt w A l) (hx : x.lies w) (hA : A = none → l = []) (hm : l.length ≤ 9223372036854775807) :
    Calls Tryd.prog 32 #[.slice A l.length cp, .agg #[.int .i64 x.no, .int .i64 x.at_, .int .i64 x.known, .int .i64 x.lang, .slice x.src.addr x.src.xs.length x.src.cap, .slice x.tgt.addr x.tgt.xs.length x.tgt.cap, .string x.cat, .bool x.gone]] w fun e w' => Below w.heap.size w w' ∧ ∃ A c, e = .returned (.tuple #[.slice A (addOut l x).length c, .int .i64 (addE l x)]) ∧ TermsAt w' A (addOut l x) ∧ (A = none → addOut l x = []) :=
  (AddT_any A cp l x w hT hr hx hA hm).mono fun _ _ h => addPost_out h
theorem addOut_len (l : List Term) (x : Term) : (addOut l x).length ≤ 1025 := by
  unfold addOut
  split
  · rename_i h
    have := (checkT_zero (addE_zero h).1).1
    rw [addL_length]; omega
  · exact Nat.zero_le _

set_option maxHeartbeats 8000000 in
theorem GlossarySpec_any (A : Option Addr) (cp : Nat) (l : List Term) (x : Term) (w : World) (hU : Tabs w) (hr : TermsAt w A l) (hx : x.lies w) (hA : A = none → l = []) (hcp : l.length ≤ cp) (hcm : cp ≤ 9223372036854775807) (hm : l.length ≤ 9223372036854775807) :
    Calls Tryd.prog 9 #[.slice A l.length cp, .agg #[.int .i64 x.no, .int .i64 x.at_, .int .i64 x.known, .int .i64 x.lang, .slice x.src.addr x.src.xs.length x.src.cap, .slice x.tgt.addr x.tgt.xs.length x.tgt.cap, .string x.cat, .bool x.gone]] w fun e w' => e = .returned (.bool true) ∧ Below w.heap.size w w' := by
  obtain ⟨w0, hw0⟩ : ∃ w0, w.alloc (.cells #[.int .i64 x.no, .int .i64 x.at_, .int .i64 x.known, .int .i64 x.lang, .slice x.src.addr x.src.xs.length x.src.cap, .slice x.tgt.addr x.tgt.xs.length x.tgt.cap, .string x.cat, .bool x.gone] 51) = w0 := ⟨_, rfl⟩
  have hB0 : Below w.heap.size w w0 := by rw [← hw0]; exact ext_alloc (Below.refl _ _) _
  have hx0 : w0.heap[w.heap.size]? = some (.cells #[.int .i64 x.no, .int .i64 x.at_, .int .i64 x.known, .int .i64 x.lang, .slice x.src.addr x.src.xs.length x.src.cap, .slice x.tgt.addr x.tgt.xs.length x.tgt.cap, .string x.cat, .bool x.gone] 51 (0, 0)) := by rw [← hw0]; exact World.alloc_heap_new _ _
  have HB0 : Hid (∀ W, Below w0.heap.size w0 W → Below w.heap.size w W) := fun W h => ext_trans hB0 h
  have Hr := Lib.hid (hr.ext hB0)
  have Hx := Lib.hid (hx.ext hB0)
  have HU := Lib.hid (utf_ext hU hB0)
  have HA := Lib.hid hA
  have Hm := Lib.hid hm
  have Hcp := Lib.hid (And.intro hcp hcm)
  have Hout := Lib.hid (addOut_len l x)
  have cs := sane27_any w0 HU.out
  have cf := Lib.hid (fun w => fewT_any A cp l w Hm.out)
  generalize (decide (l.length ≤ 30) || (decide (1024 < l.length) && decide (l.length ≤ 1100))) = q at *
  clear hr hx hU hA hcp hcm hm
  go_enter Tryd.func9, Tryd.ntmps9
  go_wp2_with fail
  refine cs.mono ?_
  rintro e w1 ⟨rfl, hb1⟩
  have HB1 := Lib.hid hb1
  clear cs hb1
  go_wp2_with fail
  refine (cf.out _).mono ?_
  rintro e w' ⟨rfl, rfl⟩
  cases q
  · go_wp2_with fail
    go_ret
    exact ⟨rfl, HB0.out _ HB1.out⟩
  have hx1 := (HB1.out.block _ (lt_block hx0)).trans hx0
  have b0 := gblk hx1 0
  have b1 := gblk hx1 1
  have b2 := gblk hx1 2
  have b3 := gblk hx1 3
  have b4 := gblk hx1 4
  have b5 := gblk hx1 5
  have b6 := gblk hx1 6
  have b7 := gblk hx1 7
  clear hx1
  go_wp2_with fail
  refine (AddT_out A cp l x w1 (utf_ext HU.out HB1.out) (Hr.out.ext HB1.out) (Hx.out.ext HB1.out) HA.out Hm.out).mono ?_
  rintro e w2 ⟨hb2, A2, c2, rfl, hT2, hN2⟩
  have HB2 := Lib.hid (ext_trans HB1.out hb2)
  have HT2 := Lib.hid hT2
  clear hb2 hT2 hN2 b0 b1 b2 b3 b4 b5 b6 b7
  have hx2 := (HB2.out.block _ (lt_block hx0)).trans hx0
  have b0 := gblk hx2 0
  have b1 := gblk hx2 1
  have b2 := gblk hx2 2
  have b3 := gblk hx2 3
  have b4 := gblk hx2 4
  have b5 := gblk hx2 5
  have b6 := gblk hx2 6
  have b7 := gblk hx2 7
  clear hx2
  go_wp2_with fail
  refine (Add27_at A cp l x w2 (Hr.out.ext HB2.out) (Hx.out.ext HB2.out) Hcp.out.1 Hcp.out.2).mono ?_
  rintro e w3 ⟨hb3, A3, c3, rfl, hT3, hN3⟩
  have HB3 := Lib.hid (ext_trans HB2.out hb3)
  have HT23 := Lib.hid (HT2.out.ext hb3)
  have HT3 := Lib.hid hT3
  clear hb3 hT3 hN3 HT2 b0 b1 b2 b3 b4 b5 b6 b7
  have k1 : (addE l x == addE l x) = true := by simp
  have k2 : (checkT l == checkT l) = true := by simp
  go_wp2_with fail
  refine (CheckT_any A cp l w3 (utf_ext HU.out HB3.out) (Hr.out.ext HB3.out) Hm.out).mono ?_
  rintro e w4 ⟨rfl, hb4⟩
  have HB4 := Lib.hid (ext_trans HB3.out hb4)
  have H34 := Lib.hid hb4
  clear hb4
  go_wp2_with fail
  refine (check27_any A cp l w4 (Hr.out.ext HB4.out) Hm.out).mono ?_
  rintro e w5 ⟨rfl, hb5⟩
  have HB5 := Lib.hid (ext_trans HB4.out hb5)
  have H35 := Lib.hid (ext_trans H34.out hb5)
  have cP := sameL27_any A2 A3 c2 c3 (addOut l x) (addOut l x) w5 (HT23.out.ext H35.out) (HT3.out.ext H35.out) (by have := Hout.out; omega)
  rw [sameTermsB_refl] at cP
  have CP := Lib.hid cP
  clear hb5 cP
  go_wp2_with fail
  refine CP.out.mono ?_
  rintro e w6 ⟨rfl, hb6⟩
  have HB6 := Lib.hid (ext_trans HB5.out hb6)
  clear hb6 CP
  go_wp2_with fail
  go_ret
  exact ⟨by first | rfl | (simp; done), HB0.out _ HB6.out⟩
end Go.Proofs.YtneanannicacnaaDoor
