/- The reference's Find. -/
import Derived.Test.YtneanannicacnaaDoorFindA
namespace Go.Proofs.YtneanannicacnaaDoor
open Go.RowKit Go.Han
attribute [local irreducible] wpStill wpQuiet
set_option maxRecDepth 100000

/-- One step: is x better than the best so far. -/
def betterB (o : Option Term) (x : Term) : Bool := match o with | none => true | some b => decide (b.src.xs.length < x.src.xs.length)
def bestStep (ws : List ByteArray) (o : Option Term) (x : Term) : Option Term := if (startB x ws && betterB o x) = true then some x else o
def bestF (S : List Term) (ws : List ByteArray) : Option Term := S.foldl (bestStep ws) none
theorem bestF_snoc (S : List Term) (ws : List ByteArray) (x : Term) : bestF (S ++ [x]) ws = bestStep ws (bestF S ws) x := by
  unfold bestF; rw [List.foldl_append]; rfl
def findE (l : List Term) (lang : Int) (n : Nat) (i t u : Int) : Int := if standE l lang t u ≠ 0 then standE l lang t u else if i < 0 ∨ (n : Int) < i then 1 else 0
def foundV (o : Option Term) : Value := match o with | none => .tuple #[.int .i64 0, .bool false, .int .i64 0] | some x => .tuple #[.int .i64 x.no, .bool true, .int .i64 0]
def findV (l : List Term) (lang : Int) (ws : List ByteArray) (i t u : Int) : Value :=
  if findE l lang ws.length i t u ≠ 0 then .tuple #[.int .i64 0, .bool false, .int .i64 (findE l lang ws.length i t u)] else foundV (bestF (standT l lang t u) (ws.drop i.toNat))
/-- The best so far, as an index. -/
def BestIn (S : List Term) (ws : List ByteArray) (k : Nat) (bi : Int) : Prop := (bi = -1 ∧ bestF (S.take k) ws = none) ∨ ∃ (j : Nat) (h : j < S.length), j < k ∧ bi = j ∧ bestF (S.take k) ws = some S[j]

set_option maxHeartbeats 4000000 in
theorem Find27_any (A : Option Addr) (cp : Nat) (l : List Term) (lang : Int) (s : StrS) (i t u : Int) (w : World) (hr : TermsAt w A l) (hs : s.lies w) (hm : l.length ≤ 9223372036854775807) :
    Calls Tryd.prog 40 #[.slice A l.length cp, .int .i64 lang, .slice s.addr s.xs.length s.cap, .int .i64 i, .int .i64 t, .int .i64 u] w fun e w' => e = .returned (findV l lang s.xs i t u) ∧ Below w.heap.size w w' := by
  have HV : Hid (findV l lang s.xs i t u = if findE l lang s.xs.length i t u ≠ 0 then .tuple #[.int .i64 0, .bool false, .int .i64 (findE l lang s.xs.length i t u)] else foundV (bestF (standT l lang t u) (s.xs.drop i.toNat))) := rfl
  have HE : Hid (findE l lang s.xs.length i t u = if standE l lang t u ≠ 0 then standE l lang t u else if i < 0 ∨ (s.xs.length : Int) < i then 1 else 0) := rfl
  have Hs := Lib.hid hs
  have hcap := hs.cap
  have hmax := hs.max
  go_enter Tryd.func40, Tryd.ntmps40
  go_wp2_with fail
  refine (Standing27_any A cp l lang t u w hr hm).mono ?_
  rintro e w1 ⟨hB1, h⟩
  clear hr hs
  rcases h with ⟨hne, rfl⟩ | ⟨hz, B, c2, rfl, hS, hN⟩
  · have HF : Hid (findV l lang s.xs i t u = .tuple #[.int .i64 0, .bool false, .int .i64 (standE l lang t u)]) := by
      show _ = _
      have h1 : findE l lang s.xs.length i t u = standE l lang t u := by rw [HE.out, if_pos hne]
      rw [HV.out, h1, if_pos hne]
    have n1 : (standE l lang t u == 0) = false := by simpa using hne
    have n2 : (standE l lang t u != 0) = true := by simpa using hne
    clear hne
    go_wp2_with fail
    go_ret3
    exact ⟨by rw [HF.out]; rfl, hB1⟩
  have HE2 : Hid (findE l lang s.xs.length i t u = if i < 0 ∨ (s.xs.length : Int) < i then 1 else 0) := by show _ = _; rw [HE.out, if_neg (by simpa using hz)]
  clear HE hz
  by_cases h0 : i < 0
  · have HF : Hid (findV l lang s.xs i t u = .tuple #[.int .i64 0, .bool false, .int .i64 1]) := by
      show _ = _
      have h1 : findE l lang s.xs.length i t u = 1 := by rw [HE2.out, if_pos (.inl h0)]
      rw [HV.out, h1]; rfl
    have g1 : decide (i < 0) = true := decide_eq_true h0
    go_wp2_with fail
    go_ret3
    exact ⟨by rw [HF.out]; rfl, hB1⟩
  have g1 : decide (i < 0) = false := decide_eq_false h0
  by_cases h2 : (s.xs.length : Int) < i
  · have HF : Hid (findV l lang s.xs i t u = .tuple #[.int .i64 0, .bool false, .int .i64 1]) := by
      show _ = _
      have h1 : findE l lang s.xs.length i t u = 1 := by rw [HE2.out, if_pos (.inr h2)]
      rw [HV.out, h1]; rfl
    have g2 : decide (i > (s.xs.length : Int)) = true := decide_eq_true h2
    go_wp2_with fail
    go_ret3
    exact ⟨by rw [HF.out]; rfl, hB1⟩
  have g2 : decide (i > (s.xs.length : Int)) = false := decide_eq_false h2
  have HF : Hid (findV l lang s.xs i t u = foundV (bestF (standT l lang t u) (s.xs.drop i.toNat))) := by
    show _ = _
    have h1 : findE l lang s.xs.length i t u = 0 := by rw [HE2.out, if_neg (by omega)]
    rw [HV.out, h1]; rfl
  obtain ⟨m, rfl⟩ : ∃ m : Nat, i = m := ⟨i.toNat, by omega⟩
  have hml : m ≤ s.xs.length := by omega
  have g3 : decide (s.xs.length < m) = false := decide_eq_false (by omega)
  have g4 : ¬ s.xs.length < m := by omega
  have hmi : ((m : Int)).toNat = m := by omega
  rw [hmi] at HF
  have hSl : (standT l lang t u).length ≤ 9223372036854775807 := Nat.le_trans (List.length_filter_le _ _) hm
  clear HE2 HV h0 h2 hmi
  have HS := Lib.hid hS
  have Hs1 := Lib.hid (Hs.out.ext hB1)
  clear hS Hs
  generalize standT l lang t u = S at *
  go_wp2_with fail
  go_loopw [17, 18] (fun q i wr => ∃ (k : Nat) (bi : Int), k ≤ S.length ∧ i = .int .i64 k ∧ q = .int .i64 bi ∧ BestIn S (s.xs.drop m) k bi ∧ Below w1.heap.size w1 wr) (fun _ i _ => S.length - (intOf i).toNat)
  case atStart => exact ⟨0, -1, Nat.zero_le _, rfl, rfl, .inl ⟨rfl, rfl⟩, Below.refl _ _⟩
  case round =>
    obtain ⟨k, bi, hk, rfl, rfl, hbest, hB⟩ := hrel
    by_cases hlt : k < S.length
    · obtain ⟨b, off, rfl, hb, hcl⟩ := HS.out.at_ hlt
      obtain ⟨d0, d1, d2, d3, d4, d5, d6, d7⟩ := hcl k hlt wr hB
      have hbw : b < wr.heap.size := Nat.lt_of_lt_of_le hb hB.size
      have htk : bestF (S.take (k + 1)) (s.xs.drop m) = bestStep (s.xs.drop m) (bestF (S.take k) (s.xs.drop m)) S[k] := by
        rw [List.take_succ_eq_append_getElem hlt, bestF_snoc]
      have hylie : S[k].lies wr := (HS.out.lie _ (List.getElem_mem hlt)).ext hB
      have cI : ∀ p : ExtBy wr, Calls Tryd.prog 45 _ p.to _ := fun p => isAt_any S[k] s m p.to (hylie.ext p.ext) (Hs1.out.ext (ext_trans hB p.ext)) hml
      have Htk := Lib.hid htk
      have c0 := fun p => cell_ext (w := wr) (a := ⟨b, off + k * 8, none⟩) hbw d0 p
      have c1 := fun p => cell_ext (w := wr) (a := ⟨b, off + k * 8 + 1, none⟩) hbw d1 p
      have c2 := fun p => cell_ext (w := wr) (a := ⟨b, off + k * 8 + 2, none⟩) hbw d2 p
      have c3 := fun p => cell_ext (w := wr) (a := ⟨b, off + k * 8 + 3, none⟩) hbw d3 p
      have c4 := fun p => cell_ext (w := wr) (a := ⟨b, off + k * 8 + 4, none⟩) hbw d4 p
      have c5 := fun p => cell_ext (w := wr) (a := ⟨b, off + k * 8 + 5, none⟩) hbw d5 p
      have c6 := fun p => cell_ext (w := wr) (a := ⟨b, off + k * 8 + 6, none⟩) hbw d6 p
      have c7 := fun p => cell_ext (w := wr) (a := ⟨b, off + k * 8 + 7, none⟩) hbw d7 p
      have Hy : Hid (∃ y, y = S[k]) := ⟨_, rfl⟩
      rcases hbest with ⟨rfl, hn⟩ | ⟨j, hj, hjk, rfl, hn⟩
      · have Hst : Hid (BestIn S (s.xs.drop m) (k + 1) (if startB S[k] (s.xs.drop m) = true then (k : Int) else -1)) := by
          by_cases hb1 : startB S[k] (s.xs.drop m) = true
          · rw [if_pos hb1]
            exact .inr ⟨k, hlt, by omega, rfl, by rw [Htk.out, hn]; unfold bestStep betterB; rw [hb1]; rfl⟩
          · rw [if_neg hb1]
            exact .inl ⟨rfl, by rw [Htk.out, hn]; unfold bestStep; rw [Bool.eq_false_iff.2 hb1]; rfl⟩
        clear hcl htk hylie hn Htk Hy
        generalize S[k] = y at *
        generalize startB y (s.xs.drop m) = q at *
        have CI := Lib.hid cI
        clear cI
        cases q
        · go_wp2_with fail
          refine wp_region_ext (by kernel_rfl) (by kernel_rfl) ?_
          repeat (quiet_step ((go_at_call 45; exact Calls.ext_of (CI.out _))))
          refine wpQuiet_nil ?_
          intro _ hw'
          obtain ⟨p, rfl⟩ := hw'
          go_wp2
          go_roundw
          case rel => exact ⟨k + 1, -1, by omega, by go_num, rfl, Hst.out, ext_trans hB p.ext⟩
          case measure => simp [intOf]; omega
        · go_wp2_with fail
          refine wp_region_ext (by kernel_rfl) (by kernel_rfl) ?_
          repeat (quiet_step ((go_at_call 45; exact Calls.ext_of (CI.out _))))
          refine wpQuiet_nil ?_
          intro _ hw'
          obtain ⟨p, rfl⟩ := hw'
          go_wp2
          go_roundw
          case rel => exact ⟨k + 1, k, by omega, by go_num, rfl, Hst.out, ext_trans hB p.ext⟩
          case measure => simp [intOf]; omega
      · obtain ⟨e0, e1, e2, e3, e4, e5, e6, e7⟩ := hcl j hj wr hB
        have f4 := fun p => cell_ext (w := wr) (a := ⟨b, off + j * 8 + 4, none⟩) hbw e4 p
        have hjn : ¬ ((j : Int) < 0) := by omega
        have gjn : decide ((j : Int) < 0) = false := decide_eq_false hjn
        have Hst : Hid (BestIn S (s.xs.drop m) (k + 1) (if (startB S[k] (s.xs.drop m) && decide (S[j].src.xs.length < S[k].src.xs.length)) = true then (k : Int) else j)) := by
          have h3 : bestF (S.take (k + 1)) (s.xs.drop m) = if (startB S[k] (s.xs.drop m) && decide (S[j].src.xs.length < S[k].src.xs.length)) = true then some S[k] else some S[j] := by
            rw [Htk.out, hn]; rfl
          by_cases hb1 : (startB S[k] (s.xs.drop m) && decide (S[j].src.xs.length < S[k].src.xs.length)) = true
          · rw [if_pos hb1] at h3 ⊢
            exact .inr ⟨k, hlt, by omega, rfl, h3⟩
          · rw [if_neg hb1] at h3 ⊢
            exact .inr ⟨j, hj, by omega, rfl, h3⟩
        have hdd : decide (((S[k].src.xs.length : Nat) : Int) > ((S[j].src.xs.length : Nat) : Int)) = decide (S[j].src.xs.length < S[k].src.xs.length) := by
          by_cases h : S[j].src.xs.length < S[k].src.xs.length
          · rw [decide_eq_true h, decide_eq_true (by omega)]
          · rw [decide_eq_false h, decide_eq_false (by omega)]
        clear hcl htk hylie hn Htk Hy e0 e1 e2 e3 e4 e5 e6 e7
        generalize S[k] = y at *
        generalize S[j] = z at *
        generalize startB y (s.xs.drop m) = q at *
        obtain ⟨q2, hq2⟩ : ∃ q2, decide (z.src.xs.length < y.src.xs.length) = q2 := ⟨_, rfl⟩
        rw [hq2] at Hst hdd
        have CI := Lib.hid cI
        clear cI
        cases q
        · go_wp2_with fail
          refine wp_region_ext (by kernel_rfl) (by kernel_rfl) ?_
          repeat (quiet_step ((go_at_call 45; exact Calls.ext_of (CI.out _))))
          refine wpQuiet_nil ?_
          intro _ hw'
          obtain ⟨p, rfl⟩ := hw'
          go_wp2
          go_roundw
          case rel => exact ⟨k + 1, j, by omega, by go_num, rfl, Hst.out, ext_trans hB p.ext⟩
          case measure => simp [intOf]; omega
        · cases q2
          · go_wp2_with fail
            refine wp_region_ext (by kernel_rfl) (by kernel_rfl) ?_
            repeat (quiet_step ((go_at_call 45; exact Calls.ext_of (CI.out _))))
            refine wpQuiet_nil ?_
            intro _ hw'
            obtain ⟨p, rfl⟩ := hw'
            go_wp2
            go_roundw
            case rel => exact ⟨k + 1, j, by omega, by go_num, rfl, Hst.out, ext_trans hB p.ext⟩
            case measure => simp [intOf]; omega
          · go_wp2_with fail
            refine wp_region_ext (by kernel_rfl) (by kernel_rfl) ?_
            repeat (quiet_step ((go_at_call 45; exact Calls.ext_of (CI.out _))))
            refine wpQuiet_nil ?_
            intro _ hw'
            obtain ⟨p, rfl⟩ := hw'
            go_wp2
            go_roundw
            case rel => exact ⟨k + 1, k, by omega, by go_num, rfl, Hst.out, ext_trans hB p.ext⟩
            case measure => simp [intOf]; omega
    · obtain rfl : k = S.length := by omega
      rcases hbest with ⟨rfl, hn⟩ | ⟨j, hj, hjk, rfl, hn⟩
      · rw [List.take_length] at hn
        rw [hn] at HF
        go_wp2_with fail
        go_ret3
        exact ⟨by rw [HF.out]; rfl, ext_trans hB1 hB⟩
      · rw [List.take_length] at hn
        rw [hn] at HF
        obtain ⟨b, off, rfl, hb, hcl⟩ := HS.out.at_ hj
        obtain ⟨e0, e1, e2, e3, e4, e5, e6, e7⟩ := hcl j hj wr hB
        have hjn : ¬ ((j : Int) < 0) := by omega
        have gjn : decide ((j : Int) < 0) = false := decide_eq_false hjn
        clear hcl e1 e2 e3 e4 e5 e6 e7 hn
        generalize S[j] = z at *
        go_wp2_with fail
        go_ret3
        exact ⟨by rw [HF.out]; rfl, ext_trans hB1 hB⟩
end Go.Proofs.YtneanannicacnaaDoor
