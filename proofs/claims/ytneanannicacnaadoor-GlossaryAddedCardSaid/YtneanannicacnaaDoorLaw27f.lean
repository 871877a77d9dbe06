/- GlossaryAdded. -/
import Derived.Test.YtneanannicacnaaDoorLaw27p
import Derived.BigQuiet
import Derived.Deep.DeepCutAuto
namespace Go.Proofs.YtneanannicacnaaDoor
open Go.RowKit Go.Han
attribute [local irreducible] wpStill wpQuiet
set_option maxRecDepth 100000

theorem AddT_at (A : Option Addr) (cp : Nat) (l : List Term) (x : Term) (w : World) (hT : Tabs w) (hr : TermsAt w A l) (hx : x.lies w) (hA : A = none → l = []) (hm : l.length ≤ 9223372036854775807) :
    Calls Tryd.prog 32 #[.slice A l.length cp, .agg #[.int .i64 x.no, .int .i64 x.at_, .int .i64 x.known, .int .i64 x.lang, .slice x.src.addr x.src.xs.length x.src.cap, .slice x.tgt.addr x.tgt.xs.length x.tgt.cap, .string x.cat, .bool x.gone]] w (AddPost l x w) := AddT_any A cp l x w hT hr hx hA hm
def restL (a : Term) (S : List Term) : List Term := S.filter (fun z => !aboutB z a)
theorem restL_succ (a : Term) (S : List Term) (k : Nat) (h : k < S.length) : restL a (S.take (k + 1)) = restL a (S.take k) ++ (if aboutB S[k] a = true then [] else [S[k]]) := by
  unfold restL
  rw [List.take_succ_eq_append_getElem h, List.filter_append]
  by_cases hp : aboutB S[k] a = true <;> simp [hp]
theorem and_step (s p x r : Bool) (h : r = (s && !p)) : (r && !x) = (s && !(p || x)) := by subst h; cases s <;> cases p <;> cases x <;> rfl
theorem restL_len (a : Term) (S : List Term) (k : Nat) : (restL a (S.take k)).length ≤ k := Nat.le_trans (List.length_filter_le _ _) (List.length_take_le _ _)
theorem noAny_succ (n : Int) (S : List Term) (k : Nat) (h : k < S.length) : (S.take (k + 1)).any (fun z => z.no == n) = ((S.take k).any (fun z => z.no == n) || S[k].no == n) := by
  rw [List.take_succ_eq_append_getElem h, List.any_append]; simp
def Bw (w W : World) : Prop := Below w.heap.size w W
/-- The two boxes of the arguments. -/
structure Two (na nb : Nat) (a b : Term) (w : World) : Prop where
  ha : w.heap[na]? = some (.cells #[.int .i64 a.no, .int .i64 a.at_, .int .i64 a.known, .int .i64 a.lang, .slice a.src.addr a.src.xs.length a.src.cap, .slice a.tgt.addr a.tgt.xs.length a.tgt.cap, .string a.cat, .bool a.gone] 51 (0, 0))
  hb : w.heap[nb]? = some (.cells #[.int .i64 b.no, .int .i64 b.at_, .int .i64 b.known, .int .i64 b.lang, .slice b.src.addr b.src.xs.length b.src.cap, .slice b.tgt.addr b.tgt.xs.length b.tgt.cap, .string b.cat, .bool b.gone] 51 (0, 0))
  la : a.lies w
  lb : b.lies w
theorem Two.ext {na nb : Nat} {a b : Term} {w w' : World} (h : Two na nb a b w) (hb : Below w.heap.size w w') : Two na nb a b w' :=
  ⟨(hb.block _ (lt_block h.ha)).trans h.ha, (hb.block _ (lt_block h.hb)).trans h.hb, h.la.ext hb, h.lb.ext hb⟩

set_option maxHeartbeats 32000000 in
theorem GlossaryAdded_any (A : Option Addr) (cp : Nat) (l : List Term) (a b : Term) (lang t u : Int) (w : World) (hU : Tabs w) (hr : TermsAt w A l) (hla : a.lies w) (hlb : b.lies w) (hA : A = none → l = []) (hm : l.length ≤ 9223372036854775807) :
    Calls Tryd.prog 13 #[.slice A l.length cp, .agg #[.int .i64 a.no, .int .i64 a.at_, .int .i64 a.known, .int .i64 a.lang, .slice a.src.addr a.src.xs.length a.src.cap, .slice a.tgt.addr a.tgt.xs.length a.tgt.cap, .string a.cat, .bool a.gone], .agg #[.int .i64 b.no, .int .i64 b.at_, .int .i64 b.known, .int .i64 b.lang, .slice b.src.addr b.src.xs.length b.src.cap, .slice b.tgt.addr b.tgt.xs.length b.tgt.cap, .string b.cat, .bool b.gone], .int .i64 lang, .int .i64 t, .int .i64 u] w fun e w' => e = .returned (.bool true) ∧ Below w.heap.size w w' := by
  obtain ⟨i0, z0, hi0, iz0, is0, ib0, izs⟩ := parts_term
  obtain ⟨w0, hw0⟩ : ∃ w0, (w.alloc (.cells #[.int .i64 a.no, .int .i64 a.at_, .int .i64 a.known, .int .i64 a.lang, .slice a.src.addr a.src.xs.length a.src.cap, .slice a.tgt.addr a.tgt.xs.length a.tgt.cap, .string a.cat, .bool a.gone] 51)).alloc (.cells #[.int .i64 b.no, .int .i64 b.at_, .int .i64 b.known, .int .i64 b.lang, .slice b.src.addr b.src.xs.length b.src.cap, .slice b.tgt.addr b.tgt.xs.length b.tgt.cap, .string b.cat, .bool b.gone] 51) = w0 := ⟨_, rfl⟩
  have hB0 : Below w.heap.size w w0 := by rw [← hw0]; exact ext_alloc (ext_alloc (Below.refl _ _) _) _
  have hz0 : w0.heap.size = w.heap.size + 1 + 1 := by rw [← hw0]; simp
  have M0 : Two w.heap.size (w.heap.size + 1) a b w0 := ⟨by rw [← hw0]; exact (Below.heap_alloc _ _ _ (by simp)).trans (World.alloc_heap_new _ _), by rw [← hw0]; exact galloc_at _ _ _ (by simp), hla.ext hB0, hlb.ext hB0⟩
  have HM := Lib.hid M0
  have Hr := Lib.hid (hr.ext hB0)
  have HU := Lib.hid (utf_ext hU hB0)
  have Hm := Lib.hid hm
  have HA := Lib.hid hA
  have HB0 : Hid (∀ W, Below w0.heap.size w0 W → Bw w W) := fun W h => ext_trans hB0 h
  have cs := sane27_any w0 (utf_ext hU hB0)
  have cf := Lib.hid (fun w => fewT_any A cp l w hm)
  obtain ⟨q, hq⟩ : ∃ q, (decide (l.length ≤ 30) || (decide (1024 < l.length) && decide (l.length ≤ 1100))) = q := ⟨_, rfl⟩
  rw [hq] at cf
  have Hq := Lib.hid hq
  clear hr hU hq hla hlb M0 hA
  go_enter Tryd.func13, Tryd.ntmps13
  go_wp2_with fail
  generalize w.heap.size + 1 = nb at *
  generalize hna : w.heap.size = na at *
  clear hw0 hz0 hna
  refine cs.mono ?_
  rintro e w1 ⟨rfl, hb1⟩
  have HB1 := Lib.hid hb1
  clear cs hb1 hB0
  go_wp2_with fail
  refine (cf.out _).mono ?_
  rintro e w' ⟨rfl, rfl⟩
  cases q
  · go_wp2_with fail
    go_ret
    exact ⟨rfl, HB0.out _ HB1.out⟩
  have M1 := HM.out.ext HB1.out
  have hma := M1.ha
  have a0 := gblk hma 0
  have a1 := gblk hma 1
  have a2 := gblk hma 2
  have a3 := gblk hma 3
  have a4 := gblk hma 4
  have a5 := gblk hma 5
  have a6 := gblk hma 6
  have a7 := gblk hma 7
  clear hma M1
  go_wp2_with fail
  refine (AddT_at A cp l a w1 (utf_ext HU.out HB1.out) (Hr.out.ext HB1.out) (HM.out.ext HB1.out).la HA.out Hm.out).mono ?_
  intro e w2 h2
  obtain ⟨hb2, AX, cX, rfl, hTX, hNX⟩ := addPost_out h2
  have HB2 := Lib.hid (ext_trans HB1.out hb2)
  clear h2 hb2 a0 a1 a2 a3 a4 a5 a6 a7
  by_cases hne : addE l a ≠ 0
  · have hso : addOut l a = [] := by unfold addOut; rw [if_neg hne]
    rw [hso, List.length_nil]
    have n1 : (addE l a == 0) = false := by simpa using hne
    have n2 : (addE l a != 0) = true := by simpa using hne
    clear hne hTX hNX hso
    go_wp2_with fail
    go_ret
    exact ⟨by first | rfl | (simp; done), HB0.out _ HB2.out⟩
  have hz := Decidable.not_not.1 hne
  have hso : addOut l a = addL l a := by unfold addOut; rw [if_pos hz]
  have hl30 : l.length ≤ 30 := by
    have h1 := (checkT_zero (addE_zero hz).1).1
    have h2 := Hq.out
    simp at h2
    omega
  have hXl : (addL l a).length ≤ 31 := by rw [addL_length]; omega
  rw [hso] at hTX hNX ⊢
  have HZ := Lib.hid hz
  have HTX := Lib.hid hTX
  have HNX := Lib.hid hNX
  have HSE := Lib.hid (added_standE hz lang t u)
  have HRest := Lib.hid (added_rest l a lang t u)
  have HOwn := Lib.hid (added_own hz lang t u)
  have HTwo := Lib.hid (fun h1 h2 => added_two (b := b) hl30 hz h1 h2)
  have HBoth := Lib.hid (fun h1 => added_both (b := b) hz h1)
  rw [hz]
  clear hne hso hz hTX hNX
  obtain ⟨X, hX⟩ : ∃ X, addL l a = X := ⟨_, rfl⟩
  rw [hX] at HTX HNX HSE HRest HOwn HTwo HBoth hXl ⊢
  clear hX
  go_wp2_with fail
  refine (Standing_any A cp l lang t u w2 (utf_ext HU.out HB2.out) (Hr.out.ext HB2.out) Hm.out).mono ?_
  intro e w3 h3
  obtain ⟨hb3, AS, cS, rfl, hTS, hNS⟩ := standPost_out h3
  have HTX3 := Lib.hid (HTX.out.ext hb3)
  have HB3 := Lib.hid (ext_trans HB2.out hb3)
  have HTS := Lib.hid hTS
  clear h3 hb3 hTS hNS HTX
  go_wp2_with fail
  refine (Standing_any AX cX X lang t u w3 (utf_ext HU.out HB3.out) HTX3.out (by omega)).mono ?_
  intro e w4 h4
  obtain ⟨hb4, AR, cR, rfl, hTR, hNR⟩ := standPost_out h4
  have HB4 := Lib.hid (ext_trans HB3.out hb4)
  have HTS4 := Lib.hid (HTS.out.ext hb4)
  have HTX4 := Lib.hid (HTX3.out.ext hb4)
  have HTR := Lib.hid hTR
  rw [HSE.out]
  clear h4 hb4 hTR hNR HTX3 HTS
  have k0 : (standE l lang t u != standE l lang t u) = false := by simp
  have k0' : (standE l lang t u == standE l lang t u) = true := by simp
  obtain ⟨w5, hw5⟩ : ∃ w5, w5 = w4 := ⟨_, rfl⟩
  rw [← hw5] at HB4 HTS4 HTX4 HTR ⊢
  clear hw5
  have HM4 := Lib.hid (HM.out.ext HB4.out)
  have HR4 := Lib.hid (Hr.out.ext HB4.out)
  have HU4 := Lib.hid (utf_ext HU.out HB4.out)
  have HB54 : Hid (∀ W, Below w5.heap.size w5 W → Bw w W) := fun W h => HB0.out W (ext_trans HB4.out h)
  clear HB0 HB1 HB2 HB3 HB4 HM Hr HU

  have hSl : (standOut l lang t u).length ≤ 30 := by unfold standOut; split; exact Nat.le_trans (List.length_filter_le _ _) hl30; exact Nat.zero_le _
  have hRl : (standOut X lang t u).length ≤ 31 := by unfold standOut; split; exact Nat.le_trans (List.length_filter_le _ _) hXl; exact Nat.zero_le _
  have hR3 : standE l lang t u = 0 → restL a (standOut X lang t u) = restL a (standOut l lang t u) := by intro hz; unfold standOut; rw [if_pos hz, if_pos (HSE.out.trans hz)]; exact HRest.out
  have hO3 : standE l lang t u = 0 → (standOut X lang t u).any (fun z => z.no == a.no) = (decide (a.lang = lang) && countsB a t u && !a.gone && !laterAny l t u a) := by intro hz; unfold standOut; rw [if_pos (HSE.out.trans hz)]; exact HOwn.out
  clear HRest HOwn HSE
  generalize standOut l lang t u = S at *
  generalize standOut X lang t u = T at *
  generalize standE l lang t u = se at *
  have HR3 := Lib.hid hR3
  have HO3 := Lib.hid hO3
  clear hR3 hO3
  go_upto_if 68 with fail
  go_cut [] (fun wx => Below w5.heap.size w5 wx)
  case first =>
    by_cases hst : se ≠ 0
    · have n1 : (se == 0) = false := by simpa using hst
      have n2 : (se != 0) = true := by simpa using hst
      clear hst
      go_wp2_with fail
      go_meet
      case rel => exact Below.refl _ _
    have hst := Decidable.not_not.1 hst
    have n1 : (se == 0) = true := by simp [hst]
    have n2 : (se != 0) = false := by simp [hst]
    have HRest := Lib.hid (HR3.out hst)
    have HOwn := Lib.hid (HO3.out hst)
    rw [n1]
    clear hst
    go_wp2_with fail
    go_loopw [19, 21] (fun p i wr => ∃ k : Nat, k ≤ S.length ∧ i = .int .i64 k ∧ OwnT wr w5.heap.size p (restL a (S.take k)) ∧ Below w5.heap.size w5 wr) (fun _ i _ => S.length - (intOf i).toNat)
    case atStart => exact ⟨0, Nat.zero_le _, rfl, OwnL.nil _ _ _ _ _, Below.refl _ _⟩
    case round =>
      obtain ⟨k, hk, rfl, hown, hB⟩ := hrel
      by_cases hlt : k < S.length
      · obtain ⟨b', off, rfl, hb, hcl⟩ := HTS4.out.at_ hlt
        obtain ⟨d0, d1, d2, d3, d4, d5, d6, d7⟩ := hcl k hlt wr hB
        have hyl := (HTS4.out.lie _ (List.getElem_mem hlt)).ext hB
        have hbw : b' < wr.heap.size := Nat.lt_of_lt_of_le hb hB.size
        have htk := restL_succ a S k hlt
        have hfl := restL_len a S k
        have hma := (HM4.out.ext hB).ha
        have hnw := lt_block hma
        have e0 := gblk hma 0
        have e1 := gblk hma 1
        have e2 := gblk hma 2
        have e3 := gblk hma 3
        have e4 := gblk hma 4
        have e5 := gblk hma 5
        have e6 := gblk hma 6
        have e7 := gblk hma 7
        clear hcl hma
        generalize S[k] = y at *
        have Htk := Lib.hid htk
        have Hown := Lib.hid hown
        have ca : ∀ p : ExtBy wr, Calls Tryd.prog 42 _ p.to _ := fun p => about_any y a p.to (hyl.ext p.ext) ((HM4.out.ext (ext_trans hB p.ext)).la)
        generalize aboutB y a = qa at *
        have Ca := Lib.hid ca
        have f0 := fun p => cell_ext (w := wr) (a := ⟨b', off + k * 8, none⟩) hbw d0 p
        have f1 := fun p => cell_ext (w := wr) (a := ⟨b', off + k * 8 + 1, none⟩) hbw d1 p
        have f2 := fun p => cell_ext (w := wr) (a := ⟨b', off + k * 8 + 2, none⟩) hbw d2 p
        have f3 := fun p => cell_ext (w := wr) (a := ⟨b', off + k * 8 + 3, none⟩) hbw d3 p
        have f4 := fun p => cell_ext (w := wr) (a := ⟨b', off + k * 8 + 4, none⟩) hbw d4 p
        have f5 := fun p => cell_ext (w := wr) (a := ⟨b', off + k * 8 + 5, none⟩) hbw d5 p
        have f6 := fun p => cell_ext (w := wr) (a := ⟨b', off + k * 8 + 6, none⟩) hbw d6 p
        have f7 := fun p => cell_ext (w := wr) (a := ⟨b', off + k * 8 + 7, none⟩) hbw d7 p
        have g0 := fun p => cell_ext (w := wr) (a := ⟨na, 0, none⟩) hnw e0 p
        have g1 := fun p => cell_ext (w := wr) (a := ⟨na, 1, none⟩) hnw e1 p
        have g2 := fun p => cell_ext (w := wr) (a := ⟨na, 2, none⟩) hnw e2 p
        have g3 := fun p => cell_ext (w := wr) (a := ⟨na, 3, none⟩) hnw e3 p
        have g4 := fun p => cell_ext (w := wr) (a := ⟨na, 4, none⟩) hnw e4 p
        have g5 := fun p => cell_ext (w := wr) (a := ⟨na, 5, none⟩) hnw e5 p
        have g6 := fun p => cell_ext (w := wr) (a := ⟨na, 6, none⟩) hnw e6 p
        have g7 := fun p => cell_ext (w := wr) (a := ⟨na, 7, none⟩) hnw e7 p
        clear htk hown ca hyl e0 e1 e2 e3 e4 e5 e6 e7 d0 d1 d2 d3 d4 d5 d6 d7
        cases qa
        · have HN : Hid (restL a (S.take (k + 1)) = restL a (S.take k) ++ [y]) := by show _ = _; rw [Htk.out]; simp
          go_wp2_with fail
          refine wp_region_ext (by kernel_rfl) (by kernel_rfl) ?_
          repeat (go_big_quiet_step ((go_at_call 42; exact Calls.ext_of (Ca.out _))))
          refine wpQuiet_nil ?_
          intro _ hw'
          obtain ⟨p0, rfl⟩ := hw'
          obtain ⟨wq, hwq⟩ : ∃ wq, wq = p0.to := ⟨_, rfl⟩
          have hbq : Below wr.heap.size wr wq := by rw [hwq]; exact p0.ext
          have d0 := f0 p0
          have d1 := f1 p0
          have d2 := f2 p0
          have d3 := f3 p0
          have d4 := f4 p0
          have d5 := f5 p0
          have d6 := f6 p0
          have d7 := f7 p0
          rw [← hwq] at d0 d1 d2 d3 d4 d5 d6 d7
          have ho : wq.ownsRow w5.heap.size 51 8 _ (restL a (S.take k)).length ((restL a (S.take k)).flatMap Term.cells) := Hown.out.ext hbq
          rw [← hwq]
          clear hwq f0 f1 f2 f3 f4 f5 f6 f7 g0 g1 g2 g3 g4 g5 g6 g7 Ca
          generalize restL a (S.take k) = el at *
          obtain ⟨A1, A2'⟩ := ownT_room (el := el) (by omega)
          have A3 : w5.heap.size ≤ (wq.alloc (.cells #[.int .i64 y.no, .int .i64 y.at_, .int .i64 y.known, .int .i64 y.lang, .slice y.src.addr y.src.xs.length y.src.cap, .slice y.tgt.addr y.tgt.xs.length y.tgt.cap, .string y.cat, .bool y.gone] 51)).heap.size := by have h1 := hB.size; have h2 := hbq.size; simp; omega
          go_wp2_with (at_builtin; refine wpList_append_own _ rfl _ _ 48 rfl w5.heap.size 51 i0 z0 8 104 Tryd.underlying48 hi0 iz0 is0 ib0 izs (by decide) _ _ _ rfl (ho.alloc _) _ _ _ [.int .i64 y.no, .int .i64 y.at_, .int .i64 y.known, .int .i64 y.lang, .slice y.src.addr y.src.xs.length y.src.cap, .slice y.tgt.addr y.tgt.xs.length y.tgt.cap, .string y.cat, .bool y.gone] rfl rfl (gcells_new wq [.int .i64 y.no, .int .i64 y.at_, .int .i64 y.known, .int .i64 y.lang, .slice y.src.addr y.src.xs.length y.src.cap, .slice y.tgt.addr y.tgt.xs.length y.tgt.cap, .string y.cat, .bool y.gone] _) (one_term y) A1 A2' A3 ?_; intro v5 w10 hown6 hgrow6 _)
          have hB10 : Below w5.heap.size w5 w10 := (ext_alloc (ext_trans hB hbq) _).grown hgrow6 A3 (fun k hk => (ho.lt k hk).1)
          have hown7 : w10.ownsRow w5.heap.size 51 8 v5 (el.length + 1) (el.flatMap Term.cells ++ y.cells) := hown6
          go_roundw
          case rel => exact ⟨k + 1, by omega, by go_num, by rw [HN.out]; exact OwnL.snoc y hown7, hB10⟩
          case measure => simp [intOf]; omega
        · have HN : Hid (restL a (S.take (k + 1)) = restL a (S.take k)) := by show _ = _; rw [Htk.out]; simp
          go_wp2_with fail
          refine wp_region_ext (by kernel_rfl) (by kernel_rfl) ?_
          repeat (go_big_quiet_step ((go_at_call 42; exact Calls.ext_of (Ca.out _))))
          refine wpQuiet_nil ?_
          intro _ hw'
          obtain ⟨p, rfl⟩ := hw'
          go_wp2
          go_roundw
          case rel => exact ⟨k + 1, by omega, by go_num, by rw [HN.out]; exact Hown.out.ext p.ext, ext_trans hB p.ext⟩
          case measure => simp [intOf]; omega
      · obtain rfl : k = S.length := by omega
        rw [List.take_length] at hown
        obtain ⟨AP, cP, rfl, hrdP, _⟩ := OwnL.form (by omega) hown
        have hPl : (restL a S).length ≤ 30 := Nat.le_trans (List.length_filter_le _ _) hSl
        have HRS : Hid (restL a T = restL a S) := HRest.out
        have HP : Hid (TermsAt wr AP (restL a S)) := ⟨hrdP, fun y hy => (HTS4.out.ext hB).lie y (List.mem_filter.1 hy).1⟩
        obtain ⟨w6, hw6⟩ : ∃ w6, w6 = wr := ⟨_, rfl⟩
        rw [← hw6] at HP hB ⊢
        have HB6 := Lib.hid hB
        have HTR6 := Lib.hid (HTR.out.ext hB)
        clear hown hrdP hw6 hB hlt hk HTS4 HTR HRest
        go_wp2_with fail
        go_loopw [20, 22, 23] (fun p o i wr => ∃ (k : Nat) (qo : Bool), k ≤ T.length ∧ i = .int .i64 k ∧ o = .bool qo ∧ OwnT wr w6.heap.size p (restL a (T.take k)) ∧ Hid ((T.take k).any (fun z => z.no == a.no) = qo) ∧ Below w6.heap.size w6 wr) (fun _ _ i _ => T.length - (intOf i).toNat)
        case atStart => exact ⟨0, false, Nat.zero_le _, rfl, rfl, OwnL.nil _ _ _ _ _, rfl, Below.refl _ _⟩
        case round =>
          obtain ⟨k, qo, hk, rfl, rfl, hown, hqo, hB⟩ := hrel
          by_cases hlt : k < T.length
          · obtain ⟨b', off, rfl, hb, hcl⟩ := HTR6.out.at_ hlt
            obtain ⟨d0, d1, d2, d3, d4, d5, d6, d7⟩ := hcl k hlt wr hB
            have hyl := (HTR6.out.lie _ (List.getElem_mem hlt)).ext hB
            have hbw : b' < wr.heap.size := Nat.lt_of_lt_of_le hb hB.size
            have htk := restL_succ a T k hlt
            have hno := noAny_succ a.no T k hlt
            rw [hqo.out] at hno
            have hfl := restL_len a T k
            have hma := (HM4.out.ext (ext_trans HB6.out hB)).ha
            have hnw := lt_block hma
            have e0 := gblk hma 0
            have e1 := gblk hma 1
            have e2 := gblk hma 2
            have e3 := gblk hma 3
            have e4 := gblk hma 4
            have e5 := gblk hma 5
            have e6 := gblk hma 6
            have e7 := gblk hma 7
            have hck := hcl k hlt
            clear hcl hma
            generalize T[k] = y at *
            have Hck := Lib.hid hck
            have Htk := Lib.hid htk
            have Hown := Lib.hid hown
            have ca : ∀ p : ExtBy wr, Calls Tryd.prog 42 _ p.to _ := fun p => about_any y a p.to (hyl.ext p.ext) ((HM4.out.ext (ext_trans (ext_trans HB6.out hB) p.ext)).la)
            generalize aboutB y a = qa at *
            obtain ⟨qn, hqn⟩ : ∃ qn, (y.no == a.no) = qn := ⟨_, rfl⟩
            rw [hqn] at hno
            have Hno := Lib.hid hno
            have Ca := Lib.hid ca
            have f0 := fun p => cell_ext (w := wr) (a := ⟨b', off + k * 8, none⟩) hbw d0 p
            have f1 := fun p => cell_ext (w := wr) (a := ⟨b', off + k * 8 + 1, none⟩) hbw d1 p
            have f2 := fun p => cell_ext (w := wr) (a := ⟨b', off + k * 8 + 2, none⟩) hbw d2 p
            have f3 := fun p => cell_ext (w := wr) (a := ⟨b', off + k * 8 + 3, none⟩) hbw d3 p
            have f4 := fun p => cell_ext (w := wr) (a := ⟨b', off + k * 8 + 4, none⟩) hbw d4 p
            have f5 := fun p => cell_ext (w := wr) (a := ⟨b', off + k * 8 + 5, none⟩) hbw d5 p
            have f6 := fun p => cell_ext (w := wr) (a := ⟨b', off + k * 8 + 6, none⟩) hbw d6 p
            have f7 := fun p => cell_ext (w := wr) (a := ⟨b', off + k * 8 + 7, none⟩) hbw d7 p
            have g0 := fun p => cell_ext (w := wr) (a := ⟨na, 0, none⟩) hnw e0 p
            have g1 := fun p => cell_ext (w := wr) (a := ⟨na, 1, none⟩) hnw e1 p
            have g2 := fun p => cell_ext (w := wr) (a := ⟨na, 2, none⟩) hnw e2 p
            have g3 := fun p => cell_ext (w := wr) (a := ⟨na, 3, none⟩) hnw e3 p
            have g4 := fun p => cell_ext (w := wr) (a := ⟨na, 4, none⟩) hnw e4 p
            have g5 := fun p => cell_ext (w := wr) (a := ⟨na, 5, none⟩) hnw e5 p
            have g6 := fun p => cell_ext (w := wr) (a := ⟨na, 6, none⟩) hnw e6 p
            have g7 := fun p => cell_ext (w := wr) (a := ⟨na, 7, none⟩) hnw e7 p
            clear htk hown ca hyl e0 e1 e2 e3 e4 e5 e6 e7 d0 d1 d2 d3 d4 d5 d6 d7 hno hqo hck
            cases qa
            · have HN : Hid (restL a (T.take (k + 1)) = restL a (T.take k) ++ [y]) := by show _ = _; rw [Htk.out]; simp
              go_wp2_with fail
              refine wp_region_ext (by kernel_rfl) (by kernel_rfl) ?_
              repeat (go_big_quiet_step ((go_at_call 42; exact Calls.ext_of (Ca.out _))))
              refine wpQuiet_nil ?_
              intro _ hw'
              obtain ⟨p0, rfl⟩ := hw'
              obtain ⟨wq, hwq⟩ : ∃ wq, wq = p0.to := ⟨_, rfl⟩
              have hbq : Below wr.heap.size wr wq := by rw [hwq]; exact p0.ext
              have d0 := f0 p0
              have d1 := f1 p0
              have d2 := f2 p0
              have d3 := f3 p0
              have d4 := f4 p0
              have d5 := f5 p0
              have d6 := f6 p0
              have d7 := f7 p0
              rw [← hwq] at d0 d1 d2 d3 d4 d5 d6 d7
              have ho : wq.ownsRow w6.heap.size 51 8 _ (restL a (T.take k)).length ((restL a (T.take k)).flatMap Term.cells) := Hown.out.ext hbq
              rw [← hwq]
              clear hwq f0 f1 f2 f3 f4 f5 f6 f7 g0 g1 g2 g3 g4 g5 g6 g7 Ca
              generalize restL a (T.take k) = el at *
              obtain ⟨A1, A2'⟩ := ownT_room (el := el) (by omega)
              have A3 : w6.heap.size ≤ (wq.alloc (.cells #[.int .i64 y.no, .int .i64 y.at_, .int .i64 y.known, .int .i64 y.lang, .slice y.src.addr y.src.xs.length y.src.cap, .slice y.tgt.addr y.tgt.xs.length y.tgt.cap, .string y.cat, .bool y.gone] 51)).heap.size := by have h1 := hB.size; have h2 := hbq.size; simp; omega
              go_wp2_with (at_builtin; refine wpList_append_own _ rfl _ _ 48 rfl w6.heap.size 51 i0 z0 8 104 Tryd.underlying48 hi0 iz0 is0 ib0 izs (by decide) _ _ _ rfl (ho.alloc _) _ _ _ [.int .i64 y.no, .int .i64 y.at_, .int .i64 y.known, .int .i64 y.lang, .slice y.src.addr y.src.xs.length y.src.cap, .slice y.tgt.addr y.tgt.xs.length y.tgt.cap, .string y.cat, .bool y.gone] rfl rfl (gcells_new wq [.int .i64 y.no, .int .i64 y.at_, .int .i64 y.known, .int .i64 y.lang, .slice y.src.addr y.src.xs.length y.src.cap, .slice y.tgt.addr y.tgt.xs.length y.tgt.cap, .string y.cat, .bool y.gone] _) (one_term y) A1 A2' A3 ?_; intro v5 w10 hown6 hgrow6 _)
              have hB10 : Below w6.heap.size w6 w10 := (ext_alloc (ext_trans hB hbq) _).grown hgrow6 A3 (fun k hk => (ho.lt k hk).1)
              have hown7 : w10.ownsRow w6.heap.size 51 8 v5 (el.length + 1) (el.flatMap Term.cells ++ y.cells) := hown6
              have hb10 : b' < w10.heap.size := Nat.lt_of_lt_of_le hb hB10.size
              have M10 := (HM4.out.ext (ext_trans HB6.out hB10)).ha
              have hn10 := lt_block M10
              obtain ⟨j0, j1, j2, j3, j4, j5, j6, j7⟩ := Hck.out w10 hB10
              have m0 := gblk M10 0
              have hown8 := OwnL.snoc y hown7
              clear M10 j1 j2 j3 j4 j5 j6 j7 hown6 hgrow6 A1 A2' A3 ho d0 d1 d2 d3 d4 d5 d6 d7
              have j0' := fun p => cell_ext (w := w10) (a := ⟨b', off + k * 8, none⟩) hb10 j0 p
              have m0' := fun p => cell_ext (w := w10) (a := ⟨na, 0, none⟩) hn10 m0 p
              cases qo
              · go_wp2_with fail
                refine wp_region_ext (by kernel_rfl) (by kernel_rfl) ?_
                repeat (go_big_quiet_step (fail))
                refine wpQuiet_nil ?_
                intro _ hw'
                obtain ⟨p, rfl⟩ := hw'
                go_wp2
                go_roundw
                case rel => exact ⟨k + 1, qn, by omega, by go_num, rfl, by rw [HN.out]; exact (hown8).ext p.ext, Hno.out, ext_trans hB10 p.ext⟩
                case measure => simp [intOf]; omega
              · go_wp2_with fail
                refine wp_region_ext (by kernel_rfl) (by kernel_rfl) ?_
                repeat (go_big_quiet_step (fail))
                refine wpQuiet_nil ?_
                intro _ hw'
                obtain ⟨p, rfl⟩ := hw'
                go_wp2
                go_roundw
                case rel => exact ⟨k + 1, true, by omega, by go_num, rfl, by rw [HN.out]; exact (hown8).ext p.ext, Hno.out, ext_trans hB10 p.ext⟩
                case measure => simp [intOf]; omega
            · have HN : Hid (restL a (T.take (k + 1)) = restL a (T.take k)) := by show _ = _; rw [Htk.out]; simp
              go_wp2_with fail
              refine wp_region_ext (by kernel_rfl) (by kernel_rfl) ?_
              repeat (go_big_quiet_step ((go_at_call 42; exact Calls.ext_of (Ca.out _))))
              refine wpQuiet_nil ?_
              intro _ hw'
              obtain ⟨p0, rfl⟩ := hw'
              obtain ⟨wq, hwq⟩ : ∃ wq, wq = p0.to := ⟨_, rfl⟩
              have hbq : Below wr.heap.size wr wq := by rw [hwq]; exact p0.ext
              rw [← hwq]
              have hBq := ext_trans hB hbq
              have hb10 : b' < wq.heap.size := Nat.lt_of_lt_of_le hb hBq.size
              have M10 := (HM4.out.ext (ext_trans HB6.out hBq)).ha
              have hn10 := lt_block M10
              obtain ⟨j0, j1, j2, j3, j4, j5, j6, j7⟩ := Hck.out wq hBq
              have m0 := gblk M10 0
              have hown8 := Hown.out.ext hbq
              clear M10 j1 j2 j3 j4 j5 j6 j7 hwq f0 f1 f2 f3 f4 f5 f6 f7 g0 g1 g2 g3 g4 g5 g6 g7 Ca
              have j0' := fun p => cell_ext (w := wq) (a := ⟨b', off + k * 8, none⟩) hb10 j0 p
              have m0' := fun p => cell_ext (w := wq) (a := ⟨na, 0, none⟩) hn10 m0 p
              cases qo
              · go_wp2_with fail
                refine wp_region_ext (by kernel_rfl) (by kernel_rfl) ?_
                repeat (go_big_quiet_step (fail))
                refine wpQuiet_nil ?_
                intro _ hw'
                obtain ⟨p, rfl⟩ := hw'
                go_wp2
                go_roundw
                case rel => exact ⟨k + 1, qn, by omega, by go_num, rfl, by rw [HN.out]; exact (hown8).ext p.ext, Hno.out, ext_trans hBq p.ext⟩
                case measure => simp [intOf]; omega
              · go_wp2_with fail
                refine wp_region_ext (by kernel_rfl) (by kernel_rfl) ?_
                repeat (go_big_quiet_step (fail))
                refine wpQuiet_nil ?_
                intro _ hw'
                obtain ⟨p, rfl⟩ := hw'
                go_wp2
                go_roundw
                case rel => exact ⟨k + 1, true, by omega, by go_num, rfl, by rw [HN.out]; exact (hown8).ext p.ext, Hno.out, ext_trans hBq p.ext⟩
                case measure => simp [intOf]; omega
          · obtain rfl : k = T.length := by omega
            rw [List.take_length] at hown
            have hqo2 := hqo.out
            rw [List.take_length] at hqo2
            obtain ⟨AQ, cQ, rfl, hrdQ, _⟩ := OwnL.form (by omega) hown
            have HQ : Hid (TermsAt wr AQ (restL a S)) := by
              have h : TermsAt wr AQ (restL a T) := ⟨hrdQ, fun y hy => (HTR6.out.ext hB).lie y (List.mem_filter.1 hy).1⟩
              rw [HRS.out] at h
              exact h
            have HQO : Hid (qo = (decide (a.lang = lang) && countsB a t u && !a.gone && !laterAny l t u a)) := hqo2.symm.trans HOwn.out
            rw [HRS.out]
            obtain ⟨w7, hw7⟩ : ∃ w7, w7 = wr := ⟨_, rfl⟩
            rw [← hw7] at HQ hB ⊢
            have HB7 := Lib.hid (ext_trans HB6.out hB)
            have HP7 := Lib.hid (HP.out.ext hB)
            have M7 := (HM4.out.ext HB7.out).ha
            have a0 := gblk M7 0
            have a1 := gblk M7 1
            have a2 := gblk M7 2
            have a3 := gblk M7 3
            have a4 := gblk M7 4
            have a5 := gblk M7 5
            have a6 := gblk M7 6
            have a7 := gblk M7 7
            have cC := Lib.hid (counts_at a t u w7)
            clear hown hrdQ hw7 hB hlt hk HTR6 hqo hqo2 HOwn HP M7
            go_upto_region 26 with fail
            go_cut [24] (fun s wx => ∃ q0 : Bool, s = .bool q0 ∧ Hid (q0 = (decide (a.lang = lang) && countsB a t u && !a.gone)) ∧ Below w7.heap.size w7 wx)
            case first =>
              by_cases hla : a.lang = lang
              · have g1 : (a.lang == lang) = true := by simpa using hla
                obtain ⟨qc, hqc⟩ : ∃ qc, countsB a t u = qc := ⟨_, rfl⟩
                rw [hqc] at cC
                cases qc
                · have HF : Hid (false = (decide (a.lang = lang) && countsB a t u && !a.gone)) := by show _ = _; rw [hqc]; simp
                  clear hla hqc
                  go_wp2_with fail
                  refine cC.out.mono ?_
                  rintro e w8 ⟨rfl, hb8⟩
                  go_wp2_with fail
                  go_meet
                  case rel => exact ⟨false, rfl, HF, hb8⟩
                · have HF : Hid ((!a.gone) = (decide (a.lang = lang) && countsB a t u && !a.gone)) := by show _ = _; rw [hqc, decide_eq_true hla]; simp
                  clear hla hqc
                  go_wp2_with fail
                  refine cC.out.mono ?_
                  rintro e w8 ⟨rfl, hb8⟩
                  have M8 := (HM4.out.ext (ext_trans HB7.out hb8)).ha
                  obtain ⟨qg, hqg⟩ : ∃ qg, a.gone = qg := ⟨_, rfl⟩
                  have z7 := gblk M8 7
                  have z8 : w8.cell? ⟨na, 7, none⟩ = some (.bool qg) := by rw [← hqg]; exact z7
                  have HG := HF.out
                  rw [hqg] at HG
                  clear M8 z7 HF
                  have HF : Hid ((!qg) = (decide (a.lang = lang) && countsB a t u && !qg)) := HG
                  have Hqg := Lib.hid hqg
                  clear hqg HG
                  cases qg
                  · go_wp2_with fail
                    go_meet
                    case rel => exact ⟨true, rfl, by show _ = _; rw [Hqg.out]; exact HF.out, hb8⟩
                  · go_wp2_with fail
                    go_meet
                    case rel => exact ⟨false, rfl, by show _ = _; rw [Hqg.out]; exact HF.out, hb8⟩
              · have g1 : (a.lang == lang) = false := by simpa using hla
                have HF : Hid (false = (decide (a.lang = lang) && countsB a t u && !a.gone)) := by show _ = _; rw [decide_eq_false hla]; simp
                clear hla
                go_wp2_with fail
                go_meet
                case rel => exact ⟨false, rfl, HF, Below.refl _ _⟩
            case rest =>
              obtain ⟨q0, rfl, hq0, hBc⟩ := hcut
              have HBc := Lib.hid (ext_trans HB7.out hBc)
              have HP8 := Lib.hid (HP7.out.ext hBc)
              have HQ8 := Lib.hid (HQ.out.ext hBc)
              have hqq := HQO.out
              rw [← hq0.out] at hqq
              have HQQ := Lib.hid hqq
              clear HQO hq0 hqq HP7 HQ cC a0 a1 a2 a3 a4 a5 a6 a7 hBc
              go_wp2_with fail
              go_loopw [24, 25] (fun s i wr => ∃ (k : Nat) (qs : Bool), k ≤ l.length ∧ i = .int .i64 k ∧ s = .bool qs ∧ Hid (qs = (q0 && !laterAny (l.take k) t u a)) ∧ Below wc.heap.size wc wr) (fun _ i _ => l.length - (intOf i).toNat)
              case atStart => exact ⟨0, q0, Nat.zero_le _, rfl, rfl, by show _ = _; simp [laterAny], Below.refl _ _⟩
              case round =>
                obtain ⟨k, qs, hk, rfl, rfl, hqs, hB⟩ := hrel
                by_cases hlt : k < l.length
                · obtain ⟨b', off, rfl, hb, hcl⟩ := HR4.out.at_ hlt
                  obtain ⟨d0, d1, d2, d3, d4, d5, d6, d7⟩ := hcl k hlt wr (ext_trans HBc.out hB)
                  have hyl := (HR4.out.lie _ (List.getElem_mem hlt)).ext (ext_trans HBc.out hB)
                  have hbw : b' < wr.heap.size := Nat.lt_of_lt_of_le hb (ext_trans HBc.out hB).size
                  have hls := and_step q0 (laterAny (l.take k) t u a) (aboutB l[k] a && countsB l[k] t u && laterB l[k] a) qs hqs.out
                  rw [← laterAny_succ l t u a k hlt] at hls
                  have hma := (HM4.out.ext (ext_trans HBc.out hB)).ha
                  have hnw := lt_block hma
                  have e0 := gblk hma 0
                  have e1 := gblk hma 1
                  have e2 := gblk hma 2
                  have e3 := gblk hma 3
                  have e4 := gblk hma 4
                  have e5 := gblk hma 5
                  have e6 := gblk hma 6
                  have e7 := gblk hma 7
                  clear hcl hma
                  generalize l[k] = y at *
                  have Hw := Lib.hid (ext_trans HBc.out hB)
                  have ca : ∀ p : ExtBy wr, Calls Tryd.prog 42 _ p.to _ := fun p => about_any y a p.to (hyl.ext p.ext) ((HM4.out.ext (ext_trans Hw.out p.ext)).la)
                  have cb : ∀ p : ExtBy wr, Calls Tryd.prog 41 _ p.to _ := fun p => counts_any y t u p.to
                  have cd : ∀ p : ExtBy wr, Calls Tryd.prog 43 _ p.to _ := fun p => later_any y a p.to
                  generalize aboutB y a = ba at *
                  generalize countsB y t u = bb at *
                  generalize laterB y a = bc at *
                  have HN := Lib.hid hls
                  have Ca := Lib.hid ca
                  have Cb := Lib.hid cb
                  have Cd := Lib.hid cd
                  have f0 := fun p => cell_ext (w := wr) (a := ⟨b', off + k * 8, none⟩) hbw d0 p
                  have f1 := fun p => cell_ext (w := wr) (a := ⟨b', off + k * 8 + 1, none⟩) hbw d1 p
                  have f2 := fun p => cell_ext (w := wr) (a := ⟨b', off + k * 8 + 2, none⟩) hbw d2 p
                  have f3 := fun p => cell_ext (w := wr) (a := ⟨b', off + k * 8 + 3, none⟩) hbw d3 p
                  have f4 := fun p => cell_ext (w := wr) (a := ⟨b', off + k * 8 + 4, none⟩) hbw d4 p
                  have f5 := fun p => cell_ext (w := wr) (a := ⟨b', off + k * 8 + 5, none⟩) hbw d5 p
                  have f6 := fun p => cell_ext (w := wr) (a := ⟨b', off + k * 8 + 6, none⟩) hbw d6 p
                  have f7 := fun p => cell_ext (w := wr) (a := ⟨b', off + k * 8 + 7, none⟩) hbw d7 p
                  have g0 := fun p => cell_ext (w := wr) (a := ⟨na, 0, none⟩) hnw e0 p
                  have g1 := fun p => cell_ext (w := wr) (a := ⟨na, 1, none⟩) hnw e1 p
                  have g2 := fun p => cell_ext (w := wr) (a := ⟨na, 2, none⟩) hnw e2 p
                  have g3 := fun p => cell_ext (w := wr) (a := ⟨na, 3, none⟩) hnw e3 p
                  have g4 := fun p => cell_ext (w := wr) (a := ⟨na, 4, none⟩) hnw e4 p
                  have g5 := fun p => cell_ext (w := wr) (a := ⟨na, 5, none⟩) hnw e5 p
                  have g6 := fun p => cell_ext (w := wr) (a := ⟨na, 6, none⟩) hnw e6 p
                  have g7 := fun p => cell_ext (w := wr) (a := ⟨na, 7, none⟩) hnw e7 p
                  clear hls ca cb cd hyl d0 d1 d2 d3 d4 d5 d6 d7 e0 e1 e2 e3 e4 e5 e6 e7 hqs
                  cases qs
                  · go_wp2_with fail
                    refine wp_region_ext (by kernel_rfl) (by kernel_rfl) ?_
                    repeat (go_big_quiet_step (first | (go_at_call 42; exact Calls.ext_of (Ca.out _)) | (go_at_call 41; exact Calls.ext_of (Cb.out _)) | (go_at_call 43; exact Calls.ext_of (Cd.out _))))
                    refine wpQuiet_nil ?_
                    intro _ hw'
                    obtain ⟨p, rfl⟩ := hw'
                    go_wp2
                    go_roundw
                    case rel => exact ⟨k + 1, false, by omega, by go_num, rfl, HN, ext_trans hB p.ext⟩
                    case measure => simp [intOf]; omega
                  · cases ba
                    · go_wp2_with fail
                      refine wp_region_ext (by kernel_rfl) (by kernel_rfl) ?_
                      repeat (go_big_quiet_step (first | (go_at_call 42; exact Calls.ext_of (Ca.out _)) | (go_at_call 41; exact Calls.ext_of (Cb.out _)) | (go_at_call 43; exact Calls.ext_of (Cd.out _))))
                      refine wpQuiet_nil ?_
                      intro _ hw'
                      obtain ⟨p, rfl⟩ := hw'
                      go_wp2
                      go_roundw
                      case rel => exact ⟨k + 1, true, by omega, by go_num, rfl, HN, ext_trans hB p.ext⟩
                      case measure => simp [intOf]; omega
                    cases bb
                    · go_wp2_with fail
                      refine wp_region_ext (by kernel_rfl) (by kernel_rfl) ?_
                      repeat (go_big_quiet_step (first | (go_at_call 42; exact Calls.ext_of (Ca.out _)) | (go_at_call 41; exact Calls.ext_of (Cb.out _)) | (go_at_call 43; exact Calls.ext_of (Cd.out _))))
                      refine wpQuiet_nil ?_
                      intro _ hw'
                      obtain ⟨p, rfl⟩ := hw'
                      go_wp2
                      go_roundw
                      case rel => exact ⟨k + 1, true, by omega, by go_num, rfl, HN, ext_trans hB p.ext⟩
                      case measure => simp [intOf]; omega
                    cases bc
                    · go_wp2_with fail
                      refine wp_region_ext (by kernel_rfl) (by kernel_rfl) ?_
                      repeat (go_big_quiet_step (first | (go_at_call 42; exact Calls.ext_of (Ca.out _)) | (go_at_call 41; exact Calls.ext_of (Cb.out _)) | (go_at_call 43; exact Calls.ext_of (Cd.out _))))
                      refine wpQuiet_nil ?_
                      intro _ hw'
                      obtain ⟨p, rfl⟩ := hw'
                      go_wp2
                      go_roundw
                      case rel => exact ⟨k + 1, true, by omega, by go_num, rfl, HN, ext_trans hB p.ext⟩
                      case measure => simp [intOf]; omega
                    · go_wp2_with fail
                      refine wp_region_ext (by kernel_rfl) (by kernel_rfl) ?_
                      repeat (go_big_quiet_step (first | (go_at_call 42; exact Calls.ext_of (Ca.out _)) | (go_at_call 41; exact Calls.ext_of (Cb.out _)) | (go_at_call 43; exact Calls.ext_of (Cd.out _))))
                      refine wpQuiet_nil ?_
                      intro _ hw'
                      obtain ⟨p, rfl⟩ := hw'
                      go_wp2
                      go_roundw
                      case rel => exact ⟨k + 1, false, by omega, by go_num, rfl, HN, ext_trans hB p.ext⟩
                      case measure => simp [intOf]; omega
                · obtain rfl : k = l.length := by omega
                  have hq2 := hqs.out
                  rw [List.take_length, ← HQQ.out] at hq2
                  subst hq2
                  have cP := sameL27_any AP AQ cP cQ (restL a S) (restL a S) wr (HP8.out.ext hB) (HQ8.out.ext hB) (by omega)
                  rw [sameTermsB_refl] at cP
                  have CP := Lib.hid cP
                  have HBf := Lib.hid (ext_trans HBc.out hB)
                  have gq : (qs != qs) = false := by simp
                  have gq' : (qs == qs) = true := by simp
                  clear cP hqs HQQ
                  go_wp2_with fail
                  refine CP.out.mono ?_
                  rintro e w8 ⟨rfl, hb8⟩
                  go_wp2_with fail
                  go_meet
                  case rel => exact ext_trans HBf.out hb8
  case rest =>
    have HBW := Lib.hid hcut
    clear hcut
    have mt := (HM4.out.ext HBW.out).hb
    have b0 := gblk mt 0
    have b1 := gblk mt 1
    have b2 := gblk mt 2
    have b3 := gblk mt 3
    have b4 := gblk mt 4
    have b5 := gblk mt 5
    have b6 := gblk mt 6
    have b7 := gblk mt 7
    clear mt
    go_wp2_with fail
    refine (AddT_at AX cX X b wc (utf_ext HU4.out HBW.out) (HTX4.out.ext HBW.out) (HM4.out.ext HBW.out).lb HNX.out (by omega)).mono ?_
    intro e w7 h7
    obtain ⟨hb7, AY, cY, rfl, hTY, hNY⟩ := addPost_out h7
    have HB7 := Lib.hid (ext_trans HBW.out hb7)
    have HTY := Lib.hid hTY
    clear h7 hb7 hTY hNY b0 b1 b2 b3 b4 b5 b6 b7
    have mt := (HM4.out.ext HB7.out).hb
    have b0 := gblk mt 0
    have b1 := gblk mt 1
    have b2 := gblk mt 2
    have b3 := gblk mt 3
    have b4 := gblk mt 4
    have b5 := gblk mt 5
    have b6 := gblk mt 6
    have b7 := gblk mt 7
    clear mt
    go_wp2_with fail
    refine (AddT_at A cp l b w7 (utf_ext HU4.out HB7.out) (HR4.out.ext HB7.out) (HM4.out.ext HB7.out).lb HA.out Hm.out).mono ?_
    intro e w8 h8
    obtain ⟨hb8, AZ, cZ, rfl, hTZ, hNZ⟩ := addPost_out h8
    have HTY8 := Lib.hid (HTY.out.ext hb8)
    have HB8 := Lib.hid (ext_trans HB7.out hb8)
    have HTZ := Lib.hid hTZ
    have HNZ := Lib.hid hNZ
    clear h8 hb8 hTZ hNZ HTY b0 b1 b2 b3 b4 b5 b6 b7
    have mt := (HM4.out.ext HB8.out).ha
    have mu := (HM4.out.ext HB8.out).hb
    have a0 := gblk mt 0
    have a1 := gblk mt 1
    have a2 := gblk mt 2
    have a3 := gblk mt 3
    have a4 := gblk mt 4
    have a5 := gblk mt 5
    have a6 := gblk mt 6
    have a7 := gblk mt 7
    have b0 := gblk mu 0
    clear mt mu
    by_cases hE1 : addE X b ≠ 0
    · have n1 : (addE X b == 0) = false := by simpa using hE1
      have n2 : (addE X b != 0) = true := by simpa using hE1
      by_cases hE2 : addE l b ≠ 0
      · have n3 : (addE l b == 0) = false := by simpa using hE2
        have n4 : (addE l b != 0) = true := by simpa using hE2
        clear hE1 hE2
        go_wp2_with fail
        go_ret
        exact ⟨by first | rfl | (simp; done), HB54.out _ HB8.out⟩
      · have hE3 := Decidable.not_not.1 hE2
        have hno := HTwo.out hE1 hE3
        have n3 : (a.no == b.no) = true := by simpa using hno
        have n4 : (addE l b != 0) = false := by simp [hE3]
        have n5 : (addE l b == 0) = true := by simp [hE3]
        clear hE1 hE2 hE3 hno
        go_wp2_with fail
        go_ret
        exact ⟨by first | rfl | (simp; done), HB54.out _ HB8.out⟩
    have hE1 := Decidable.not_not.1 hE1
    obtain ⟨q1, q2, q3⟩ := HBoth.out hE1
    have hy : addOut X b = addL X b := by unfold addOut; rw [if_pos hE1]
    have hz : addOut l b = addL l b := by unfold addOut; rw [if_pos q1]
    have hv : addOut (addL l b) a = addL X b := by unfold addOut; rw [if_pos q2]; exact q3
    have hzl : (addL l b).length ≤ 31 := by rw [addL_length]; omega
    rw [hy] at HTY8 ⊢
    rw [hz] at HTZ HNZ ⊢
    rw [hE1, q1]
    have hyl : (addL X b).length ≤ 32 := by rw [addL_length]; omega
    have HQ := Lib.hid (And.intro q2 hv)
    clear hE1 q1 q2 q3 hy hz hv
    generalize addL l b = Z at *
    generalize addL X b = Y at *
    go_wp2_with fail
    refine (AddT_at AZ cZ Z a w8 (utf_ext HU4.out HB8.out) HTZ.out (HM4.out.ext HB8.out).la HNZ.out (by omega)).mono ?_
    intro e w9 h9
    obtain ⟨hb9, AV, cV, rfl, hTV, hNV⟩ := addPost_out h9
    rw [HQ.out.2] at hTV ⊢
    rw [HQ.out.1]
    have HTY9 := Lib.hid (HTY8.out.ext hb9)
    have HB9 := Lib.hid (ext_trans HB8.out hb9)
    have HTV := Lib.hid hTV
    clear h9 hb9 hTV hNV HTY8 a0 a1 a2 a3 a4 a5 a6 a7 b0
    have cQ := sameL27_any AY AV cY cV Y Y w9 HTY9.out HTV.out (by omega)
    rw [sameTermsB_refl] at cQ
    have CQ := Lib.hid cQ
    clear cQ
    go_wp2_with fail
    refine CQ.out.mono ?_
    rintro e w10 ⟨rfl, hb10⟩
    have HB10 := Lib.hid (ext_trans HB9.out hb10)
    clear hb10 CQ
    go_wp2_with fail
    go_ret
    exact ⟨by first | rfl | (simp; done), HB54.out _ HB10.out⟩
end Go.Proofs.YtneanannicacnaaDoor
