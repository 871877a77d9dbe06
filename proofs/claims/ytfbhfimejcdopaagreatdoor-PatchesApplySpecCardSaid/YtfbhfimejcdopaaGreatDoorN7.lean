/- Texts of this claim, one after the other: Ref51a, Law51s, Law51a, Ref49i, Ref49b, Ref51b, Ref49d. -/
import Derived.Test.YtfbhfimejcdopaaGreatDoorN6
import Derived.Test.YtfbhfimejcdopaaGreatDoorN5
import Derived.Test.YtfbhfimejcdopaaGreatDoorN4
import Derived.StillTailTactics
import Derived.Deep.RegionWith
import Derived.IntWalk
/- The reference's package of patches: comparing changes, clashes. -/
namespace Go.Proofs.YtfbhfimejcdopaaGreatDoor
open Go.RowKit Go.Han
attribute [local irreducible] wpStill wpQuiet
set_option maxRecDepth 100000

instance : DecidableEq Change := fun x y => decidable_of_iff (x.at_ = y.at_ ∧ x.kind = y.kind ∧ x.spot = y.spot) (by cases x; cases y; simp)
theorem change_eq (t k a b t' k' a' b' : Int) (s s' : ByteArray) : decide ((⟨t, k, ⟨a, b, s⟩⟩ : Change) = ⟨t', k', ⟨a', b', s'⟩⟩) = (decide (t = t') && decide (k = k') && (decide (a = a') && decide (b = b') && decide (s.toList = s'.toList))) := by
  have hb := spot_beq ⟨a, b, s⟩ a' b' s'
  rw [Bool.true_and] at hb
  rw [← hb, Bool.eq_iff_iff]
  simp [and_assoc]
theorem run_equalIn_change (t k a b t' k' a' b' : Int) (s s' : ByteArray) (w : World) : (Op.equalIn 10000 40 (.agg #[.int .i64 t, .int .i64 k, .int .i64 a, .int .i64 b, .string s]) (.agg #[.int .i64 t', .int .i64 k', .int .i64 a', .int .i64 b', .string s'])).run Tryz.prog w = .ok (decide ((⟨t, k, ⟨a, b, s⟩⟩ : Change) = ⟨t', k', ⟨a', b', s'⟩⟩)) w := by
  rw [change_eq]
  by_cases e1 : t = t'
  · by_cases e2 : k = k'
    · by_cases e3 : a = a'
      · by_cases e4 : b = b'
        · by_cases e5 : s.toList = s'.toList
          · simp [go_sem, e1, e2, e3, e4, e5]
          · simp [go_sem, e1, e2, e3, e4, e5]
        · simp [go_sem, e1, e2, e3, e4]
      · simp [go_sem, e1, e2, e3]
    · simp [go_sem, e1, e2]
  · simp [go_sem, e1]

set_option maxHeartbeats 1000000 in
theorem same51_any (A B : Option Addr) (c d : Nat) (l l' : List Change) (w : World) (hr : Rd w A (cflat l)) (hr' : Rd w B (cflat l')) (hm : l.length ≤ 9223372036854775807) :
    Calls Tryz.prog 9 #[.slice A l.length c, .slice B l'.length d] w fun e w' => e = .returned (.bool (decide (l = l'))) ∧ Below w.heap.size w w' := by
  by_cases hl : l.length = l'.length
  · have hne : ((l.length : Int) != (l'.length : Int)) = false := by simp [hl]
    have Hl := Lib.hid hl
    clear hl
    go_enter Tryz.func9, Tryz.ntmps9
    go_wp2_with fail
    go_loopw [5] (fun i wr => ∃ k : Nat, k ≤ l.length ∧ i = .int .i64 k ∧ Below w.heap.size w wr ∧ Hid (l.take k = l'.take k)) (fun i _ => l.length - (intOf i).toNat)
    case atStart => exact ⟨0, Nat.zero_le _, rfl, Below.refl _ _, rfl⟩
    case round =>
      obtain ⟨k, hk, rfl, hB, HR⟩ := hrel
      by_cases hlt : k < l.length
      · have hlt' : k < l'.length := by have := Hl.out; omega
        obtain ⟨b, off, rfl, hb, hc⟩ := hr.elem Change.size_cells (by omega) hlt
        obtain ⟨b', off', rfl, hb', hc'⟩ := hr'.elem Change.size_cells (by omega) hlt'
        have h1 := (hB.cell (p := ⟨b, off + k * 5 + 0, none⟩) hb).trans (hc 0 _ rfl)
        have h2 := (hB.cell (p := ⟨b, off + k * 5 + 1, none⟩) hb).trans (hc 1 _ rfl)
        have h3 := (hB.cell (p := ⟨b, off + k * 5 + 2, none⟩) hb).trans (hc 2 _ rfl)
        have h4 := (hB.cell (p := ⟨b, off + k * 5 + 3, none⟩) hb).trans (hc 3 _ rfl)
        have h5 := (hB.cell (p := ⟨b, off + k * 5 + 4, none⟩) hb).trans (hc 4 _ rfl)
        have h1' := (hB.cell (p := ⟨b', off' + k * 5 + 0, none⟩) hb').trans (hc' 0 _ rfl)
        have h2' := (hB.cell (p := ⟨b', off' + k * 5 + 1, none⟩) hb').trans (hc' 1 _ rfl)
        have h3' := (hB.cell (p := ⟨b', off' + k * 5 + 2, none⟩) hb').trans (hc' 2 _ rfl)
        have h4' := (hB.cell (p := ⟨b', off' + k * 5 + 3, none⟩) hb').trans (hc' 3 _ rfl)
        have h5' := (hB.cell (p := ⟨b', off' + k * 5 + 4, none⟩) hb').trans (hc' 4 _ rfl)
        simp only [Nat.add_zero] at h1 h1'
        have hq := fun (w : World) => run_equalIn_change l[k].at_ l[k].kind l[k].spot.id l[k].spot.ver l'[k].at_ l'[k].kind l'[k].spot.id l'[k].spot.ver l[k].spot.text l'[k].spot.text w
        have htk : l.take (k + 1) = l.take k ++ [l[k]] := List.take_succ_eq_append_getElem hlt
        have htk' : l'.take (k + 1) = l'.take k ++ [l'[k]] := List.take_succ_eq_append_getElem hlt'
        have Htk := Lib.hid htk
        have Htk' := Lib.hid htk'
        have hf : Hid (l = l' → l[k] = l'[k]) := by rintro rfl; rfl
        clear hc hr hc' hr' htk htk'
        generalize l[k] = x at *
        generalize l'[k] = y at *
        obtain ⟨t, kd, ⟨a, v, s⟩⟩ := x
        obtain ⟨t', kd', ⟨a', v', s'⟩⟩ := y
        simp only at hq h1 h2 h3 h4 h5 h1' h2' h3' h4' h5'
        by_cases hxy : ((⟨t, kd, ⟨a, v, s⟩⟩ : Change) = ⟨t', kd', ⟨a', v', s'⟩⟩)
        · rw [decide_eq_true hxy] at hq
          have HE := Lib.hid hxy
          clear hxy hf
          go_wp2_with fail
          go_still (by kernel_rfl)
          go_wp2
          go_roundw
          case rel => exact ⟨k + 1, by omega, by go_num, hB.drew, by show _ = _; rw [Htk.out, Htk'.out, HR.out, HE.out]⟩
          case measure => simp [intOf]; omega
        · rw [decide_eq_false hxy] at hq
          have HF : Hid (decide (l = l') = false) := decide_eq_false (fun h => hxy (hf.out h))
          clear hxy hf
          go_wp2_with fail
          go_still (by kernel_rfl)
          go_wp2
          go_ret
          exact ⟨by rw [HF.out]; rfl, hB.drew⟩
      · have HF : Hid (decide (l = l') = true) := by
          refine decide_eq_true ?_
          obtain rfl : k = l.length := by omega
          have h := HR.out
          rw [List.take_length, List.take_of_length_le (by have := Hl.out; omega)] at h
          exact h
        clear HR
        go_wp2_with fail
        go_ret
        exact ⟨by rw [HF.out]; rfl, hB⟩
  · have hne : ((l.length : Int) != (l'.length : Int)) = true := by simp; omega
    have HF : Hid (decide (l = l') = false) := decide_eq_false (fun h => hl (by rw [h]))
    clear hl
    go_enter Tryz.func9, Tryz.ntmps9
    go_wp2_with fail
    go_ret
    exact ⟨by rw [HF.out]; rfl, Below.refl _ _⟩

/-! ### Clash -/
theorem find_none {l : List Spot} {n : Int} (h : getS n l = none) : findR l n = -1 := by
  refine findR_none l n (fun j hj e => ?_)
  have : (getS n l).isSome = true := by
    unfold getS
    rw [List.find?_isSome]
    exact ⟨l[j], List.getElem_mem hj, by simpa using e⟩
  rw [h] at this; cases this
theorem find_some {l : List Spot} {n : Int} {y : Spot} (h : getS n l = some y) : ∃ (k : Nat) (hk : k < l.length), findR l n = k ∧ l[k] = y := by
  have key : (∃ (k : Nat) (h : k < l.length), findR l n = k ∧ getS n l = some l[k]) ∨ (findR l n = -1 ∧ getS n l = none) := by
    unfold findR getS
    cases h : l.findIdx? (fun x => x.id == n) with
    | none =>
      right
      rw [List.findIdx?_eq_none_iff] at h
      exact ⟨rfl, List.find?_eq_none.2 (fun x hx => by simpa using h x hx)⟩
    | some k =>
      left
      rw [List.findIdx?_eq_some_iff_getElem] at h
      obtain ⟨hk, h1, h2⟩ := h
      refine ⟨k, hk, rfl, ?_⟩
      rw [List.find?_eq_some_iff_getElem]
      exact ⟨h1, k, hk, rfl, fun j hj => by simpa using h2 j hj⟩
  rcases key with ⟨k, hk, h1, h2⟩ | ⟨_, h2⟩
  · rw [h] at h2; exact ⟨k, hk, h1, (Option.some.inj h2).symm⟩
  · rw [h] at h2; cases h2
theorem clash_take {a b : List Spot} {k : Nat} (h : k < a.length) : clashB (a.take (k + 1)) b = (clashB (a.take k) b || clashG (some a[k]) (getS a[k].id b)) := by
  unfold clashB
  rw [List.take_succ_eq_append_getElem h, List.any_append]
  simp
theorem clash_from {a b : List Spot} {k : Nat} (h : k < a.length) (hc : clashG (some a[k]) (getS a[k].id b) = true) : clashB a b = true := List.any_eq_true.2 ⟨a[k], List.getElem_mem h, hc⟩
set_option maxHeartbeats 1000000 in
theorem clash51_any (A B : Option Addr) (c d : Nat) (a b : List Spot) (w : World) (hr : Rd w A (flat a)) (hr' : Rd w B (flat b)) (hm : a.length ≤ 9223372036854775807) (hm' : b.length ≤ 9223372036854775807) :
    Calls Tryz.prog 23 #[.slice A a.length c, .slice B b.length d] w fun e w' => e = .returned (.bool (clashB a b)) ∧ Below w.heap.size w w' := by
  have cN := Lib.hid (fun W (hb : Below w.heap.size w W) n => find49_any B d b n W (hr'.ext hb) hm')
  go_enter Tryz.func23, Tryz.ntmps23
  go_wp2_with fail
  go_loopw [5] (fun i wr => ∃ k : Nat, k ≤ a.length ∧ i = .int .i64 k ∧ Below w.heap.size w wr ∧ Hid (clashB (a.take k) b = false)) (fun i _ => a.length - (intOf i).toNat)
  case atStart => exact ⟨0, Nat.zero_le _, rfl, Below.refl _ _, rfl⟩
  case round =>
    obtain ⟨k, hk, rfl, hB, HR⟩ := hrel
    by_cases hlt : k < a.length
    · obtain ⟨bb, off, rfl, hb, hc⟩ := hr.elem Spot.size_cells (by omega) hlt
      have h1 := (hB.cell (p := ⟨bb, off + k * 3 + 0, none⟩) hb).trans (hc 0 _ rfl)
      have h2 := (hB.cell (p := ⟨bb, off + k * 3 + 1, none⟩) hb).trans (hc 1 _ rfl)
      have h3 := (hB.cell (p := ⟨bb, off + k * 3 + 2, none⟩) hb).trans (hc 2 _ rfl)
      simp only [Nat.add_zero] at h1
      have htk := Lib.hid (clash_take (b := b) hlt)
      have hfr := Lib.hid (clash_from (b := b) hlt)
      clear hc hr
      generalize a[k] = x at *
      have cf := cN.out wr hB x.id
      cases hg : getS x.id b with
      | none =>
        rw [find_none hg] at cf
        have HN : Hid (clashB (a.take (k + 1)) b = false) := by show _ = _; rw [htk.out, HR.out, hg]; rfl
        have Hcf := Lib.hid cf
        clear hg cf
        go_wp2_with fail
        refine Hcf.out.mono ?_
        rintro e w' ⟨rfl, rfl⟩
        go_wp2_with fail
        go_still (by kernel_rfl)
        go_wp2
        go_roundw
        case rel => exact ⟨k + 1, by omega, by go_num, hB.drew, HN⟩
        case measure => simp [intOf]; omega
      | some y =>
        obtain ⟨j, hj, hfj, hyj⟩ := find_some hg
        rw [hfj] at cf
        obtain ⟨bb', off', rfl, hb', hc'⟩ := hr'.elem Spot.size_cells (by omega) hj
        have h1' := (hB.cell (p := ⟨bb', off' + j * 3 + 0, none⟩) hb').trans (hc' 0 _ rfl)
        have h2' := (hB.cell (p := ⟨bb', off' + j * 3 + 1, none⟩) hb').trans (hc' 1 _ rfl)
        have h3' := (hB.cell (p := ⟨bb', off' + j * 3 + 2, none⟩) hb').trans (hc' 2 _ rfl)
        simp only [Nat.add_zero] at h1'
        rw [hyj] at h1' h2' h3'
        have hj0 : (0 : Int) ≤ (j : Int) := by omega
        have Hcf := Lib.hid cf
        have hcg : Hid (clashG (some x) (getS x.id b) = (decide (x.ver = y.ver) && !decide (x.text = y.text))) := by show _ = _; rw [hg]; rfl
        clear hg cf hfj hyj hc' hr'
        by_cases hv : y.ver = x.ver
        · have hv2 : (y.ver == x.ver) = true := by simpa using hv
          by_cases ht : y.text.toList = x.text.toList
          · have ht2 : (y.text.toList == x.text.toList) = true := by simp [ht]
            have HN : Hid (clashB (a.take (k + 1)) b = false) := by
              show _ = _
              have : x.text = y.text := by rw [ByteArray.toList_eq, ByteArray.toList_eq] at ht; exact (ByteArray.ext (Array.toList_inj.1 ht)).symm
              rw [htk.out, HR.out, hcg.out, decide_eq_true this]; simp
            clear ht hv
            go_wp2_with fail
            refine Hcf.out.mono ?_
            rintro e w' ⟨rfl, rfl⟩
            go_wp2_with fail
            go_still (by kernel_rfl)
            go_wp2
            go_roundw
            case rel => exact ⟨k + 1, by omega, by go_num, hB.drew, HN⟩
            case measure => simp [intOf]; omega
          · have ht2 : (y.text.toList == x.text.toList) = false := by simpa using ht
            have HN : Hid (clashB a b = true) := by
              refine hfr.out ?_
              have : ¬ x.text = y.text := fun e => ht (by rw [e])
              rw [hcg.out, decide_eq_true hv.symm, decide_eq_false this]; rfl
            clear ht hv
            go_wp2_with fail
            refine Hcf.out.mono ?_
            rintro e w' ⟨rfl, rfl⟩
            go_wp2_with fail
            go_still (by kernel_rfl)
            go_wp2
            go_ret
            exact ⟨by rw [HN.out]; rfl, hB.drew⟩
        · have hv2 : (y.ver == x.ver) = false := by simpa using hv
          have HN : Hid (clashB (a.take (k + 1)) b = false) := by
            show _ = _
            rw [htk.out, HR.out, hcg.out, decide_eq_false (fun e => hv e.symm)]; rfl
          clear hv
          go_wp2_with fail
          refine Hcf.out.mono ?_
          rintro e w' ⟨rfl, rfl⟩
          go_wp2_with fail
          go_still (by kernel_rfl)
          go_wp2
          go_roundw
          case rel => exact ⟨k + 1, by omega, by go_num, hB.drew, HN⟩
          case measure => simp [intOf]; omega
    · have HF : Hid (clashB a b = false) := by
        have h := HR.out
        rw [List.take_of_length_le (by omega)] at h
        exact h
      clear HR
      go_wp2_with fail
      go_ret
      exact ⟨by rw [HF.out]; rfl, hB⟩
end Go.Proofs.YtfbhfimejcdopaaGreatDoor

/- The examples with which the statements about patches begin, in plain lists; the contracts, where it is known how they end. -/
namespace Go.Proofs.YtfbhfimejcdopaaGreatDoor
open Go.RowKit Go.Han
set_option maxRecDepth 100000

def p1 : Spot := ⟨1, 0, ⟨#[97]⟩⟩
def p2 : Spot := ⟨2, 0, ⟨#[98]⟩⟩
def p3 : Spot := ⟨2, 1, ⟨#[99]⟩⟩
def p4 : Spot := ⟨3, 0, ⟨#[100]⟩⟩
def p5 : Spot := ⟨2, 0, ⟨#[120]⟩⟩
def pA : List Spot := [p1, p2]
def pB : List Spot := [p3, p4]
def pW : List Change := [⟨7, 2, p1⟩, ⟨7, 3, p3⟩, ⟨7, 1, p4⟩]
theorem px1 : diffE pA pB 7 = 0 := by kernel_rfl
theorem px1' : diffL 7 pA pB = pW := by simp [diffL, pA, pB, pW, p1, p2, p3, p4]
theorem px2 : diffE [] [] 0 = 0 := by kernel_rfl
theorem px2' : diffL 0 [] [] = [] := by simp [diffL]
theorem px3 : diffE [] [] (-1) = 1 := by kernel_rfl
theorem px4 : diffE pA [p5] 7 = 510 := by kernel_rfl
theorem px5 : applyE pA pW = 0 := by kernel_rfl
theorem px5' : applyO pA pW = pB := by kernel_rfl
theorem px6 : applyE pA [] = 0 := by kernel_rfl
theorem px6' : applyO pA [] = pA := by kernel_rfl
theorem px7 : applyE [] [⟨7, 2, p1⟩] = 490 := by kernel_rfl
theorem px8 : thenE [] [⟨3, 1, p1⟩] [⟨7, 2, p1⟩] = 0 := by kernel_rfl
theorem px8' : thenO [] [⟨3, 1, p1⟩] [⟨7, 2, p1⟩] = [] := by
  have h1 : applyO (applyO [] [⟨3, 1, p1⟩]) [⟨7, 2, p1⟩] = [] := by kernel_rfl
  have h2 : lastAt [⟨3, 1, p1⟩] [⟨7, 2, p1⟩] = 7 := by kernel_rfl
  have h3 : applyE [] [⟨3, 1, p1⟩] = 0 := by kernel_rfl
  have h4 : applyE (applyO [] [⟨3, 1, p1⟩]) [⟨7, 2, p1⟩] = 0 := by kernel_rfl
  have h5 : diffE [] [] 7 = 0 := by kernel_rfl
  unfold thenO diffO
  rw [h1, h2, h3, h4, if_neg (by simp), if_pos h5]
  simp [diffL]
theorem px9 : thenE [] [] [] = 0 := by kernel_rfl
theorem px9' : thenO [] [] [] = [] := by kernel_rfl
theorem px10 : thenE pA [⟨7, 2, p1⟩] [] = 0 := by kernel_rfl
theorem px10' : thenO pA [⟨7, 2, p1⟩] [] = [⟨7, 2, p1⟩] := by
  have h1 : applyO (applyO pA [⟨7, 2, p1⟩]) [] = [p2] := by kernel_rfl
  have h2 : lastAt [⟨7, 2, p1⟩] [] = 7 := by kernel_rfl
  have h3 : applyE pA [⟨7, 2, p1⟩] = 0 := by kernel_rfl
  have h4 : applyE (applyO pA [⟨7, 2, p1⟩]) [] = 0 := by kernel_rfl
  have h5 : diffE pA [p2] 7 = 0 := by kernel_rfl
  unfold thenO diffO
  rw [h1, h2, h3, h4, if_neg (by simp), if_pos h5]
  simp [diffL, pA, p1, p2]

/-! ### the contracts, where it is known how they end -/
def CsOk (d : List Change) (n : Nat) (w : World) (e : Ending) (w' : World) : Prop := Below w.heap.size w w' ∧ ∃ A c, e = .returned (.tuple #[.slice A n c, .int .i64 0]) ∧ Rd w' A (cflat d)
def SsOk (s : List Spot) (n : Nat) (w : World) (e : Ending) (w' : World) : Prop := Below w.heap.size w w' ∧ ∃ A c, e = .returned (.tuple #[.slice A n c, .int .i64 0]) ∧ Rd w' A (flat s) ∧ (A = none → s = [])
def ErrP (k : Int) (w : World) (e : Ending) (w' : World) : Prop := Below w.heap.size w w' ∧ e = .returned (.tuple #[.slice none 0 0, .int .i64 k])
theorem diff_ok {a b : List Spot} {t : Int} {d : List Change} {n : Nat} (h : diffE a b t = 0) (hd : diffL t a b = d) (hn : d.length = n) {w : World} {e : Ending} {w' : World} (hp : DiffPost a b t w e w') : CsOk d n w e w' := by
  subst hd hn
  obtain ⟨hb, ⟨h1, _⟩ | ⟨_, v, rfl, hown⟩⟩ := hp
  · exact absurd h h1
  · obtain ⟨A, c, rfl, hr, _⟩ := hown.form (by decide)
    exact ⟨hb, A, c, rfl, hr⟩
theorem diff_er {a b : List Spot} {t : Int} {k : Int} (h : diffE a b t = k) (hk : k ≠ 0) {w : World} {e : Ending} {w' : World} (hp : DiffPost a b t w e w') : ErrP k w e w' := by
  subst h
  obtain ⟨hb, ⟨_, rfl⟩ | ⟨h1, _⟩⟩ := hp
  · exact ⟨hb, rfl⟩
  · exact absurd h1 hk
theorem apply_ok {a r : List Spot} {p : List Change} {n : Nat} (h : applyE a p = 0) (hd : applyO a p = r) (hn : r.length = n) {w : World} {e : Ending} {w' : World} (hp : ApplyPost a p w e w') : SsOk r n w e w' := by
  subst hd hn
  obtain ⟨hb, ⟨h1, _⟩ | ⟨_, A, c, rfl, hr, hA⟩⟩ := hp
  · exact absurd h h1
  · exact ⟨hb, A, c, rfl, hr, hA⟩
theorem apply_er {a : List Spot} {p : List Change} {k : Int} (h : applyE a p = k) (hk : k ≠ 0) {w : World} {e : Ending} {w' : World} (hp : ApplyPost a p w e w') : ErrP k w e w' := by
  subst h
  obtain ⟨hb, ⟨_, rfl⟩ | ⟨h1, _⟩⟩ := hp
  · exact ⟨hb, rfl⟩
  · exact absurd h1 hk
theorem then_ok {a : List Spot} {p q r : List Change} {n : Nat} (h : thenE a p q = 0) (hd : thenO a p q = r) (hn : r.length = n) {w : World} {e : Ending} {w' : World} (hp : ThenPost a p q w e w') : CsOk r n w e w' := by
  subst hd hn
  obtain ⟨hb, ⟨h1, _⟩ | ⟨_, A, c, rfl, hr⟩⟩ := hp
  · exact absurd h h1
  · exact ⟨hb, A, c, rfl, hr⟩
theorem then_er {a : List Spot} {p q : List Change} {k : Int} (h : thenE a p q = k) (hk : k ≠ 0) {w : World} {e : Ending} {w' : World} (hp : ThenPost a p q w e w') : ErrP k w e w' := by
  subst h
  obtain ⟨hb, ⟨_, rfl⟩ | ⟨h1, _⟩⟩ := hp
  · exact ⟨hb, rfl⟩
  · exact absurd h1 hk
end Go.Proofs.YtfbhfimejcdopaaGreatDoor

/- The examples with which the statements about patches begin, walked. -/
namespace Go.Proofs.YtfbhfimejcdopaaGreatDoor
open Go.RowKit Go.Han
attribute [local irreducible] wpStill wpQuiet
set_option maxRecDepth 100000

theorem spot51_any (i v : Int) (s : ByteArray) (w : World) : Calls Tryz.prog 16 #[.int .i64 i, .int .i64 v, .string s] w fun e w' => e = .returned (.agg #[.int .i64 i, .int .i64 v, .string s]) ∧ w.alloc (.cells #[.int .i64 i, .int .i64 v, .string s] 37) = w' := by
  go_enter Tryz.func16, Tryz.ntmps16
  go_wp2
  exact bodyPost_ret (v := .agg #[.int .i64 i, .int .i64 v, .string s]) (by simp [results, Tryz.results16, go_sem]) rfl ⟨rfl, rfl⟩
theorem few51_any (A B : Option Addr) (c d : Nat) (a b : List Spot) (w : World) (hr : Rd w A (flat a)) (hr' : Rd w B (flat b)) (hm : a.length ≤ 9223372036854775807) (hm' : b.length ≤ 9223372036854775807) :
    Calls Tryz.prog 6 #[.slice A a.length c, .slice B b.length d] w fun e w' => e = .returned (.bool (fewB a && fewB b)) ∧ w = w' := by
  have cA := Lib.hid (few49_any A c a w hr hm)
  have cB := Lib.hid (few49_any B d b w hr' hm')
  go_enter Tryz.func6, Tryz.ntmps6
  go_wp2_with fail
  refine cA.out.mono ?_
  rintro e w' ⟨rfl, rfl⟩
  cases ha : fewB a
  · go_wp2_with fail
    go_ret
    exact ⟨by simp [ha], rfl⟩
  · go_wp2_with fail
    refine cB.out.mono ?_
    rintro e w' ⟨rfl, rfl⟩
    cases hb : fewB b
    all_goals
      go_wp2_with fail
      go_ret
      exact ⟨by simp [ha, hb], rfl⟩

theorem same_chg (A B : Option Addr) (c d : Nat) (l : List Change) (n : Nat) (W : World) (hn : l.length = n) (h1 : Rd W A (cflat l)) (h2 : Rd W B (cflat l)) (hm : n ≤ 9223372036854775807) : Calls Tryz.prog 9 #[.slice A n c, .slice B n d] W fun e w' => e = .returned (.bool true) ∧ Below W.heap.size W w' := by
  subst hn
  have := same51_any A B c d l l W h1 h2 hm
  rw [decide_eq_true (show l = l from rfl)] at this
  exact this
theorem same_spt (A B : Option Addr) (c d : Nat) (l : List Spot) (n : Nat) (W : World) (hn : l.length = n) (h1 : Rd W A (flat l)) (h2 : Rd W B (flat l)) (hm : n ≤ 9223372036854775807) : Calls Tryz.prog 15 #[.slice A n c, .slice B n d] W fun e w' => e = .returned (.bool true) ∧ Below W.heap.size W w' := by
  subst hn
  have := same49_any A B c d l l W h1 h2 hm
  rw [decide_eq_true (show l = l from rfl)] at this
  exact this
theorem grd_pre {w : World} {b t : Nat} {cs : Array Value} {fr : Nat × Nat} {xs ys : List Value} (h : w.heap[b]? = some (.cells cs t fr)) (hx : cs.toList = xs ++ ys) : Rd w (some ⟨b, 0, none⟩) xs := by
  refine .inr ⟨b, 0, rfl, lt_block h, fun j u hu => ?_⟩
  rw [Nat.zero_add, gblk h]
  have h1 : (xs ++ ys)[j]? = some u := by rw [List.getElem?_append_left (List.getElem?_eq_some_iff.1 hu).1]; exact hu
  rw [← hx] at h1
  simpa using h1
set_option maxHeartbeats 2000000 in
theorem sane51_any (w : World) (hT : Tabs w) : Calls Tryz.prog 5 #[] w (TruePost w) := by
  go_enter Tryz.func5, Tryz.ntmps5
  go_wp2_with (first | (go_at_call 16; refine (spot51_any _ _ _ _).mono ?_; rintro e w' ⟨rfl, rfl⟩))
  obtain ⟨W1, hW1⟩ : ∃ W1, (((((w.alloc (.cells #[.int .i64 p1.id, .int .i64 p1.ver, .string p1.text] 37)).alloc (.cells #[.int .i64 p2.id, .int .i64 p2.ver, .string p2.text] 37)).alloc (.cells #[.int .i64 p1.id, .int .i64 p1.ver, .string p1.text, .int .i64 p2.id, .int .i64 p2.ver, .string p2.text] 37)).alloc (.cells #[.int .i64 p3.id, .int .i64 p3.ver, .string p3.text] 37)).alloc (.cells #[.int .i64 p4.id, .int .i64 p4.ver, .string p4.text] 37)).alloc (.cells #[.int .i64 p3.id, .int .i64 p3.ver, .string p3.text, .int .i64 p4.id, .int .i64 p4.ver, .string p4.text] 37) = W1 := ⟨_, rfl⟩
  have hB1 : Below w.heap.size w W1 := by rw [← hW1]; repeat (first | exact Below.refl _ _ | refine ext_alloc ?_ _)
  have gA : W1.heap[w.heap.size + 1 + 1]? = some (.cells #[.int .i64 p1.id, .int .i64 p1.ver, .string p1.text, .int .i64 p2.id, .int .i64 p2.ver, .string p2.text] 37 (0, 0)) := by
    rw [← hW1]
    repeat (first | (refine galloc_at _ _ _ ?_; simp only [World.size_alloc]; done) | refine (Below.heap_alloc _ _ _ (by simp only [World.size_alloc]; omega)).trans ?_)
  have gB : W1.heap[w.heap.size + 1 + 1 + 1 + 1 + 1]? = some (.cells #[.int .i64 p3.id, .int .i64 p3.ver, .string p3.text, .int .i64 p4.id, .int .i64 p4.ver, .string p4.text] 37 (0, 0)) := by
    rw [← hW1]
    repeat (first | (refine galloc_at _ _ _ ?_; simp only [World.size_alloc]; done) | refine (Below.heap_alloc _ _ _ (by simp only [World.size_alloc]; omega)).trans ?_)
  have hz1 : W1.heap.size = w.heap.size + 1 + 1 + 1 + 1 + 1 + 1 := by rw [← hW1]; simp only [World.size_alloc]
  have a0 : W1.cell? ⟨w.heap.size + 1 + 1, 0, none⟩ = some (.int .i64 1) := gblk gA 0
  have a1 : W1.cell? ⟨w.heap.size + 1 + 1, 1, none⟩ = some (.int .i64 0) := gblk gA 1
  have a2 : W1.cell? ⟨w.heap.size + 1 + 1, 2, none⟩ = some (.string ⟨#[97]⟩) := gblk gA 2
  have b0 : W1.cell? ⟨w.heap.size + 1 + 1 + 1 + 1 + 1, 0, none⟩ = some (.int .i64 2) := gblk gB 0
  have b1 : W1.cell? ⟨w.heap.size + 1 + 1 + 1 + 1 + 1, 1, none⟩ = some (.int .i64 1) := gblk gB 1
  have b2 : W1.cell? ⟨w.heap.size + 1 + 1 + 1 + 1 + 1, 2, none⟩ = some (.string ⟨#[99]⟩) := gblk gB 2
  have b3 : W1.cell? ⟨w.heap.size + 1 + 1 + 1 + 1 + 1, 3, none⟩ = some (.int .i64 3) := gblk gB 3
  have b4 : W1.cell? ⟨w.heap.size + 1 + 1 + 1 + 1 + 1, 4, none⟩ = some (.int .i64 0) := gblk gB 4
  have b5 : W1.cell? ⟨w.heap.size + 1 + 1 + 1 + 1 + 1, 5, none⟩ = some (.string ⟨#[100]⟩) := gblk gB 5
  simp only [p1, p2, p3, p4] at hW1
  rw [hW1]
  clear hW1
  go_still_tail 12, (by kernel_rfl)
  change wpList _ _ _ _ _ W1.drew
  obtain ⟨W3, hW3⟩ : ∃ W3, W1.drew.alloc (.cells #[.int .i64 7, .int .i64 2, .int .i64 p1.id, .int .i64 p1.ver, .string p1.text, .int .i64 7, .int .i64 3, .int .i64 p3.id, .int .i64 p3.ver, .string p3.text, .int .i64 7, .int .i64 1, .int .i64 p4.id, .int .i64 p4.ver, .string p4.text] 40) = W3 := ⟨_, rfl⟩
  have hB13 : Below W1.heap.size W1 W3 := by rw [← hW3]; exact ext_alloc (Below.refl W1.heap.size W1).drew _
  have gW : W3.heap[W1.heap.size]? = some (.cells #[.int .i64 7, .int .i64 2, .int .i64 p1.id, .int .i64 p1.ver, .string p1.text, .int .i64 7, .int .i64 3, .int .i64 p3.id, .int .i64 p3.ver, .string p3.text, .int .i64 7, .int .i64 1, .int .i64 p4.id, .int .i64 p4.ver, .string p4.text] 40 (0, 0)) := by rw [← hW3]; exact World.alloc_heap_new W1.drew _
  have gA3 := (hB13.block _ (lt_block gA)).trans gA
  have hB3 := ext_trans hB1 hB13
  have rA : Rd W3 (some ⟨w.heap.size + 1 + 1, 0, none⟩) (flat pA) := grd_blk gA3 rfl
  have rB : Rd W3 (some ⟨w.heap.size + 1 + 1 + 1 + 1 + 1, 0, none⟩) (flat pB) := grd_blk ((hB13.block _ (lt_block gB)).trans gB) rfl
  have rW : Rd W3 (some ⟨W1.heap.size, 0, none⟩) (cflat pW) := grd_blk gW rfl
  have rW1 : Rd W3 (some ⟨W1.heap.size, 0, none⟩) (cflat [⟨7, 2, p1⟩]) := grd_pre (ys := cflat [⟨7, 3, p3⟩, ⟨7, 1, p4⟩]) gW rfl
  simp only [p1, p3, p4] at hW3
  have T3 := Lib.hid (fun W (h : Below W3.heap.size W3 W) => utf_ext hT (ext_trans hB3 h))
  have cD1 : Hid (∀ W, Below W3.heap.size W3 W → Calls Tryz.prog 7 #[.slice (some ⟨w.heap.size + 1 + 1, 0, none⟩) 2 2, .slice (some ⟨w.heap.size + 1 + 1 + 1 + 1 + 1, 0, none⟩) 2 2, .int .i64 7] W (CsOk pW 3 W)) := fun W h => (Diff51_any (some ⟨w.heap.size + 1 + 1, 0, none⟩) 2 pA (some ⟨w.heap.size + 1 + 1 + 1 + 1 + 1, 0, none⟩) 2 pB 7 W (T3.out W h) (rA.ext h) (by decide) (rB.ext h) (by decide)).mono (fun e w' hp => diff_ok px1 px1' rfl hp)
  have cD2 : Hid (∀ W, Below W3.heap.size W3 W → Calls Tryz.prog 7 #[.slice none 0 0, .slice none 0 0, .int .i64 0] W (CsOk [] 0 W)) := fun W h => (Diff51_any none 0 [] none 0 [] 0 W (T3.out W h) (Rd.nil _ _) (by decide) (Rd.nil _ _) (by decide)).mono (fun e w' hp => diff_ok px2 px2' rfl hp)
  have cD3 : Hid (∀ W, Below W3.heap.size W3 W → Calls Tryz.prog 7 #[.slice none 0 0, .slice none 0 0, .int .i64 (-1)] W (ErrP 1 W)) := fun W h => (Diff51_any none 0 [] none 0 [] (-1) W (T3.out W h) (Rd.nil _ _) (by decide) (Rd.nil _ _) (by decide)).mono (fun e w' hp => diff_er px3 (by decide) hp)
  have cD4 : Hid (∀ W, Below W3.heap.size W3 W → ∀ g, Rd W (some ⟨g, 0, none⟩) (flat [p5]) → Calls Tryz.prog 7 #[.slice (some ⟨w.heap.size + 1 + 1, 0, none⟩) 2 2, .slice (some ⟨g, 0, none⟩) 1 1, .int .i64 7] W (ErrP 510 W)) := fun W h g hg => (Diff51_any (some ⟨w.heap.size + 1 + 1, 0, none⟩) 2 pA (some ⟨g, 0, none⟩) 1 [p5] 7 W (T3.out W h) (rA.ext h) (by decide) hg (by decide)).mono (fun e w' hp => diff_er px4 (by decide) hp)
  have cA5 : Hid (∀ W, Below W3.heap.size W3 W → Calls Tryz.prog 11 #[.slice (some ⟨w.heap.size + 1 + 1, 0, none⟩) 2 2, .slice (some ⟨W1.heap.size, 0, none⟩) 3 3] W (SsOk pB 2 W)) := fun W h => (Apply_any (some ⟨w.heap.size + 1 + 1, 0, none⟩) 2 pA (some ⟨W1.heap.size, 0, none⟩) 3 pW W (T3.out W h) (rA.ext h) (by simp) (by decide) (rW.ext h) (by decide)).mono (fun e w' hp => apply_ok px5 px5' rfl hp)
  have cA6 : Hid (∀ W, Below W3.heap.size W3 W → Calls Tryz.prog 11 #[.slice (some ⟨w.heap.size + 1 + 1, 0, none⟩) 2 2, .slice none 0 0] W (SsOk pA 2 W)) := fun W h => (Apply_any (some ⟨w.heap.size + 1 + 1, 0, none⟩) 2 pA none 0 [] W (T3.out W h) (rA.ext h) (by simp) (by decide) (Rd.nil _ _) (by decide)).mono (fun e w' hp => apply_ok px6 px6' rfl hp)
  have cA7 : Hid (∀ W, Below W3.heap.size W3 W → Calls Tryz.prog 11 #[.slice none 0 0, .slice (some ⟨W1.heap.size, 0, none⟩) 1 3] W (ErrP 490 W)) := fun W h => (Apply_any none 0 [] (some ⟨W1.heap.size, 0, none⟩) 3 [⟨7, 2, p1⟩] W (T3.out W h) (Rd.nil _ _) (by simp) (by decide) (rW1.ext h) (by decide)).mono (fun e w' hp => apply_er px7 (by decide) hp)
  have cT8 : Hid (∀ W, Below W3.heap.size W3 W → ∀ g, Rd W (some ⟨g, 0, none⟩) (cflat [⟨3, 1, p1⟩]) → Calls Tryz.prog 13 #[.slice none 0 0, .slice (some ⟨g, 0, none⟩) 1 1, .slice (some ⟨W1.heap.size, 0, none⟩) 1 3] W (CsOk [] 0 W)) := fun W h g hg => (Then_any none 0 [] (some ⟨g, 0, none⟩) 1 [⟨3, 1, p1⟩] (some ⟨W1.heap.size, 0, none⟩) 3 [⟨7, 2, p1⟩] W (T3.out W h) (Rd.nil _ _) (by simp) (by decide) hg (by decide) (rW1.ext h) (by decide)).mono (fun e w' hp => then_ok px8 px8' rfl hp)
  have cT9 : Hid (∀ W, Below W3.heap.size W3 W → Calls Tryz.prog 13 #[.slice none 0 0, .slice none 0 0, .slice none 0 0] W (CsOk [] 0 W)) := fun W h => (Then_any none 0 [] none 0 [] none 0 [] W (T3.out W h) (Rd.nil _ _) (by simp) (by decide) (Rd.nil _ _) (by decide) (Rd.nil _ _) (by decide)).mono (fun e w' hp => then_ok px9 px9' rfl hp)
  have cT10 : Hid (∀ W, Below W3.heap.size W3 W → Calls Tryz.prog 13 #[.slice (some ⟨w.heap.size + 1 + 1, 0, none⟩) 2 2, .slice (some ⟨W1.heap.size, 0, none⟩) 1 3, .slice none 0 0] W (CsOk [⟨7, 2, p1⟩] 1 W)) := fun W h => (Then_any (some ⟨w.heap.size + 1 + 1, 0, none⟩) 2 pA (some ⟨W1.heap.size, 0, none⟩) 3 [⟨7, 2, p1⟩] none 0 [] W (T3.out W h) (rA.ext h) (by simp) (by decide) (rW1.ext h) (by decide) (Rd.nil _ _) (by decide)).mono (fun e w' hp => then_ok px10 px10' rfl hp)
  have HA3 := Lib.hid gA3
  have hlA := lt_block gA3
  have HrA := Lib.hid rA
  have HrB := Lib.hid rB
  have HrW := Lib.hid rW
  have HrW1 := Lib.hid rW1
  clear gA gB gW a0 a1 a2 b0 b1 b2 b3 b4 b5 rA rB rW rW1 gA3 hz1
  go_wp2_with fail
  refine (cD1.out W3 (Below.refl _ _)).mono ?_
  rintro e W4 ⟨HB4, A4, c4, rfl, hr4⟩
  go_wp2_with fail
  refine (cD2.out W4 HB4).mono ?_
  rintro e W5 ⟨hb5, A5, c5, rfl, _⟩
  have HB5 := ext_trans HB4 hb5
  go_wp2_with fail
  refine (cD3.out W5 HB5).mono ?_
  rintro e W6 ⟨hb6, rfl⟩
  have HB6 := ext_trans HB5 hb6
  go_wp2_with fail
  refine (spot51_any _ _ _ _).mono ?_
  rintro e w' ⟨rfl, rfl⟩
  obtain ⟨W7, hW7⟩ : ∃ W7, (W6.alloc (.cells #[.int .i64 p5.id, .int .i64 p5.ver, .string p5.text] 37)).alloc (.cells #[.int .i64 p5.id, .int .i64 p5.ver, .string p5.text] 37) = W7 := ⟨_, rfl⟩
  have hb7 : Below W6.heap.size W6 W7 := by rw [← hW7]; exact ext_alloc (ext_alloc (Below.refl _ _) _) _
  have g7 : W7.heap[W6.heap.size + 1]? = some (.cells #[.int .i64 p5.id, .int .i64 p5.ver, .string p5.text] 37 (0, 0)) := by rw [← hW7]; exact galloc_at _ _ _ (by simp)
  have HB7 := ext_trans HB6 hb7
  have cD4' := Lib.hid (cD4.out W7 HB7 (W6.heap.size + 1) (grd_blk g7 rfl))
  simp only [p5] at hW7
  clear g7
  go_wp2_with fail
  refine cD4'.out.mono ?_
  rintro e W8 ⟨hb8, rfl⟩
  have HB8 := ext_trans HB7 hb8
  clear hW7
  go_wp2_with fail
  refine (cA5.out W8 HB8).mono ?_
  rintro e W9 ⟨hb9, A9, c9, rfl, hr9, _⟩
  have HB9 := ext_trans HB8 hb9
  go_wp2_with fail
  refine (cA6.out W9 HB9).mono ?_
  rintro e WA ⟨hba, AA, ca, rfl, hra, _⟩
  have HBA := ext_trans HB9 hba
  go_wp2_with fail
  refine (cA7.out WA HBA).mono ?_
  rintro e WB ⟨hbb, rfl⟩
  have HBB := ext_trans HBA hbb
  have gAB := (HBB.block _ hlA).trans HA3.out
  have a0 : WB.cell? ⟨w.heap.size + 1 + 1, 0, none⟩ = some (.int .i64 1) := gblk gAB 0
  have a1 : WB.cell? ⟨w.heap.size + 1 + 1, 1, none⟩ = some (.int .i64 0) := gblk gAB 1
  have a2 : WB.cell? ⟨w.heap.size + 1 + 1, 2, none⟩ = some (.string ⟨#[97]⟩) := gblk gAB 2
  go_wp2_with fail
  go_region_with (go_at_call 13; refine (cT8.out _ ?_ WB.heap.size ?_).mono ?_; exact ext_alloc (ext_drew HBB) _; exact grd_blk (World.alloc_heap_new WB.drew _) rfl; rintro e WC ⟨hbc, AC, cc, rfl, _⟩; have HBC := ext_trans (ext_alloc (ext_drew HBB) _) hbc)
  clear a0 a1 a2 gAB
  all_goals
    go_wp2_with fail
    refine (cT9.out WC HBC).mono ?_
    rintro e WD ⟨hbd, AD, cd, rfl, _⟩
    have HBD := ext_trans HBC hbd
    go_wp2_with fail
    refine (cT10.out WD HBD).mono ?_
    rintro e WE ⟨hbe, AE, ce, rfl, hre⟩
    have HBE := ext_trans HBD hbe
    go_wp2_with fail
    have r4 := hr4.ext (ext_trans hb5 (ext_trans hb6 (ext_trans hb7 (ext_trans hb8 (ext_trans hb9 (ext_trans hba (ext_trans hbb (ext_trans (ext_alloc (ext_drew (Below.refl WB.heap.size WB)) _) (ext_trans hbc (ext_trans hbd hbe))))))))))
    have r9 := hr9.ext (ext_trans hba (ext_trans hbb (ext_trans (ext_alloc (ext_drew (Below.refl WB.heap.size WB)) _) (ext_trans hbc (ext_trans hbd hbe)))))
    have ra := hra.ext (ext_trans hbb (ext_trans (ext_alloc (ext_drew (Below.refl WB.heap.size WB)) _) (ext_trans hbc (ext_trans hbd hbe))))
    refine (same_chg A4 _ c4 3 pW 3 WE rfl r4 (HrW.out.ext HBE) (by decide)).mono ?_
    rintro e WF ⟨rfl, hbf⟩
    have HBF := ext_trans HBE hbf
    go_wp2_with fail
    refine (same_spt A9 _ c9 2 pB 2 WF rfl (r9.ext hbf) (HrB.out.ext HBF) (by decide)).mono ?_
    rintro e WG ⟨rfl, hbg⟩
    have HBG := ext_trans HBF hbg
    go_wp2_with fail
    refine (same_spt AA _ ca 2 pA 2 WG rfl ((ra.ext hbf).ext hbg) (HrA.out.ext HBG) (by decide)).mono ?_
    rintro e WH ⟨rfl, hbh⟩
    have HBH := ext_trans HBG hbh
    go_wp2_with fail
    refine (same_chg AE _ ce 3 [⟨7, 2, p1⟩] 1 WH rfl (((hre.ext hbf).ext hbg).ext hbh) (HrW1.out.ext HBH) (by decide)).mono ?_
    rintro e WI ⟨rfl, hbi⟩
    go_wp2_with fail
    go_ret
    exact ⟨rfl, ext_trans hB3 (ext_trans HBH hbi)⟩
end Go.Proofs.YtfbhfimejcdopaaGreatDoor

/- The reference of displays: right ids, times, spots. -/
namespace Go.Proofs.YtfbhfimejcdopaaGreatDoor
open Go.RowKit Go.Han
attribute [local irreducible] wpStill wpQuiet
set_option maxRecDepth 100000

theorem id49_any (n : Int) (w : World) :
    Calls Tryz.prog 51 #[.int .i64 n] w fun e w' => e = .returned (.bool (idB n)) ∧ w = w' := by
  go_enter Tryz.func51, Tryz.ntmps51
  go_wp2
  all_goals go_ret
  · simp [idB, *]
  · have : ¬ 0 ≤ n := by omega
    simp [idB, *]
theorem time49_any (n : Int) (w : World) :
    Calls Tryz.prog 22 #[.int .i64 n] w fun e w' => e = .returned (.bool (timeB n)) ∧ w = w' := by
  go_enter Tryz.func22, Tryz.ntmps22
  go_wp2
  all_goals go_ret
  · simp [timeB, *]
  · have : ¬ 0 ≤ n := by omega
    simp [timeB, *]
theorem right49_any (x : Spot) (w : World) :
    Calls Tryz.prog 36 #[x.val] w fun e w' => e = .returned (.bool x.ok) ∧ Below w.heap.size w w' := by
  obtain ⟨i, v, s⟩ := x
  have hB : Below w.heap.size w (w.alloc (.cells #[.int .i64 i, .int .i64 v, .string s] 37)) := (Below.refl _ _).alloc (Nat.le_refl _) _
  have Hok : Hid (Spot.ok ⟨i, v, s⟩ = (idB i && idB v && wordB s)) := rfl
  unfold Spot.val
  go_enter Tryz.func36, Tryz.ntmps36
  go_wp2_with fail
  refine (id49_any _ _).mono ?_
  rintro e w' ⟨rfl, rfl⟩
  generalize idB i = b1 at *
  cases b1
  · go_wp2
    go_ret
    exact ⟨by rw [Hok.out]; rfl, hB⟩
  go_wp2_with fail
  refine (id49_any _ _).mono ?_
  rintro e w' ⟨rfl, rfl⟩
  generalize idB v = b2 at *
  cases b2
  · go_wp2
    go_ret
    exact ⟨by rw [Hok.out]; rfl, hB⟩
  go_wp2_with fail
  refine (word9_any s _).mono ?_
  rintro e w2 ⟨rfl, hb2⟩
  go_wp2
  go_ret
  exact ⟨by rw [Hok.out]; rfl, ext_trans hB hb2⟩

end Go.Proofs.YtfbhfimejcdopaaGreatDoor

/- The reference's package of displays: right displays and changes; sizes. -/
namespace Go.Proofs.YtfbhfimejcdopaaGreatDoor
open Go.RowKit Go.Han
attribute [local irreducible] wpStill wpQuiet
set_option maxRecDepth 100000

theorem rightc49_any (c : Change) (w : World) :
    Calls Tryz.prog 42 #[c.val] w fun e w' => e = .returned (.bool c.ok) ∧ Below w.heap.size w w' := by
  obtain ⟨t, kd, ⟨i, v, s⟩⟩ := c
  have hB : Below w.heap.size w (w.alloc (.cells #[.int .i64 t, .int .i64 kd, .int .i64 i, .int .i64 v, .string s] 40)) := (Below.refl _ _).alloc (Nat.le_refl _) _
  have Hok : Hid (Change.ok ⟨t, kd, ⟨i, v, s⟩⟩ = (kindB kd && timeB t && Spot.ok ⟨i, v, s⟩)) := rfl
  have Hk : Hid (kindB kd = (decide (1 ≤ kd) && decide (kd ≤ 3))) := rfl
  unfold Change.val
  simp only
  go_enter Tryz.func42, Tryz.ntmps42
  go_wp2_with fail
  refine (time49_any _ _).mono ?_
  rintro e w' ⟨rfl, rfl⟩
  generalize timeB t = b1 at *
  cases b1
  · go_wp2
    go_ret
    exact ⟨by rw [Hok.out]; simp, hB⟩
  by_cases h1 : 1 ≤ kd
  · by_cases h3 : kd ≤ 3
    · go_wp2_with fail
      refine (right49_any ⟨i, v, s⟩ _).mono ?_
      rintro e w2 ⟨rfl, hb2⟩
      have HK : Hid (kindB kd = true) := by show _ = _; rw [Hk.out]; simp [h1, h3]
      go_wp2
      go_ret
      exact ⟨by rw [Hok.out, HK.out]; rfl, ext_trans hB hb2⟩
    · have HK : Hid (kindB kd = false) := by show _ = _; rw [Hk.out]; simp; omega
      have d1 : decide (1 ≤ kd) = true := by simpa using h1
      have d3 : decide (kd ≤ 3) = false := by simpa using h3
      go_wp2
      go_ret
      exact ⟨by rw [Hok.out, HK.out]; rfl, hB⟩
  · have HK : Hid (kindB kd = false) := by show _ = _; rw [Hk.out]; simp; omega
    have d1 : decide (1 ≤ kd) = false := by simpa using h1
    go_wp2
    go_ret
    exact ⟨by rw [Hok.out, HK.out]; rfl, hB⟩

/-- The Id before place k. -/
def lastI (l : List Spot) (k : Nat) : Int := if k = 0 then -1 else match l[k - 1]? with | some x => x.id | none => -1
theorem lastI_succ (l : List Spot) (k : Nat) (h : k < l.length) : lastI l (k + 1) = l[k].id := by
  unfold lastI
  rw [if_neg (by omega), Nat.add_sub_cancel, List.getElem?_eq_getElem h]
set_option maxHeartbeats 1000000 in
theorem check49_any (A : Option Addr) (c : Nat) (l : List Spot) (w : World) (hr : Rd w A (flat l)) (hm : l.length ≤ 9223372036854775807) :
    Calls Tryz.prog 21 #[.slice A l.length c] w fun e w' => e = .returned (.int .i64 (checkE l)) ∧ Below w.heap.size w w' := by
  by_cases hl : l.length ≤ 1024
  · have h1 : ¬ (1024 : Int) < l.length := by omega
    go_enter Tryz.func21, Tryz.ntmps21
    go_wp2_with fail
    go_loopw [3] (fun i wr => ∃ (k : Nat) (last : Int), k ≤ l.length ∧ i = .int .i64 k ∧ Below w.heap.size w wr ∧ Hid (checkFrom (-1) l = checkFrom last (l.drop k)) ∧ Hid (last = lastI l k)) (fun i _ => l.length - (intOf i).toNat)
    case atStart => exact ⟨0, -1, Nat.zero_le _, rfl, Below.refl _ _, rfl, rfl⟩
    case round =>
      obtain ⟨k, last, hk, rfl, hB, HR, HL⟩ := hrel
      have hz := hB.size
      by_cases hlt : k < l.length
      · obtain ⟨b, off, rfl, hb, hc⟩ := hr.elem Spot.size_cells (by omega) hlt
        have h1 := (hB.cell (p := ⟨b, off + k * 3 + 0, none⟩) hb).trans (hc 0 _ rfl)
        have h2 := (hB.cell (p := ⟨b, off + k * 3 + 1, none⟩) hb).trans (hc 1 _ rfl)
        have h3 := (hB.cell (p := ⟨b, off + k * 3 + 2, none⟩) hb).trans (hc 2 _ rfl)
        simp only [Nat.add_zero] at h1
        have Hd := Lib.hid (checkFrom_drop l k hlt last)
        have hbw : b < wr.heap.size := Nat.lt_of_lt_of_le hb hz
        have hcE : ∀ b : Bool, b = (l[k].ok && decide (last < l[k].id)) → checkE l = if b then (if checkFrom l[k].id (l.drop (k + 1)) then 0 else 490) else 490 := by
          rintro b rfl
          unfold checkE
          rw [if_neg (by omega), HR.out, Hd.out]
          cases l[k].ok <;> simp
          by_cases h : last < l[k].id <;> simp [h]
        have HcE := Lib.hid hcE
        have cr := right49_any l[k] 
        cases hok : l[k].ok
        · have HF : Hid (checkE l = 490) := by
            show _ = _
            rw [HcE.out false (by rw [hok]; rfl)]; rfl
          rw [hok] at cr
          have Cr := Lib.hid cr
          clear hcE hok cr HcE hc hr
          generalize l[k] = x at *
          obtain ⟨a, v, s⟩ := x
          unfold Spot.val at Cr
          simp only at h1 h2 h3 Cr
          have c1 := fun p => cell_ext (w := wr) (a := ⟨b, off + k * 3, none⟩) hbw h1 p
          have c2 := fun p => cell_ext (w := wr) (a := ⟨b, off + k * 3 + 1, none⟩) hbw h2 p
          have c3 := fun p => cell_ext (w := wr) (a := ⟨b, off + k * 3 + 2, none⟩) hbw h3 p
          go_wp2_with fail
          refine wp_region_ext (by kernel_rfl) (by kernel_rfl) ?_
          repeat (quiet_step ((go_at_call 36; exact Calls.ext_of (Cr.out _))))
          refine wpQuiet_nil ?_
          intro _ hw'
          obtain ⟨p, rfl⟩ := hw'
          go_wp2
          go_ret
          exact ⟨by rw [HF.out]; rfl, hB.trans (p.ext.mono hz)⟩
        · rw [hok] at cr
          have Cr := Lib.hid cr
          have Hok := Lib.hid hok
          have hpos := ok_id hok
          clear hok cr hcE
          have HL2 : Hid (l[k].id = lastI l (k + 1)) := (lastI_succ l k hlt).symm
          rcases Nat.eq_zero_or_pos k with rfl | hk0
          · have hl0 : last = -1 := HL.out
            have HF : Hid (checkFrom (-1) l = checkFrom l[0].id (l.drop (0 + 1))) := by
              show _ = _
              rw [HR.out, Hd.out, Hok.out, hl0]
              simp; omega
            clear HR Hd
            subst hl0
            clear hc hr HcE HL Hok
            generalize l[0] = x at *
            obtain ⟨a, v, s⟩ := x
            unfold Spot.val at Cr
            simp only [Nat.zero_mul, Nat.add_zero] at h1 h2 h3 Cr
            have c1 := fun p => cell_ext (w := wr) (a := ⟨b, off, none⟩) hbw h1 p
            have c2 := fun p => cell_ext (w := wr) (a := ⟨b, off + 1, none⟩) hbw h2 p
            have c3 := fun p => cell_ext (w := wr) (a := ⟨b, off + 2, none⟩) hbw h3 p
            go_wp2_with fail
            refine wp_region_ext (by kernel_rfl) (by kernel_rfl) ?_
            repeat (quiet_step ((go_at_call 36; exact Calls.ext_of (Cr.out _))))
            refine wpQuiet_nil ?_
            intro _ hw'
            obtain ⟨p, rfl⟩ := hw'
            go_wp2
            go_roundw
            case rel => exact ⟨1, a, by omega, rfl, hB.trans (p.ext.mono hz), HF, HL2⟩
            case measure => simp [intOf]; omega
          · have hl1 : k - 1 < l.length := by omega
            have hlast : last = l[k - 1].id := by
              have := lastI_succ l (k - 1) hl1
              rw [Nat.sub_add_cancel hk0] at this
              rw [HL.out, this]
            obtain ⟨b', off', hbe, hb', hc'⟩ := hr.elem Spot.size_cells (by omega) hl1
            cases hbe
            have h1' := (hB.cell (p := ⟨b, off + (k - 1) * 3 + 0, none⟩) hb).trans (hc' 0 _ rfl)
            simp only [Nat.add_zero] at h1'
            have hk0' : (0 : Int) < (k : Int) := by omega
            have ek : ((k : Int) - 1) = ((k - 1 : Nat) : Int) := by omega
            have Hek := Lib.hid ek
            rw [← hlast] at h1'
            have HF : last < l[k].id → Hid (checkFrom (-1) l = checkFrom l[k].id (l.drop (k + 1))) := by
              intro h
              show _ = _
              rw [HR.out, Hd.out, Hok.out]
              simp [h]
            have HE : ¬ last < l[k].id → Hid (checkE l = 490) := by
              intro h
              show _ = _
              rw [HcE.out false (by rw [decide_eq_false h]; simp)]; rfl
            clear hc hr hc' HL Hok HcE HR Hd hlast ek
            generalize l[k] = x at *
            obtain ⟨a, v, s⟩ := x
            unfold Spot.val at Cr
            simp only at h1 h2 h3 Cr HF HE HL2
            have c1 := fun p => cell_ext (w := wr) (a := ⟨b, off + k * 3, none⟩) hbw h1 p
            have c2 := fun p => cell_ext (w := wr) (a := ⟨b, off + k * 3 + 1, none⟩) hbw h2 p
            have c3 := fun p => cell_ext (w := wr) (a := ⟨b, off + k * 3 + 2, none⟩) hbw h3 p
            have c4 := fun p => cell_ext (w := wr) (a := ⟨b, off + (k - 1) * 3, none⟩) hbw h1' p
            by_cases hla : last < a
            · have HF2 := HF hla
              have g1 : decide (a ≤ last) = false := by simp; omega
              clear HF HE
              have w1 : IntKind.i64.wrap ((k : Int) - 1) = (k : Int) - 1 := IntWalk.i64_in _ (by omega)
              have w2 : (0 : Int) ≤ (k : Int) - 1 := by omega
              have w3 : (1 : Int) ≤ (k : Int) := by omega
              have w4 : (k : Int) - 1 < l.length := by omega
              have w5 : ((k : Int) - 1).toNat = k - 1 := by omega
              go_wp2_with fail
              refine wp_region_ext (by kernel_rfl) (by kernel_rfl) ?_
              repeat (quiet_step ((go_at_call 36; exact Calls.ext_of (Cr.out _))))
              refine wpQuiet_nil ?_
              intro _ hw'
              obtain ⟨p, rfl⟩ := hw'
              clear w1 w2 w3 w4 w5
              go_wp2
              go_roundw
              case rel => exact ⟨k + 1, a, by omega, by go_num, hB.trans (p.ext.mono hz), HF2, HL2⟩
              case measure => simp [intOf]; omega
            · have HF2 := HE hla
              have g1 : decide (a ≤ last) = true := by simp; omega
              clear HF HE
              have w1 : IntKind.i64.wrap ((k : Int) - 1) = (k : Int) - 1 := IntWalk.i64_in _ (by omega)
              have w2 : (0 : Int) ≤ (k : Int) - 1 := by omega
              have w3 : (1 : Int) ≤ (k : Int) := by omega
              have w4 : (k : Int) - 1 < l.length := by omega
              have w5 : ((k : Int) - 1).toNat = k - 1 := by omega
              go_wp2_with fail
              refine wp_region_ext (by kernel_rfl) (by kernel_rfl) ?_
              repeat (quiet_step ((go_at_call 36; exact Calls.ext_of (Cr.out _))))
              refine wpQuiet_nil ?_
              intro _ hw'
              obtain ⟨p, rfl⟩ := hw'
              clear w1 w2 w3 w4 w5
              go_wp2
              go_ret
              exact ⟨by rw [HF2.out]; rfl, hB.trans (p.ext.mono hz)⟩
      · have HF : Hid (checkE l = 0) := by
          show _ = _
          have : k = l.length := by omega
          unfold checkE
          rw [if_neg (by omega), HR.out, this]; simp [checkFrom]
        clear HL HR
        go_wp2_with fail
        go_ret
        exact ⟨by rw [HF.out]; rfl, hB⟩
  · have HF : Hid (checkE l = 2) := by show _ = _; unfold checkE; rw [if_pos (by omega)]
    have h1 : (1024 : Int) < l.length := by omega
    go_enter Tryz.func21, Tryz.ntmps21
    go_wp2_with fail
    go_ret
    exact ⟨by rw [HF.out]; rfl, Below.refl _ _⟩
end Go.Proofs.YtfbhfimejcdopaaGreatDoor

/- The reference's package of patches: Diff. -/
namespace Go.Proofs.YtfbhfimejcdopaaGreatDoor
open Go.RowKit Go.Han
attribute [local irreducible] wpStill wpQuiet
set_option maxRecDepth 100000

theorem diffL_a (t : Int) (x : Spot) (a : List Spot) : diffL t (x :: a) [] = ⟨t, 2, x⟩ :: diffL t a [] := by rw [diffL]
theorem diffL_b (t : Int) (y : Spot) (b : List Spot) : diffL t [] (y :: b) = ⟨t, 1, y⟩ :: diffL t [] b := by rw [diffL]
theorem diffL_lt {t : Int} {x y : Spot} {a b : List Spot} (h : x.id < y.id) : diffL t (x :: a) (y :: b) = ⟨t, 2, x⟩ :: diffL t a (y :: b) := by rw [diffL, if_pos h]
theorem diffL_gt {t : Int} {x y : Spot} {a b : List Spot} (h : y.id < x.id) : diffL t (x :: a) (y :: b) = ⟨t, 1, y⟩ :: diffL t (x :: a) b := by rw [diffL, if_neg (by omega), if_pos h]
theorem diffL_ne {t : Int} {x y : Spot} {a b : List Spot} (h : x.id = y.id) (hv : x.ver ≠ y.ver) : diffL t (x :: a) (y :: b) = ⟨t, 3, y⟩ :: diffL t a b := by rw [diffL, if_neg (by omega), if_neg (by omega), if_neg hv]; rfl
theorem diffL_eq {t : Int} {x y : Spot} {a b : List Spot} (h : x.id = y.id) (hv : x.ver = y.ver) : diffL t (x :: a) (y :: b) = diffL t a b := by rw [diffL, if_neg (by omega), if_neg (by omega), if_pos hv]; rfl
def RDiffInv (a b : List Spot) (t : Int) (w : World) (o i k : Value) (wr : World) : Prop :=
  ∃ (m n : Nat) (pre : List Change), m ≤ a.length ∧ n ≤ b.length ∧ i = .int .i64 m ∧ k = .int .i64 n ∧ OwnL Change.cells 40 5 wr w.heap.size o pre ∧ pre.length ≤ m + n ∧ Below w.heap.size w wr ∧ diffL t a b = pre ++ diffL t (a.drop m) (b.drop n)
set_option maxHeartbeats 4000000 in
theorem rdiff_any (A : Option Addr) (cp : Nat) (a : List Spot) (B : Option Addr) (cq : Nat) (b : List Spot) (t : Int) (w : World) (hr : Rd w A (flat a)) (hm : a.length ≤ 9223372036854775807) (hr' : Rd w B (flat b)) (hm' : b.length ≤ 9223372036854775807) :
    Calls Tryz.prog 8 #[.slice A a.length cp, .slice B b.length cq, .int .i64 t] w (DiffPost a b t w) := by
  obtain ⟨i0, hi0, hz0, hs0, hb0⟩ := info_parts info_change
  have cA := Lib.hid (fun W (h : Below w.heap.size w W) => check49_any A cp a W (hr.ext h) hm)
  have cB := Lib.hid (fun W (h : Below w.heap.size w W) => check49_any B cq b W (hr'.ext h) hm')
  have cC := Lib.hid (fun W (h : Below w.heap.size w W) => clash51_any A B cp cq a b W (hr.ext h) (hr'.ext h) hm hm')
  have HR := Lib.hid hr
  have HR' := Lib.hid hr'
  clear hr hr'
  go_enter Tryz.func8, Tryz.ntmps8
  go_wp2_with fail
  refine (cA.out w (Below.refl _ _)).mono ?_
  rintro e w1 ⟨rfl, hb1⟩
  by_cases ha : checkE a = 0
  rotate_left
  · have HF := Lib.hid (diffE_a (b := b) (t := t) ha)
    have n1 : (checkE a == 0) = false := by simpa using ha
    have Ha := Lib.hid ha
    clear ha
    go_wp2_with fail
    go_ret2
    exact ⟨hb1, .inl ⟨by rw [HF.out]; exact Ha.out, by rw [HF.out]; rfl⟩⟩
  have Ha := Lib.hid ha
  rw [ha]
  clear ha
  go_wp2_with fail
  refine (cB.out w1 hb1).mono ?_
  rintro e w2 ⟨rfl, hb2⟩
  have hB2 := ext_trans hb1 hb2
  by_cases hb : checkE b = 0
  rotate_left
  · have HF := Lib.hid (diffE_b (t := t) Ha.out hb)
    have n1 : (checkE b == 0) = false := by simpa using hb
    have Hb := Lib.hid hb
    clear hb
    go_wp2_with fail
    go_ret2
    exact ⟨hB2, .inl ⟨by rw [HF.out]; exact Hb.out, by rw [HF.out]; rfl⟩⟩
  have Hb := Lib.hid hb
  rw [hb]
  clear hb
  go_wp2_with fail
  refine (time49_any t w2).mono ?_
  rintro e w' ⟨rfl, rfl⟩
  cases ht : timeB t
  · have HF := Lib.hid (diffE_t Ha.out Hb.out ht)
    clear ht
    go_wp2_with fail
    go_ret2
    exact ⟨hB2, .inl ⟨by rw [HF.out]; decide, by rw [HF.out]; rfl⟩⟩
  have HF := Lib.hid (diffE_c Ha.out Hb.out ht)
  clear ht
  go_wp2_with fail
  refine (cC.out w2 hB2).mono ?_
  rintro e w3 ⟨rfl, hb3⟩
  have hB3 := ext_trans hB2 hb3
  cases hc : clashB a b
  rotate_left
  · have HF2 : Hid (diffE a b t = 510) := by show _ = _; rw [HF.out, hc]; rfl
    clear hc
    go_wp2_with fail
    go_ret2
    exact ⟨hB3, .inl ⟨by rw [HF2.out]; decide, by rw [HF2.out]; rfl⟩⟩
  have HF2 : Hid (diffE a b t = 0) := by show _ = _; rw [HF.out, hc]; rfl
  have hla := ((checkE_iff a).1 Ha.out).1
  have hlb := ((checkE_iff b).1 Hb.out).1
  clear hc cA cB cC HF
  go_wp2_with fail
  go_loopw [9, 10, 11] (fun o i k wr => RDiffInv a b t w o i k wr) (fun _ i k _ => (a.length - (intOf i).toNat) + (b.length - (intOf k).toNat))
  case atStart => exact ⟨0, 0, [], Nat.zero_le _, Nat.zero_le _, rfl, rfl, OwnL.nil _ _ _ _ _, by simp, hB3, rfl⟩
  case round =>
    obtain ⟨m, n, pre, hm1, hn1, rfl, rfl, hown, hpl, hB, hd⟩ := hrel
    have hz := hB.size
    have A1 : pre.length + 1 ≤ maxLen := by unfold maxLen; omega
    have A2 : (pre.length + 1) * 48 ≤ 140737488355328 := by omega
    have Hd := Lib.hid hd
    clear hd
    rcases Nat.lt_or_ge m a.length with hma | hma
    · obtain ⟨ba, oa, rfl, hba, hca⟩ := HR.out.elem Spot.size_cells (by omega) hma
      have a0 := (hB.cell (p := ⟨ba, oa + m * 3 + 0, none⟩) hba).trans (hca 0 _ rfl)
      have a1 := (hB.cell (p := ⟨ba, oa + m * 3 + 1, none⟩) hba).trans (hca 1 _ rfl)
      have a2 := (hB.cell (p := ⟨ba, oa + m * 3 + 2, none⟩) hba).trans (hca 2 _ rfl)
      simp only [Nat.add_zero] at a0
      have hda : a.drop m = a[m] :: a.drop (m + 1) := List.drop_eq_getElem_cons hma
      have Hda := Lib.hid hda
      have hma2 : (m : Int) < a.length := by omega
      have hma3 : ((m : Int) == (a.length : Int)) = false := by simp; omega
      have HcA : Hid (∀ W, Below wr.heap.size wr W → W.cell? ⟨ba, oa + m * 3, none⟩ = some (.int .i64 a[m].id) ∧ W.cell? ⟨ba, oa + m * 3 + 1, none⟩ = some (.int .i64 a[m].ver) ∧ W.cell? ⟨ba, oa + m * 3 + 2, none⟩ = some (.string a[m].text)) := by
        intro W h
        have hlt : ba < wr.heap.size := Nat.lt_of_lt_of_le hba hB.size
        exact ⟨(h.cell (p := ⟨ba, oa + m * 3, none⟩) hlt).trans a0, (h.cell (p := ⟨ba, oa + m * 3 + 1, none⟩) hlt).trans a1, (h.cell (p := ⟨ba, oa + m * 3 + 2, none⟩) hlt).trans a2⟩
      clear hca hda
      generalize a[m] = x at *
      rcases Nat.lt_or_ge n b.length with hnb | hnb
      · obtain ⟨bb, ob, rfl, hbb, hcb⟩ := HR'.out.elem Spot.size_cells (by omega) hnb
        have b0 := (hB.cell (p := ⟨bb, ob + n * 3 + 0, none⟩) hbb).trans (hcb 0 _ rfl)
        have b1 := (hB.cell (p := ⟨bb, ob + n * 3 + 1, none⟩) hbb).trans (hcb 1 _ rfl)
        have b2 := (hB.cell (p := ⟨bb, ob + n * 3 + 2, none⟩) hbb).trans (hcb 2 _ rfl)
        simp only [Nat.add_zero] at b0
        have hdb : b.drop n = b[n] :: b.drop (n + 1) := List.drop_eq_getElem_cons hnb
        have Hdb := Lib.hid hdb
        have hnb2 : (n : Int) < b.length := by omega
        have hnb3 : ((n : Int) == (b.length : Int)) = false := by simp; omega
        have HcB : Hid (∀ W, Below wr.heap.size wr W → W.cell? ⟨bb, ob + n * 3, none⟩ = some (.int .i64 b[n].id) ∧ W.cell? ⟨bb, ob + n * 3 + 1, none⟩ = some (.int .i64 b[n].ver) ∧ W.cell? ⟨bb, ob + n * 3 + 2, none⟩ = some (.string b[n].text)) := by
          intro W h
          have hlt : bb < wr.heap.size := Nat.lt_of_lt_of_le hbb hB.size
          exact ⟨(h.cell (p := ⟨bb, ob + n * 3, none⟩) hlt).trans b0, (h.cell (p := ⟨bb, ob + n * 3 + 1, none⟩) hlt).trans b1, (h.cell (p := ⟨bb, ob + n * 3 + 2, none⟩) hlt).trans b2⟩
        clear hcb hdb
        generalize b[n] = y at *
        by_cases h1 : x.id < y.id
        · have HN : Hid (diffL t a b = (pre ++ [⟨t, 2, x⟩]) ++ diffL t (a.drop (m + 1)) (b.drop n)) := by
            show _ = _; rw [Hd.out, Hda.out, Hdb.out, diffL_lt h1, List.append_assoc]; rfl
          have g1 : decide (x.id < y.id) = true := decide_eq_true h1
          clear h1
          go_wp2_with fail
          go_still (by kernel_rfl)
          have hZ : w.heap.size ≤ wr.heap.size := hB.size
          have hOW := hown
          go_wp2_with (at_builtin; go_loud (refine wpList_append_rd rfl _ _ 25 rfl w.heap.size 40 i0 _ 5 48 Tryz.underlying25 hi0 hz0 hs0 hb0 rfl (by decide) _ _ _ rfl (some ⟨wr.heap.size, 0, none⟩) 1 1 (Change.cells ⟨t, 2, x⟩) rfl (hOW.ext (ext_alloc (ext_drew (Below.refl wr.heap.size wr)) _)) rfl (grd_blk (World.alloc_heap_new (wr.drew) _) rfl) (chg_one _) A1 A2 (Nat.le_trans hZ (by simp)) ?_; intro v5 w5 hown5 hgrow5 _))
          have hB5 : Below w.heap.size w w5 := (ext_trans hB (ext_alloc (ext_drew (Below.refl wr.heap.size wr)) _)).grown hgrow5 (Nat.le_trans hZ (by simp)) (fun k hk => (hown.lt k hk).1)
          have hs5 := OwnL.snoc (f := Change.cells) ⟨t, 2, x⟩ hown5
          clear hown5 hgrow5
          go_roundw
          case rel => exact ⟨m + 1, n, _, by omega, by omega, by go_num, by go_num, hs5, by simp; omega, hB5, HN.out⟩
          case measure => simp [intOf]; omega
        have g1 : decide (x.id < y.id) = false := decide_eq_false h1
        by_cases h2 : y.id < x.id
        · have HN : Hid (diffL t a b = (pre ++ [⟨t, 1, y⟩]) ++ diffL t (a.drop m) (b.drop (n + 1))) := by
            show _ = _; rw [Hd.out, Hda.out, Hdb.out, diffL_gt h2, List.append_assoc]; rfl
          have g2 : decide (y.id < x.id) = true := decide_eq_true h2
          clear h1 h2
          go_wp2_with fail
          go_still (by kernel_rfl)
          go_wp2_with fail
          obtain ⟨wq1, hwq1⟩ : ∃ wq : World, ({ heap := wr.heap, tape := wr.tape, drawn := wr.drawn + 1, os := wr.os, output := wr.output } : World) = wq := ⟨_, rfl⟩
          have hBwq1 : Below wr.heap.size wr wq1 := by rw [← hwq1]; exact (Below.refl wr.heap.size wr).drew
          rw [hwq1]
          clear hwq1 a0 a1 a2 b0 b1 b2
          obtain ⟨a0, a1, a2⟩ := HcA.out wq1 hBwq1
          obtain ⟨b0, b1, b2⟩ := HcB.out wq1 hBwq1
          go_still (by kernel_rfl)
          have hZ : w.heap.size ≤ wq1.heap.size := (ext_trans hB hBwq1).size
          have hOW := (hown.ext hBwq1)
          go_wp2_with (at_builtin; go_loud (refine wpList_append_rd rfl _ _ 25 rfl w.heap.size 40 i0 _ 5 48 Tryz.underlying25 hi0 hz0 hs0 hb0 rfl (by decide) _ _ _ rfl (some ⟨wq1.heap.size, 0, none⟩) 1 1 (Change.cells ⟨t, 1, y⟩) rfl (hOW.ext (ext_alloc (ext_drew (Below.refl wq1.heap.size wq1)) _)) rfl (grd_blk (World.alloc_heap_new (wq1.drew) _) rfl) (chg_one _) A1 A2 (Nat.le_trans hZ (by simp)) ?_; intro v5 w5 hown5 hgrow5 _))
          have hB5 : Below w.heap.size w w5 := (ext_trans (ext_trans hB hBwq1) (ext_alloc (ext_drew (Below.refl wq1.heap.size wq1)) _)).grown hgrow5 (Nat.le_trans hZ (by simp)) (fun k hk => (hown.lt k hk).1)
          have hs5 := OwnL.snoc (f := Change.cells) ⟨t, 1, y⟩ hown5
          clear hown5 hgrow5
          go_roundw
          case rel => exact ⟨m, n + 1, _, by omega, by omega, by go_num, by go_num, hs5, by simp; omega, hB5, HN.out⟩
          case measure => simp [intOf]; omega
        have g2 : decide (y.id < x.id) = false := decide_eq_false h2
        have hid : x.id = y.id := by omega
        by_cases h3 : x.ver = y.ver
        · have HN : Hid (diffL t a b = pre ++ diffL t (a.drop (m + 1)) (b.drop (n + 1))) := by
            show _ = _; rw [Hd.out, Hda.out, Hdb.out, diffL_eq hid h3]
          have g3 : (x.ver == y.ver) = true := by simpa using h3
          clear h1 h2 h3 hid
          go_wp2_with fail
          go_still (by kernel_rfl)
          go_wp2_with fail
          obtain ⟨wq1, hwq1⟩ : ∃ wq : World, ({ heap := wr.heap, tape := wr.tape, drawn := wr.drawn + 1, os := wr.os, output := wr.output } : World) = wq := ⟨_, rfl⟩
          have hBwq1 : Below wr.heap.size wr wq1 := by rw [← hwq1]; exact (Below.refl wr.heap.size wr).drew
          rw [hwq1]
          clear hwq1 a0 a1 a2 b0 b1 b2
          obtain ⟨a0, a1, a2⟩ := HcA.out wq1 hBwq1
          obtain ⟨b0, b1, b2⟩ := HcB.out wq1 hBwq1
          go_still (by kernel_rfl)
          go_wp2_with fail
          obtain ⟨wq2, hwq2⟩ : ∃ wq : World, ({ heap := wq1.heap, tape := wq1.tape, drawn := wq1.drawn + 1, os := wq1.os, output := wq1.output } : World) = wq := ⟨_, rfl⟩
          have hBwq2 : Below wr.heap.size wr wq2 := by rw [← hwq2]; exact hBwq1.drew
          rw [hwq2]
          clear hwq2 a0 a1 a2 b0 b1 b2
          obtain ⟨a0, a1, a2⟩ := HcA.out wq2 hBwq2
          obtain ⟨b0, b1, b2⟩ := HcB.out wq2 hBwq2
          go_still (by kernel_rfl)
          go_wp2
          go_roundw
          case rel => exact ⟨m + 1, n + 1, pre, by omega, by omega, by go_num, by go_num, (hown.ext hBwq2).ext (ext_drew (Below.refl _ _)), by omega, (ext_trans hB hBwq2).drew, HN.out⟩
          case measure => simp [intOf]; omega
        · have HN : Hid (diffL t a b = (pre ++ [⟨t, 3, y⟩]) ++ diffL t (a.drop (m + 1)) (b.drop (n + 1))) := by
            show _ = _; rw [Hd.out, Hda.out, Hdb.out, diffL_ne hid h3, List.append_assoc]; rfl
          have g3 : (x.ver == y.ver) = false := by simpa using h3
          clear h1 h2 h3 hid
          go_wp2_with fail
          go_still (by kernel_rfl)
          go_wp2_with fail
          obtain ⟨wq1, hwq1⟩ : ∃ wq : World, ({ heap := wr.heap, tape := wr.tape, drawn := wr.drawn + 1, os := wr.os, output := wr.output } : World) = wq := ⟨_, rfl⟩
          have hBwq1 : Below wr.heap.size wr wq1 := by rw [← hwq1]; exact (Below.refl wr.heap.size wr).drew
          rw [hwq1]
          clear hwq1 a0 a1 a2 b0 b1 b2
          obtain ⟨a0, a1, a2⟩ := HcA.out wq1 hBwq1
          obtain ⟨b0, b1, b2⟩ := HcB.out wq1 hBwq1
          go_still (by kernel_rfl)
          go_wp2_with fail
          obtain ⟨wq2, hwq2⟩ : ∃ wq : World, ({ heap := wq1.heap, tape := wq1.tape, drawn := wq1.drawn + 1, os := wq1.os, output := wq1.output } : World) = wq := ⟨_, rfl⟩
          have hBwq2 : Below wr.heap.size wr wq2 := by rw [← hwq2]; exact hBwq1.drew
          rw [hwq2]
          clear hwq2 a0 a1 a2 b0 b1 b2
          obtain ⟨a0, a1, a2⟩ := HcA.out wq2 hBwq2
          obtain ⟨b0, b1, b2⟩ := HcB.out wq2 hBwq2
          go_still (by kernel_rfl)
          have hZ : w.heap.size ≤ wq2.heap.size := (ext_trans hB hBwq2).size
          have hOW := (hown.ext hBwq2)
          go_wp2_with (at_builtin; go_loud (refine wpList_append_rd rfl _ _ 25 rfl w.heap.size 40 i0 _ 5 48 Tryz.underlying25 hi0 hz0 hs0 hb0 rfl (by decide) _ _ _ rfl (some ⟨wq2.heap.size, 0, none⟩) 1 1 (Change.cells ⟨t, 3, y⟩) rfl (hOW.ext (ext_alloc (ext_drew (Below.refl wq2.heap.size wq2)) _)) rfl (grd_blk (World.alloc_heap_new (wq2.drew) _) rfl) (chg_one _) A1 A2 (Nat.le_trans hZ (by simp)) ?_; intro v5 w5 hown5 hgrow5 _))
          have hB5 : Below w.heap.size w w5 := (ext_trans (ext_trans hB hBwq2) (ext_alloc (ext_drew (Below.refl wq2.heap.size wq2)) _)).grown hgrow5 (Nat.le_trans hZ (by simp)) (fun k hk => (hown.lt k hk).1)
          have hs5 := OwnL.snoc (f := Change.cells) ⟨t, 3, y⟩ hown5
          clear hown5 hgrow5
          go_roundw
          case rel => exact ⟨m + 1, n + 1, _, by omega, by omega, by go_num, by go_num, hs5, by simp; omega, hB5, HN.out⟩
          case measure => simp [intOf]; omega
      · obtain rfl : n = b.length := by omega
        have HN : Hid (diffL t a b = (pre ++ [⟨t, 2, x⟩]) ++ diffL t (a.drop (m + 1)) (b.drop b.length)) := by
          show _ = _; rw [Hd.out, Hda.out, List.drop_length, diffL_a, List.append_assoc]; rfl
        go_wp2_with fail
        go_still (by kernel_rfl)
        have hZ : w.heap.size ≤ wr.heap.size := hB.size
        have hOW := hown
        go_wp2_with (at_builtin; go_loud (refine wpList_append_rd rfl _ _ 25 rfl w.heap.size 40 i0 _ 5 48 Tryz.underlying25 hi0 hz0 hs0 hb0 rfl (by decide) _ _ _ rfl (some ⟨wr.heap.size, 0, none⟩) 1 1 (Change.cells ⟨t, 2, x⟩) rfl (hOW.ext (ext_alloc (ext_drew (Below.refl wr.heap.size wr)) _)) rfl (grd_blk (World.alloc_heap_new (wr.drew) _) rfl) (chg_one _) A1 A2 (Nat.le_trans hZ (by simp)) ?_; intro v5 w5 hown5 hgrow5 _))
        have hB5 : Below w.heap.size w w5 := (ext_trans hB (ext_alloc (ext_drew (Below.refl wr.heap.size wr)) _)).grown hgrow5 (Nat.le_trans hZ (by simp)) (fun k hk => (hown.lt k hk).1)
        have hs5 := OwnL.snoc (f := Change.cells) ⟨t, 2, x⟩ hown5
        clear hown5 hgrow5
        go_roundw
        case rel => exact ⟨m + 1, b.length, _, by omega, by omega, by go_num, by go_num, hs5, by simp; omega, hB5, HN.out⟩
        case measure => simp [intOf]; omega
    · obtain rfl : m = a.length := by omega
      rcases Nat.lt_or_ge n b.length with hnb | hnb
      · obtain ⟨bb, ob, rfl, hbb, hcb⟩ := HR'.out.elem Spot.size_cells (by omega) hnb
        have b0 := (hB.cell (p := ⟨bb, ob + n * 3 + 0, none⟩) hbb).trans (hcb 0 _ rfl)
        have b1 := (hB.cell (p := ⟨bb, ob + n * 3 + 1, none⟩) hbb).trans (hcb 1 _ rfl)
        have b2 := (hB.cell (p := ⟨bb, ob + n * 3 + 2, none⟩) hbb).trans (hcb 2 _ rfl)
        simp only [Nat.add_zero] at b0
        have hdb : b.drop n = b[n] :: b.drop (n + 1) := List.drop_eq_getElem_cons hnb
        have Hdb := Lib.hid hdb
        have hnb2 : (n : Int) < b.length := by omega
        have hnb3 : ((n : Int) == (b.length : Int)) = false := by simp; omega
        have HcB : Hid (∀ W, Below wr.heap.size wr W → W.cell? ⟨bb, ob + n * 3, none⟩ = some (.int .i64 b[n].id) ∧ W.cell? ⟨bb, ob + n * 3 + 1, none⟩ = some (.int .i64 b[n].ver) ∧ W.cell? ⟨bb, ob + n * 3 + 2, none⟩ = some (.string b[n].text)) := by
          intro W h
          have hlt : bb < wr.heap.size := Nat.lt_of_lt_of_le hbb hB.size
          exact ⟨(h.cell (p := ⟨bb, ob + n * 3, none⟩) hlt).trans b0, (h.cell (p := ⟨bb, ob + n * 3 + 1, none⟩) hlt).trans b1, (h.cell (p := ⟨bb, ob + n * 3 + 2, none⟩) hlt).trans b2⟩
        clear hcb hdb
        generalize b[n] = y at *
        have HN : Hid (diffL t a b = (pre ++ [⟨t, 1, y⟩]) ++ diffL t (a.drop a.length) (b.drop (n + 1))) := by
          show _ = _; rw [Hd.out, Hdb.out, List.drop_length, diffL_b, List.append_assoc]; rfl
        go_wp2_with fail
        go_still (by kernel_rfl)
        go_wp2_with fail
        obtain ⟨wq1, hwq1⟩ : ∃ wq : World, ({ heap := wr.heap, tape := wr.tape, drawn := wr.drawn + 1, os := wr.os, output := wr.output } : World) = wq := ⟨_, rfl⟩
        have hBwq1 : Below wr.heap.size wr wq1 := by rw [← hwq1]; exact (Below.refl wr.heap.size wr).drew
        rw [hwq1]
        clear hwq1 b0 b1 b2
        obtain ⟨b0, b1, b2⟩ := HcB.out wq1 hBwq1
        go_still (by kernel_rfl)
        have hZ : w.heap.size ≤ wq1.heap.size := (ext_trans hB hBwq1).size
        have hOW := (hown.ext hBwq1)
        go_wp2_with (at_builtin; go_loud (refine wpList_append_rd rfl _ _ 25 rfl w.heap.size 40 i0 _ 5 48 Tryz.underlying25 hi0 hz0 hs0 hb0 rfl (by decide) _ _ _ rfl (some ⟨wq1.heap.size, 0, none⟩) 1 1 (Change.cells ⟨t, 1, y⟩) rfl (hOW.ext (ext_alloc (ext_drew (Below.refl wq1.heap.size wq1)) _)) rfl (grd_blk (World.alloc_heap_new (wq1.drew) _) rfl) (chg_one _) A1 A2 (Nat.le_trans hZ (by simp)) ?_; intro v5 w5 hown5 hgrow5 _))
        have hB5 : Below w.heap.size w w5 := (ext_trans (ext_trans hB hBwq1) (ext_alloc (ext_drew (Below.refl wq1.heap.size wq1)) _)).grown hgrow5 (Nat.le_trans hZ (by simp)) (fun k hk => (hown.lt k hk).1)
        have hs5 := OwnL.snoc (f := Change.cells) ⟨t, 1, y⟩ hown5
        clear hown5 hgrow5
        go_roundw
        case rel => exact ⟨a.length, n + 1, _, by omega, by omega, by go_num, by go_num, hs5, by simp; omega, hB5, HN.out⟩
        case measure => simp [intOf]; omega
      · obtain rfl : n = b.length := by omega
        have HE : Hid (diffL t a b = pre) := by
          show _ = _; rw [Hd.out, List.drop_length, List.drop_length]; simp [diffL]
        obtain ⟨Ao, co, hvo, _, _⟩ := hown.form (by decide)
        subst hvo
        go_wp2_with fail
        go_ret2
        exact ⟨hB, .inr ⟨HF2.out, _, rfl, by rw [HE.out]; exact hown⟩⟩
end Go.Proofs.YtfbhfimejcdopaaGreatDoor

/- The reference's package of displays: whether a change fits. -/
namespace Go.Proofs.YtfbhfimejcdopaaGreatDoor
open Go.RowKit Go.Han
attribute [local irreducible] wpStill wpQuiet
set_option maxRecDepth 100000

theorem findR_get (l : List Spot) (n : Int) : (∃ (k : Nat) (h : k < l.length), findR l n = k ∧ getS n l = some l[k]) ∨ (findR l n = -1 ∧ getS n l = none) := by
  unfold findR getS
  cases h : l.findIdx? (fun x => x.id == n) with
  | none =>
    right
    rw [List.findIdx?_eq_none_iff] at h
    exact ⟨rfl, List.find?_eq_none.2 (fun x hx => by simpa using h x hx)⟩
  | some k =>
    left
    rw [List.findIdx?_eq_some_iff_getElem] at h
    obtain ⟨hk, h1, h2⟩ := h
    refine ⟨k, hk, rfl, ?_⟩
    rw [List.find?_eq_some_iff_getElem]
    exact ⟨h1, k, hk, rfl, fun j hj => by simpa using h2 j hj⟩

def verB (vr : Int) (o : Option Spot) : Bool := match o with | some y => !(y.ver == vr) | none => false
set_option maxHeartbeats 400000 in
theorem fits49_any (A : Option Addr) (cp : Nat) (l : List Spot) (c : Change) (w : World) (hr : Rd w A (flat l)) (hm : l.length ≤ 9223372036854775807) :
    Calls Tryz.prog 43 #[.slice A l.length cp, c.val] w (TestPost (fitsG c (getS c.spot.id l)) w) := by
  obtain ⟨t, kd, ⟨i, vr, s⟩⟩ := c
  unfold Change.val
  simp only
  obtain ⟨W1, hW1⟩ : ∃ W1, w.alloc (.cells #[.int .i64 t, .int .i64 kd, .int .i64 i, .int .i64 vr, .string s] 40) = W1 := ⟨_, rfl⟩
  have hB1 : Below w.heap.size w W1 := by rw [← hW1]; exact (Below.refl _ _).alloc (Nat.le_refl _) _
  have c0 : W1.cell? ⟨w.heap.size, 0, none⟩ = some (.int .i64 t) := by rw [← hW1]; simp [go_sem]
  have c1 : W1.cell? ⟨w.heap.size, 1, none⟩ = some (.int .i64 kd) := by rw [← hW1]; simp [go_sem]
  have c2 : W1.cell? ⟨w.heap.size, 2, none⟩ = some (.int .i64 i) := by rw [← hW1]; simp [go_sem]
  have c3 : W1.cell? ⟨w.heap.size, 3, none⟩ = some (.int .i64 vr) := by rw [← hW1]; simp [go_sem]
  have c4 : W1.cell? ⟨w.heap.size, 4, none⟩ = some (.string s) := by rw [← hW1]; simp [go_sem]
  have Hg : Hid (∀ o, fitsG ⟨t, kd, ⟨i, vr, s⟩⟩ o = if kd = 1 then o.isNone else if kd = 2 then o == some ⟨i, vr, s⟩ else verB vr o) := fun o => rfl
  have hf := Lib.hid (findR_get l i)
  have cf := Lib.hid (find49_any A cp l i W1 (hr.ext hB1) hm)
  generalize getS i l = o at *
  generalize fitsG ⟨t, kd, ⟨i, vr, s⟩⟩ = G at *
  have hfind : ∀ W, Rd W A (flat l) → True := fun _ _ => trivial
  clear hfind
  by_cases k1 : kd = 1
  · have HG : Hid (G o = o.isNone) := by show _ = _; rw [Hg.out, if_pos k1]
    have e1 : (kd == 1) = true := by simpa using k1
    clear k1 Hg
    go_enter Tryz.func43, Tryz.ntmps43
    go_wp2_with fail
    refine cf.out.mono ?_
    rintro e w' ⟨rfl, rfl⟩
    rcases hf.out with ⟨k, hk, he, hg⟩ | ⟨he, hg⟩
    · rw [he]
      have HG2 : Hid (G o = false) := by show _ = _; rw [HG.out, hg]; rfl
      have d1 : decide ((k : Int) < 0) = false := by simp
      clear hg he cf hf
      go_wp2
      go_ret
      exact ⟨by rw [HG2.out]; rfl, hB1⟩
    · rw [he]
      have HG2 : Hid (G o = true) := by show _ = _; rw [HG.out, hg]; rfl
      clear hg he cf hf
      go_wp2
      go_ret
      exact ⟨by rw [HG2.out]; rfl, hB1⟩
  have e1 : (kd == 1) = false := by simpa using k1
  by_cases k2 : kd = 2
  · have HG : Hid (G o = (o == some ⟨i, vr, s⟩)) := by show _ = _; rw [Hg.out, if_neg k1, if_pos k2]
    have e2 : (kd == 2) = true := by simpa using k2
    clear k1 k2 Hg
    go_enter Tryz.func43, Tryz.ntmps43
    go_wp2_with fail
    refine cf.out.mono ?_
    rintro e w' ⟨rfl, rfl⟩
    rcases hf.out with ⟨k, hk, he, hg⟩ | ⟨he, hg⟩
    · rw [he]
      obtain ⟨b, off, rfl, hb, hc⟩ := hr.elem Spot.size_cells (by omega) hk
      have h1 := (hB1.cell (p := ⟨b, off + k * 3 + 0, none⟩) hb).trans (hc 0 _ rfl)
      have h2 := (hB1.cell (p := ⟨b, off + k * 3 + 1, none⟩) hb).trans (hc 1 _ rfl)
      have h3 := (hB1.cell (p := ⟨b, off + k * 3 + 2, none⟩) hb).trans (hc 2 _ rfl)
      simp only [Nat.add_zero] at h1
      have hq := fun (w : World) => run_equalIn_spot l[k].id l[k].ver i vr l[k].text s w
      have hbs : Hid (some l[k] = o) := hg.symm
      clear hc hr he hg cf hf
      generalize l[k] = x at *
      obtain ⟨a', v', s'⟩ := x
      simp only at h1 h2 h3 hq
      have HG2 : Hid (G o = ((⟨a', v', s'⟩ : Spot) == ⟨i, vr, s⟩)) := by show _ = _; rw [HG.out, ← hbs.out]; rfl
      generalize ((⟨a', v', s'⟩ : Spot) == ⟨i, vr, s⟩) = bb at *
      have d1 : decide ((0 : Int) ≤ (k : Int)) = true := by simp
      clear hbs HG
      go_wp2_with fail
      go_still (by kernel_rfl)
      go_wp2
      go_ret
      exact ⟨by rw [HG2.out]; rfl, hB1.drew⟩
    · rw [he]
      have HG2 : Hid (G o = false) := by show _ = _; rw [HG.out, hg]; rfl
      clear hg he cf hf
      go_wp2_with fail
      go_still (by kernel_rfl)
      go_wp2
      go_ret
      exact ⟨by rw [HG2.out]; rfl, hB1.drew⟩
  · have HG : Hid (G o = verB vr o) := by show _ = _; rw [Hg.out, if_neg k1, if_neg k2]
    have e2 : (kd == 2) = false := by simpa using k2
    clear k1 k2 Hg
    go_enter Tryz.func43, Tryz.ntmps43
    go_wp2_with fail
    refine cf.out.mono ?_
    rintro e w' ⟨rfl, rfl⟩
    rcases hf.out with ⟨k, hk, he, hg⟩ | ⟨he, hg⟩
    · rw [he]
      obtain ⟨b, off, rfl, hb, hc⟩ := hr.elem Spot.size_cells (by omega) hk
      have h2 := (hB1.cell (p := ⟨b, off + k * 3 + 1, none⟩) hb).trans (hc 1 _ rfl)
      have HG2 : Hid (G o = !(l[k].ver == vr)) := by show _ = _; rw [HG.out, hg]; rfl
      have d1 : decide ((0 : Int) ≤ (k : Int)) = true := by simp
      clear hc hr he hg cf hf HG
      generalize l[k] = x at *
      go_wp2_with fail
      go_still (by kernel_rfl)
      go_wp2
      go_ret
      refine ⟨?_, hB1.drew⟩
      rw [HG2.out]; rfl
    · rw [he]
      have HG2 : Hid (G o = false) := by show _ = _; rw [HG.out, hg]; rfl
      clear hg he cf hf
      go_wp2_with fail
      go_still (by kernel_rfl)
      go_wp2
      go_ret
      exact ⟨by rw [HG2.out]; rfl, hB1.drew⟩
end Go.Proofs.YtfbhfimejcdopaaGreatDoor
