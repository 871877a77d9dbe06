/- Texts of this claim, one after the other: Ref49e, Ref51c, Law51f, Open, Open2. -/
import Derived.Test.YtfbhfimejcdopaaGreatDoorN7
import Derived.Test.YtfbhfimejcdopaaGreatDoorN6
import Derived.Test.YtfbhfimejcdopaaGreatDoorN2
import Derived.Test.YtfbhfimejcdopaaGreatDoorTie
import Derived.Lib.LaidU8T
import Derived.PinnedBridge
import Derived.OpenVars
import Derived.Deep.Slices
import Derived.Deep.Fields
import Derived.Lib.SmallJoins
import Derived.ProofKit
import Derived.LaidMore
import Derived.OpenShut
import Derived.Lay
import Derived.Stop.Joined
import Derived.Below
import Derived.ChangeSame
import Derived.Carry
/- The reference's package of displays: Do. -/
namespace Go.Proofs.YtfbhfimejcdopaaGreatDoor
open Go.RowKit Go.Han
attribute [local irreducible] wpStill wpQuiet
set_option maxRecDepth 100000

/-- What the reference's loop makes of the rest of a display. -/
def goR (c : Change) : Bool → List Spot → List Spot
  | done, [] => if done then [] else [c.spot]
  | done, x :: l => (if !done && decide (c.spot.id ≤ x.id) then [c.spot] else []) ++ ((if x.id = c.spot.id then [] else [x]) ++ goR c (done || decide (c.spot.id ≤ x.id)) l)

theorem goR_cons (c : Change) (d : Bool) (x : Spot) (l : List Spot) : goR c d (x :: l) = (if !d && decide (c.spot.id ≤ x.id) then [c.spot] else []) ++ ((if x.id = c.spot.id then [] else [x]) ++ goR c (d || decide (c.spot.id ≤ x.id)) l) := rfl
theorem goR_hi (c : Change) : ∀ (l : List Spot), (∀ x ∈ l, c.spot.id < x.id) → goR c true l = l
  | [], _ => rfl
  | x :: l, h => by
    have h1 := h x (List.mem_cons_self ..)
    have h2 : ¬ x.id = c.spot.id := by omega
    rw [goR_cons, Bool.true_or, goR_hi c l (fun y hy => h y (List.mem_cons_of_mem _ hy))]
    simp [h2]
theorem goR_lo (c : Change) (q : List Spot) : ∀ (l : List Spot) (d : Bool), (∀ x ∈ l, x.id < c.spot.id) → goR c d (l ++ q) = l ++ goR c d q
  | [], d, _ => by simp
  | x :: l, d, h => by
    have h1 := h x (List.mem_cons_self ..)
    have h2 : ¬ x.id = c.spot.id := by omega
    have h3 : decide (c.spot.id ≤ x.id) = false := by simp; omega
    rw [List.cons_append, goR_cons, h3, Bool.or_false, goR_lo c q l d (fun y hy => h y (List.mem_cons_of_mem _ hy))]
    simp [h2]
theorem goR_made (c : Change) (l : List Spot) (hs : Asc l) (hf : fitsB c l = true) : madeL c l = goR c (c.kind == 2) l := by
  obtain ⟨lo, hi, o, h⟩ := split_at c.spot.id l hs
  rw [h.fits] at hf
  rw [h.made hf, h.eq, goR_lo c _ lo _ h.lo]
  congr 1
  have hh := goR_hi c hi h.hi
  rcases fitsG_cases hf with ⟨c1, rfl⟩ | ⟨c2, rfl⟩ | ⟨c1, c2, y, rfl, _⟩
  · have e : (c.kind == 2) = false := by simp; omega
    have m : madeG c = some c.spot := by unfold madeG; rw [if_neg (by omega)]
    rw [e, m]
    cases hi with
    | nil => rfl
    | cons x t =>
      have h1 := h.hi x (List.mem_cons_self ..)
      have h2 := goR_hi c t (fun y hy => h.hi y (List.mem_cons_of_mem _ hy))
      have h3 : decide (c.spot.id ≤ x.id) = true := by simp; omega
      have h4 : ¬ x.id = c.spot.id := by omega
      show c.spot :: x :: t = goR c false (x :: t)
      rw [goR_cons, h3, Bool.false_or, h2]
      simp [h4]
  · have e : (c.kind == 2) = true := by simp [c2]
    have m : madeG c = none := by unfold madeG; rw [if_pos c2]
    rw [e, m]
    show hi = goR c true (c.spot :: hi)
    rw [goR_cons, Bool.true_or, hh]
    simp
  · have e : (c.kind == 2) = false := by simpa using c2
    have m : madeG c = some c.spot := by unfold madeG; rw [if_neg c2]
    have hy := h.at_ y rfl
    have h3 : decide (c.spot.id ≤ y.id) = true := by simp; omega
    rw [e, m]
    show c.spot :: hi = goR c false (y :: hi)
    rw [goR_cons, h3, Bool.false_or, hh]
    simp [hy]
theorem goR_drop (c : Change) (d : Bool) (l : List Spot) (k : Nat) (h : k < l.length) : goR c d (l.drop k) = (if !d && decide (c.spot.id ≤ l[k].id) then [c.spot] else []) ++ ((if l[k].id = c.spot.id then [] else [l[k]]) ++ goR c (d || decide (c.spot.id ≤ l[k].id)) (l.drop (k + 1))) := by
  rw [List.drop_eq_getElem_cons h]; rfl
theorem cells_new (w : World) (cs : List Value) (t : Nat) : ∀ (j : Nat) (u : Value), cs[j]? = some u → (w.alloc (.cells cs.toArray t)).cell? ((⟨w.heap.size, 0, none⟩ : Addr).add j) = some u := by
  intro j u hu
  rw [show (⟨w.heap.size, 0, none⟩ : Addr).add j = ⟨w.heap.size, j, none⟩ from by unfold Addr.add; split <;> simp_all, cell_alloc_any]
  simpa using hu
theorem cells_new_d (w : World) (cs : List Value) (t : Nat) : ∀ (j : Nat) (u : Value), cs[j]? = some u → (w.alloc (.cells cs.toArray t)).drew.cell? ((⟨w.heap.size, 0, none⟩ : Addr).add j) = some u := fun j u hu => cells_new w cs t j u hu
theorem spot_one (x : Spot) : ∀ u ∈ x.cells, u.oneCell' = true := by
  intro u hu
  simp [Spot.cells] at hu
  rcases hu with rfl | rfl | rfl <;> rfl

theorem own_drawn {wr wq : World} {base : Nat} {v : Value} {pre : List Spot} (h : Own wr base v pre) (e : ({ heap := wr.heap, tape := wr.tape, drawn := wr.drawn + 1, os := wr.os, output := wr.output } : World) = wq) : Own wq base v pre := by
  subst e; exact h.drew
theorem bnd_len {n : Nat} (h : n ≤ 3000) : n + 1 ≤ maxLen := by unfold maxLen; omega
theorem bnd_bytes {n : Nat} (h : n ≤ 3000) : (n + 1) * 32 ≤ 140737488355328 := by omega
theorem own_snoc {w : World} {base : Nat} {v : Value} {pre : List Spot} (x : Spot) (h : w.ownsRow base 37 3 v (pre.length + 1) (flat pre ++ x.cells)) : Own w base v (pre ++ [x]) := by
  unfold Own
  simpa [flat] using h
/-- In the loop: what has been made, and what is still to come. -/
def DoInv (c : Change) (l : List Spot) (base : Nat) (W0 : World) (out done i : Value) (wr : World) : Prop :=
  ∃ (k : Nat) (d : Bool) (pre : List Spot), k ≤ l.length ∧ i = .int .i64 k ∧ done = .bool d ∧ Own wr base out pre ∧ Below W0.heap.size W0 wr ∧ madeL c l = pre ++ goR c d (l.drop k) ∧ pre.length ≤ 2 * k

set_option maxHeartbeats 1000000 in
theorem do49_any (A : Option Addr) (cp : Nat) (l : List Spot) (c : Change) (w : World) (hr : Rd w A (flat l)) (hm : l.length ≤ 9223372036854775807) :
    Calls Tryz.prog 25 #[.slice A l.length cp, c.val] w (DoPost l c w) := by
  obtain ⟨i0, z, hi0, iz0, is0, ib0, izs⟩ := parts_spot
  obtain ⟨t, kd, ⟨i, vr, s⟩⟩ := c
  have hv : Change.val ⟨t, kd, ⟨i, vr, s⟩⟩ = .agg #[.int .i64 t, .int .i64 kd, .int .i64 i, .int .i64 vr, .string s] := rfl
  obtain ⟨cc, hcc⟩ : ∃ cc : Change, cc = ⟨t, kd, ⟨i, vr, s⟩⟩ := ⟨_, rfl⟩
  have hck : cc.kind = kd := by rw [hcc]
  have hcs : cc.spot = ⟨i, vr, s⟩ := by rw [hcc]
  have crc := Lib.hid (fun w => rightc49_any ⟨t, kd, ⟨i, vr, s⟩⟩ w)
  have cft := Lib.hid (fun w hr => fits49_any A cp l ⟨t, kd, ⟨i, vr, s⟩⟩ w hr hm)
  rw [← hcc] at crc cft hv ⊢
  rw [hv] at crc cft ⊢
  obtain ⟨W0, hW0⟩ : ∃ W0, w.alloc (.cells #[.int .i64 t, .int .i64 kd, .int .i64 i, .int .i64 vr, .string s] 40) = W0 := ⟨_, rfl⟩
  have hB0 : Below w.heap.size w W0 := by rw [← hW0]; exact (Below.refl _ _).alloc (Nat.le_refl _) _
  have hz0 : W0.heap.size = w.heap.size + 1 := by rw [← hW0]; simp
  have c0 : W0.cell? ⟨w.heap.size, 0, none⟩ = some (.int .i64 t) := by rw [← hW0]; simp [go_sem]
  have c1 : W0.cell? ⟨w.heap.size, 1, none⟩ = some (.int .i64 kd) := by rw [← hW0]; simp [go_sem]
  have c2 : W0.cell? ⟨w.heap.size, 2, none⟩ = some (.int .i64 i) := by rw [← hW0]; simp [go_sem]
  have c3 : W0.cell? ⟨w.heap.size, 3, none⟩ = some (.int .i64 vr) := by rw [← hW0]; simp [go_sem]
  have c4 : W0.cell? ⟨w.heap.size, 4, none⟩ = some (.string s) := by rw [← hW0]; simp [go_sem]
  have hk5 : Hid (∀ W, Below W0.heap.size W0 W → W.cell? ⟨w.heap.size, 0, none⟩ = some (.int .i64 t) ∧ W.cell? ⟨w.heap.size, 1, none⟩ = some (.int .i64 kd) ∧ W.cell? ⟨w.heap.size, 2, none⟩ = some (.int .i64 i) ∧ W.cell? ⟨w.heap.size, 3, none⟩ = some (.int .i64 vr) ∧ W.cell? ⟨w.heap.size, 4, none⟩ = some (.string s)) := fun W hb =>
    ⟨(hb.cell (p := ⟨w.heap.size, 0, none⟩) (by simp; omega)).trans c0, (hb.cell (p := ⟨w.heap.size, 1, none⟩) (by simp; omega)).trans c1, (hb.cell (p := ⟨w.heap.size, 2, none⟩) (by simp; omega)).trans c2, (hb.cell (p := ⟨w.heap.size, 3, none⟩) (by simp; omega)).trans c3, (hb.cell (p := ⟨w.heap.size, 4, none⟩) (by simp; omega)).trans c4⟩
  have Hcc := Lib.hid hcc
  have Hck := Lib.hid hck
  have Hcs := Lib.hid hcs
  clear hcc hck hcs hv c0 c1 c2 c3 c4
  go_enter Tryz.func25, Tryz.ntmps25
  go_wp2_with fail
  refine (check49_any A cp l W0 (hr.ext hB0) hm).mono ?_
  rintro e w1 ⟨rfl, hb1⟩
  have hB1 := ext_trans hB0 hb1
  by_cases hc : checkE l = 0
  · have hasc := (checkE_zero hc).2
    have hlen := (checkE_zero hc).1
    have HC := Lib.hid hc
    have Hasc := Lib.hid hasc
    rw [hc]
    clear hc hasc
    obtain ⟨d0, d1, d2, d3, d4⟩ := hk5.out w1 hb1
    go_wp2_with fail
    refine (crc.out w1).mono ?_
    rintro e w2 ⟨rfl, hb2⟩
    have hb02 := ext_trans hb1 hb2
    have hB2 := ext_trans hB1 hb2
    clear d0 d1 d2 d3 d4
    obtain ⟨d0, d1, d2, d3, d4⟩ := hk5.out w2 hb02
    cases hok : cc.ok
    · have hd : Hid (doE l cc = 490) := by show _ = _; unfold doE; rw [HC.out, hok]; rfl
      clear hok
      go_wp2_with fail
      go_ret2
      exact ⟨hB2, .inl ⟨by rw [hd.out]; decide, by rw [hd.out]; rfl⟩⟩
    · have Hok := Lib.hid hok
      clear hok
      go_wp2_with fail
      refine (cft.out w2 (hr.ext hB2)).mono ?_
      rintro e w3 ⟨rfl, hb3⟩
      have hb03 := ext_trans hb02 hb3
      have hB3 := ext_trans hB2 hb3
      rw [← fits_get Hasc.out]
      clear d0 d1 d2 d3 d4
      obtain ⟨d0, d1, d2, d3, d4⟩ := hk5.out w3 hb03
      cases hft : fitsB cc l
      · have hd : Hid (doE l cc = 490) := by show _ = _; unfold doE; rw [HC.out, Hok.out, hft]; rfl
        clear hft
        go_wp2_with fail
        go_ret2
        exact ⟨hB3, .inl ⟨by rw [hd.out]; decide, by rw [hd.out]; rfl⟩⟩
      · have Hft := Lib.hid hft
        have hml := made_len Hasc.out hft
        have Hgo := Lib.hid (goR_made cc l Hasc.out hft)
        have HE : Hid (doE l cc = if 1024 < (madeL cc l).length then 2 else 0) := by show _ = _; unfold doE; rw [HC.out, Hok.out, hft]; rfl
        clear hft
        by_cases hbig : kd = 1 ∧ l.length = 1024
        · obtain ⟨hk1, hl1⟩ := hbig
          have hd : Hid (doE l cc = 2) := by
            show _ = _
            rw [HE.out, hml, Hck.out, if_pos hk1, if_pos (by omega)]
          have e1 : (kd == 1) = true := by simpa using hk1
          have e2 : ((l.length : Int) == 1024) = true := by simp; omega
          clear hml hk1 hl1
          go_wp2_with fail
          go_ret2
          exact ⟨hB3, .inl ⟨by rw [hd.out]; decide, by rw [hd.out]; rfl⟩⟩
        · have hd : Hid (doE l cc = 0) := by
            show _ = _
            rw [HE.out, hml, Hck.out, if_neg]
            split
            · omega
            · split <;> omega
          have hgo := Hgo.out
          rw [Hck.out] at hgo
          have HG := Lib.hid hgo
          have hnb : ((kd == 1) && ((l.length : Int) == 1024)) = false := by
            rw [Bool.and_eq_false_iff]
            by_cases h : kd = 1
            · right; simp; omega
            · left; simpa using h
          have hBz := hB3.size
          have hBz0 := hb03.size
          have hlt0 : w.heap.size < w3.heap.size := by omega
          have hmade : ∀ (W : World) (v : Value), Below W0.heap.size W0 W → Own W W0.heap.size v (madeL cc l) → DoPost l cc w (.returned (.tuple #[v, .int .i64 0])) W := fun W v hb ho => ⟨(hB0.trans (hb.mono (by omega))), .inr ⟨hd.out, v, rfl, own_base ho (by omega)⟩⟩
          have Hmade := Lib.hid hmade
          clear hml hbig hgo Hgo HE hmade
          have hcase : (kd == 1) = false ∨ ((kd == 1) = true ∧ ((l.length : Int) == 1024) = false) := by
            cases h : (kd == 1)
            · exact .inl rfl
            · rw [h, Bool.true_and] at hnb; exact .inr ⟨rfl, hnb⟩
          clear hnb
          rcases hcase with e1 | ⟨e1, e2⟩
          all_goals
            go_wp2_with fail
            go_loopw [7, 8, 9] (fun out done i wr => DoInv cc l W0.heap.size W0 out done i wr) (fun _ _ i _ => l.length - (intOf i).toNat)
            case atStart => exact ⟨0, _, [], Nat.zero_le _, rfl, rfl, World.ownsRow_made w3 #[] 0 (by omega) (Nat.zero_le _) rfl, hb03.alloc hBz0 _, HG.out, Nat.zero_le _⟩
            case round =>
              obtain ⟨k, d, pre, hk, rfl, rfl, hown, hB, hmd, hpl⟩ := hrel
              have Hmd := Lib.hid hmd
              have hz := hB.size
              obtain ⟨d0, d1, d2, d3, d4⟩ := hk5.out wr hB
              clear hmd
              by_cases hlt : k < l.length
              · obtain ⟨b, off, rfl, hb, hc⟩ := hr.elem Spot.size_cells (by omega) hlt
                have hlk : Hid (∀ W, Below W0.heap.size W0 W → W.cell? ⟨b, off + k * 3, none⟩ = some (.int .i64 l[k].id) ∧ W.cell? ⟨b, off + k * 3 + 1, none⟩ = some (.int .i64 l[k].ver) ∧ W.cell? ⟨b, off + k * 3 + 2, none⟩ = some (.string l[k].text)) := fun W hbW =>
                  ⟨((ext_trans hB0 hbW).cell (p := ⟨b, off + k * 3, none⟩) hb).trans (hc 0 _ rfl), ((ext_trans hB0 hbW).cell (p := ⟨b, off + k * 3 + 1, none⟩) hb).trans (hc 1 _ rfl), ((ext_trans hB0 hbW).cell (p := ⟨b, off + k * 3 + 2, none⟩) hb).trans (hc 2 _ rfl)⟩
                have hdr := goR_drop cc d l k hlt
                rw [Hcs.out] at hdr
                have Hdr := Lib.hid hdr
                clear hdr hc hr
                generalize l[k] = x at *
                obtain ⟨xi, xv, xs⟩ := x
                obtain ⟨x0, x1, x2⟩ := hlk.out wr hB
                have A1 : pre.length + 1 ≤ maxLen := bnd_len (by omega)
                have A2 : (pre.length + 1) * 32 ≤ 140737488355328 := bnd_bytes (by omega)
                have B1 : (pre ++ [(⟨i, vr, s⟩ : Spot)]).length + 1 ≤ maxLen := bnd_len (by rw [List.length_append, List.length_singleton]; omega)
                have B2 : ((pre ++ [(⟨i, vr, s⟩ : Spot)]).length + 1) * 32 ≤ 140737488355328 := bnd_bytes (by rw [List.length_append, List.length_singleton]; omega)
                have A3 : ∀ (W : World) (o : Obj), Below W0.heap.size W0 W → W0.heap.size ≤ (W.alloc o).heap.size := fun W o hb => by have := hb.size; rw [World.size_alloc]; omega
                cases d
                · by_cases hle : i ≤ xi
                  · have g1 : decide (i ≤ xi) = true := by simpa using hle
                    by_cases heq : xi = i
                    · have g2 : (xi != i) = false := by simpa using heq
                      have HN : Hid (madeL cc l = (pre ++ [⟨i, vr, s⟩]) ++ goR cc true (l.drop (k + 1))) := by
                        show _ = _
                        rw [Hmd.out, Hdr.out]
                        simp [heq]
                      go_wp2_with fail
                      go_still (by kernel_rfl)
                      go_wp2_with (at_builtin; refine wpList_append_own _ rfl _ _ 22 rfl W0.heap.size 37 i0 z 3 32 Tryz.underlying22 hi0 iz0 is0 ib0 izs (by decide) _ _ _ rfl ((hown.alloc _).drew) _ _ _ [.int .i64 i, .int .i64 vr, .string s] rfl rfl (cells_new_d _ [.int .i64 i, .int .i64 vr, .string s] _) (spot_one ⟨i, vr, s⟩) A1 A2 (A3 _ _ hB) ?_; intro v5 w5 hown5 hgrow5 _)
                      have hB5 : Below W0.heap.size W0 w5 := ((hB.alloc hz _).drew).grown hgrow5 (A3 _ _ hB) (fun k hk => (hown.lt k hk).1)
                      have hz5 := hB5.size
                      have hs5 := own_snoc ⟨i, vr, s⟩ hown5
                      clear d0 d1 d2 d3 d4 x0 x1 x2
                      obtain ⟨d0, d1, d2, d3, d4⟩ := hk5.out w5 hB5
                      obtain ⟨x0, x1, x2⟩ := hlk.out w5 hB5
                      go_still (by kernel_rfl)
                      go_wp2
                      go_roundw
                      case rel => exact ⟨k + 1, _, _, by omega, by go_num, rfl, hs5.drew, hB5.drew, HN.out, by first | omega | (simp; omega)⟩
                      case measure => simp [intOf]; omega
                    · have g2 : (xi != i) = true := by simpa using heq
                      have HN : Hid (madeL cc l = ((pre ++ [⟨i, vr, s⟩]) ++ [⟨xi, xv, xs⟩]) ++ goR cc true (l.drop (k + 1))) := by
                        show _ = _
                        rw [Hmd.out, Hdr.out]
                        simp [hle, heq]
                      go_wp2_with fail
                      go_still (by kernel_rfl)
                      go_wp2_with (at_builtin; refine wpList_append_own _ rfl _ _ 22 rfl W0.heap.size 37 i0 z 3 32 Tryz.underlying22 hi0 iz0 is0 ib0 izs (by decide) _ _ _ rfl ((hown.alloc _).drew) _ _ _ [.int .i64 i, .int .i64 vr, .string s] rfl rfl (cells_new_d _ [.int .i64 i, .int .i64 vr, .string s] _) (spot_one ⟨i, vr, s⟩) A1 A2 (A3 _ _ hB) ?_; intro v5 w5 hown5 hgrow5 _)
                      have hB5 : Below W0.heap.size W0 w5 := ((hB.alloc hz _).drew).grown hgrow5 (A3 _ _ hB) (fun k hk => (hown.lt k hk).1)
                      have hz5 := hB5.size
                      have hs5 := own_snoc ⟨i, vr, s⟩ hown5
                      clear d0 d1 d2 d3 d4 x0 x1 x2
                      obtain ⟨d0, d1, d2, d3, d4⟩ := hk5.out w5 hB5
                      obtain ⟨x0, x1, x2⟩ := hlk.out w5 hB5
                      go_still (by kernel_rfl)
                      go_wp2_with (at_builtin; refine wpList_append_own _ rfl _ _ 22 rfl W0.heap.size 37 i0 z 3 32 Tryz.underlying22 hi0 iz0 is0 ib0 izs (by decide) _ _ _ rfl ((hs5.alloc _).drew) _ _ _ [.int .i64 xi, .int .i64 xv, .string xs] rfl rfl (cells_new_d _ [.int .i64 xi, .int .i64 xv, .string xs] _) (spot_one ⟨xi, xv, xs⟩) B1 B2 (A3 _ _ hB5) ?_; intro v6 w6 hown6 hgrow6 _)
                      have hB6 : Below W0.heap.size W0 w6 := ((hB5.alloc hz5 _).drew).grown hgrow6 (A3 _ _ hB5) (fun k hk => (hs5.lt k hk).1)
                      go_roundw
                      case rel => exact ⟨k + 1, _, _, by omega, by go_num, rfl, own_snoc ⟨xi, xv, xs⟩ hown6, hB6, HN.out, by first | omega | (simp; omega)⟩
                      case measure => simp [intOf]; omega
                  · have g1 : decide (i ≤ xi) = false := by simpa using hle
                    have heq : ¬ xi = i := by omega
                    have g2 : (xi != i) = true := by simpa using heq
                    have HN : Hid (madeL cc l = (pre ++ [⟨xi, xv, xs⟩]) ++ goR cc false (l.drop (k + 1))) := by
                      show _ = _
                      rw [Hmd.out, Hdr.out]
                      simp [hle, heq]
                    go_wp2_with fail
                    go_still (by kernel_rfl)
                    go_wp2_with fail
                    obtain ⟨wq, hwq⟩ : ∃ wq : World, ({ heap := wr.heap, tape := wr.tape, drawn := wr.drawn + 1, os := wr.os, output := wr.output } : World) = wq := ⟨_, rfl⟩
                    have hBq : Below W0.heap.size W0 wq := by rw [← hwq]; exact hB.drew
                    have hownq := own_drawn hown hwq
                    have hzq := hBq.size
                    rw [hwq]
                    clear hwq d0 d1 d2 d3 d4 x0 x1 x2
                    obtain ⟨d0, d1, d2, d3, d4⟩ := hk5.out wq hBq
                    obtain ⟨x0, x1, x2⟩ := hlk.out wq hBq
                    go_still (by kernel_rfl)
                    go_wp2_with (at_builtin; refine wpList_append_own _ rfl _ _ 22 rfl W0.heap.size 37 i0 z 3 32 Tryz.underlying22 hi0 iz0 is0 ib0 izs (by decide) _ _ _ rfl ((hownq.alloc _).drew) _ _ _ [.int .i64 xi, .int .i64 xv, .string xs] rfl rfl (cells_new_d _ [.int .i64 xi, .int .i64 xv, .string xs] _) (spot_one ⟨xi, xv, xs⟩) A1 A2 (A3 _ _ hBq) ?_; intro v6 w6 hown6 hgrow6 _)
                    have hB6 : Below W0.heap.size W0 w6 := ((hBq.alloc hzq _).drew).grown hgrow6 (A3 _ _ hBq) (fun k hk => (hownq.lt k hk).1)
                    go_roundw
                    case rel => exact ⟨k + 1, _, _, by omega, by go_num, rfl, own_snoc ⟨xi, xv, xs⟩ hown6, hB6, HN.out, by first | omega | (simp; omega)⟩
                    case measure => simp [intOf]; omega
                · by_cases heq : xi = i
                  · have g2 : (xi != i) = false := by simpa using heq
                    have HN : Hid (madeL cc l = (pre) ++ goR cc true (l.drop (k + 1))) := by
                      show _ = _
                      rw [Hmd.out, Hdr.out]
                      simp [heq]
                    go_wp2_with fail
                    go_still (by kernel_rfl)
                    go_wp2_with fail
                    obtain ⟨wq, hwq⟩ : ∃ wq : World, ({ heap := wr.heap, tape := wr.tape, drawn := wr.drawn + 1, os := wr.os, output := wr.output } : World) = wq := ⟨_, rfl⟩
                    have hBq : Below W0.heap.size W0 wq := by rw [← hwq]; exact hB.drew
                    have hownq := own_drawn hown hwq
                    have hzq := hBq.size
                    rw [hwq]
                    clear hwq d0 d1 d2 d3 d4 x0 x1 x2
                    obtain ⟨d0, d1, d2, d3, d4⟩ := hk5.out wq hBq
                    obtain ⟨x0, x1, x2⟩ := hlk.out wq hBq
                    go_still (by kernel_rfl)
                    go_wp2
                    go_roundw
                    case rel => exact ⟨k + 1, _, _, by omega, by go_num, rfl, hownq.drew, hBq.drew, HN.out, by first | omega | (simp; omega)⟩
                    case measure => simp [intOf]; omega
                  · have g2 : (xi != i) = true := by simpa using heq
                    have HN : Hid (madeL cc l = (pre ++ [⟨xi, xv, xs⟩]) ++ goR cc true (l.drop (k + 1))) := by
                      show _ = _
                      rw [Hmd.out, Hdr.out]
                      simp [heq]
                    go_wp2_with fail
                    go_still (by kernel_rfl)
                    go_wp2_with fail
                    obtain ⟨wq, hwq⟩ : ∃ wq : World, ({ heap := wr.heap, tape := wr.tape, drawn := wr.drawn + 1, os := wr.os, output := wr.output } : World) = wq := ⟨_, rfl⟩
                    have hBq : Below W0.heap.size W0 wq := by rw [← hwq]; exact hB.drew
                    have hownq := own_drawn hown hwq
                    have hzq := hBq.size
                    rw [hwq]
                    clear hwq d0 d1 d2 d3 d4 x0 x1 x2
                    obtain ⟨d0, d1, d2, d3, d4⟩ := hk5.out wq hBq
                    obtain ⟨x0, x1, x2⟩ := hlk.out wq hBq
                    go_still (by kernel_rfl)
                    go_wp2_with (at_builtin; refine wpList_append_own _ rfl _ _ 22 rfl W0.heap.size 37 i0 z 3 32 Tryz.underlying22 hi0 iz0 is0 ib0 izs (by decide) _ _ _ rfl ((hownq.alloc _).drew) _ _ _ [.int .i64 xi, .int .i64 xv, .string xs] rfl rfl (cells_new_d _ [.int .i64 xi, .int .i64 xv, .string xs] _) (spot_one ⟨xi, xv, xs⟩) A1 A2 (A3 _ _ hBq) ?_; intro v6 w6 hown6 hgrow6 _)
                    have hB6 : Below W0.heap.size W0 w6 := ((hBq.alloc hzq _).drew).grown hgrow6 (A3 _ _ hBq) (fun k hk => (hownq.lt k hk).1)
                    go_roundw
                    case rel => exact ⟨k + 1, _, _, by omega, by go_num, rfl, own_snoc ⟨xi, xv, xs⟩ hown6, hB6, HN.out, by first | omega | (simp; omega)⟩
                    case measure => simp [intOf]; omega
              · have hm2 := Hmd.out
                rw [show k = l.length by omega, List.drop_length] at hm2
                have A1 : pre.length + 1 ≤ maxLen := bnd_len (by omega)
                have A2 : (pre.length + 1) * 32 ≤ 140737488355328 := bnd_bytes (by omega)
                have A3 : ∀ (W : World) (o : Obj), Below W0.heap.size W0 W → W0.heap.size ≤ (W.alloc o).heap.size := fun W o hb => by have := hb.size; rw [World.size_alloc]; omega
                cases d
                · have HM : Hid (madeL cc l = pre ++ [⟨i, vr, s⟩]) := by show _ = _; rw [hm2, ← Hcs.out]; rfl
                  clear hm2
                  go_wp2_with (at_builtin; refine wpList_append_own _ rfl _ _ 22 rfl W0.heap.size 37 i0 z 3 32 Tryz.underlying22 hi0 iz0 is0 ib0 izs (by decide) _ _ _ rfl (hown.alloc _) _ _ _ [.int .i64 i, .int .i64 vr, .string s] rfl rfl (cells_new _ [.int .i64 i, .int .i64 vr, .string s] _) (spot_one ⟨i, vr, s⟩) A1 A2 (A3 _ _ hB) ?_; intro v6 w6 hown6 hgrow6 _)
                  have hB6 : Below W0.heap.size W0 w6 := (hB.alloc hz _).grown hgrow6 (A3 _ _ hB) (fun k hk => (hown.lt k hk).1)
                  go_ret2
                  exact Hmade.out w6 v6 hB6 (by rw [HM.out]; exact own_snoc ⟨i, vr, s⟩ hown6)
                · have HM : Hid (madeL cc l = pre) := by show _ = _; rw [hm2]; simp [goR]
                  clear hm2
                  go_wp2_with fail
                  go_ret2
                  exact Hmade.out wr _ hB (by rw [HM.out]; exact hown)
  · have hd : Hid (doE l cc = checkE l) := by show _ = _; unfold doE; rw [if_pos hc]
    have e1 : (checkE l == 0) = false := by simpa using hc
    have Hc := Lib.hid hc
    clear hc
    go_wp2_with fail
    go_ret2
    exact ⟨hB1, .inl ⟨by rw [hd.out]; exact Hc.out, by rw [hd.out]; rfl⟩⟩
end Go.Proofs.YtfbhfimejcdopaaGreatDoor

/- The reference's package of patches: Apply, Then. -/
namespace Go.Proofs.YtfbhfimejcdopaaGreatDoor
open Go.RowKit Go.Han
attribute [local irreducible] wpStill wpQuiet
set_option maxRecDepth 100000

set_option maxHeartbeats 1000000 in
theorem rapply_any (A : Option Addr) (cp : Nat) (a : List Spot) (B : Option Addr) (cq : Nat) (p : List Change) (w : World) (hr : Rd w A (flat a)) (hA : A = none → a = []) (hm : a.length ≤ 9223372036854775807) (hr' : Rd w B (cflat p)) (hm' : p.length ≤ 9223372036854775807) :
    Calls Tryz.prog 12 #[.slice A a.length cp, .slice B p.length cq] w (ApplyPost a p w) := by
  have HE1 := Lib.hid (applyE_ck (a := a) (p := p))
  have HE2 := Lib.hid (applyE_lim (a := a) (p := p))
  have HE3 := Lib.hid (applyE_run (a := a) (p := p))
  go_enter Tryz.func12, Tryz.ntmps12
  go_wp2_with fail
  refine (check49_any A cp a w hr hm).mono ?_
  rintro e w1 ⟨rfl, hb1⟩
  by_cases hc : checkE a = 0
  · have Hc := Lib.hid hc
    rw [hc]
    clear hc
    by_cases hl : 4096 < p.length
    · have hl2 : (4096 : Int) < (p.length : Int) := by omega
      have he := Lib.hid (HE2.out Hc.out hl)
      clear hl
      go_wp2_with fail
      go_ret2
      exact ⟨hb1, .inl ⟨by rw [he.out]; decide, by rw [he.out]; rfl⟩⟩
    · have hl2 : ¬ (4096 : Int) < (p.length : Int) := by omega
      have he := Lib.hid (HE3.out Hc.out hl)
      have hz1 := hb1.size
      have Hl := Lib.hid hl
      clear hl
      go_wp2_with fail
      go_loopw [7, 8] (fun b i wr => ApInv a p w b i wr) (fun _ i _ => p.length - (intOf i).toNat)
      case atStart => exact ⟨0, a, A, cp, Nat.zero_le _, rfl, rfl, hr.ext hb1, hA, Hc.out, hb1, rfl⟩
      case round =>
        obtain ⟨k, s, A1, cp1, hk, rfl, rfl, hrs, hAs, hcs, hB, hap⟩ := hrel
        have hls := check_len hcs
        have Hcs := Lib.hid hcs
        have Hap := Lib.hid hap
        clear hcs hap
        by_cases hlt : k < p.length
        · obtain ⟨b, off, rfl, hb, hcl⟩ := hr'.elem Change.size_cells (by omega) hlt
          have d0 := (hB.cell (p := ⟨b, off + k * 5 + 0, none⟩) hb).trans (hcl 0 _ rfl)
          have d1 := (hB.cell (p := ⟨b, off + k * 5 + 1, none⟩) hb).trans (hcl 1 _ rfl)
          have d2 := (hB.cell (p := ⟨b, off + k * 5 + 2, none⟩) hb).trans (hcl 2 _ rfl)
          have d3 := (hB.cell (p := ⟨b, off + k * 5 + 3, none⟩) hb).trans (hcl 3 _ rfl)
          have d4 := (hB.cell (p := ⟨b, off + k * 5 + 4, none⟩) hb).trans (hcl 4 _ rfl)
          simp only [Nat.add_zero] at d0
          have hdr : p.drop k = p[k] :: p.drop (k + 1) := List.drop_eq_getElem_cons hlt
          have Hap2 : Hid (appR a p = appR s (p[k] :: p.drop (k + 1))) := by show _ = _; rw [Hap.out, hdr]
          clear hcl hdr Hap
          generalize p[k] = c at *
          obtain ⟨t, kd, ⟨i, vr, x⟩⟩ := c
          simp only at d0 d1 d2 d3 d4
          obtain ⟨cc, hcc⟩ : ∃ cc : Change, cc = ⟨t, kd, ⟨i, vr, x⟩⟩ := ⟨_, rfl⟩
          rw [← hcc] at Hap2
          have cD : Hid (∀ W (hb : Below wr.heap.size wr W), Calls Tryz.prog 25 #[.slice A1 s.length cp1, .agg #[.int .i64 t, .int .i64 kd, .int .i64 i, .int .i64 vr, .string x]] W (DoPost s cc W)) := by
            intro W hb
            have := do49_any A1 cp1 s ⟨t, kd, ⟨i, vr, x⟩⟩ W (hrs.ext hb) (by omega)
            rw [← hcc] at this
            rw [hcc] at this ⊢
            exact this
          clear hcc
          go_wp2_with fail
          refine (cD.out wr (Below.refl _ _)).mono ?_
          rintro e w3 ⟨hb3, h3⟩
          have hB3 := ext_trans hB hb3
          rcases h3 with ⟨hn, rfl⟩ | ⟨hn, v2, rfl, hown⟩
          · have hf : Hid (applyE a p = doE s cc) := by show _ = _; rw [he.out, Hap2.out, appR_cons, if_pos hn]
            have n1 : (doE s cc == 0) = false := by simpa using hn
            have Hn := Lib.hid hn
            clear hn
            go_wp2_with fail
            go_ret2
            exact ⟨hB3, .inl ⟨by rw [hf.out]; exact Hn.out, by rw [hf.out]; rfl⟩⟩
          · obtain ⟨A2, cp2, rfl, hrd2, hnil2⟩ := own_form hown
            have hap3 : Hid (appR a p = appR (madeL cc s) (p.drop (k + 1))) := by show _ = _; rw [Hap2.out, appR_ok hn]
            have hck := doE_check hn
            clear hn hown
            go_wp2_with fail
            go_roundw
            case rel => exact ⟨k + 1, madeL cc s, A2, cp2, by omega, by go_num, rfl, hrd2, hnil2, hck, hB3, hap3.out⟩
            case measure => simp [intOf]; omega
        · obtain rfl : k = p.length := by omega
          have h0 : appR a p = (0, s) := by rw [Hap.out, List.drop_length]; rfl
          have h1 : applyE a p = 0 := by rw [he.out, h0]
          have h2 : applyO a p = s := by unfold applyO; rw [if_pos h1, h0]
          have H1 := Lib.hid h1
          have H2 := Lib.hid h2
          clear h0 h1 h2
          go_wp2_with fail
          go_ret2
          exact ⟨hB, .inr ⟨H1.out, A1, cp1, by rw [H2.out]; rfl, by rw [H2.out]; exact hrs, by rw [H2.out]; exact hAs⟩⟩
  · have hf := Lib.hid (HE1.out hc)
    have n1 : (checkE a == 0) = false := by simpa using hc
    have Hc := Lib.hid hc
    clear hc
    go_wp2_with fail
    go_ret2
    exact ⟨hb1, .inl ⟨by rw [hf.out]; exact Hc.out, by rw [hf.out]; rfl⟩⟩

theorem lastAt_q {p q : List Change} {n : Nat} (hn : q.length = n + 1) : ∃ (h : n < q.length), lastAt p q = q[n].at_ := by
  have h : n < q.length := by omega
  refine ⟨h, ?_⟩
  obtain ⟨h', e⟩ := lastAt_eq (p := p) (q := q) (n := p.length + n) (by omega)
  rw [e, List.getElem_append_right (by omega)]
  congr 2
  omega
theorem lastAt_p {p : List Change} {n : Nat} (hn : p.length = n + 1) : ∃ (h : n < p.length), lastAt p [] = p[n].at_ := by
  have h : n < p.length := by omega
  refine ⟨h, ?_⟩
  obtain ⟨h', e⟩ := lastAt_eq (p := p) (q := []) (n := n) (by simp; omega)
  rw [e]
  congr 1
  exact List.getElem_append_left h
set_option maxHeartbeats 2000000 in
theorem rthen_any (A : Option Addr) (cp : Nat) (a : List Spot) (B : Option Addr) (cb : Nat) (p : List Change) (C : Option Addr) (cc : Nat) (q : List Change) (w : World) (hr : Rd w A (flat a)) (hA : A = none → a = []) (hm : a.length ≤ 9223372036854775807)
    (hrp : Rd w B (cflat p)) (hmp : p.length ≤ 9223372036854775807) (hrq : Rd w C (cflat q)) (hmq : q.length ≤ 9223372036854775807) :
    Calls Tryz.prog 14 #[.slice A a.length cp, .slice B p.length cb, .slice C q.length cc] w (ThenPost a p q w) := by
  have cP := Lib.hid (fun W (h : Below w.heap.size w W) => rapply_any A cp a B cb p W (hr.ext h) hA hm (hrp.ext h) hmp)
  have cQ := Lib.hid (fun W (h : Below w.heap.size w W) A' cp' l (h1 : Rd W A' (flat l)) h2 h3 => rapply_any A' cp' l C cc q W h1 h2 h3 (hrq.ext h) hmq)
  have cD := Lib.hid (fun W (h : Below w.heap.size w W) A' cp' l t (h1 : Rd W A' (flat l)) h3 => rdiff_any A cp a A' cp' l t W (hr.ext h) hm h1 h3)
  have Hrp := Lib.hid hrp
  have Hrq := Lib.hid hrq
  clear hr hA hrp hrq
  go_enter Tryz.func14, Tryz.ntmps14
  go_wp2_with fail
  refine (cP.out w (Below.refl _ _)).mono ?_
  rintro e w1 ⟨hb1, h1⟩
  rcases h1 with ⟨hn, rfl⟩ | ⟨hn, A1, cp1, rfl, hr1, hA1⟩
  · have n1 : (applyE a p == 0) = false := by simpa using hn
    have HF : Hid (thenE a p q = applyE a p) := by show _ = _; unfold thenE; rw [if_pos hn]
    have Hn := Lib.hid hn
    clear hn
    go_wp2_with fail
    go_ret2
    exact ⟨hb1, .inl ⟨by rw [HF.out]; exact Hn.out, by rw [HF.out]; rfl⟩⟩
  have hck := check_len (applyO_check hn)
  have Hn := Lib.hid hn
  have cQ1 := Lib.hid (cQ.out w1 hb1 A1 cp1 _ hr1 hA1 (by omega))
  clear hn
  go_wp2_with fail
  refine cQ1.out.mono ?_
  rintro e w2 ⟨hb2, h2⟩
  have hB2 := ext_trans hb1 hb2
  rcases h2 with ⟨hn2, rfl⟩ | ⟨hn2, A2, cp2, rfl, hr2, hA2⟩
  · have n1 : (applyE (applyO a p) q == 0) = false := by simpa using hn2
    have HF : Hid (thenE a p q = applyE (applyO a p) q) := by show _ = _; unfold thenE; rw [if_neg (by simpa using Hn.out), if_pos hn2]
    have Hn2 := Lib.hid hn2
    clear hn2 cQ1
    go_wp2_with fail
    go_ret2
    exact ⟨hB2, .inl ⟨by rw [HF.out]; exact Hn2.out, by rw [HF.out]; rfl⟩⟩
  have hck2 := check_len (applyO_check hn2)
  obtain ⟨_, hlp, _⟩ := applyE_zero Hn.out
  obtain ⟨_, hlq, _⟩ := applyE_zero hn2
  have Hn2 := Lib.hid hn2
  have HTE : Hid (¬ (p = [] ∧ q = []) → thenE a p q = diffE a (applyO (applyO a p) q) (lastAt p q) ∧ thenO a p q = diffO a (applyO (applyO a p) q) (lastAt p q)) := by
    intro hne
    refine ⟨?_, ?_⟩
    · unfold thenE; rw [if_neg (by simpa using Hn.out), if_neg (by simpa using Hn2.out), if_neg hne]
    · unfold thenO; rw [if_neg (by rintro (h | h | h); exact h Hn.out; exact h Hn2.out; exact hne h)]
  have cDD := Lib.hid (fun t => cD.out w2 hB2 A2 cp2 _ t hr2 (by omega))
  have fin : Hid (∀ t (e : Ending) (w' : World), lastAt p q = t → ¬ (p = [] ∧ q = []) → DiffPost a (applyO (applyO a p) q) t w2 e w' → ThenPost a p q w e w') := by
    rintro t e w' rfl hne ⟨hb, h⟩
    obtain ⟨e1, e2⟩ := HTE.out hne
    refine ⟨ext_trans hB2 hb, ?_⟩
    rcases h with ⟨h1, rfl⟩ | ⟨h1, v, rfl, hown⟩
    · exact .inl ⟨by rw [e1]; exact h1, by rw [e1]⟩
    · obtain ⟨A5, c5, rfl, hr5, _⟩ := hown.form (by decide)
      have e5 : thenO a p q = diffL (lastAt p q) a (applyO (applyO a p) q) := by rw [e2]; unfold diffO; rw [if_pos h1]
      exact .inr ⟨by rw [e1]; exact h1, A5, c5, by rw [e5], by rw [e5]; exact hr5⟩
  have frm : ∀ t (e : Ending) (w' : World), DiffPost a (applyO (applyO a p) q) t w2 e w' → ∃ (A5 : Option Addr) (n5 c5 : Nat) (k5 : Int), e = .returned (.tuple #[.slice A5 n5 c5, .int .i64 k5]) := by
    rintro t e w' ⟨hb, ⟨h1, rfl⟩ | ⟨h1, v, rfl, hown⟩⟩
    · exact ⟨_, _, _, _, rfl⟩
    · obtain ⟨A5, c5, rfl, hr5, _⟩ := hown.form (by decide)
      exact ⟨_, _, _, _, rfl⟩
  have Hfrm := Lib.hid frm
  clear hn2 cQ1 hmp hmq frm cD hr2
  by_cases hq0 : q.length = 0
  · have hqn : q = [] := List.eq_nil_of_length_eq_zero hq0
    subst hqn
    by_cases hp0 : p.length = 0
    · have hpn : p = [] := List.eq_nil_of_length_eq_zero hp0
      subst hpn
      have HF : Hid (thenE a [] [] = 0) := by show _ = _; unfold thenE; rw [if_neg (by simpa using Hn.out), if_neg (by simpa using Hn2.out), if_pos ⟨rfl, rfl⟩]
      have HO : Hid (thenO a [] [] = []) := by show _ = _; unfold thenO; rw [if_pos (.inr (.inr ⟨rfl, rfl⟩))]
      go_wp2_with fail
      go_ret2
      exact ⟨hB2, .inr ⟨HF.out, none, 0, by rw [HO.out]; rfl, by rw [HO.out]; exact Rd.nil _ _⟩⟩
    · obtain ⟨n, hn⟩ : ∃ n, p.length = n + 1 := ⟨p.length - 1, by omega⟩
      obtain ⟨hnl, hla⟩ := lastAt_p hn
      have hne : Hid (¬ (p = [] ∧ ([] : List Change) = [])) := fun h => hp0 (by rw [h.1]; rfl)
      obtain ⟨b4, off4, rfl, hb4', hc4⟩ := (Hrp.out.ext hB2).elem Change.size_cells (by omega) hnl
      have x0 := hc4 0 _ rfl
      simp only [Nat.add_zero] at x0
      have Hla := Lib.hid hla
      clear hc4 hla cP cQ hp0 hq0
      generalize p[n].at_ = t at *
      clear hnl
      generalize p.length = m at *
      subst hn
      go_wp2_with fail
      refine (cDD.out t).mono ?_
      rintro e w5 hp5
      have hf := Lib.hid (fin.out t e w5 Hla.out hne.out hp5)
      obtain ⟨A5, n5, c5, k5, rfl⟩ := Hfrm.out t e w5 hp5
      clear hp5
      go_wp2_with fail
      go_ret2
      exact hf.out
  · obtain ⟨n, hn⟩ : ∃ n, q.length = n + 1 := ⟨q.length - 1, by omega⟩
    obtain ⟨hnl, hla⟩ := lastAt_q (p := p) hn
    have hne : Hid (¬ (p = [] ∧ q = [])) := fun h => hq0 (by rw [h.2]; rfl)
    obtain ⟨b4, off4, rfl, hb4', hc4⟩ := (Hrq.out.ext hB2).elem Change.size_cells (by omega) hnl
    have x0 := hc4 0 _ rfl
    simp only [Nat.add_zero] at x0
    have Hla := Lib.hid hla
    clear hc4 hla cP cQ hq0
    generalize q[n].at_ = t at *
    clear hnl
    generalize q.length = m at *
    subst hn
    go_wp2_with fail
    refine (cDD.out t).mono ?_
    rintro e w5 hp5
    have hf := Lib.hid (fin.out t e w5 Hla.out hne.out hp5)
    obtain ⟨A5, n5, c5, k5, rfl⟩ := Hfrm.out t e w5 hp5
    clear hp5
    go_wp2_with fail
    go_ret2
    exact hf.out
end Go.Proofs.YtfbhfimejcdopaaGreatDoor

/- The statements PatchesSpec and PatchesApplySpec, walked. -/
namespace Go.Proofs.YtfbhfimejcdopaaGreatDoor
open Go.RowKit Go.Han
attribute [local irreducible] wpStill wpQuiet
set_option maxRecDepth 100000

/-! ### contracts in one form -/
def CsForm (l : List Change) (k : Int) (w : World) (e : Ending) (w' : World) : Prop := Below w.heap.size w w' ∧ ∃ A c, e = .returned (.tuple #[.slice A l.length c, .int .i64 k]) ∧ Rd w' A (cflat l)
def SsForm (l : List Spot) (k : Int) (w : World) (e : Ending) (w' : World) : Prop := Below w.heap.size w w' ∧ ∃ A c, e = .returned (.tuple #[.slice A l.length c, .int .i64 k]) ∧ Rd w' A (flat l)
theorem diff_form {a b : List Spot} {t : Int} {w : World} {e : Ending} {w' : World} (hp : DiffPost a b t w e w') : CsForm (diffO a b t) (diffE a b t) w e w' := by
  obtain ⟨hb, ⟨h1, rfl⟩ | ⟨h1, v, rfl, hown⟩⟩ := hp
  · have : diffO a b t = [] := by unfold diffO; rw [if_neg h1]
    rw [this]
    exact ⟨hb, none, 0, rfl, Rd.nil _ _⟩
  · obtain ⟨A, c, rfl, hr, _⟩ := hown.form (by decide)
    have : diffO a b t = diffL t a b := by unfold diffO; rw [if_pos h1]
    rw [this, h1]
    exact ⟨hb, A, c, rfl, hr⟩
theorem apply_form {a : List Spot} {p : List Change} {w : World} {e : Ending} {w' : World} (hp : ApplyPost a p w e w') : SsForm (applyO a p) (applyE a p) w e w' := by
  obtain ⟨hb, ⟨h1, rfl⟩ | ⟨h1, A, c, rfl, hr, _⟩⟩ := hp
  · have : applyO a p = [] := by unfold applyO; rw [if_neg h1]
    rw [this]
    exact ⟨hb, none, 0, rfl, Rd.nil _ _⟩
  · rw [h1]
    exact ⟨hb, A, c, rfl, hr⟩
theorem thenO_err {a : List Spot} {p q : List Change} (h : thenE a p q ≠ 0) : thenO a p q = [] := by
  unfold thenO
  by_cases h0 : applyE a p ≠ 0 ∨ applyE (applyO a p) q ≠ 0 ∨ (p = [] ∧ q = [])
  · rw [if_pos h0]
  · rw [if_neg h0]
    simp only [not_or] at h0
    have e : thenE a p q = diffE a (applyO (applyO a p) q) (lastAt p q) := by unfold thenE; rw [if_neg h0.1, if_neg h0.2.1, if_neg h0.2.2]
    unfold diffO
    rw [if_neg (by rw [← e]; exact h)]
theorem then_form {a : List Spot} {p q : List Change} {w : World} {e : Ending} {w' : World} (hp : ThenPost a p q w e w') : CsForm (thenO a p q) (thenE a p q) w e w' := by
  obtain ⟨hb, ⟨h1, rfl⟩ | ⟨h1, A, c, rfl, hr⟩⟩ := hp
  · rw [thenO_err h1]
    exact ⟨hb, none, 0, rfl, Rd.nil _ _⟩
  · rw [h1]
    exact ⟨hb, A, c, rfl, hr⟩
theorem diffO_len (a b : List Spot) (t : Int) : (diffO a b t).length ≤ 2048 := by
  unfold diffO
  by_cases h : diffE a b t = 0
  · rw [if_pos h]
    obtain ⟨q1, q2, _, _⟩ := diffE_zero h
    obtain ⟨l1, _, a1⟩ := (checkE_iff a).1 q1
    obtain ⟨l2, _, a2⟩ := (checkE_iff b).1 q2
    have := diffL_len t a1 a2
    omega
  · rw [if_neg h]; simp
theorem applyO_len (a : List Spot) (p : List Change) : (applyO a p).length ≤ 1024 := by
  by_cases h : applyE a p = 0
  · exact check_len (applyO_check h)
  · have : applyO a p = [] := by unfold applyO; rw [if_neg h]
    rw [this]; simp
theorem thenO_len (a : List Spot) (p q : List Change) : (thenO a p q).length ≤ 2048 := by
  unfold thenO
  split
  · simp
  · exact diffO_len _ _ _

set_option maxHeartbeats 2000000 in
theorem PatchesSpec_any (A : Option Addr) (cp : Nat) (a : List Spot) (B : Option Addr) (cq : Nat) (b : List Spot) (t : Int) (w : World) (hT : Tabs w)
    (hr : Rd w A (flat a)) (_ : A = none → a = []) (hm : a.length ≤ 9223372036854775807) (hr' : Rd w B (flat b)) (_ : B = none → b = []) (hm' : b.length ≤ 9223372036854775807) :
    Calls Tryz.prog 3 #[.slice A a.length cp, .slice B b.length cq, .int .i64 t] w (TruePost w) := by
  have cF := Lib.hid (fun W (h : Below w.heap.size w W) => few51_any A B cp cq a b W (hr.ext h) (hr'.ext h) hm hm')
  have cD := Lib.hid (fun W (h : Below w.heap.size w W) => (Diff51_any A cp a B cq b t W (utf_ext hT h) (hr.ext h) hm (hr'.ext h) hm').mono (fun _ _ hp => diff_form hp))
  have cE := Lib.hid (fun W (h : Below w.heap.size w W) => (rdiff_any A cp a B cq b t W (hr.ext h) hm (hr'.ext h) hm').mono (fun _ _ hp => diff_form hp))
  have hl := diffO_len a b t
  clear hr hr'
  go_enter Tryz.func3, Tryz.ntmps3
  go_wp2_with fail
  refine (sane51_any w hT).mono ?_
  rintro e w1 ⟨rfl, hb1⟩
  go_wp2_with fail
  refine (cF.out w1 hb1).mono ?_
  rintro e w' ⟨rfl, rfl⟩
  cases hfab : (fewB a && fewB b)
  · clear hfab
    go_wp2_with fail
    go_ret
    exact ⟨rfl, hb1⟩
  clear hfab cF
  go_wp2_with fail
  refine (cD.out w1 hb1).mono ?_
  rintro e w2 ⟨hb2, D, cd, rfl, hrd⟩
  have hB2 := ext_trans hb1 hb2
  have cE2 := Lib.hid (cE.out w2 hB2)
  clear cD cE
  go_wp2_with fail
  refine cE2.out.mono ?_
  rintro e w3 ⟨hb3, E, ce, rfl, hre⟩
  have hB3 := ext_trans hB2 hb3
  have cS := Lib.hid (same_chg D E cd ce _ _ w3 rfl (hrd.ext hb3) hre (by omega))
  clear cE2 hrd hre
  go_wp2_with fail
  refine cS.out.mono ?_
  rintro e w4 ⟨rfl, hb4⟩
  go_wp2_with fail
  go_ret
  exact ⟨by simp, ext_trans hB3 hb4⟩

set_option maxHeartbeats 2000000 in
theorem PatchesApplySpec_any (A : Option Addr) (cp : Nat) (a : List Spot) (B : Option Addr) (cb : Nat) (p : List Change) (C : Option Addr) (cc : Nat) (q : List Change) (w : World) (hT : Tabs w)
    (hr : Rd w A (flat a)) (hA : A = none → a = []) (hm : a.length ≤ 9223372036854775807) (hrp : Rd w B (cflat p)) (hmp : p.length ≤ 9223372036854775807) (hrq : Rd w C (cflat q)) (hmq : q.length ≤ 9223372036854775807) :
    Calls Tryz.prog 4 #[.slice A a.length cp, .slice B p.length cb, .slice C q.length cc] w (TruePost w) := by
  have cF := Lib.hid (fun W (h : Below w.heap.size w W) => few51_any A none cp 0 a [] W (hr.ext h) (Rd.nil _ _) hm (by decide))
  have cp1 := Lib.hid (fun W (h : Below w.heap.size w W) => fewc49_any B cb p W (hrp.ext h) hmp)
  have cq1 := Lib.hid (fun W (h : Below w.heap.size w W) => fewc49_any C cc q W (hrq.ext h) hmq)
  have cP := Lib.hid (fun W (h : Below w.heap.size w W) => (Apply_any A cp a B cb p W (utf_ext hT h) (hr.ext h) hA hm (hrp.ext h) hmp).mono (fun _ _ hp => apply_form hp))
  have cR := Lib.hid (fun W (h : Below w.heap.size w W) => (rapply_any A cp a B cb p W (hr.ext h) hA hm (hrp.ext h) hmp).mono (fun _ _ hp => apply_form hp))
  have cT := Lib.hid (fun W (h : Below w.heap.size w W) => (Then_any A cp a B cb p C cc q W (utf_ext hT h) (hr.ext h) hA hm (hrp.ext h) hmp (hrq.ext h) hmq).mono (fun _ _ hp => then_form hp))
  have cU := Lib.hid (fun W (h : Below w.heap.size w W) => (rthen_any A cp a B cb p C cc q W (hr.ext h) hA hm (hrp.ext h) hmp (hrq.ext h) hmq).mono (fun _ _ hp => then_form hp))
  have hl1 := applyO_len a p
  have hl2 := thenO_len a p q
  clear hr hrp hrq hA
  go_enter Tryz.func4, Tryz.ntmps4
  go_wp2_with fail
  refine (sane51_any w hT).mono ?_
  rintro e w1 ⟨rfl, hb1⟩
  go_wp2_with fail
  refine (cF.out w1 hb1).mono ?_
  rintro e w' ⟨rfl, rfl⟩
  cases hfab : (fewB a && fewB [])
  · clear hfab
    go_wp2_with fail
    go_ret
    exact ⟨rfl, hb1⟩
  clear hfab cF
  go_wp2_with fail
  refine (cp1.out w1 hb1).mono ?_
  rintro e w' ⟨rfl, rfl⟩
  cases fewC p
  · go_wp2_with fail
    go_ret
    exact ⟨rfl, hb1⟩
  go_wp2_with fail
  refine (cq1.out w1 hb1).mono ?_
  rintro e w' ⟨rfl, rfl⟩
  cases fewC q
  · go_wp2_with fail
    go_ret
    exact ⟨rfl, hb1⟩
  clear cp1 cq1
  go_wp2_with fail
  refine (cP.out w1 hb1).mono ?_
  rintro e w2 ⟨hb2, X, cx, rfl, hrx⟩
  have hB2 := ext_trans hb1 hb2
  have c2 := Lib.hid (cR.out w2 hB2)
  clear cP cR
  go_wp2_with fail
  refine c2.out.mono ?_
  rintro e w3 ⟨hb3, Y, cy, rfl, hry⟩
  have hB3 := ext_trans hB2 hb3
  have c3 := Lib.hid (cT.out w3 hB3)
  clear cT c2
  go_wp2_with fail
  refine c3.out.mono ?_
  rintro e w4 ⟨hb4, R, cr, rfl, hrr⟩
  have hB4 := ext_trans hB3 hb4
  have c4 := Lib.hid (cU.out w4 hB4)
  clear cU c3
  go_wp2_with fail
  refine c4.out.mono ?_
  rintro e w5 ⟨hb5, S, cs, rfl, hrs⟩
  have hB5 := ext_trans hB4 hb5
  have cS := Lib.hid (same_spt X Y cx cy _ _ w5 rfl (((hrx.ext hb3).ext hb4).ext hb5) ((hry.ext hb4).ext hb5) (by omega))
  have hrr5 := hrr.ext hb5
  clear c4 hrx hry hrr
  go_wp2_with fail
  refine cS.out.mono ?_
  rintro e w6 ⟨rfl, hb6⟩
  have cS2 := Lib.hid (same_chg R S cr cs _ _ w6 rfl (hrr5.ext hb6) (hrs.ext hb6) (by omega))
  clear cS hrr5 hrs
  go_wp2_with fail
  refine cS2.out.mono ?_
  rintro e w7 ⟨rfl, hb7⟩
  go_wp2_with fail
  go_ret
  exact ⟨by simp, ext_trans (ext_trans hB5 hb6) hb7⟩
end Go.Proofs.YtfbhfimejcdopaaGreatDoor

/- How the arguments of the statements read: the two tables of package utf8, spots, changes, slices of them. -/
namespace Go.Proofs.YtfbhfimejcdopaaGreatDoor
open Go.RowKit Go.Han Go.ChangeShapes Go.WideShapes Go.ChangeAt Go.Deep
set_option maxRecDepth 100000

def uren : Go.Shelf.Ren := ⟨fun n => n, fun | 5 => 5 | 119 => 147 | 138 => 149 | 139 => 150 | n => n, fun | 3 => 0 | 4 => 1 | n => n⟩
theorem own_knob : ownKnob Tryz.prog.godebug = none := by kernel_rfl
theorem u8types : U8Types Tryz.prog uren := ⟨by kernel_rfl, by kernel_rfl, by kernel_rfl, by kernel_rfl⟩
theorem u8extra : U8Extra Tryz.prog uren := ⟨by kernel_rfl, by kernel_rfl, by kernel_rfl, by kernel_rfl, by kernel_rfl, by kernel_rfl, by kernel_rfl⟩
theorem accept_eq : (Rows.laid_unicode_utf8_acceptRanges : DataW Unit) = Lib.acceptData := by kernel_rfl
abbrev laidL : List (String × DataW Unit) := [("unicode/utf8.acceptRanges", Rows.laid_unicode_utf8_acceptRanges), ("unicode/utf8.first", Rows.laid_unicode_utf8_first)]
theorem tabs_of {W : World} (h : laidMetH Tryz.prog laidL W) : Tabs W := by
  rw [MakeChecks.laidMetH_plain _ _ _ (by kernel_rfl)] at h
  have h1 := Lib.laidMet.reads h (n := "unicode/utf8.acceptRanges") (d := Rows.laid_unicode_utf8_acceptRanges) (by simp [laidL])
  have h2 := Lib.laidMet.reads h (n := "unicode/utf8.first") (d := Rows.laid_unicode_utf8_first) (by simp [laidL])
  rw [accept_eq] at h1
  rw [show (Rows.laid_unicode_utf8_first : DataW Unit) = Lib.firstData from Pinned.utf8First_eq] at h2
  exact utf8Tabs_of_readsT u8types u8extra h2 h1

section
variable {H : Type} {enc : TypeId × Value → H} {w : World} {base : Nat} {spare : Nat → Bool} {held : Bool}
theorem spot_und : ∃ fs : Array Field, Tryz.prog.underlying 37 = some (.struct fs) ∧ fs.toList.map (fun f => (f.type, f.offset)) = [(3, 0), (3, 1), (9, 2)] ∧ Tryz.prog.cellsOf 37 = 3 := ⟨_, Tryz.underlying37, by kernel_rfl, by kernel_rfl⟩
theorem change_und : ∃ fs : Array Field, Tryz.prog.underlying 40 = some (.struct fs) ∧ fs.toList.map (fun f => (f.type, f.offset)) = [(3, 0), (3, 1), (37, 2)] ∧ Tryz.prog.cellsOf 40 = 5 := ⟨_, Tryz.underlying40, by kernel_rfl, by kernel_rfl⟩
theorem cells_int : Tryz.prog.cellsOf 3 = 1 := by kernel_rfl
theorem cells_string : Tryz.prog.cellsOf 9 = 1 := by kernel_rfl
theorem field_at {fs : Array Field} {l : List (TypeId × Nat)} (h : fs.toList.map (fun f => (f.type, f.offset)) = l) {i : Nat} {t o : Nat} (hi : l[i]? = some (t, o)) : ∃ f, fs[i]? = some f ∧ f.type = t ∧ f.offset = o := by
  rw [← h, List.getElem?_map] at hi
  cases hf : fs.toList[i]? with
  | none => rw [hf] at hi; cases hi
  | some f =>
    rw [hf] at hi
    simp only [Option.map_some, Option.some.injEq, Prod.mk.injEq] at hi
    exact ⟨f, by simpa using hf, hi.1, hi.2⟩
theorem trod_spot {fuel : Nat} {cs : List Value} {x : DataW H × List MemPlace} (h : DataW.trod enc Tryz.prog w base spare held fuel 37 cs = some x) : ∃ y : Spot, cs = y.cells := by
  obtain ⟨fs, hu, hf, hc⟩ := spot_und
  obtain ⟨xs, n, _, _, hlen, hxl, hat⟩ := DataW.trod_struct hu h
  rw [hc] at hlen
  have hsz : fs.size = 3 := by have := congrArg List.length hf; simpa using this
  obtain ⟨f0, e0, t0, o0⟩ := field_at hf (i := 0) rfl
  obtain ⟨f1, e1, t1, o1⟩ := field_at hf (i := 1) rfl
  obtain ⟨f2, e2, t2, o2⟩ := field_at hf (i := 2) rfl
  have h0 := hat 0 f0 e0
  have h1 := hat 1 f1 e1
  have h2 := hat 2 f2 e2
  rw [t0, o0, cells_int, List.getElem?_eq_getElem (by omega)] at h0
  rw [t1, o1, cells_int, List.getElem?_eq_getElem (by omega)] at h1
  rw [t2, o2, cells_string, List.getElem?_eq_getElem (by omega)] at h2
  obtain ⟨a, ha, _⟩ := DataW.trod_int Tryz.underlying3 h0
  obtain ⟨b, hb, _⟩ := DataW.trod_int Tryz.underlying3 h1
  obtain ⟨s, hs, _⟩ := DataW.trod_string Tryz.underlying9 h2
  match cs, hlen with
  | [c0, c1, c2], _ =>
    simp at ha hb hs
    exact ⟨⟨a, b, s⟩, by rw [ha, hb, hs]; rfl⟩
theorem trod_change {fuel : Nat} {cs : List Value} {x : DataW H × List MemPlace} (h : DataW.trod enc Tryz.prog w base spare held fuel 40 cs = some x) : ∃ y : Change, cs = y.cells := by
  obtain ⟨fs, hu, hf, hc⟩ := change_und
  obtain ⟨_, _, _, hc3⟩ := spot_und
  obtain ⟨xs, n, _, _, hlen, hxl, hat⟩ := DataW.trod_struct hu h
  rw [hc] at hlen
  have hsz : fs.size = 3 := by have := congrArg List.length hf; simpa using this
  obtain ⟨f0, e0, t0, o0⟩ := field_at hf (i := 0) rfl
  obtain ⟨f1, e1, t1, o1⟩ := field_at hf (i := 1) rfl
  obtain ⟨f2, e2, t2, o2⟩ := field_at hf (i := 2) rfl
  have h0 := hat 0 f0 e0
  have h1 := hat 1 f1 e1
  have h2 := hat 2 f2 e2
  rw [t0, o0, cells_int, List.getElem?_eq_getElem (by omega)] at h0
  rw [t1, o1, cells_int, List.getElem?_eq_getElem (by omega)] at h1
  rw [t2, o2, hc3, List.getElem?_eq_getElem (by omega)] at h2
  obtain ⟨a, ha, _⟩ := DataW.trod_int Tryz.underlying3 h0
  obtain ⟨b, hb, _⟩ := DataW.trod_int Tryz.underlying3 h1
  obtain ⟨y, hy⟩ := trod_spot h2
  match cs, hlen with
  | [c0, c1, c2, c3, c4], _ =>
    simp at ha hb hy
    refine ⟨⟨a, b, y⟩, ?_⟩
    rw [ha, hb]
    show _ = Value.int .i64 a :: Value.int .i64 b :: y.cells
    rw [← hy]

/-- The end of a row's proof: the call has only laid new blocks. -/
theorem post_below {P : Program} {f : Func} {s : ChangeSpec} {apart fresh handsOn again : Bool} {W W' : World} {args : Array Value} {v : Value} {ds gs : List (DataW H)} {before pa pv : List MemPlace}
    (hW : DataW.Whole enc P f.params.toList s.vars apart W args.toList ds gs before)
    (hres : ∀ (b : Nat) (sp : Nat → Bool) (hd : Bool), DataW.TrodAll enc P W' b sp hd f.resultTypes.toList (v.resultList f.resultTypes.size) (s.fn H (ds ++ gs)).results [])
    (hargs : ∀ sp : Nat → Bool, (∀ p ∈ before, sp p.block = true) → DataW.TrodAll enc P W' 0 sp true f.params.toList args.toList (s.fn H (ds ++ gs)).args pa)
    (hvars : ∀ sp : Nat → Bool, (∀ p ∈ before, sp p.block = true) → DataW.TrodVars enc P W' sp s.vars (s.fn H (ds ++ gs)).vars pv)
    (hps : before = pa ++ pv) (hb : Below W.heap.size W W')
    (hok : ∀ (j : Nat) (t : TypeId) (r : Value), f.resultTypes[j]? = some t → (v.resultList f.resultTypes.size)[j]? = some r → Value.okWide P W' .any 0 t r) :
    s.post enc P f apart fresh handsOn again W args v W' := by
  have hlt : ∀ p ∈ before, p.block < W.heap.size := fun p hp => hW.lt p hp
  have hold : ∀ p ∈ before, (fun b => decide (b < W.heap.size)) p.block = true := fun p hp => by simpa using hlt p hp
  refine ⟨ds, gs, before, [], pa, pv, hW, hres _ _ _, hargs _ hold, hvars _ hold, World.keptBut_mono (fun p hp => ⟨hp, ?_⟩) (hb.frame (· ∈ before)), fun _ => ?_⟩
  · rw [hps, List.mem_append] at hp
    exact Or.inr hp
  · obtain ⟨_, _, _, _, _, hz, hn⟩ := hW
    refine ⟨hok, _, _, ([] ++ pa) ++ pv, ⟨[] ++ pa, pv, trodAll_append (hargs _ (fun _ _ => rfl)) (hres _ _ _), hvars _ (fun _ _ => rfl), rfl, ?_, ?_⟩, ?_⟩
    · intro b off hp
      have hin : MemPlace.cell b off ∈ before := by rw [hps]; simpa using hp
      rw [hb.frozen (hlt _ hin)]
      exact hz b off hin
    · intro ha
      have := hn ha
      rw [hps] at this
      simpa using this
    · intro p hp _
      rw [hps]
      simpa using hp

/-- A slice whose elements each read as s cells. -/
theorem open_rows {α : Type} (f : α → List Value) (s : Nat) (d0 : α) {t e : TypeId} (ht : Tryz.prog.underlying t = some (.slice e)) (hs : Tryz.prog.cellsOf e = s) (hs0 : 0 < s) (hf : ∀ y, (f y).length = s)
    (hel : ∀ (fuel : Nat) (cs : List Value) (x : DataW H × List MemPlace), DataW.trod enc Tryz.prog w 0 spare held fuel e cs = some x → ∃ y : α, cs = f y)
    {fuel : Nat} {cs : List Value} {x : DataW H × List MemPlace} (h : DataW.trod enc Tryz.prog w 0 spare held fuel t cs = some x) :
    ∃ (A : Option Addr) (cp : Nat) (l : List α), cs = [.slice A l.length cp] ∧ Rd w A (l.flatMap f) ∧ (A = none → l = []) ∧ l.length ≤ maxLen := by
  rcases open_slice ht h with ⟨rfl, _⟩ | ⟨a, len, cap, m, n, D, Pl, rfl, _, hl, hm, hmm, _, hi⟩
  · exact ⟨none, 0, [], rfl, Rd.nil _ _, fun _ => rfl, Nat.zero_le _⟩
  · have hlm : len ≤ m := by rw [hmm]; split <;> omega
    have each : ∀ i, i < len → ∃ y : α, ∀ j u, (f y)[j]? = some u → w.cell? (a.add (i * s + j)) = some u := by
      intro i hil
      obtain ⟨cs', hc, htr⟩ := hi i (by omega)
      obtain ⟨y, rfl⟩ := hel _ _ _ htr
      refine ⟨y, fun j u hu => ?_⟩
      rw [hs] at hc
      obtain ⟨_, hcl, hat⟩ := World.cells?_some hc
      have hj : j < s := by rw [← hf y]; exact (List.getElem?_eq_some_iff.1 hu).1
      rw [← Go.Deep.add_add, hat j hj, hu]
    refine ⟨some a, cap, (List.range len).map (fun i => if h : i < len then Classical.choose (each i h) else d0), by rw [List.length_map, List.length_range], ?_, (fun h => by cases h), by rw [List.length_map, List.length_range]; omega⟩
    rcases Nat.eq_zero_or_pos len with rfl | hpos
    · exact .inl (by simp)
    · have hsp : a.spot = none ∧ a.block < w.heap.size := by
        obtain ⟨y0, h0⟩ := each 0 hpos
        have hl0 : 0 < (f y0).length := by rw [hf]; exact hs0
        have := h0 0 _ (List.getElem?_eq_getElem hl0)
        rw [Nat.zero_mul, Nat.zero_add] at this
        have hc : w.cell? a = some _ := this
        refine ⟨?_, lt_cell hc⟩
        unfold World.cell? at hc
        split at hc
        · split at hc
          · cases hc
          · rename_i hn; simpa using hn
        · cases hc
      obtain ⟨b, off, sp⟩ := a
      obtain ⟨rfl, hb⟩ := hsp
      refine .inr ⟨b, off, rfl, hb, fun j u hu => ?_⟩
      have hj : j < len * s := by
        have := (List.getElem?_eq_some_iff.1 hu).1
        rwa [flat_len f s hf, List.length_map, List.length_range] at this
      have hk : j / s < len := by rw [Nat.div_lt_iff_lt_mul hs0]; exact hj
      have hjs : j % s < s := Nat.mod_lt _ hs0
      have e : j / s * s + j % s = j := by rw [Nat.mul_comm]; exact Nat.div_add_mod j s
      have hg := flat_get f s hf ((List.range len).map (fun i => if h : i < len then Classical.choose (each i h) else d0)) (j / s) (j % s) (by simpa using hk) hjs
      rw [e, hu, List.getElem_map, List.getElem_range, dif_pos hk] at hg
      have := Classical.choose_spec (each (j / s) hk) (j % s) u hg.symm
      rw [e] at this
      unfold Addr.add at this
      split at this
      · rename_i h0; subst h0; exact this
      · exact this
end
end Go.Proofs.YtfbhfimejcdopaaGreatDoor

/- Cards: arguments that are only read, all at once. -/
namespace Go.Proofs.YtfbhfimejcdopaaGreatDoor
open Go.RowKit Go.Han Go.ChangeShapes Go.WideShapes Go.ChangeAt Go.Deep
set_option maxRecDepth 100000
theorem laid_out : laidOutB Tryz.prog = true := by kernel_rfl
theorem witness_laid (os : Os) (args : Array Value) : laidMetH Tryz.prog laidL ((World.laidAll Tryz.prog os laidL).forCall (fun _ _ => 0) ⟨#[], args, []⟩).memory := by
  rw [MakeChecks.laidMetH_plain _ _ _ (by kernel_rfl)]
  exact laidMet_laidAll _ (by kernel_rfl) (by kernel_rfl)
section
variable {H : Type} {enc : TypeId × Value → H} {P : Program} {w : World} {base : Nat} {spare : Nat → Bool} {held : Bool}
theorem trodAll_below (hl : laidOutB P = true) {W W' : World} (hb : Below W.heap.size W W') {sp : Nat → Bool} : ∀ {ts : List TypeId} {vs : List Value} {ds : List (DataW H)} {ps : List MemPlace}, (ts.all fun t => P.readableRec t && decide (t < P.types.size)) = true →
    DataW.TrodAll enc P W 0 (fun _ => true) true ts vs ds ps → (∀ x ∈ ps, x.block < W.heap.size) → (∀ x ∈ ps, sp x.block = true) → DataW.TrodAll enc P W' 0 sp true ts vs ds ps
  | [], vs, ds, ps, _, h, _, _ => by
    obtain ⟨rfl, rfl, rfl⟩ := trodAll_nil h
    exact trodAll_mk0
  | t :: ts, vs, ds, ps, hr, h, hlt, hsp => by
    simp only [List.all_cons, Bool.and_eq_true, decide_eq_true_eq] at hr
    obtain ⟨v, vs', d, ds', p, q, rfl, rfl, rfl, hd, hrest⟩ := trodAll_cons h
    exact trodAll_cons_mk (WideElems.Trod_stays hl hr.1.1 hr.1.2 hd (fun x hx => hb.same (hlt x (by simp [hx]))) (fun x hx => hsp x (by simp [hx])))
      (trodAll_below hl hb hr.2 hrest (fun x hx => hlt x (by simp [hx])) (fun x hx => hsp x (by simp [hx])))
theorem args_two {t0 t1 : TypeId} {args : Array Value} {ds : List (DataW H)} {ps : List MemPlace} (h : DataW.TrodAll enc P w base spare held [t0, t1] args.toList ds ps) :
    ∃ v0 v1 d0 d1 p0 p1, args = #[v0, v1] ∧ ds = [d0, d1] ∧ DataW.Trod enc P w base spare held t0 v0 d0 p0 ∧ DataW.Trod enc P w base spare held t1 v1 d1 p1 := by
  obtain ⟨v0, s0, d0, e0, p0, q0, hargs, rfl, rfl, h0, r0⟩ := trodAll_cons h
  obtain ⟨v1, s1, d1, e1, p1, q1, rfl, rfl, rfl, h1, r1⟩ := trodAll_cons r0
  obtain ⟨rfl, rfl, rfl⟩ := trodAll_nil r1
  exact ⟨v0, v1, d0, d1, p0, p1, by cases args; simp_all, rfl, h0, h1⟩
theorem args_three {t0 t1 t2 : TypeId} {args : Array Value} {ds : List (DataW H)} {ps : List MemPlace} (h : DataW.TrodAll enc P w base spare held [t0, t1, t2] args.toList ds ps) :
    ∃ v0 v1 v2 d0 d1 d2 p0 p1 p2, args = #[v0, v1, v2] ∧ ds = [d0, d1, d2] ∧ DataW.Trod enc P w base spare held t0 v0 d0 p0 ∧ DataW.Trod enc P w base spare held t1 v1 d1 p1 ∧ DataW.Trod enc P w base spare held t2 v2 d2 p2 := by
  obtain ⟨v0, s0, d0, e0, p0, q0, hargs, rfl, rfl, h0, r0⟩ := trodAll_cons h
  obtain ⟨v1, s1, d1, e1, p1, q1, rfl, rfl, rfl, h1, r1⟩ := trodAll_cons r0
  obtain ⟨v2, s2, d2, e2, p2, q2, rfl, rfl, rfl, h2, r2⟩ := trodAll_cons r1
  obtain ⟨rfl, rfl, rfl⟩ := trodAll_nil r2
  exact ⟨v0, v1, v2, d0, d1, d2, p0, p1, p2, by cases args; simp_all, rfl, h0, h1, h2⟩
theorem args_four {t0 t1 t2 t3 : TypeId} {args : Array Value} {ds : List (DataW H)} {ps : List MemPlace} (h : DataW.TrodAll enc P w base spare held [t0, t1, t2, t3] args.toList ds ps) :
    ∃ v0 v1 v2 v3 d0 d1 d2 d3 p0 p1 p2 p3, args = #[v0, v1, v2, v3] ∧ ds = [d0, d1, d2, d3] ∧ DataW.Trod enc P w base spare held t0 v0 d0 p0 ∧ DataW.Trod enc P w base spare held t1 v1 d1 p1 ∧ DataW.Trod enc P w base spare held t2 v2 d2 p2 ∧ DataW.Trod enc P w base spare held t3 v3 d3 p3 := by
  obtain ⟨v0, s0, d0, e0, p0, q0, hargs, rfl, rfl, h0, r0⟩ := trodAll_cons h
  obtain ⟨v1, s1, d1, e1, p1, q1, rfl, rfl, rfl, h1, r1⟩ := trodAll_cons r0
  obtain ⟨v2, s2, d2, e2, p2, q2, rfl, rfl, rfl, h2, r2⟩ := trodAll_cons r1
  obtain ⟨v3, s3, d3, e3, p3, q3, rfl, rfl, rfl, h3, r3⟩ := trodAll_cons r2
  obtain ⟨rfl, rfl, rfl⟩ := trodAll_nil r3
  exact ⟨v0, v1, v2, v3, d0, d1, d2, d3, p0, p1, p2, p3, by cases args; simp_all, rfl, h0, h1, h2, h3⟩
theorem args_six {t0 t1 t2 t3 t4 t5 : TypeId} {args : Array Value} {ds : List (DataW H)} {ps : List MemPlace} (h : DataW.TrodAll enc P w base spare held [t0, t1, t2, t3, t4, t5] args.toList ds ps) :
    ∃ v0 v1 v2 v3 v4 v5 d0 d1 d2 d3 d4 d5 p0 p1 p2 p3 p4 p5, args = #[v0, v1, v2, v3, v4, v5] ∧ ds = [d0, d1, d2, d3, d4, d5] ∧ DataW.Trod enc P w base spare held t0 v0 d0 p0 ∧ DataW.Trod enc P w base spare held t1 v1 d1 p1 ∧ DataW.Trod enc P w base spare held t2 v2 d2 p2 ∧ DataW.Trod enc P w base spare held t3 v3 d3 p3 ∧ DataW.Trod enc P w base spare held t4 v4 d4 p4 ∧ DataW.Trod enc P w base spare held t5 v5 d5 p5 := by
  obtain ⟨v0, s0, d0, e0, p0, q0, hargs, rfl, rfl, h0, r0⟩ := trodAll_cons h
  obtain ⟨v1, s1, d1, e1, p1, q1, rfl, rfl, rfl, h1, r1⟩ := trodAll_cons r0
  obtain ⟨v2, s2, d2, e2, p2, q2, rfl, rfl, rfl, h2, r2⟩ := trodAll_cons r1
  obtain ⟨v3, s3, d3, e3, p3, q3, rfl, rfl, rfl, h3, r3⟩ := trodAll_cons r2
  obtain ⟨v4, s4, d4, e4, p4, q4, rfl, rfl, rfl, h4, r4⟩ := trodAll_cons r3
  obtain ⟨v5, s5, d5, e5, p5, q5, rfl, rfl, rfl, h5, r5⟩ := trodAll_cons r4
  obtain ⟨rfl, rfl, rfl⟩ := trodAll_nil r5
  exact ⟨v0, v1, v2, v3, v4, v5, d0, d1, d2, d3, d4, d5, p0, p1, p2, p3, p4, p5, by cases args; simp_all, rfl, h0, h1, h2, h3, h4, h5⟩
theorem agg_cells {cs : Array Value} {l : List Value} (h : (Value.agg cs).cells.toList = l) : Value.agg cs = .agg l.toArray := by
  have : cs.toList = l := by simpa [Value.cells] using h
  rw [← this]
end
end Go.Proofs.YtfbhfimejcdopaaGreatDoor
