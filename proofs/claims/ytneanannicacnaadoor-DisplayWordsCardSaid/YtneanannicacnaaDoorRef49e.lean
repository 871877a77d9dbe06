/- The reference's package of displays: Do. -/
import Derived.Test.YtneanannicacnaaDoorRef49d
namespace Go.Proofs.YtneanannicacnaaDoor
open Go.RowKit Go.Han
attribute [local irreducible] wpStill wpQuiet
set_option maxRecDepth 100000

/-- What the reference's loop makes of the rest of a display. -/
def goR (c : Change) : Bool → List Spot → List Spot
  | done, [] => if done then [] else [c.spot]
  | done, x :: l => (if !done && decide (c.spot.id ≤ x.id) then [c.spot] else []) ++ ((if x.id = c.spot.id then [] else [x]) ++ goR c (done || decide (c.spot.id ≤ x.id)) l)

theorem goR_cons (c : Change) (d : Bool) (x : Spot) (l : List Spot) : goR c d (x :: l) = (if !d && decide (c.spot.id ≤ x.id) then [c.spot] else []) ++ ((if x.id = c.spot.id then [] else [x]) ++ goR c (d || decide (c.spot.id ≤ x.id)) l) := rfl
theorem goR_hi (c : Change) : ∀ (l : List Spot), (∀ x ∈ l, c.spot.id < x.id) → goR c true l = l
  | [], _ => rfl
  | x :: l, h => by
    have h1 := h x (List.mem_cons_self ..)
    have h2 : ¬ x.id = c.spot.id := by omega
    rw [goR_cons, Bool.true_or, goR_hi c l (fun y hy => h y (List.mem_cons_of_mem _ hy))]
    simp [h2]
theorem goR_lo (c : Change) (q : List Spot) : ∀ (l : List Spot) (d : Bool), (∀ x ∈ l, x.id < c.spot.id) → goR c d (l ++ q) = l ++ goR c d q
  | [], d, _ => by simp
  | x :: l, d, h => by
    have h1 := h x (List.mem_cons_self ..)
    have h2 : ¬ x.id = c.spot.id := by omega
    have h3 : decide (c.spot.id ≤ x.id) = false := by simp; omega
    rw [List.cons_append, goR_cons, h3, Bool.or_false, goR_lo c q l d (fun y hy => h y (List.mem_cons_of_mem _ hy))]
    simp [h2]
theorem goR_made (c : Change) (l : List Spot) (hs : Asc l) (hf : fitsB c l = true) : madeL c l = goR c (c.kind == 2) l := by
  obtain ⟨lo, hi, o, h⟩ := split_at c.spot.id l hs
  rw [h.fits] at hf
  rw [h.made hf, h.eq, goR_lo c _ lo _ h.lo]
  congr 1
  have hh := goR_hi c hi h.hi
  rcases fitsG_cases hf with ⟨c1, rfl⟩ | ⟨c2, rfl⟩ | ⟨c1, c2, y, rfl, _⟩
  · have e : (c.kind == 2) = false := by simp; omega
    have m : madeG c = some c.spot := by unfold madeG; rw [if_neg (by omega)]
    rw [e, m]
    cases hi with
    | nil => rfl
    | cons x t =>
      have h1 := h.hi x (List.mem_cons_self ..)
      have h2 := goR_hi c t (fun y hy => h.hi y (List.mem_cons_of_mem _ hy))
      have h3 : decide (c.spot.id ≤ x.id) = true := by simp; omega
      have h4 : ¬ x.id = c.spot.id := by omega
      show c.spot :: x :: t = goR c false (x :: t)
      rw [goR_cons, h3, Bool.false_or, h2]
      simp [h4]
  · have e : (c.kind == 2) = true := by simp [c2]
    have m : madeG c = none := by unfold madeG; rw [if_pos c2]
    rw [e, m]
    show hi = goR c true (c.spot :: hi)
    rw [goR_cons, Bool.true_or, hh]
    simp
  · have e : (c.kind == 2) = false := by simpa using c2
    have m : madeG c = some c.spot := by unfold madeG; rw [if_neg c2]
    have hy := h.at_ y rfl
    have h3 : decide (c.spot.id ≤ y.id) = true := by simp; omega
    rw [e, m]
    show c.spot :: hi = goR c false (y :: hi)
    rw [goR_cons, h3, Bool.false_or, hh]
    simp [hy]
theorem goR_drop (c : Change) (d : Bool) (l : List Spot) (k : Nat) (h : k < l.length) : goR c d (l.drop k) = (if !d && decide (c.spot.id ≤ l[k].id) then [c.spot] else []) ++ ((if l[k].id = c.spot.id then [] else [l[k]]) ++ goR c (d || decide (c.spot.id ≤ l[k].id)) (l.drop (k + 1))) := by
  rw [List.drop_eq_getElem_cons h]; rfl
theorem cells_new (w : World) (cs : List Value) (t : Nat) : ∀ (j : Nat) (u : Value), cs[j]? = some u → (w.alloc (.cells cs.toArray t)).cell? ((⟨w.heap.size, 0, none⟩ : Addr).add j) = some u := by
  intro j u hu
  rw [show (⟨w.heap.size, 0, none⟩ : Addr).add j = ⟨w.heap.size, j, none⟩ from by unfold Addr.add; split <;> simp_all, cell_alloc_any]
  simpa using hu
theorem cells_new_d (w : World) (cs : List Value) (t : Nat) : ∀ (j : Nat) (u : Value), cs[j]? = some u → (w.alloc (.cells cs.toArray t)).drew.cell? ((⟨w.heap.size, 0, none⟩ : Addr).add j) = some u := fun j u hu => cells_new w cs t j u hu
theorem spot_one (x : Spot) : ∀ u ∈ x.cells, u.oneCell' = true := by
  intro u hu
  simp [Spot.cells] at hu
  rcases hu with rfl | rfl | rfl <;> rfl

theorem own_drawn {wr wq : World} {base : Nat} {v : Value} {pre : List Spot} (h : Own wr base v pre) (e : ({ heap := wr.heap, tape := wr.tape, drawn := wr.drawn + 1, os := wr.os, output := wr.output } : World) = wq) : Own wq base v pre := by
  subst e; exact h.drew
theorem bnd_len {n : Nat} (h : n ≤ 3000) : n + 1 ≤ maxLen := by unfold maxLen; omega
theorem bnd_bytes {n : Nat} (h : n ≤ 3000) : (n + 1) * 32 ≤ 140737488355328 := by omega
theorem own_snoc {w : World} {base : Nat} {v : Value} {pre : List Spot} (x : Spot) (h : w.ownsRow base 24 3 v (pre.length + 1) (flat pre ++ x.cells)) : Own w base v (pre ++ [x]) := by
  unfold Own
  simpa [flat] using h
/-- In the loop: what has been made, and what is still to come. -/
def DoInv (c : Change) (l : List Spot) (base : Nat) (W0 : World) (out done i : Value) (wr : World) : Prop :=
  ∃ (k : Nat) (d : Bool) (pre : List Spot), k ≤ l.length ∧ i = .int .i64 k ∧ done = .bool d ∧ Own wr base out pre ∧ Below W0.heap.size W0 wr ∧ madeL c l = pre ++ goR c d (l.drop k) ∧ pre.length ≤ 2 * k

set_option maxHeartbeats 1000000 in
theorem do49_any (A : Option Addr) (cp : Nat) (l : List Spot) (c : Change) (w : World) (hr : Rd w A (flat l)) (hm : l.length ≤ 9223372036854775807) :
    Calls Tryd.prog 18 #[.slice A l.length cp, c.val] w (DoPost l c w) := by
  obtain ⟨i0, z, hi0, iz0, is0, ib0, izs⟩ := parts_spot
  obtain ⟨t, kd, ⟨i, vr, s⟩⟩ := c
  have hv : Change.val ⟨t, kd, ⟨i, vr, s⟩⟩ = .agg #[.int .i64 t, .int .i64 kd, .int .i64 i, .int .i64 vr, .string s] := rfl
  obtain ⟨cc, hcc⟩ : ∃ cc : Change, cc = ⟨t, kd, ⟨i, vr, s⟩⟩ := ⟨_, rfl⟩
  have hck : cc.kind = kd := by rw [hcc]
  have hcs : cc.spot = ⟨i, vr, s⟩ := by rw [hcc]
  have crc := Lib.hid (fun w => rightc49_any ⟨t, kd, ⟨i, vr, s⟩⟩ w)
  have cft := Lib.hid (fun w hr => fits49_any A cp l ⟨t, kd, ⟨i, vr, s⟩⟩ w hr hm)
  rw [← hcc] at crc cft hv ⊢
  rw [hv] at crc cft ⊢
  obtain ⟨W0, hW0⟩ : ∃ W0, w.alloc (.cells #[.int .i64 t, .int .i64 kd, .int .i64 i, .int .i64 vr, .string s] 26) = W0 := ⟨_, rfl⟩
  have hB0 : Below w.heap.size w W0 := by rw [← hW0]; exact (Below.refl _ _).alloc (Nat.le_refl _) _
  have hz0 : W0.heap.size = w.heap.size + 1 := by rw [← hW0]; simp
  have c0 : W0.cell? ⟨w.heap.size, 0, none⟩ = some (.int .i64 t) := by rw [← hW0]; simp [go_sem]
  have c1 : W0.cell? ⟨w.heap.size, 1, none⟩ = some (.int .i64 kd) := by rw [← hW0]; simp [go_sem]
  have c2 : W0.cell? ⟨w.heap.size, 2, none⟩ = some (.int .i64 i) := by rw [← hW0]; simp [go_sem]
  have c3 : W0.cell? ⟨w.heap.size, 3, none⟩ = some (.int .i64 vr) := by rw [← hW0]; simp [go_sem]
  have c4 : W0.cell? ⟨w.heap.size, 4, none⟩ = some (.string s) := by rw [← hW0]; simp [go_sem]
  have hk5 : Hid (∀ W, Below W0.heap.size W0 W → W.cell? ⟨w.heap.size, 0, none⟩ = some (.int .i64 t) ∧ W.cell? ⟨w.heap.size, 1, none⟩ = some (.int .i64 kd) ∧ W.cell? ⟨w.heap.size, 2, none⟩ = some (.int .i64 i) ∧ W.cell? ⟨w.heap.size, 3, none⟩ = some (.int .i64 vr) ∧ W.cell? ⟨w.heap.size, 4, none⟩ = some (.string s)) := fun W hb =>
    ⟨(hb.cell (p := ⟨w.heap.size, 0, none⟩) (by simp; omega)).trans c0, (hb.cell (p := ⟨w.heap.size, 1, none⟩) (by simp; omega)).trans c1, (hb.cell (p := ⟨w.heap.size, 2, none⟩) (by simp; omega)).trans c2, (hb.cell (p := ⟨w.heap.size, 3, none⟩) (by simp; omega)).trans c3, (hb.cell (p := ⟨w.heap.size, 4, none⟩) (by simp; omega)).trans c4⟩
  have Hcc := Lib.hid hcc
  have Hck := Lib.hid hck
  have Hcs := Lib.hid hcs
  clear hcc hck hcs hv c0 c1 c2 c3 c4
  go_enter Tryd.func18, Tryd.ntmps18
  go_wp2_with fail
  refine (check49_any A cp l W0 (hr.ext hB0) hm).mono ?_
  rintro e w1 ⟨rfl, hb1⟩
  have hB1 := ext_trans hB0 hb1
  by_cases hc : checkE l = 0
  · have hasc := (checkE_zero hc).2
    have hlen := (checkE_zero hc).1
    have HC := Lib.hid hc
    have Hasc := Lib.hid hasc
    rw [hc]
    clear hc hasc
    obtain ⟨d0, d1, d2, d3, d4⟩ := hk5.out w1 hb1
    go_wp2_with fail
    refine (crc.out w1).mono ?_
    rintro e w2 ⟨rfl, hb2⟩
    have hb02 := ext_trans hb1 hb2
    have hB2 := ext_trans hB1 hb2
    clear d0 d1 d2 d3 d4
    obtain ⟨d0, d1, d2, d3, d4⟩ := hk5.out w2 hb02
    cases hok : cc.ok
    · have hd : Hid (doE l cc = 490) := by show _ = _; unfold doE; rw [HC.out, hok]; rfl
      clear hok
      go_wp2_with fail
      go_ret2
      exact ⟨hB2, .inl ⟨by rw [hd.out]; decide, by rw [hd.out]; rfl⟩⟩
    · have Hok := Lib.hid hok
      clear hok
      go_wp2_with fail
      refine (cft.out w2 (hr.ext hB2)).mono ?_
      rintro e w3 ⟨rfl, hb3⟩
      have hb03 := ext_trans hb02 hb3
      have hB3 := ext_trans hB2 hb3
      rw [← fits_get Hasc.out]
      clear d0 d1 d2 d3 d4
      obtain ⟨d0, d1, d2, d3, d4⟩ := hk5.out w3 hb03
      cases hft : fitsB cc l
      · have hd : Hid (doE l cc = 490) := by show _ = _; unfold doE; rw [HC.out, Hok.out, hft]; rfl
        clear hft
        go_wp2_with fail
        go_ret2
        exact ⟨hB3, .inl ⟨by rw [hd.out]; decide, by rw [hd.out]; rfl⟩⟩
      · have Hft := Lib.hid hft
        have hml := made_len Hasc.out hft
        have Hgo := Lib.hid (goR_made cc l Hasc.out hft)
        have HE : Hid (doE l cc = if 1024 < (madeL cc l).length then 2 else 0) := by show _ = _; unfold doE; rw [HC.out, Hok.out, hft]; rfl
        clear hft
        by_cases hbig : kd = 1 ∧ l.length = 1024
        · obtain ⟨hk1, hl1⟩ := hbig
          have hd : Hid (doE l cc = 2) := by
            show _ = _
            rw [HE.out, hml, Hck.out, if_pos hk1, if_pos (by omega)]
          have e1 : (kd == 1) = true := by simpa using hk1
          have e2 : ((l.length : Int) == 1024) = true := by simp; omega
          clear hml hk1 hl1
          go_wp2_with fail
          go_ret2
          exact ⟨hB3, .inl ⟨by rw [hd.out]; decide, by rw [hd.out]; rfl⟩⟩
        · have hd : Hid (doE l cc = 0) := by
            show _ = _
            rw [HE.out, hml, Hck.out, if_neg]
            split
            · omega
            · split <;> omega
          have hgo := Hgo.out
          rw [Hck.out] at hgo
          have HG := Lib.hid hgo
          have hnb : ((kd == 1) && ((l.length : Int) == 1024)) = false := by
            rw [Bool.and_eq_false_iff]
            by_cases h : kd = 1
            · right; simp; omega
            · left; simpa using h
          have hBz := hB3.size
          have hBz0 := hb03.size
          have hlt0 : w.heap.size < w3.heap.size := by omega
          have hmade : ∀ (W : World) (v : Value), Below W0.heap.size W0 W → Own W W0.heap.size v (madeL cc l) → DoPost l cc w (.returned (.tuple #[v, .int .i64 0])) W := fun W v hb ho => ⟨(hB0.trans (hb.mono (by omega))), .inr ⟨hd.out, v, rfl, own_base ho (by omega)⟩⟩
          have Hmade := Lib.hid hmade
          clear hml hbig hgo Hgo HE hmade
          have hcase : (kd == 1) = false ∨ ((kd == 1) = true ∧ ((l.length : Int) == 1024) = false) := by
            cases h : (kd == 1)
            · exact .inl rfl
            · rw [h, Bool.true_and] at hnb; exact .inr ⟨rfl, hnb⟩
          clear hnb
          rcases hcase with e1 | ⟨e1, e2⟩
          all_goals
            go_wp2_with fail
            go_loopw [7, 8, 9] (fun out done i wr => DoInv cc l W0.heap.size W0 out done i wr) (fun _ _ i _ => l.length - (intOf i).toNat)
            case atStart => exact ⟨0, _, [], Nat.zero_le _, rfl, rfl, World.ownsRow_made w3 #[] 0 (by omega) (Nat.zero_le _) rfl, hb03.alloc hBz0 _, HG.out, Nat.zero_le _⟩
            case round =>
              obtain ⟨k, d, pre, hk, rfl, rfl, hown, hB, hmd, hpl⟩ := hrel
              have Hmd := Lib.hid hmd
              have hz := hB.size
              obtain ⟨d0, d1, d2, d3, d4⟩ := hk5.out wr hB
              clear hmd
              by_cases hlt : k < l.length
              · obtain ⟨b, off, rfl, hb, hc⟩ := hr.elem Spot.size_cells (by omega) hlt
                have hlk : Hid (∀ W, Below W0.heap.size W0 W → W.cell? ⟨b, off + k * 3, none⟩ = some (.int .i64 l[k].id) ∧ W.cell? ⟨b, off + k * 3 + 1, none⟩ = some (.int .i64 l[k].ver) ∧ W.cell? ⟨b, off + k * 3 + 2, none⟩ = some (.string l[k].text)) := fun W hbW =>
                  ⟨((ext_trans hB0 hbW).cell (p := ⟨b, off + k * 3, none⟩) hb).trans (hc 0 _ rfl), ((ext_trans hB0 hbW).cell (p := ⟨b, off + k * 3 + 1, none⟩) hb).trans (hc 1 _ rfl), ((ext_trans hB0 hbW).cell (p := ⟨b, off + k * 3 + 2, none⟩) hb).trans (hc 2 _ rfl)⟩
                have hdr := goR_drop cc d l k hlt
                rw [Hcs.out] at hdr
                have Hdr := Lib.hid hdr
                clear hdr hc hr
                generalize l[k] = x at *
                obtain ⟨xi, xv, xs⟩ := x
                obtain ⟨x0, x1, x2⟩ := hlk.out wr hB
                have A1 : pre.length + 1 ≤ maxLen := bnd_len (by omega)
                have A2 : (pre.length + 1) * 32 ≤ 140737488355328 := bnd_bytes (by omega)
                have B1 : (pre ++ [(⟨i, vr, s⟩ : Spot)]).length + 1 ≤ maxLen := bnd_len (by rw [List.length_append, List.length_singleton]; omega)
                have B2 : ((pre ++ [(⟨i, vr, s⟩ : Spot)]).length + 1) * 32 ≤ 140737488355328 := bnd_bytes (by rw [List.length_append, List.length_singleton]; omega)
                have A3 : ∀ (W : World) (o : Obj), Below W0.heap.size W0 W → W0.heap.size ≤ (W.alloc o).heap.size := fun W o hb => by have := hb.size; rw [World.size_alloc]; omega
                cases d
                · by_cases hle : i ≤ xi
                  · have g1 : decide (i ≤ xi) = true := by simpa using hle
                    by_cases heq : xi = i
                    · have g2 : (xi != i) = false := by simpa using heq
                      have HN : Hid (madeL cc l = (pre ++ [⟨i, vr, s⟩]) ++ goR cc true (l.drop (k + 1))) := by
                        show _ = _
                        rw [Hmd.out, Hdr.out]
                        simp [heq]
                      go_wp2_with fail
                      go_still (by kernel_rfl)
                      go_wp2_with (at_builtin; refine wpList_append_own _ rfl _ _ 22 rfl W0.heap.size 24 i0 z 3 32 Tryd.underlying22 hi0 iz0 is0 ib0 izs (by decide) _ _ _ rfl ((hown.alloc _).drew) _ _ _ [.int .i64 i, .int .i64 vr, .string s] rfl rfl (cells_new_d _ [.int .i64 i, .int .i64 vr, .string s] _) (spot_one ⟨i, vr, s⟩) A1 A2 (A3 _ _ hB) ?_; intro v5 w5 hown5 hgrow5 _)
                      have hB5 : Below W0.heap.size W0 w5 := ((hB.alloc hz _).drew).grown hgrow5 (A3 _ _ hB) (fun k hk => (hown.lt k hk).1)
                      have hz5 := hB5.size
                      have hs5 := own_snoc ⟨i, vr, s⟩ hown5
                      clear d0 d1 d2 d3 d4 x0 x1 x2
                      obtain ⟨d0, d1, d2, d3, d4⟩ := hk5.out w5 hB5
                      obtain ⟨x0, x1, x2⟩ := hlk.out w5 hB5
                      go_still (by kernel_rfl)
                      go_wp2
                      go_roundw
                      case rel => exact ⟨k + 1, _, _, by omega, by go_num, rfl, hs5.drew, hB5.drew, HN.out, by first | omega | (simp; omega)⟩
                      case measure => simp [intOf]; omega
                    · have g2 : (xi != i) = true := by simpa using heq
                      have HN : Hid (madeL cc l = ((pre ++ [⟨i, vr, s⟩]) ++ [⟨xi, xv, xs⟩]) ++ goR cc true (l.drop (k + 1))) := by
                        show _ = _
                        rw [Hmd.out, Hdr.out]
                        simp [hle, heq]
                      go_wp2_with fail
                      go_still (by kernel_rfl)
                      go_wp2_with (at_builtin; refine wpList_append_own _ rfl _ _ 22 rfl W0.heap.size 24 i0 z 3 32 Tryd.underlying22 hi0 iz0 is0 ib0 izs (by decide) _ _ _ rfl ((hown.alloc _).drew) _ _ _ [.int .i64 i, .int .i64 vr, .string s] rfl rfl (cells_new_d _ [.int .i64 i, .int .i64 vr, .string s] _) (spot_one ⟨i, vr, s⟩) A1 A2 (A3 _ _ hB) ?_; intro v5 w5 hown5 hgrow5 _)
                      have hB5 : Below W0.heap.size W0 w5 := ((hB.alloc hz _).drew).grown hgrow5 (A3 _ _ hB) (fun k hk => (hown.lt k hk).1)
                      have hz5 := hB5.size
                      have hs5 := own_snoc ⟨i, vr, s⟩ hown5
                      clear d0 d1 d2 d3 d4 x0 x1 x2
                      obtain ⟨d0, d1, d2, d3, d4⟩ := hk5.out w5 hB5
                      obtain ⟨x0, x1, x2⟩ := hlk.out w5 hB5
                      go_still (by kernel_rfl)
                      go_wp2_with (at_builtin; refine wpList_append_own _ rfl _ _ 22 rfl W0.heap.size 24 i0 z 3 32 Tryd.underlying22 hi0 iz0 is0 ib0 izs (by decide) _ _ _ rfl ((hs5.alloc _).drew) _ _ _ [.int .i64 xi, .int .i64 xv, .string xs] rfl rfl (cells_new_d _ [.int .i64 xi, .int .i64 xv, .string xs] _) (spot_one ⟨xi, xv, xs⟩) B1 B2 (A3 _ _ hB5) ?_; intro v6 w6 hown6 hgrow6 _)
                      have hB6 : Below W0.heap.size W0 w6 := ((hB5.alloc hz5 _).drew).grown hgrow6 (A3 _ _ hB5) (fun k hk => (hs5.lt k hk).1)
                      go_roundw
                      case rel => exact ⟨k + 1, _, _, by omega, by go_num, rfl, own_snoc ⟨xi, xv, xs⟩ hown6, hB6, HN.out, by first | omega | (simp; omega)⟩
                      case measure => simp [intOf]; omega
                  · have g1 : decide (i ≤ xi) = false := by simpa using hle
                    have heq : ¬ xi = i := by omega
                    have g2 : (xi != i) = true := by simpa using heq
                    have HN : Hid (madeL cc l = (pre ++ [⟨xi, xv, xs⟩]) ++ goR cc false (l.drop (k + 1))) := by
                      show _ = _
                      rw [Hmd.out, Hdr.out]
                      simp [hle, heq]
                    go_wp2_with fail
                    go_still (by kernel_rfl)
                    go_wp2_with fail
                    obtain ⟨wq, hwq⟩ : ∃ wq : World, ({ heap := wr.heap, tape := wr.tape, drawn := wr.drawn + 1, os := wr.os, output := wr.output } : World) = wq := ⟨_, rfl⟩
                    have hBq : Below W0.heap.size W0 wq := by rw [← hwq]; exact hB.drew
                    have hownq := own_drawn hown hwq
                    have hzq := hBq.size
                    rw [hwq]
                    clear hwq d0 d1 d2 d3 d4 x0 x1 x2
                    obtain ⟨d0, d1, d2, d3, d4⟩ := hk5.out wq hBq
                    obtain ⟨x0, x1, x2⟩ := hlk.out wq hBq
                    go_still (by kernel_rfl)
                    go_wp2_with (at_builtin; refine wpList_append_own _ rfl _ _ 22 rfl W0.heap.size 24 i0 z 3 32 Tryd.underlying22 hi0 iz0 is0 ib0 izs (by decide) _ _ _ rfl ((hownq.alloc _).drew) _ _ _ [.int .i64 xi, .int .i64 xv, .string xs] rfl rfl (cells_new_d _ [.int .i64 xi, .int .i64 xv, .string xs] _) (spot_one ⟨xi, xv, xs⟩) A1 A2 (A3 _ _ hBq) ?_; intro v6 w6 hown6 hgrow6 _)
                    have hB6 : Below W0.heap.size W0 w6 := ((hBq.alloc hzq _).drew).grown hgrow6 (A3 _ _ hBq) (fun k hk => (hownq.lt k hk).1)
                    go_roundw
                    case rel => exact ⟨k + 1, _, _, by omega, by go_num, rfl, own_snoc ⟨xi, xv, xs⟩ hown6, hB6, HN.out, by first | omega | (simp; omega)⟩
                    case measure => simp [intOf]; omega
                · by_cases heq : xi = i
                  · have g2 : (xi != i) = false := by simpa using heq
                    have HN : Hid (madeL cc l = (pre) ++ goR cc true (l.drop (k + 1))) := by
                      show _ = _
                      rw [Hmd.out, Hdr.out]
                      simp [heq]
                    go_wp2_with fail
                    go_still (by kernel_rfl)
                    go_wp2_with fail
                    obtain ⟨wq, hwq⟩ : ∃ wq : World, ({ heap := wr.heap, tape := wr.tape, drawn := wr.drawn + 1, os := wr.os, output := wr.output } : World) = wq := ⟨_, rfl⟩
                    have hBq : Below W0.heap.size W0 wq := by rw [← hwq]; exact hB.drew
                    have hownq := own_drawn hown hwq
                    have hzq := hBq.size
                    rw [hwq]
                    clear hwq d0 d1 d2 d3 d4 x0 x1 x2
                    obtain ⟨d0, d1, d2, d3, d4⟩ := hk5.out wq hBq
                    obtain ⟨x0, x1, x2⟩ := hlk.out wq hBq
                    go_still (by kernel_rfl)
                    go_wp2
                    go_roundw
                    case rel => exact ⟨k + 1, _, _, by omega, by go_num, rfl, hownq.drew, hBq.drew, HN.out, by first | omega | (simp; omega)⟩
                    case measure => simp [intOf]; omega
                  · have g2 : (xi != i) = true := by simpa using heq
                    have HN : Hid (madeL cc l = (pre ++ [⟨xi, xv, xs⟩]) ++ goR cc true (l.drop (k + 1))) := by
                      show _ = _
                      rw [Hmd.out, Hdr.out]
                      simp [heq]
                    go_wp2_with fail
                    go_still (by kernel_rfl)
                    go_wp2_with fail
                    obtain ⟨wq, hwq⟩ : ∃ wq : World, ({ heap := wr.heap, tape := wr.tape, drawn := wr.drawn + 1, os := wr.os, output := wr.output } : World) = wq := ⟨_, rfl⟩
                    have hBq : Below W0.heap.size W0 wq := by rw [← hwq]; exact hB.drew
                    have hownq := own_drawn hown hwq
                    have hzq := hBq.size
                    rw [hwq]
                    clear hwq d0 d1 d2 d3 d4 x0 x1 x2
                    obtain ⟨d0, d1, d2, d3, d4⟩ := hk5.out wq hBq
                    obtain ⟨x0, x1, x2⟩ := hlk.out wq hBq
                    go_still (by kernel_rfl)
                    go_wp2_with (at_builtin; refine wpList_append_own _ rfl _ _ 22 rfl W0.heap.size 24 i0 z 3 32 Tryd.underlying22 hi0 iz0 is0 ib0 izs (by decide) _ _ _ rfl ((hownq.alloc _).drew) _ _ _ [.int .i64 xi, .int .i64 xv, .string xs] rfl rfl (cells_new_d _ [.int .i64 xi, .int .i64 xv, .string xs] _) (spot_one ⟨xi, xv, xs⟩) A1 A2 (A3 _ _ hBq) ?_; intro v6 w6 hown6 hgrow6 _)
                    have hB6 : Below W0.heap.size W0 w6 := ((hBq.alloc hzq _).drew).grown hgrow6 (A3 _ _ hBq) (fun k hk => (hownq.lt k hk).1)
                    go_roundw
                    case rel => exact ⟨k + 1, _, _, by omega, by go_num, rfl, own_snoc ⟨xi, xv, xs⟩ hown6, hB6, HN.out, by first | omega | (simp; omega)⟩
                    case measure => simp [intOf]; omega
              · have hm2 := Hmd.out
                rw [show k = l.length by omega, List.drop_length] at hm2
                have A1 : pre.length + 1 ≤ maxLen := bnd_len (by omega)
                have A2 : (pre.length + 1) * 32 ≤ 140737488355328 := bnd_bytes (by omega)
                have A3 : ∀ (W : World) (o : Obj), Below W0.heap.size W0 W → W0.heap.size ≤ (W.alloc o).heap.size := fun W o hb => by have := hb.size; rw [World.size_alloc]; omega
                cases d
                · have HM : Hid (madeL cc l = pre ++ [⟨i, vr, s⟩]) := by show _ = _; rw [hm2, ← Hcs.out]; rfl
                  clear hm2
                  go_wp2_with (at_builtin; refine wpList_append_own _ rfl _ _ 22 rfl W0.heap.size 24 i0 z 3 32 Tryd.underlying22 hi0 iz0 is0 ib0 izs (by decide) _ _ _ rfl (hown.alloc _) _ _ _ [.int .i64 i, .int .i64 vr, .string s] rfl rfl (cells_new _ [.int .i64 i, .int .i64 vr, .string s] _) (spot_one ⟨i, vr, s⟩) A1 A2 (A3 _ _ hB) ?_; intro v6 w6 hown6 hgrow6 _)
                  have hB6 : Below W0.heap.size W0 w6 := (hB.alloc hz _).grown hgrow6 (A3 _ _ hB) (fun k hk => (hown.lt k hk).1)
                  go_ret2
                  exact Hmade.out w6 v6 hB6 (by rw [HM.out]; exact own_snoc ⟨i, vr, s⟩ hown6)
                · have HM : Hid (madeL cc l = pre) := by show _ = _; rw [hm2]; simp [goR]
                  clear hm2
                  go_wp2_with fail
                  go_ret2
                  exact Hmade.out wr _ hB (by rw [HM.out]; exact hown)
  · have hd : Hid (doE l cc = checkE l) := by show _ = _; unfold doE; rw [if_pos hc]
    have e1 : (checkE l == 0) = false := by simpa using hc
    have Hc := Lib.hid hc
    clear hc
    go_wp2_with fail
    go_ret2
    exact ⟨hB1, .inl ⟨by rw [hd.out]; exact Hc.out, by rw [hd.out]; rfl⟩⟩
end Go.Proofs.YtneanannicacnaaDoor
