/- The check of terms, in the package and in the reference; few terms. -/
import Derived.Test.YtneanannicacnaaDoorTerm4
namespace Go.Proofs.YtneanannicacnaaDoor
open Go.RowKit Go.Han
attribute [local irreducible] wpStill wpQuiet
set_option maxRecDepth 100000

def tflat (l : List Term) : List Value := l.flatMap Term.cells
/-- A slice of terms as it lies. -/
structure TermsAt (w : World) (A : Option Addr) (l : List Term) : Prop where
  rd : Rd w A (tflat l)
  lie : ∀ x ∈ l, x.lies w
theorem TermsAt.ext {w w' : World} {A : Option Addr} {l : List Term} (h : TermsAt w A l) (hb : Below w.heap.size w w') : TermsAt w' A l := ⟨h.rd.ext hb, fun x hx => (h.lie x hx).ext hb⟩
theorem TermsAt.nil (w : World) (A : Option Addr) : TermsAt w A [] := ⟨Rd.nil _ _, fun x hx => by cases hx⟩
/-- The k-th term's cells, in every later world. -/
theorem TermsAt.at_ {w : World} {A : Option Addr} {l : List Term} (h : TermsAt w A l) {k : Nat} (hk : k < l.length) : ∃ b off, A = some ⟨b, off, none⟩ ∧ b < w.heap.size ∧
    (∀ (i : Nat) (hi : i < l.length) (W : World), Below w.heap.size w W → W.cell? ⟨b, off + i * 8, none⟩ = some (.int .i64 l[i].no) ∧ W.cell? ⟨b, off + i * 8 + 1, none⟩ = some (.int .i64 l[i].at_) ∧ W.cell? ⟨b, off + i * 8 + 2, none⟩ = some (.int .i64 l[i].known) ∧ W.cell? ⟨b, off + i * 8 + 3, none⟩ = some (.int .i64 l[i].lang) ∧
      W.cell? ⟨b, off + i * 8 + 4, none⟩ = some (.slice l[i].src.addr l[i].src.xs.length l[i].src.cap) ∧ W.cell? ⟨b, off + i * 8 + 5, none⟩ = some (.slice l[i].tgt.addr l[i].tgt.xs.length l[i].tgt.cap) ∧ W.cell? ⟨b, off + i * 8 + 6, none⟩ = some (.string l[i].cat) ∧ W.cell? ⟨b, off + i * 8 + 7, none⟩ = some (.bool l[i].gone)) := by
  obtain ⟨b, off, he, hb, _⟩ := h.rd.elem Term.size_cells (by omega) hk
  refine ⟨b, off, he, hb, fun i hi W hW => ?_⟩
  obtain ⟨b', off', he', _, hc⟩ := h.rd.elem Term.size_cells (by omega) hi
  rw [he] at he'
  cases he'
  have c0 := (hW.cell (p := ⟨b, off + i * 8 + 0, none⟩) hb).trans (hc 0 _ rfl)
  simp only [Nat.add_zero] at c0
  exact ⟨c0, (hW.cell (p := ⟨b, off + i * 8 + 1, none⟩) hb).trans (hc 1 _ rfl), (hW.cell (p := ⟨b, off + i * 8 + 2, none⟩) hb).trans (hc 2 _ rfl), (hW.cell (p := ⟨b, off + i * 8 + 3, none⟩) hb).trans (hc 3 _ rfl), (hW.cell (p := ⟨b, off + i * 8 + 4, none⟩) hb).trans (hc 4 _ rfl), (hW.cell (p := ⟨b, off + i * 8 + 5, none⟩) hb).trans (hc 5 _ rfl), (hW.cell (p := ⟨b, off + i * 8 + 6, none⟩) hb).trans (hc 6 _ rfl), (hW.cell (p := ⟨b, off + i * 8 + 7, none⟩) hb).trans (hc 7 _ rfl)⟩

def chkT : Int → List Term → Bool
  | _, [] => true
  | last, x :: l => x.ok && decide (last < x.no) && chkT x.no l
def checkT (l : List Term) : Int := if 1024 < l.length then 2 else if chkT (-1) l then 0 else 270
def lastT (l : List Term) : Nat → Int
  | 0 => -1
  | k + 1 => match l[k]? with | some x => x.no | none => -1
theorem lastT_succ (l : List Term) (k : Nat) (h : k < l.length) : lastT l (k + 1) = l[k].no := by
  show (match l[k]? with | some x => x.no | none => -1) = _
  rw [List.getElem?_eq_getElem h]
theorem chkT_drop (l : List Term) (k : Nat) (h : k < l.length) (last : Int) : chkT last (l.drop k) = (l[k].ok && decide (last < l[k].no) && chkT l[k].no (l.drop (k + 1))) := by
  rw [List.drop_eq_getElem_cons h]; rfl
theorem ok_no {x : Term} (h : x.ok = true) : 0 ≤ x.no ∧ x.no ≤ 1048576 := by
  unfold Term.ok noB at h
  simp only [Bool.and_eq_true, decide_eq_true_eq] at h
  exact h.1.1.1.1.1

theorem rightT_at (x : Term) (w : World) (hT : Tabs w) (hx : x.lies w) : Calls Tryd.prog 62 #[.agg #[.int .i64 x.no, .int .i64 x.at_, .int .i64 x.known, .int .i64 x.lang, .slice x.src.addr x.src.xs.length x.src.cap, .slice x.tgt.addr x.tgt.xs.length x.tgt.cap, .string x.cat, .bool x.gone]] w fun e w' => e = .returned (.bool x.ok) ∧ Below w.heap.size w w' := rightT_any x w hT hx
theorem rightT27_at (x : Term) (w : World) (hx : x.lies w) : Calls Tryd.prog 68 #[.agg #[.int .i64 x.no, .int .i64 x.at_, .int .i64 x.known, .int .i64 x.lang, .slice x.src.addr x.src.xs.length x.src.cap, .slice x.tgt.addr x.tgt.xs.length x.tgt.cap, .string x.cat, .bool x.gone]] w fun e w' => e = .returned (.bool x.ok) ∧ Below w.heap.size w w' := rightT27_any x w hx

set_option maxHeartbeats 1000000 in
theorem CheckT_any (A : Option Addr) (c : Nat) (l : List Term) (w : World) (hT : Tabs w) (hr : TermsAt w A l) (hm : l.length ≤ 9223372036854775807) :
    Calls Tryd.prog 34 #[.slice A l.length c] w fun e w' => e = .returned (.int .i64 (checkT l)) ∧ Below w.heap.size w w' := by
  by_cases hl : l.length ≤ 1024
  · have h1 : ¬ (1024 : Int) < l.length := by omega
    go_enter Tryd.func34, Tryd.ntmps34
    go_wp2_with fail
    go_loopw [3, 11] (fun t i wr => ∃ (k : Nat) (last : Int), k ≤ l.length ∧ i = .int .i64 k ∧ t = .int .i64 last ∧ Below w.heap.size w wr ∧ Hid (chkT (-1) l = chkT last (l.drop k))) (fun _ i _ => l.length - (intOf i).toNat)
    case atStart => exact ⟨0, _, Nat.zero_le _, rfl, rfl, Below.refl _ _, rfl⟩
    case round =>
      obtain ⟨k, last, hk, rfl, rfl, hB, HR⟩ := hrel
      by_cases hlt : k < l.length
      · obtain ⟨b, off, rfl, hb, hc⟩ := hr.at_ hlt
        obtain ⟨d0, d1, d2, d3, d4, d5, d6, d7⟩ := hc k hlt wr hB
        have hx : l[k].lies wr := (hr.lie _ (List.getElem_mem hlt)).ext hB
        have Hd := Lib.hid (chkT_drop l k hlt last)
        have hfin : ∀ b : Bool, b = (l[k].ok && decide (last < l[k].no)) → checkT l = if b then (if chkT l[k].no (l.drop (k + 1)) then 0 else 270) else 270 := by
          rintro b rfl
          unfold checkT
          rw [if_neg (by omega), HR.out, Hd.out]
          cases l[k].ok <;> simp
          by_cases h : last < l[k].no <;> simp [h]
        have Hfin := Lib.hid hfin
        clear hc hfin
        generalize l[k] = x at *
        have hBx : Below wr.heap.size wr (wr.alloc (.cells #[.int .i64 x.no, .int .i64 x.at_, .int .i64 x.known, .int .i64 x.lang, .slice x.src.addr x.src.xs.length x.src.cap, .slice x.tgt.addr x.tgt.xs.length x.tgt.cap, .string x.cat, .bool x.gone] 51)) := ext_alloc (Below.refl _ _) _
        have n0 := World.alloc_heap_new wr (.cells #[.int .i64 x.no, .int .i64 x.at_, .int .i64 x.known, .int .i64 x.lang, .slice x.src.addr x.src.xs.length x.src.cap, .slice x.tgt.addr x.tgt.xs.length x.tgt.cap, .string x.cat, .bool x.gone] 51)
        have cr := Lib.hid (rightT_at x _ (utf_ext hT (ext_trans hB hBx)) (hx.ext hBx))
        obtain ⟨ok, hok⟩ : ∃ ok, x.ok = ok := ⟨_, rfl⟩
        rw [hok] at Hd Hfin cr
        have Hok := Lib.hid hok
        clear hok hx
        go_wp2_with fail
        refine cr.out.mono ?_
        rintro e w2 ⟨rfl, hb2⟩
        have hB2 := ext_trans hB (ext_trans hBx hb2)
        have n2 := (hb2.block wr.heap.size (by simp)).trans n0
        have e0 := gblk n2 0
        clear n0 n2 d0 d1 d2 d3 d4 d5 d6 d7 cr hBx
        cases ok
        · have HF := Lib.hid (Hfin.out false rfl)
          clear Hfin Hd HR
          go_wp2_with fail
          go_ret
          exact ⟨by rw [HF.out]; rfl, hB2⟩
        · by_cases hla : last < x.no
          · have HF : Hid (chkT (-1) l = chkT x.no (l.drop (k + 1))) := by show _ = _; rw [HR.out, Hd.out, decide_eq_true hla]; rfl
            clear Hfin Hd HR
            go_wp2_with fail
            go_roundw
            case rel => exact ⟨k + 1, x.no, by omega, by go_num, rfl, hB2, HF⟩
            case measure => simp [intOf]; omega
          · have HF := Lib.hid (Hfin.out false (by rw [decide_eq_false hla]; rfl))
            clear Hfin Hd HR
            go_wp2_with fail
            go_ret
            exact ⟨by rw [HF.out]; rfl, hB2⟩
      · have h5 : Hid (checkT l = 0) := by
          show _ = _
          unfold checkT
          rw [if_neg (by omega), HR.out, show k = l.length by omega, List.drop_length]; rfl
        clear HR
        go_wp2_with fail
        go_ret
        exact ⟨by rw [h5.out]; rfl, hB⟩
  · have h5 : Hid (checkT l = 2) := by show _ = _; unfold checkT; rw [if_pos (by omega)]
    have h1 : (1024 : Int) < l.length := by omega
    go_enter Tryd.func34, Tryd.ntmps34
    go_wp2_with fail
    go_ret
    exact ⟨by rw [h5.out]; rfl, Below.refl _ _⟩

set_option maxHeartbeats 2000000 in
theorem check27_any (A : Option Addr) (c : Nat) (l : List Term) (w : World) (hr : TermsAt w A l) (hm : l.length ≤ 9223372036854775807) :
    Calls Tryd.prog 35 #[.slice A l.length c] w fun e w' => e = .returned (.int .i64 (checkT l)) ∧ Below w.heap.size w w' := by
  by_cases hl : l.length ≤ 1024
  · have h1 : ¬ (1024 : Int) < l.length := by omega
    go_enter Tryd.func35, Tryd.ntmps35
    go_wp2_with fail
    go_loopw [3] (fun i wr => ∃ (k : Nat) (last : Int), k ≤ l.length ∧ i = .int .i64 k ∧ Below w.heap.size w wr ∧ Hid (chkT (-1) l = chkT last (l.drop k)) ∧ Hid (last = lastT l k)) (fun i _ => l.length - (intOf i).toNat)
    case atStart => exact ⟨0, -1, Nat.zero_le _, rfl, Below.refl _ _, rfl, rfl⟩
    case round =>
      obtain ⟨k, last, hk, rfl, hB, HR, HL⟩ := hrel
      have hz := hB.size
      by_cases hlt : k < l.length
      · obtain ⟨b, off, rfl, hb, hc⟩ := hr.at_ hlt
        obtain ⟨d0, d1, d2, d3, d4, d5, d6, d7⟩ := hc k hlt wr hB
        have hx : l[k].lies wr := (hr.lie _ (List.getElem_mem hlt)).ext hB
        have Hd := Lib.hid (chkT_drop l k hlt last)
        have hbw : b < wr.heap.size := Nat.lt_of_lt_of_le hb hz
        have hcE : ∀ b : Bool, b = (l[k].ok && decide (last < l[k].no)) → checkT l = if b then (if chkT l[k].no (l.drop (k + 1)) then 0 else 270) else 270 := by
          rintro b rfl
          unfold checkT
          rw [if_neg (by omega), HR.out, Hd.out]
          cases l[k].ok <;> simp
          by_cases h : last < l[k].no <;> simp [h]
        have HcE := Lib.hid hcE
        have HL2 : Hid (l[k].no = lastT l (k + 1)) := (lastT_succ l k hlt).symm
        have cr : ∀ p : ExtBy wr, Calls Tryd.prog 68 _ p.to _ := fun p => rightT27_at l[k] p.to (hx.ext p.ext)
        cases hok : l[k].ok
        · have HF : Hid (checkT l = 270) := by
            show _ = _
            rw [HcE.out false (by rw [hok]; rfl)]; rfl
          rw [hok] at cr
          have Cr := Lib.hid cr
          clear hcE hok cr HcE hc hx Hd HL2
          generalize l[k] = x at *
          have c0 := fun p => cell_ext (w := wr) (a := ⟨b, off + k * 8, none⟩) hbw d0 p
          have c1 := fun p => cell_ext (w := wr) (a := ⟨b, off + k * 8 + 1, none⟩) hbw d1 p
          have c2 := fun p => cell_ext (w := wr) (a := ⟨b, off + k * 8 + 2, none⟩) hbw d2 p
          have c3 := fun p => cell_ext (w := wr) (a := ⟨b, off + k * 8 + 3, none⟩) hbw d3 p
          have c4 := fun p => cell_ext (w := wr) (a := ⟨b, off + k * 8 + 4, none⟩) hbw d4 p
          have c5 := fun p => cell_ext (w := wr) (a := ⟨b, off + k * 8 + 5, none⟩) hbw d5 p
          have c6 := fun p => cell_ext (w := wr) (a := ⟨b, off + k * 8 + 6, none⟩) hbw d6 p
          have c7 := fun p => cell_ext (w := wr) (a := ⟨b, off + k * 8 + 7, none⟩) hbw d7 p
          go_wp2_with fail
          refine wp_region_ext (by kernel_rfl) (by kernel_rfl) ?_
          repeat (quiet_step ((go_at_call 68; exact Calls.ext_of (Cr.out _))))
          refine wpQuiet_nil ?_
          intro _ hw'
          obtain ⟨p, rfl⟩ := hw'
          go_wp2
          go_ret
          exact ⟨by rw [HF.out]; rfl, hB.trans (p.ext.mono hz)⟩
        · rw [hok] at cr
          have Cr := Lib.hid cr
          have Hok := Lib.hid hok
          have hpos := (ok_no hok).1
          clear hok cr hcE hx
          rcases Nat.eq_zero_or_pos k with rfl | hk0
          · have hl0 : last = -1 := HL.out
            have HF : Hid (chkT (-1) l = chkT l[0].no (l.drop (0 + 1))) := by
              show _ = _
              rw [HR.out, Hd.out, Hok.out, hl0]
              simp; omega
            clear HR Hd
            subst hl0
            clear hc HcE HL Hok
            generalize l[0] = x at *
            simp only [Nat.zero_mul, Nat.add_zero] at d0 d1 d2 d3 d4 d5 d6 d7
            have c0 := fun p => cell_ext (w := wr) (a := ⟨b, off, none⟩) hbw d0 p
            have c1 := fun p => cell_ext (w := wr) (a := ⟨b, off + 1, none⟩) hbw d1 p
            have c2 := fun p => cell_ext (w := wr) (a := ⟨b, off + 2, none⟩) hbw d2 p
            have c3 := fun p => cell_ext (w := wr) (a := ⟨b, off + 3, none⟩) hbw d3 p
            have c4 := fun p => cell_ext (w := wr) (a := ⟨b, off + 4, none⟩) hbw d4 p
            have c5 := fun p => cell_ext (w := wr) (a := ⟨b, off + 5, none⟩) hbw d5 p
            have c6 := fun p => cell_ext (w := wr) (a := ⟨b, off + 6, none⟩) hbw d6 p
            have c7 := fun p => cell_ext (w := wr) (a := ⟨b, off + 7, none⟩) hbw d7 p
            go_wp2_with fail
            refine wp_region_ext (by kernel_rfl) (by kernel_rfl) ?_
            repeat (quiet_step ((go_at_call 68; exact Calls.ext_of (Cr.out _))))
            refine wpQuiet_nil ?_
            intro _ hw'
            obtain ⟨p, rfl⟩ := hw'
            go_wp2
            go_roundw
            case rel => exact ⟨1, x.no, by omega, rfl, hB.trans (p.ext.mono hz), HF, HL2⟩
            case measure => simp [intOf]; omega
          · have hl1 : k - 1 < l.length := by omega
            have hlast : last = l[k - 1].no := by
              have := lastT_succ l (k - 1) hl1
              rw [Nat.sub_add_cancel hk0] at this
              rw [HL.out, this]
            have e0 := (hc (k - 1) hl1 wr hB).1
            have ek : ((k : Int) - 1) = ((k - 1 : Nat) : Int) := by omega
            have Hek := Lib.hid ek
            rw [← hlast] at e0
            have HF : last < l[k].no → Hid (chkT (-1) l = chkT l[k].no (l.drop (k + 1))) := by
              intro h
              show _ = _
              rw [HR.out, Hd.out, Hok.out]
              simp [h]
            have HE : ¬ last < l[k].no → Hid (checkT l = 270) := by
              intro h
              show _ = _
              rw [HcE.out false (by rw [decide_eq_false h]; simp)]; rfl
            clear hc HL Hok HcE HR Hd hlast ek
            generalize l[k] = x at *
            have c0 := fun p => cell_ext (w := wr) (a := ⟨b, off + k * 8, none⟩) hbw d0 p
            have c1 := fun p => cell_ext (w := wr) (a := ⟨b, off + k * 8 + 1, none⟩) hbw d1 p
            have c2 := fun p => cell_ext (w := wr) (a := ⟨b, off + k * 8 + 2, none⟩) hbw d2 p
            have c3 := fun p => cell_ext (w := wr) (a := ⟨b, off + k * 8 + 3, none⟩) hbw d3 p
            have c4 := fun p => cell_ext (w := wr) (a := ⟨b, off + k * 8 + 4, none⟩) hbw d4 p
            have c5 := fun p => cell_ext (w := wr) (a := ⟨b, off + k * 8 + 5, none⟩) hbw d5 p
            have c6 := fun p => cell_ext (w := wr) (a := ⟨b, off + k * 8 + 6, none⟩) hbw d6 p
            have c7 := fun p => cell_ext (w := wr) (a := ⟨b, off + k * 8 + 7, none⟩) hbw d7 p
            have c9 := fun p => cell_ext (w := wr) (a := ⟨b, off + (k - 1) * 8, none⟩) hbw e0 p
            have w1 : IntKind.i64.wrap ((k : Int) - 1) = (k : Int) - 1 := IntWalk.i64_in _ (by omega)
            have w2 : (0 : Int) ≤ (k : Int) - 1 := by omega
            have w3 : (1 : Int) ≤ (k : Int) := by omega
            have w4 : (k : Int) - 1 < l.length := by omega
            have w5 : ((k : Int) - 1).toNat = k - 1 := by omega
            have w6 : (0 : Int) < (k : Int) := by omega
            by_cases hla : last < x.no
            · have HF2 := HF hla
              have g1 : decide (x.no ≤ last) = false := by simp; omega
              clear HF HE
              go_wp2_with fail
              refine wp_region_ext (by kernel_rfl) (by kernel_rfl) ?_
              repeat (quiet_step ((go_at_call 68; exact Calls.ext_of (Cr.out _))))
              refine wpQuiet_nil ?_
              intro _ hw'
              obtain ⟨p, rfl⟩ := hw'
              clear w1 w2 w3 w4 w5
              go_wp2
              go_roundw
              case rel => exact ⟨k + 1, x.no, by omega, by go_num, hB.trans (p.ext.mono hz), HF2, HL2⟩
              case measure => simp [intOf]; omega
            · have HE2 := HE hla
              have g1 : decide (x.no ≤ last) = true := by simp; omega
              clear HF HE
              go_wp2_with fail
              refine wp_region_ext (by kernel_rfl) (by kernel_rfl) ?_
              repeat (quiet_step ((go_at_call 68; exact Calls.ext_of (Cr.out _))))
              refine wpQuiet_nil ?_
              intro _ hw'
              obtain ⟨p, rfl⟩ := hw'
              clear w1 w2 w3 w4 w5
              go_wp2
              go_ret
              exact ⟨by rw [HE2.out]; rfl, hB.trans (p.ext.mono hz)⟩
      · have h5 : Hid (checkT l = 0) := by
          show _ = _
          unfold checkT
          rw [if_neg (by omega), HR.out, show k = l.length by omega, List.drop_length]; rfl
        clear HR
        go_wp2_with fail
        go_ret
        exact ⟨by rw [h5.out]; rfl, hB⟩
  · have h5 : Hid (checkT l = 2) := by show _ = _; unfold checkT; rw [if_pos (by omega)]
    have h1 : (1024 : Int) < l.length := by omega
    go_enter Tryd.func35, Tryd.ntmps35
    go_wp2_with fail
    go_ret
    exact ⟨by rw [h5.out]; rfl, Below.refl _ _⟩
end Go.Proofs.YtneanannicacnaaDoor
