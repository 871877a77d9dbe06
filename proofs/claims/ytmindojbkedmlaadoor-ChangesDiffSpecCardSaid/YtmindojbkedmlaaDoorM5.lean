/- Texts of this claim, one after the other: AliG, Term4, Term5, Term6, FindA, EqS, TouB, TouC. -/
import Derived.Test.YtmindojbkedmlaaDoorM4
import Derived.Test.YtmindojbkedmlaaDoorM3
import Derived.Test.YtmindojbkedmlaaDoorShelf2
import Derived.Test.YtmindojbkedmlaaDoorM2
import Derived.Test.YtmindojbkedmlaaDoorM1
import Derived.BigQuiet
import Derived.OneCell
import Derived.Stop.RegionWithIn
import Derived.Sort.QuietTacIn
import Derived.Deep.Draws
/- Package align: Align (of right lists). -/
namespace Go.Proofs.YtmindojbkedmlaaDoor
open Go.RowKit Go.Han
attribute [local irreducible] wpStill wpQuiet
set_option maxRecDepth 100000

def lenOf : Value → Nat
  | .slice _ n _ => n
  | _ => 0
def natI (l : List Nat) : List Int := l.map fun (n : Nat) => (n : Int)
theorem natI_snoc (l : List Nat) (n : Nat) : natI (l ++ [n]) = natI l ++ [(n : Int)] := by unfold natI; simp
theorem natI_len (l : List Nat) : (natI l).length = l.length := by unfold natI; simp
def AlignPost (a b : Ws) (w : World) (e : Ending) (w' : World) : Prop :=
  ∃ A c, e = .returned (.tuple #[.slice A (natI (alS a b)).length c, .int .i64 (alC a b : Nat), .int .i64 0]) ∧ Rd w' A ((natI (alS a b)).flatMap intC) ∧ Below w.heap.size w w'
theorem int_not_box {w : World} {base b : Nat} {v : Value} {l : List Int} {cs : Array Value} (h : OwnI w base v l) (hb : w.heap[b]? = some (.cells cs 86 (0, 0))) : v.ownBlock ≠ some b := by
  rcases h.2 with ⟨rfl, _⟩ | ⟨g, cap, cur, rfl, _, hgb, _⟩
  · simp [Value.ownBlock]
  · intro e
    obtain rfl : g = b := by simpa [Value.ownBlock] using e
    have := hgb.symm.trans hb
    simp at this
theorem hit_more {a b : Ws} {i k n : Nat} (h : ∀ m, m < n → hitB a b i k m = false) (h2 : hitB a b i k n = false) : ∀ m, m < n + 1 → hitB a b i k m = false := by
  intro m hm
  by_cases e : m < n
  · exact h m e
  · obtain rfl : m = n := by omega
    exact h2
theorem x_kept {V U w9 : World} {bx : Nat} {o : Obj} {v : Value} (h : V.heap[bx]? = some o) (hne : v.ownBlock ≠ some bx) (hb : Below V.heap.size V U) (hg : U.grownBy w9 v.ownBlock) : w9.heap[bx]? = some o :=
  (hg.block bx (Nat.lt_of_lt_of_le (lt_block h) hb.size) (fun e => hne e.symm)).trans ((hb.block bx (lt_block h)).trans h)
theorem heap_set_same {w : World} {g j e : Nat} {u : Value} {c : Array Value} {fr : Nat × Nat} (h : w.heap[g]? = some (.cells c e fr)) : (w.setCell ⟨g, j, none⟩ u).heap[g]? = some (.cells (c.setIfInBounds j u) e fr) := by
  obtain ⟨hlt, hk⟩ := Array.getElem?_eq_some_iff.1 h
  show (w.heap.modify g _)[g]? = _
  rw [Array.getElem?_eq_getElem (by rw [Array.size_modify]; exact hlt), Array.getElem_modify_self, hk]
  rfl
theorem hit_world {w5 w9 : World} {bx yi yk i k : Nat} {T : TypeId} {v9 : Value} {l : List Int} (hx : w9.heap[bx]? = some (.cells (placeA i k) T (0, 0))) (hne : v9.ownBlock ≠ some bx) (hb : w5.heap.size ≤ bx) (ho : OwnI w9 w5.heap.size v9 l) (hB : Below w5.heap.size w5 w9) :
    ((w9.setCell ⟨bx, 0, none⟩ (.int .i64 (yi : Int))).setCell ⟨bx, 1, none⟩ (.int .i64 (yk : Int))).heap[bx]? = some (.cells (placeA yi yk) T (0, 0)) ∧ OwnI ((w9.setCell ⟨bx, 0, none⟩ (.int .i64 (yi : Int))).setCell ⟨bx, 1, none⟩ (.int .i64 (yk : Int))) w5.heap.size v9 l ∧ Below w5.heap.size w5 ((w9.setCell ⟨bx, 0, none⟩ (.int .i64 (yi : Int))).setCell ⟨bx, 1, none⟩ (.int .i64 (yk : Int))) :=
  ⟨heap_set_same (heap_set_same hx), ownsRow_setCell_other (a := ⟨bx, 1, none⟩) (ownsRow_setCell_other (a := ⟨bx, 0, none⟩) ho hne _) hne _, (hB.setCell (p := ⟨bx, 0, none⟩) hb _).setCell (p := ⟨bx, 1, none⟩) hb _⟩
set_option maxHeartbeats 4000000 in
theorem Align21_any (a b : StrS) (w : World) (hT : Tabs w) (ha : a.lies w) (hb : b.lies w) (h1 : a.xs.length ≤ 64) (h2 : b.xs.length ≤ 64) (h3 : a.xs.all wordB = true) (h4 : b.xs.all wordB = true) :
    Calls Tryd.prog 32 #[.slice a.addr a.xs.length a.cap, .slice b.addr b.xs.length b.cap] w (AlignPost a.xs b.xs w) := by
  obtain ⟨W1, hW1⟩ : ∃ W1, w.alloc (.cells #[.int .i64 0] 31) = W1 := ⟨_, rfl⟩
  have hb0 : W1.heap[w.heap.size]? = some (.cells #[.int .i64 0] 31 (0, 0)) := by subst hW1; exact World.alloc_heap_new _ _
  have hB1 : Below w.heap.size w W1 := by subst hW1; exact ext_alloc (Below.refl _ _) _
  have cW := Lib.hid (words21_any a b W1 (utf_ext hT hB1) (ha.ext hB1) (hb.ext hB1) h1 h2 h3 h4)
  have cP := Lib.hid (fun W (hW : Below w.heap.size w W) => prove21_any a b W (ha.ext hW) (hb.ext hW) h1 h2)
  have Ha := Lib.hid ha
  have Hb := Lib.hid hb
  unfold pairA at cW cP
  clear hT ha hb h3 h4
  go_enter_defers Tryd.func32, Tryd.ntmps32
  go_wp2_with fail
  refine cW.out.mono ?_
  rintro e w2 ⟨rfl, hb2⟩
  obtain ⟨w3, hw3⟩ : ∃ V, w2.alloc (.cells #[.slice a.addr a.xs.length a.cap, .slice b.addr b.xs.length b.cap] 79) = V := ⟨_, rfl⟩
  have hb3 : Below w2.heap.size w2 w3 := by subst hw3; exact ext_alloc (Below.refl _ _) _
  have hp3 : w3.heap[w2.heap.size]? = some (.cells #[.slice a.addr a.xs.length a.cap, .slice b.addr b.xs.length b.cap] 79 (0, 0)) := by subst hw3; exact World.alloc_heap_new _ _
  have hB2 := ext_trans hB1 hb2
  have hB3 := ext_trans hB2 hb3
  have he3 := ((ext_trans hb2 hb3).block _ (lt_block hb0)).trans hb0
  have p0 : w3.cell? ⟨w2.heap.size, 0, none⟩ = some (.slice a.addr a.xs.length a.cap) := gblk hp3 0
  have p1 : w3.cell? ⟨w2.heap.size, 1, none⟩ = some (.slice b.addr b.xs.length b.cap) := gblk hp3 1
  have Hz2 := Lib.hid hB2.size
  clear cW hW1 hb0
  go_wp2_with fail
  try rw [hw3]
  refine (cP.out w3 hB3).mono ?_
  rintro e w4 ⟨H, rb, rfl, htab, hb4⟩
  have HG4 := Lib.hid htab.grid
  clear htab cP hw3
  go_wp2_with fail
  refine (steps21_any w4).mono ?_
  rintro e w5 ⟨rfl, hw5⟩
  have hb5 : Below w4.heap.size w4 w5 := by subst hw5; exact ext_alloc (Below.refl _ _) _
  have hs5 : w5.heap[w4.heap.size]? = some (.cells stepCells 88 (0, 0)) := by subst hw5; exact World.alloc_heap_new _ _
  have hb35 := ext_trans hb4 hb5
  have hB5 := ext_trans hB3 hb35
  have hp5 := (hb35.block _ (lt_block hp3)).trans hp3
  have he5 := (hb35.block _ (lt_block he3)).trans he3
  have hG5 := HG4.out.ext hb5
  clear hw5 p0 p1 hp3 he3 hb35 hb4 hb5 HG4
  go_wp2_with fail
  obtain ⟨w6, hw6⟩ : ∃ V, w5.alloc (.cells #[.int .i64 0, .int .i64 0] 86) = V := ⟨_, rfl⟩
  have hb6 : Below w5.heap.size w5 w6 := by subst hw6; exact ext_alloc (Below.refl _ _) _
  have hx6 : w6.heap[w5.heap.size]? = some (.cells (placeA 0 0) 86 (0, 0)) := by subst hw6; exact World.alloc_heap_new _ _
  try rw [hw6]
  have HG5 := Lib.hid hG5
  have HP5 := Lib.hid hp5
  have HE5 := Lib.hid he5
  have HS5 := Lib.hid hs5
  have HB5 := Lib.hid hB5
  have Hll := Lib.hid (alS_len a.xs b.xs)
  clear hw6 hG5 hp5 he5 hs5 hB5 hB1 hb2 hb3 hB2 hB3
  go_loopw [4, 10] (fun vl vx wr => ∃ (i k bx : Nat) (pre : List Nat), i ≤ a.xs.length ∧ k ≤ b.xs.length ∧ vx = .pointer (some ⟨bx, 0, none⟩) ∧ wr.heap[bx]? = some (.cells (placeA i k) 86 (0, 0)) ∧ w5.heap.size ≤ bx ∧ OwnI wr w5.heap.size vl (natI pre) ∧ Below w5.heap.size w5 wr ∧ Hid (alS a.xs b.xs = pre ++ sA a.xs b.xs i k)) (fun vl _ _ => 130 - lenOf vl)
  case atStart => exact ⟨0, 0, w5.heap.size, [], Nat.zero_le _, Nat.zero_le _, rfl, hx6, Nat.le_refl _, OwnL.nil _ _ _ _ _, hb6, by show _ = _; unfold sA; simp⟩
  case round =>
    obtain ⟨i, k, bx, pre, hi, hk, rfl, hbx, hbl, hown, hBr, HS⟩ := hrel
    obtain ⟨AL, cL, rfl, hrdL, _⟩ := OwnL.form (by omega) hown
    have hpl : pre.length ≤ 128 := by have := Hll.out; rw [HS.out] at this; simp at this; omega
    have hpw := (hBr.block _ (lt_block HP5.out)).trans HP5.out
    have p0 : wr.cell? ⟨w2.heap.size, 0, none⟩ = some (.slice a.addr a.xs.length a.cap) := gblk hpw 0
    have p1 : wr.cell? ⟨w2.heap.size, 1, none⟩ = some (.slice b.addr b.xs.length b.cap) := gblk hpw 1
    have x0 : wr.cell? ⟨bx, 0, none⟩ = some (.int .i64 (i : Int)) := gblk hbx 0
    have x1 : wr.cell? ⟨bx, 1, none⟩ = some (.int .i64 (k : Int)) := gblk hbx 1
    have lx := lt_block hbx
    have lp := lt_block hpw
    have q0 := fun p => cell_ext (w := wr) (a := ⟨w2.heap.size, 0, none⟩) lp p0 p
    have q1 := fun p => cell_ext (w := wr) (a := ⟨w2.heap.size, 1, none⟩) lp p1 p
    have y0 := fun p => cell_ext (w := wr) (a := ⟨bx, 0, none⟩) lx x0 p
    have y1 := fun p => cell_ext (w := wr) (a := ⟨bx, 1, none⟩) lx x1 p
    have cE := Lib.hid (fun p : ExtBy wr => end21_any a b p.to)
    have Hbx := Lib.hid hbx
    have Hown := Lib.hid hown
    unfold placeA pairA at cE
    clear hpw hbx hown hrdL p0 p1 x0 x1
    by_cases hend : i = a.xs.length ∧ k = b.xs.length
    · obtain ⟨rfl, rfl⟩ := hend
      have hq := fun w => run_equalIn_place a.xs.length b.xs.length a.xs.length b.xs.length w
      rw [decide_eq_true (show (a.xs.length : Int) = a.xs.length ∧ (b.xs.length : Int) = b.xs.length from ⟨rfl, rfl⟩)] at hq
      go_wp2_with fail
      refine wp_region_ext (by kernel_rfl) (by kernel_rfl) ?_
      repeat (go_big_quiet_step ((go_at_call 57; exact Calls.ext_of (cE.out _))))
      refine wpQuiet_nil ?_
      intro _ hw'
      obtain ⟨p, rfl⟩ := hw'
      have he := p.ext
      have hB7 := ext_trans hBr he
      have hownV := Hown.out.ext he
      generalize p.to = V at *
      clear q0 q1 y0 y1 hq cE
      go_wp2_with fail
      have hpe : pre = alS a.xs b.xs := by
        have := HS.out
        rw [sA_end (Nat.le_refl _) (Nat.le_refl _), List.append_nil] at this
        exact this.symm
      subst hpe
      have hG := HG5.out.ext hB7
      have t0 := hG.topc (i := 0) (Nat.zero_le _)
      have t1 := hG.cell (i := 0) (k := 0) (Nat.zero_le _) (Nat.zero_le _)
      rw [show cA a.xs b.xs 0 0 = alC a.xs b.xs from rfl] at t1
      have i0 : (0 : Int) < ((a.xs.length + 1 : Nat) : Int) := by omega
      have i1 : (0 : Int) < ((b.xs.length + 1 : Nat) : Int) := by omega
      have heV := (hB7.block _ (lt_block HE5.out)).trans HE5.out
      have ec := cell_one heV
      have ef := frozen_one heV 0
      have hlow : w.heap.size < w5.heap.size := lt_block HE5.out
      have hfinal : Hid (AlignPost a.xs b.xs w (.returned (.tuple #[.slice AL (natI (alS a.xs b.xs)).length cL, .int .i64 (alC a.xs b.xs : Nat), .int .i64 0])) (V.drew.setCell ⟨w.heap.size, 0, none⟩ (.int .i64 0))) := by
        have ho := ownsRow_setCell_below (a := (⟨w.heap.size, 0, none⟩ : Addr)) (OwnL.ext hownV (ext_drew (Below.refl _ _))) hlow (.int .i64 0)
        obtain ⟨A', c', e', hr', _⟩ := OwnL.form (f := intC) (l := natI (alS a.xs b.xs)) (by omega) ho
        obtain ⟨rfl, rfl⟩ : AL = A' ∧ cL = c' := by simpa using e'
        exact ⟨AL, cL, rfl, hr', (ext_trans HB5.out (ext_trans hB7 (ext_drew (Below.refl _ _)))).setCell (p := (⟨w.heap.size, 0, none⟩ : Addr)) (Nat.le_refl _) _⟩
      have h3 := cell_one (set_one (w := V.drew) heV (.int .i64 0))
      generalize alC a.xs b.xs = cost at *
      clear hownV hG heV hlow
      apply wp_meetD (w' := V.drew.setCell ⟨w.heap.size, 0, none⟩ (.int .i64 0))
      · go_region_law fail
        all_goals exact ⟨rfl, rfl⟩
      go_wp2_with fail
      refine leaves_cons (f := 53) (args := #[.pointer (some ⟨w.heap.size, 0, none⟩)]) (by simp) (by simp [go_sem]) ?_
      refine (caught21_ret _ _).mono ?_
      rintro e u' w'' ⟨rfl, rfl, rfl⟩
      generalize V.drew.setCell ⟨w.heap.size, 0, none⟩ (.int .i64 0) = V9 at *
      simp [Leaves, settle, results, Tryd.results32, go_sem, h3]
      exact hfinal.out
    · have hq := fun w => run_equalIn_place i k a.xs.length b.xs.length w
      rw [decide_eq_false (show ¬ ((i : Int) = a.xs.length ∧ (k : Int) = b.xs.length) by omega)] at hq
      go_wp2_with fail
      refine wp_region_ext (by kernel_rfl) (by kernel_rfl) ?_
      repeat (go_big_quiet_step ((go_at_call 57; exact Calls.ext_of (cE.out _))))
      refine wpQuiet_nil ?_
      intro _ hw'
      obtain ⟨p, rfl⟩ := hw'
      have he := p.ext
      have hB7 := ext_trans hBr he
      have hownV := Hown.out.ext he
      have hbxV := (he.block _ lx).trans Hbx.out
      generalize p.to = V at *
      clear q0 q1 y0 y1 hq cE
      go_wp2_with fail
      have HBX := Lib.hid hbxV
      have HOV := Lib.hid hownV
      clear hbxV hownV
      go_loopw [4, 29] (fun vl jx wr2 => ∃ n : Nat, n ≤ 4 ∧ vl = .slice AL (natI pre).length cL ∧ jx = .int .i64 n ∧ Below V.heap.size V wr2 ∧ Hid (∀ m, m < n → hitB a.xs b.xs i k m = false)) (fun _ jx _ => 4 - (intOf jx).toNat)
      case atStart => exact ⟨0, by omega, rfl, rfl, Below.refl _ _, fun m hm => absurd hm (by omega)⟩
      case round =>
        obtain ⟨n, hn, rfl, rfl, hB2, HH⟩ := hrel
        by_cases hlt : n < 4
        · have hlt2 : (n : Int) < 4 := by omega
          have n0 : (0 : Int) ≤ (n : Int) := by omega
          have hB72 := ext_trans hB7 hB2
          have cs : wr.cell? ⟨w4.heap.size, n, none⟩ = some (.func (Fn.func (stepF n)) #[] #[]) := (gblk ((hB72.block _ (lt_block HS5.out)).trans HS5.out) n).trans (stepCells_at hlt)
          have hpw := (hB72.block _ (lt_block HP5.out)).trans HP5.out
          have hxw := (hB2.block _ (lt_block HBX.out)).trans HBX.out
          have p0 : wr.cell? ⟨w2.heap.size, 0, none⟩ = some (.slice a.addr a.xs.length a.cap) := gblk hpw 0
          have p1 : wr.cell? ⟨w2.heap.size, 1, none⟩ = some (.slice b.addr b.xs.length b.cap) := gblk hpw 1
          have x0 : wr.cell? ⟨bx, 0, none⟩ = some (.int .i64 (i : Int)) := gblk hxw 0
          have x1 : wr.cell? ⟨bx, 1, none⟩ = some (.int .i64 (k : Int)) := gblk hxw 1
          have eS := stepF_enter hlt
          have hAll := ext_trans HB5.out hB72
          have cS := Lib.hid (step21_any a b n i k wr hlt (by omega) (by omega) (Ha.out.ext hAll) (Hb.out.ext hAll))
          have Hxw := Lib.hid hxw
          unfold StepPost placeA pairA at cS
          clear hpw hAll hxw
          go_wp2_with fail
          refine cS.out.mono ?_
          rintro e w7 ⟨rfl, hb7⟩
          obtain ⟨w8, hw8⟩ : ∃ w8, w7.alloc (.cells (placeA (stI n i) (stK n k)) 86) = w8 := ⟨_, rfl⟩
          have hb8 : Below wr.heap.size wr w8 := by rw [← hw8]; exact ext_alloc hb7 _
          have hy8 : w8.heap[w7.heap.size]? = some (.cells (placeA (stI n i) (stK n k)) 86 (0, 0)) := by rw [← hw8]; exact World.alloc_heap_new _ _
          have hB28 := ext_trans hB2 hb8
          have hle0 := cA_le a.xs b.xs i k
          have hlt7 : wr.heap.size ≤ w7.heap.size := hb7.size
          unfold placeA at hw8
          cases hok : stOk a.xs b.xs n i k
          · have hno : hitB a.xs b.xs i k n = false := by unfold hitB; rw [hok]; rfl
            have HH2 := Lib.hid (hit_more HH.out hno)
            clear hok hno hy8 cs p0 p1 x0 x1 hb7 hb8 cS eS hle0 hlt7
            go_wp2_with fail
            refine wp_region_ext (by kernel_rfl) (by kernel_rfl) ?_
            repeat (go_big_quiet_step (fail))
            refine wpQuiet_nil ?_
            intro _ hw'
            obtain ⟨p, rfl⟩ := hw'
            have hB29 := ext_trans hB28 p.ext
            generalize p.to = V2 at *
            go_wp2_with fail
            go_roundw
            case rel => exact ⟨n + 1, by omega, rfl, by go_num, hB29, HH2.out⟩
            case measure => simp [intOf]; try omega
          · obtain ⟨hyi, hyk⟩ := stOk_le hlt hok hi hk
            have hle1 := cA_le a.xs b.xs (stI n i) (stK n k)
            have hle2 : stC n ≤ 1 := by unfold stC; split <;> omega
            have hxw := (hb8.block _ (lt_block Hxw.out)).trans Hxw.out
            have hg2 := HG5.out.ext (ext_trans hB7 hB28)
            have b0 := fun p => cell_ext (w := w8) (a := ⟨bx, 0, none⟩) (v := .int .i64 (i : Int)) (lt_block hxw) (gblk hxw 0) p
            have b1 := fun p => cell_ext (w := w8) (a := ⟨bx, 1, none⟩) (v := .int .i64 (k : Int)) (lt_block hxw) (gblk hxw 1) p
            have s0 := fun p => cell_ext (w := w8) (a := ⟨w7.heap.size, 0, none⟩) (v := .int .i64 ((stI n i : Nat) : Int)) (lt_block hy8) (gblk hy8 0) p
            have s1 := fun p => cell_ext (w := w8) (a := ⟨w7.heap.size, 1, none⟩) (v := .int .i64 ((stK n k : Nat) : Int)) (lt_block hy8) (gblk hy8 1) p
            have m0 := fun p => cell_ext (w := w8) (a := ⟨rb i, k, none⟩) (hg2.rlt hi) (hg2.cell hi hk) p
            have m1 := fun p => cell_ext (w := w8) (a := ⟨rb (stI n i), stK n k, none⟩) (hg2.rlt hyi) (hg2.cell hyi hyk) p
            have t0 := fun p => cell_ext (w := w8) (a := ⟨H, i, none⟩) hg2.lt (hg2.topc hi) p
            have t1 := fun p => cell_ext (w := w8) (a := ⟨H, stI n i, none⟩) hg2.lt (hg2.topc hyi) p
            have i0 : (i : Int) < ((a.xs.length + 1 : Nat) : Int) := by omega
            have i1 : ((stI n i : Nat) : Int) < ((a.xs.length + 1 : Nat) : Int) := by omega
            have i2 : (k : Int) < ((b.xs.length + 1 : Nat) : Int) := by omega
            have i3 : ((stK n k : Nat) : Int) < ((b.xs.length + 1 : Nat) : Int) := by omega
            have hhit : hitB a.xs b.xs i k n = decide (cA a.xs b.xs i k = stC n + cA a.xs b.xs (stI n i) (stK n k)) := by unfold hitB; rw [hok]; rfl
            have Hy8 := Lib.hid hy8
            have Hx8 := Lib.hid hxw
            have HSN := Lib.hid (fun h : hitB a.xs b.xs i k n = true => HS.out.trans (congrArg (pre ++ ·) (sA_step (by omega) hlt hi hk h HH.out)))
            have HNO := Lib.hid (hit_more HH.out)
            clear hg2 hok hxw hy8 cs p0 p1 x0 x1 hb7 hb8 cS eS
            generalize stI n i = yi at *
            generalize stK n k = yk at *
            generalize stC n = c at *
            generalize cA a.xs b.xs yi yk = cy at *
            generalize cA a.xs b.xs i k = ci at *
            generalize hitB a.xs b.xs i k n = hb at *
            have hwr : IntKind.i64.wrap ((c : Int) + (cy : Int)) = (c : Int) + (cy : Int) := by rw [IntKind.wrap_i64]; omega
            by_cases htest : ci = c + cy
            · have ht2 : (ci : Int) = (c : Int) + (cy : Int) := by omega
              rw [decide_eq_true htest] at hhit
              subst hhit
              go_wp2_with fail
              refine wp_region_ext (by kernel_rfl) (by kernel_rfl) ?_
              repeat (go_big_quiet_step (fail))
              refine wpQuiet_nil ?_
              intro _ hw'
              obtain ⟨p, rfl⟩ := hw'
              have hpe := p.ext
              have hB8p := ext_trans hB28 hpe
              have hx9 := (hpe.block _ (lt_block Hx8.out)).trans Hx8.out
              have hy9 := (hpe.block _ (lt_block Hy8.out)).trans Hy8.out
              have hown9 := HOV.out.ext hB8p
              have hB9 := ext_trans hB7 hB8p
              generalize p.to = V2 at *
              clear b0 b1 s0 s1 m0 m1 t0 t1 i0 i1 i2 i3
              have HFX := Lib.hid (fun U w9 => x_kept (w9 := w9) (U := U) hx9 (int_not_box hown9 hx9))
              have HFY := Lib.hid (fun U w9 => x_kept (w9 := w9) (U := U) hy9 (int_not_box hown9 hy9))
              have q0 : V2.cell? ⟨w7.heap.size, 0, none⟩ = some (.int .i64 (yi : Int)) := gblk hy9 0
              have q1 : V2.cell? ⟨w7.heap.size, 1, none⟩ = some (.int .i64 (yk : Int)) := gblk hy9 1
              have ly := lt_block hy9
              have ly2 := Nat.ne_of_lt ly
              have hpre2 := Lib.hid (show alS a.xs b.xs = pre ++ [n + 1] ++ sA a.xs b.xs yi yk by have := HSN.out trivial; simpa using this)
              have hbd : (natI pre).length + [(n : Int) + 1].length ≤ 9000 := by rw [natI_len]; simp; omega
              have hw1 : IntKind.i64.wrap ((n : Int) + 1) = (n : Int) + 1 := by rw [IntKind.wrap_i64]; omega
              have hbs := hB9.size
              have hbs1 : w5.heap.size ≤ V2.heap.size + 1 := by omega
              have HB9 := Lib.hid hB9
              have Hyi := Lib.hid hyi
              have Hyk := Lib.hid hyk
              clear hx9 hy9 hB9 htest ht2 hwr hle0 hle1 hle2 hlt7 hw8
              go_wp2_with fail
              apply wp_meetG (Phi := fun u X => X.heap[bx]? = some (.cells (placeA yi yk) 86 (0, 0)) ∧ OwnI X w5.heap.size u (natI pre ++ [(n : Int) + 1]) ∧ Below w5.heap.size w5 X)
              · go_region_law ((refine stepI rfl (.tmp 66) (.tmp 69) rfl w5.heap.size (.slice AL (natI pre).length cL) (natI pre) rfl _ _ _ [(n : Int) + 1] rfl rfl (OwnL.ext hown9 (by repeat (first | exact Below.refl _ _ | refine ext_drew ?_ | refine ext_alloc ?_ _))) (grd_new rfl) hbd (by first | exact hbs1 | (simp; omega)) ?_; intro v9 w9 o9 e9 g9 a9; have B9 := e9 w5 rfl (ext_trans HB9.out (by repeat (first | exact Below.refl _ _ | refine ext_drew ?_ | refine ext_alloc ?_ _))); have FX := HFX.out _ w9 (by repeat (first | exact Below.refl _ _ | refine ext_drew ?_ | refine ext_alloc ?_ _)) g9; have FY := HFY.out _ w9 (by repeat (first | exact Below.refl _ _ | refine ext_drew ?_ | refine ext_alloc ?_ _)) g9; have z0 : w9.cell? ⟨w7.heap.size, 0, none⟩ = some (.int .i64 (yi : Int)) := gblk FY 0; have z1 : w9.cell? ⟨w7.heap.size, 1, none⟩ = some (.int .i64 (yk : Int)) := gblk FY 1; have x0 : w9.cell? ⟨bx, 0, none⟩ = some (.int .i64 (i : Int)) := gblk FX 0; have x1 : w9.cell? ⟨bx, 1, none⟩ = some (.int .i64 (k : Int)) := gblk FX 1; have f0 := frozen_one FX 0; have f1 := frozen_one FX 1))
                all_goals exact ⟨v9, rfl, hit_world FX (int_not_box o9 FX) hbl o9 B9⟩
              rintro v9 w9 ⟨hx9, ho9, hB9⟩
              have q2 : w9.cell? ⟨bx, 0, none⟩ = some (.int .i64 (yi : Int)) := gblk hx9 0
              have q3 : w9.cell? ⟨bx, 1, none⟩ = some (.int .i64 (yk : Int)) := gblk hx9 1
              clear hown9 q0 q1 ly ly2 hw1
              go_wp2_with fail
              go_roundw
              case rel =>
                refine ⟨yi, yk, w9.heap.size, pre ++ [n + 1], Hyi.out, Hyk.out, rfl, World.alloc_heap_new _ _, hB9.size, ?_, ext_trans hB9 (ext_alloc (Below.refl _ _) _), hpre2.out⟩
                rw [natI_snoc, Int.natCast_succ]
                exact ho9.ext (ext_alloc (Below.refl _ _) _)
              case measure =>
                obtain ⟨A9, c9, rfl, _, _⟩ := OwnL.form (by omega) ho9
                simp only [lenOf, List.length_append, natI_len, List.length_cons, List.length_nil]
                omega
            · have ht2 : ¬ (ci : Int) = (c : Int) + (cy : Int) := by omega
              rw [decide_eq_false htest] at hhit
              subst hhit
              have HH2 := Lib.hid (HNO.out rfl)
              go_wp2_with fail
              refine wp_region_ext (by kernel_rfl) (by kernel_rfl) ?_
              repeat (go_big_quiet_step (fail))
              refine wpQuiet_nil ?_
              intro _ hw'
              obtain ⟨p, rfl⟩ := hw'
              have hB29 := ext_trans hB28 p.ext
              generalize p.to = V2 at *
              clear b0 b1 s0 s1 m0 m1 t0 t1 i0 i1 i2 i3
              go_wp2_with fail
              go_roundw
              case rel => exact ⟨n + 1, by omega, rfl, by go_num, hB29, HH2.out⟩
              case measure => simp [intOf]; try omega
        · obtain rfl : n = 4 := by omega
          exact absurd (hit_some (by omega) hi hk hend (fun j hj => HH.out j hj)) (fun h => h)
end Go.Proofs.YtmindojbkedmlaaDoor

/- The check of a term, in the package and in the reference. -/
namespace Go.Proofs.YtmindojbkedmlaaDoor
open Go.RowKit Go.Han
attribute [local irreducible] wpStill wpQuiet
set_option maxRecDepth 100000

set_option maxHeartbeats 1000000 in
theorem rightT_any (x : Term) (w : World) (hT : Tabs w) (hx : x.lies w) : Calls Tryd.prog 37 #[x.val] w fun e w' => e = .returned (.bool x.ok) ∧ Below w.heap.size w w' := by
  obtain ⟨no, at_, known, lang, ⟨sA, sc, sx⟩, ⟨tA, tc, tx⟩, cat, gone⟩ := x
  have Hok : Hid (Term.ok ⟨no, at_, known, lang, ⟨sA, sc, sx⟩, ⟨tA, tc, tx⟩, cat, gone⟩ = (noB no && tmB at_ && tmB known && langB lang && phraseB sx && (if gone then decide (tx.length = 0) && decide (cat.size = 0) else phraseB tx && nameB cat))) := rfl
  have hv : Term.val ⟨no, at_, known, lang, ⟨sA, sc, sx⟩, ⟨tA, tc, tx⟩, cat, gone⟩ = .agg #[.int .i64 no, .int .i64 at_, .int .i64 known, .int .i64 lang, .slice sA sx.length sc, .slice tA tx.length tc, .string cat, .bool gone] := rfl
  obtain ⟨ok, hok⟩ : ∃ ok, Term.ok ⟨no, at_, known, lang, ⟨sA, sc, sx⟩, ⟨tA, tc, tx⟩, cat, gone⟩ = ok := ⟨_, rfl⟩
  rw [hok] at Hok ⊢
  rw [hv]
  obtain ⟨W0, hW0⟩ : ∃ W0, w.alloc (.cells #[.int .i64 no, .int .i64 at_, .int .i64 known, .int .i64 lang, .slice sA sx.length sc, .slice tA tx.length tc, .string cat, .bool gone] 25) = W0 := ⟨_, rfl⟩
  have hB0 : Below w.heap.size w W0 := by rw [← hW0]; exact ext_alloc (Below.refl _ _) _
  have hz0 : W0.heap.size = w.heap.size + 1 := by rw [← hW0]; simp
  have hk : Hid (∀ W, Below W0.heap.size W0 W → W.cell? ⟨w.heap.size, 0, none⟩ = some (.int .i64 no) ∧ W.cell? ⟨w.heap.size, 1, none⟩ = some (.int .i64 at_) ∧ W.cell? ⟨w.heap.size, 2, none⟩ = some (.int .i64 known) ∧ W.cell? ⟨w.heap.size, 3, none⟩ = some (.int .i64 lang) ∧ W.cell? ⟨w.heap.size, 4, none⟩ = some (.slice sA sx.length sc) ∧ W.cell? ⟨w.heap.size, 5, none⟩ = some (.slice tA tx.length tc) ∧ W.cell? ⟨w.heap.size, 6, none⟩ = some (.string cat) ∧ W.cell? ⟨w.heap.size, 7, none⟩ = some (.bool gone)) := by
    intro W hb
    have h0 : W0.heap[w.heap.size]? = some (.cells #[.int .i64 no, .int .i64 at_, .int .i64 known, .int .i64 lang, .slice sA sx.length sc, .slice tA tx.length tc, .string cat, .bool gone] 25 (0, 0)) := by rw [← hW0]; exact World.alloc_heap_new _ _
    have h1 := (hb.block _ (by omega)).trans h0
    exact ⟨gblk h1 0, gblk h1 1, gblk h1 2, gblk h1 3, gblk h1 4, gblk h1 5, gblk h1 6, gblk h1 7⟩
  have cS : Hid (∀ W, Below W0.heap.size W0 W → Calls Tryd.prog 63 #[.slice sA sx.length sc] W fun e w' => e = .returned (.bool (phraseB sx)) ∧ Below W.heap.size W w') := fun W hb => phrase_any ⟨sA, sc, sx⟩ W (utf_ext hT (ext_trans hB0 hb)) (hx.1.ext (ext_trans hB0 hb))
  have cT : Hid (∀ W, Below W0.heap.size W0 W → Calls Tryd.prog 63 #[.slice tA tx.length tc] W fun e w' => e = .returned (.bool (phraseB tx)) ∧ Below W.heap.size W w') := fun W hb => phrase_any ⟨tA, tc, tx⟩ W (utf_ext hT (ext_trans hB0 hb)) (hx.2.ext (ext_trans hB0 hb))
  have htl : tx.length ≤ 9223372036854775807 := Nat.le_trans hx.2.cap hx.2.max
  clear hok hv hx
  by_cases n0 : no < 0
  · have H : Hid (ok = false) := by show _ = _; rw [Hok.out]; unfold noB; rw [decide_eq_false (show ¬ 0 ≤ no by omega)]; rfl
    go_enter Tryd.func37, Tryd.ntmps37
    obtain ⟨d0, d1, d2, d3, d4, d5, d6, d7⟩ := hk.out W0 (Below.refl _ _)
    go_wp2_with fail
    go_ret
    exact ⟨by rw [H.out]; rfl, hB0⟩
  by_cases n1 : 1048576 < no
  · have H : Hid (ok = false) := by show _ = _; rw [Hok.out]; unfold noB; rw [decide_eq_false (show ¬ no ≤ 1048576 by omega), Bool.and_false]; rfl
    go_enter Tryd.func37, Tryd.ntmps37
    obtain ⟨d0, d1, d2, d3, d4, d5, d6, d7⟩ := hk.out W0 (Below.refl _ _)
    go_wp2_with fail
    go_ret
    exact ⟨by rw [H.out]; rfl, hB0⟩
  have hno : noB no = true := by unfold noB; rw [decide_eq_true (show 0 ≤ no by omega), decide_eq_true (show no ≤ 1048576 by omega)]; rfl
  rw [hno] at Hok
  clear hno
  have c1 := Lib.hid (fun w => isTime_any at_ w)
  have c2 := Lib.hid (fun w => isTime_any known w)
  have c3 := Lib.hid (fun w => isLang_any lang w)
  generalize tmB at_ = b1 at *
  generalize tmB known = b2 at *
  generalize langB lang = b3 at *
  generalize phraseB sx = b4 at *
  go_enter Tryd.func37, Tryd.ntmps37
  obtain ⟨d0, d1, d2, d3, d4, d5, d6, d7⟩ := hk.out W0 (Below.refl _ _)
  go_wp2_with fail
  refine (c1.out _).mono ?_
  rintro e w' ⟨rfl, rfl⟩
  cases b1
  · have H : Hid (ok = false) := by show _ = _; rw [Hok.out]; simp
    go_wp2_with fail
    go_ret
    exact ⟨by rw [H.out]; rfl, hB0⟩
  go_wp2_with fail
  refine (c2.out _).mono ?_
  rintro e w' ⟨rfl, rfl⟩
  cases b2
  · have H : Hid (ok = false) := by show _ = _; rw [Hok.out]; simp
    go_wp2_with fail
    go_ret
    exact ⟨by rw [H.out]; rfl, hB0⟩
  go_wp2_with fail
  refine (c3.out _).mono ?_
  rintro e w' ⟨rfl, rfl⟩
  cases b3
  · have H : Hid (ok = false) := by show _ = _; rw [Hok.out]; simp
    go_wp2_with fail
    go_ret
    exact ⟨by rw [H.out]; rfl, hB0⟩
  go_wp2_with fail
  refine (cS.out _ (Below.refl _ _)).mono ?_
  rintro e w1 ⟨rfl, hb1⟩
  have hB1 := ext_trans hB0 hb1
  clear d0 d1 d2 d3 d4 d5 d6 d7
  obtain ⟨d0, d1, d2, d3, d4, d5, d6, d7⟩ := hk.out w1 hb1
  cases b4
  · have H : Hid (ok = false) := by show _ = _; rw [Hok.out]; simp
    go_wp2_with fail
    go_ret
    exact ⟨by rw [H.out]; rfl, hB1⟩
  cases gone
  · have H : Hid (ok = (phraseB tx && nameB cat)) := by show _ = _; rw [Hok.out]; simp
    have cN := Lib.hid (fun w => name_any cat w)
    generalize phraseB tx = b5 at *
    generalize nameB cat = b6 at *
    clear Hok
    go_wp2_with fail
    refine (cT.out w1 hb1).mono ?_
    rintro e w2 ⟨rfl, hb2⟩
    have hB2 := ext_trans hB1 hb2
    clear d0 d1 d2 d3 d4 d5 d6 d7
    obtain ⟨d0, d1, d2, d3, d4, d5, d6, d7⟩ := hk.out w2 (ext_trans hb1 hb2)
    cases b5
    · go_wp2_with fail
      go_ret
      exact ⟨by rw [H.out]; rfl, hB2⟩
    · go_wp2_with fail
      refine (cN.out w2).mono ?_
      rintro e w' ⟨rfl, rfl⟩
      go_wp2_with fail
      go_ret
      exact ⟨by rw [H.out]; rfl, hB2⟩
  · have H : Hid (ok = (decide (tx.length = 0) && decide (cat.size = 0))) := by show _ = _; rw [Hok.out]; simp
    clear Hok
    by_cases h1 : tx.length = 0
    · have g1 : ((tx.length : Int) == 0) = true := by simp [h1]
      by_cases h2 : 0 < cat.size
      · have g2 := str_ne h2
        have H2 : Hid (ok = false) := by show _ = _; rw [H.out, decide_eq_false (show ¬ cat.size = 0 by omega), Bool.and_false]
        clear h1
        go_wp2_with fail
        go_ret
        exact ⟨by rw [H2.out]; rfl, hB1⟩
      · have g2 := str_no h2
        have H2 : Hid (ok = true) := by show _ = _; rw [H.out, decide_eq_true h1, decide_eq_true (show cat.size = 0 by omega)]; rfl
        clear h1
        go_wp2_with fail
        go_ret
        exact ⟨by rw [H2.out]; rfl, hB1⟩
    · have g1 : ((tx.length : Int) == 0) = false := beq_eq_false_iff_ne.2 (by omega)
      have H2 : Hid (ok = false) := by show _ = _; rw [H.out, decide_eq_false h1]; rfl
      clear h1
      go_wp2_with fail
      go_ret
      exact ⟨by rw [H2.out]; rfl, hB1⟩
set_option maxHeartbeats 1000000 in
theorem rightT27_any (x : Term) (w : World) (hx : x.lies w) : Calls Tryd.prog 49 #[x.val] w fun e w' => e = .returned (.bool x.ok) ∧ Below w.heap.size w w' := by
  obtain ⟨no, at_, known, lang, ⟨sA, sc, sx⟩, ⟨tA, tc, tx⟩, cat, gone⟩ := x
  have Hok : Hid (Term.ok ⟨no, at_, known, lang, ⟨sA, sc, sx⟩, ⟨tA, tc, tx⟩, cat, gone⟩ = (noB no && tmB at_ && tmB known && langB lang && phraseB sx && (if gone then decide (tx.length = 0) && decide (cat.size = 0) else phraseB tx && nameB cat))) := rfl
  have hv : Term.val ⟨no, at_, known, lang, ⟨sA, sc, sx⟩, ⟨tA, tc, tx⟩, cat, gone⟩ = .agg #[.int .i64 no, .int .i64 at_, .int .i64 known, .int .i64 lang, .slice sA sx.length sc, .slice tA tx.length tc, .string cat, .bool gone] := rfl
  obtain ⟨ok, hok⟩ : ∃ ok, Term.ok ⟨no, at_, known, lang, ⟨sA, sc, sx⟩, ⟨tA, tc, tx⟩, cat, gone⟩ = ok := ⟨_, rfl⟩
  rw [hok] at Hok ⊢
  rw [hv]
  obtain ⟨W0, hW0⟩ : ∃ W0, w.alloc (.cells #[.int .i64 no, .int .i64 at_, .int .i64 known, .int .i64 lang, .slice sA sx.length sc, .slice tA tx.length tc, .string cat, .bool gone] 25) = W0 := ⟨_, rfl⟩
  have hB0 : Below w.heap.size w W0 := by rw [← hW0]; exact ext_alloc (Below.refl _ _) _
  have hz0 : W0.heap.size = w.heap.size + 1 := by rw [← hW0]; simp
  have hk : Hid (∀ W, Below W0.heap.size W0 W → W.cell? ⟨w.heap.size, 0, none⟩ = some (.int .i64 no) ∧ W.cell? ⟨w.heap.size, 1, none⟩ = some (.int .i64 at_) ∧ W.cell? ⟨w.heap.size, 2, none⟩ = some (.int .i64 known) ∧ W.cell? ⟨w.heap.size, 3, none⟩ = some (.int .i64 lang) ∧ W.cell? ⟨w.heap.size, 4, none⟩ = some (.slice sA sx.length sc) ∧ W.cell? ⟨w.heap.size, 5, none⟩ = some (.slice tA tx.length tc) ∧ W.cell? ⟨w.heap.size, 6, none⟩ = some (.string cat) ∧ W.cell? ⟨w.heap.size, 7, none⟩ = some (.bool gone)) := by
    intro W hb
    have h0 : W0.heap[w.heap.size]? = some (.cells #[.int .i64 no, .int .i64 at_, .int .i64 known, .int .i64 lang, .slice sA sx.length sc, .slice tA tx.length tc, .string cat, .bool gone] 25 (0, 0)) := by rw [← hW0]; exact World.alloc_heap_new _ _
    have h1 := (hb.block _ (by omega)).trans h0
    exact ⟨gblk h1 0, gblk h1 1, gblk h1 2, gblk h1 3, gblk h1 4, gblk h1 5, gblk h1 6, gblk h1 7⟩
  have cS : Hid (∀ W, Below W0.heap.size W0 W → Calls Tryd.prog 73 #[.slice sA sx.length sc] W fun e w' => e = .returned (.bool (phraseB sx)) ∧ Below W.heap.size W w') := fun W hb => words_any ⟨sA, sc, sx⟩ W (hx.1.ext (ext_trans hB0 hb))
  have cT : Hid (∀ W, Below W0.heap.size W0 W → Calls Tryd.prog 73 #[.slice tA tx.length tc] W fun e w' => e = .returned (.bool (phraseB tx)) ∧ Below W.heap.size W w') := fun W hb => words_any ⟨tA, tc, tx⟩ W (hx.2.ext (ext_trans hB0 hb))
  have htl : tx.length ≤ 9223372036854775807 := Nat.le_trans hx.2.cap hx.2.max
  clear hok hv hx
  by_cases n0 : no < 0
  · have H : Hid (ok = false) := by show _ = _; rw [Hok.out]; unfold noB; rw [decide_eq_false (show ¬ 0 ≤ no by omega)]; rfl
    go_enter Tryd.func49, Tryd.ntmps49
    obtain ⟨d0, d1, d2, d3, d4, d5, d6, d7⟩ := hk.out W0 (Below.refl _ _)
    go_wp2_with fail
    go_ret
    exact ⟨by rw [H.out]; rfl, hB0⟩
  by_cases n1 : 1048576 < no
  · have H : Hid (ok = false) := by show _ = _; rw [Hok.out]; unfold noB; rw [decide_eq_false (show ¬ no ≤ 1048576 by omega), Bool.and_false]; rfl
    go_enter Tryd.func49, Tryd.ntmps49
    obtain ⟨d0, d1, d2, d3, d4, d5, d6, d7⟩ := hk.out W0 (Below.refl _ _)
    go_wp2_with fail
    go_ret
    exact ⟨by rw [H.out]; rfl, hB0⟩
  have hno : noB no = true := by unfold noB; rw [decide_eq_true (show 0 ≤ no by omega), decide_eq_true (show no ≤ 1048576 by omega)]; rfl
  rw [hno] at Hok
  clear hno
  have c1 := Lib.hid (fun w => time27_any at_ w)
  have c2 := Lib.hid (fun w => time27_any known w)
  have c3 := Lib.hid (fun w => language27_any lang w)
  generalize tmB at_ = b1 at *
  generalize tmB known = b2 at *
  generalize langB lang = b3 at *
  generalize phraseB sx = b4 at *
  go_enter Tryd.func49, Tryd.ntmps49
  obtain ⟨d0, d1, d2, d3, d4, d5, d6, d7⟩ := hk.out W0 (Below.refl _ _)
  go_wp2_with fail
  refine (c1.out _).mono ?_
  rintro e w' ⟨rfl, rfl⟩
  cases b1
  · have H : Hid (ok = false) := by show _ = _; rw [Hok.out]; simp
    go_wp2_with fail
    go_ret
    exact ⟨by rw [H.out]; rfl, hB0⟩
  go_wp2_with fail
  refine (c2.out _).mono ?_
  rintro e w' ⟨rfl, rfl⟩
  cases b2
  · have H : Hid (ok = false) := by show _ = _; rw [Hok.out]; simp
    go_wp2_with fail
    go_ret
    exact ⟨by rw [H.out]; rfl, hB0⟩
  go_wp2_with fail
  refine (c3.out _).mono ?_
  rintro e w' ⟨rfl, rfl⟩
  cases b3
  · have H : Hid (ok = false) := by show _ = _; rw [Hok.out]; simp
    go_wp2_with fail
    go_ret
    exact ⟨by rw [H.out]; rfl, hB0⟩
  go_wp2_with fail
  refine (cS.out _ (Below.refl _ _)).mono ?_
  rintro e w1 ⟨rfl, hb1⟩
  have hB1 := ext_trans hB0 hb1
  clear d0 d1 d2 d3 d4 d5 d6 d7
  obtain ⟨d0, d1, d2, d3, d4, d5, d6, d7⟩ := hk.out w1 hb1
  cases b4
  · have H : Hid (ok = false) := by show _ = _; rw [Hok.out]; simp
    go_wp2_with fail
    go_ret
    exact ⟨by rw [H.out]; rfl, hB1⟩
  cases gone
  · have H : Hid (ok = (phraseB tx && nameB cat)) := by show _ = _; rw [Hok.out]; simp
    have cN := Lib.hid (fun w => name3_any cat w)
    generalize phraseB tx = b5 at *
    generalize nameB cat = b6 at *
    clear Hok
    go_wp2_with fail
    refine (cT.out w1 hb1).mono ?_
    rintro e w2 ⟨rfl, hb2⟩
    have hB2 := ext_trans hB1 hb2
    clear d0 d1 d2 d3 d4 d5 d6 d7
    obtain ⟨d0, d1, d2, d3, d4, d5, d6, d7⟩ := hk.out w2 (ext_trans hb1 hb2)
    cases b5
    · go_wp2_with fail
      go_ret
      exact ⟨by rw [H.out]; rfl, hB2⟩
    · go_wp2_with fail
      refine (cN.out w2).mono ?_
      rintro e w' ⟨rfl, rfl⟩
      go_wp2_with fail
      go_ret
      exact ⟨by rw [H.out]; rfl, hB2⟩
  · have H : Hid (ok = (decide (tx.length = 0) && decide (cat.size = 0))) := by show _ = _; rw [Hok.out]; simp
    clear Hok
    by_cases h1 : tx.length = 0
    · have g1 : ((tx.length : Int) == 0) = true := by simp [h1]
      by_cases h2 : 0 < cat.size
      · have g2 := str_ne h2
        have H2 : Hid (ok = false) := by show _ = _; rw [H.out, decide_eq_false (show ¬ cat.size = 0 by omega), Bool.and_false]
        clear h1
        go_wp2_with fail
        go_ret
        exact ⟨by rw [H2.out]; rfl, hB1⟩
      · have g2 := str_no h2
        have H2 : Hid (ok = true) := by show _ = _; rw [H.out, decide_eq_true h1, decide_eq_true (show cat.size = 0 by omega)]; rfl
        clear h1
        go_wp2_with fail
        go_ret
        exact ⟨by rw [H2.out]; rfl, hB1⟩
    · have g1 : ((tx.length : Int) == 0) = false := beq_eq_false_iff_ne.2 (by omega)
      have H2 : Hid (ok = false) := by show _ = _; rw [H.out, decide_eq_false h1]; rfl
      clear h1
      go_wp2_with fail
      go_ret
      exact ⟨by rw [H2.out]; rfl, hB1⟩
end Go.Proofs.YtmindojbkedmlaaDoor

/- The check of terms, in the package and in the reference; few terms. -/
namespace Go.Proofs.YtmindojbkedmlaaDoor
open Go.RowKit Go.Han
attribute [local irreducible] wpStill wpQuiet
set_option maxRecDepth 100000

def tflat (l : List Term) : List Value := l.flatMap Term.cells
/-- A slice of terms as it lies. -/
structure TermsAt (w : World) (A : Option Addr) (l : List Term) : Prop where
  rd : Rd w A (tflat l)
  lie : ∀ x ∈ l, x.lies w
theorem TermsAt.ext {w w' : World} {A : Option Addr} {l : List Term} (h : TermsAt w A l) (hb : Below w.heap.size w w') : TermsAt w' A l := ⟨h.rd.ext hb, fun x hx => (h.lie x hx).ext hb⟩
theorem TermsAt.nil (w : World) (A : Option Addr) : TermsAt w A [] := ⟨Rd.nil _ _, fun x hx => by cases hx⟩
/-- The k-th term's cells, in every later world. -/
theorem TermsAt.at_ {w : World} {A : Option Addr} {l : List Term} (h : TermsAt w A l) {k : Nat} (hk : k < l.length) : ∃ b off, A = some ⟨b, off, none⟩ ∧ b < w.heap.size ∧
    (∀ (i : Nat) (hi : i < l.length) (W : World), Below w.heap.size w W → W.cell? ⟨b, off + i * 8, none⟩ = some (.int .i64 l[i].no) ∧ W.cell? ⟨b, off + i * 8 + 1, none⟩ = some (.int .i64 l[i].at_) ∧ W.cell? ⟨b, off + i * 8 + 2, none⟩ = some (.int .i64 l[i].known) ∧ W.cell? ⟨b, off + i * 8 + 3, none⟩ = some (.int .i64 l[i].lang) ∧
      W.cell? ⟨b, off + i * 8 + 4, none⟩ = some (.slice l[i].src.addr l[i].src.xs.length l[i].src.cap) ∧ W.cell? ⟨b, off + i * 8 + 5, none⟩ = some (.slice l[i].tgt.addr l[i].tgt.xs.length l[i].tgt.cap) ∧ W.cell? ⟨b, off + i * 8 + 6, none⟩ = some (.string l[i].cat) ∧ W.cell? ⟨b, off + i * 8 + 7, none⟩ = some (.bool l[i].gone)) := by
  obtain ⟨b, off, he, hb, _⟩ := h.rd.elem Term.size_cells (by omega) hk
  refine ⟨b, off, he, hb, fun i hi W hW => ?_⟩
  obtain ⟨b', off', he', _, hc⟩ := h.rd.elem Term.size_cells (by omega) hi
  rw [he] at he'
  cases he'
  have c0 := (hW.cell (p := ⟨b, off + i * 8 + 0, none⟩) hb).trans (hc 0 _ rfl)
  simp only [Nat.add_zero] at c0
  exact ⟨c0, (hW.cell (p := ⟨b, off + i * 8 + 1, none⟩) hb).trans (hc 1 _ rfl), (hW.cell (p := ⟨b, off + i * 8 + 2, none⟩) hb).trans (hc 2 _ rfl), (hW.cell (p := ⟨b, off + i * 8 + 3, none⟩) hb).trans (hc 3 _ rfl), (hW.cell (p := ⟨b, off + i * 8 + 4, none⟩) hb).trans (hc 4 _ rfl), (hW.cell (p := ⟨b, off + i * 8 + 5, none⟩) hb).trans (hc 5 _ rfl), (hW.cell (p := ⟨b, off + i * 8 + 6, none⟩) hb).trans (hc 6 _ rfl), (hW.cell (p := ⟨b, off + i * 8 + 7, none⟩) hb).trans (hc 7 _ rfl)⟩

def chkT : Int → List Term → Bool
  | _, [] => true
  | last, x :: l => x.ok && decide (last < x.no) && chkT x.no l
def checkT (l : List Term) : Int := if 1024 < l.length then 2 else if chkT (-1) l then 0 else 270
def lastT (l : List Term) : Nat → Int
  | 0 => -1
  | k + 1 => match l[k]? with | some x => x.no | none => -1
theorem lastT_succ (l : List Term) (k : Nat) (h : k < l.length) : lastT l (k + 1) = l[k].no := by
  show (match l[k]? with | some x => x.no | none => -1) = _
  rw [List.getElem?_eq_getElem h]
theorem chkT_drop (l : List Term) (k : Nat) (h : k < l.length) (last : Int) : chkT last (l.drop k) = (l[k].ok && decide (last < l[k].no) && chkT l[k].no (l.drop (k + 1))) := by
  rw [List.drop_eq_getElem_cons h]; rfl
theorem ok_no {x : Term} (h : x.ok = true) : 0 ≤ x.no ∧ x.no ≤ 1048576 := by
  unfold Term.ok noB at h
  simp only [Bool.and_eq_true, decide_eq_true_eq] at h
  exact h.1.1.1.1.1

theorem rightT_at (x : Term) (w : World) (hT : Tabs w) (hx : x.lies w) : Calls Tryd.prog 37 #[.agg #[.int .i64 x.no, .int .i64 x.at_, .int .i64 x.known, .int .i64 x.lang, .slice x.src.addr x.src.xs.length x.src.cap, .slice x.tgt.addr x.tgt.xs.length x.tgt.cap, .string x.cat, .bool x.gone]] w fun e w' => e = .returned (.bool x.ok) ∧ Below w.heap.size w w' := rightT_any x w hT hx
theorem rightT27_at (x : Term) (w : World) (hx : x.lies w) : Calls Tryd.prog 49 #[.agg #[.int .i64 x.no, .int .i64 x.at_, .int .i64 x.known, .int .i64 x.lang, .slice x.src.addr x.src.xs.length x.src.cap, .slice x.tgt.addr x.tgt.xs.length x.tgt.cap, .string x.cat, .bool x.gone]] w fun e w' => e = .returned (.bool x.ok) ∧ Below w.heap.size w w' := rightT27_any x w hx

set_option maxHeartbeats 1000000 in
theorem CheckT_any (A : Option Addr) (c : Nat) (l : List Term) (w : World) (hT : Tabs w) (hr : TermsAt w A l) (hm : l.length ≤ 9223372036854775807) :
    Calls Tryd.prog 36 #[.slice A l.length c] w fun e w' => e = .returned (.int .i64 (checkT l)) ∧ Below w.heap.size w w' := by
  by_cases hl : l.length ≤ 1024
  · have h1 : ¬ (1024 : Int) < l.length := by omega
    go_enter Tryd.func36, Tryd.ntmps36
    go_wp2_with fail
    go_loopw [3, 11] (fun t i wr => ∃ (k : Nat) (last : Int), k ≤ l.length ∧ i = .int .i64 k ∧ t = .int .i64 last ∧ Below w.heap.size w wr ∧ Hid (chkT (-1) l = chkT last (l.drop k))) (fun _ i _ => l.length - (intOf i).toNat)
    case atStart => exact ⟨0, _, Nat.zero_le _, rfl, rfl, Below.refl _ _, rfl⟩
    case round =>
      obtain ⟨k, last, hk, rfl, rfl, hB, HR⟩ := hrel
      by_cases hlt : k < l.length
      · obtain ⟨b, off, rfl, hb, hc⟩ := hr.at_ hlt
        obtain ⟨d0, d1, d2, d3, d4, d5, d6, d7⟩ := hc k hlt wr hB
        have hx : l[k].lies wr := (hr.lie _ (List.getElem_mem hlt)).ext hB
        have Hd := Lib.hid (chkT_drop l k hlt last)
        have hfin : ∀ b : Bool, b = (l[k].ok && decide (last < l[k].no)) → checkT l = if b then (if chkT l[k].no (l.drop (k + 1)) then 0 else 270) else 270 := by
          rintro b rfl
          unfold checkT
          rw [if_neg (by omega), HR.out, Hd.out]
          cases l[k].ok <;> simp
          by_cases h : last < l[k].no <;> simp [h]
        have Hfin := Lib.hid hfin
        clear hc hfin
        generalize l[k] = x at *
        have hBx : Below wr.heap.size wr (wr.alloc (.cells #[.int .i64 x.no, .int .i64 x.at_, .int .i64 x.known, .int .i64 x.lang, .slice x.src.addr x.src.xs.length x.src.cap, .slice x.tgt.addr x.tgt.xs.length x.tgt.cap, .string x.cat, .bool x.gone] 25)) := ext_alloc (Below.refl _ _) _
        have n0 := World.alloc_heap_new wr (.cells #[.int .i64 x.no, .int .i64 x.at_, .int .i64 x.known, .int .i64 x.lang, .slice x.src.addr x.src.xs.length x.src.cap, .slice x.tgt.addr x.tgt.xs.length x.tgt.cap, .string x.cat, .bool x.gone] 25)
        have cr := Lib.hid (rightT_at x _ (utf_ext hT (ext_trans hB hBx)) (hx.ext hBx))
        obtain ⟨ok, hok⟩ : ∃ ok, x.ok = ok := ⟨_, rfl⟩
        rw [hok] at Hd Hfin cr
        have Hok := Lib.hid hok
        clear hok hx
        go_wp2_with fail
        refine cr.out.mono ?_
        rintro e w2 ⟨rfl, hb2⟩
        have hB2 := ext_trans hB (ext_trans hBx hb2)
        have n2 := (hb2.block wr.heap.size (by simp)).trans n0
        have e0 := gblk n2 0
        clear n0 n2 d0 d1 d2 d3 d4 d5 d6 d7 cr hBx
        cases ok
        · have HF := Lib.hid (Hfin.out false rfl)
          clear Hfin Hd HR
          go_wp2_with fail
          go_ret
          exact ⟨by rw [HF.out]; rfl, hB2⟩
        · by_cases hla : last < x.no
          · have HF : Hid (chkT (-1) l = chkT x.no (l.drop (k + 1))) := by show _ = _; rw [HR.out, Hd.out, decide_eq_true hla]; rfl
            clear Hfin Hd HR
            go_wp2_with fail
            go_roundw
            case rel => exact ⟨k + 1, x.no, by omega, by go_num, rfl, hB2, HF⟩
            case measure => simp [intOf]; omega
          · have HF := Lib.hid (Hfin.out false (by rw [decide_eq_false hla]; rfl))
            clear Hfin Hd HR
            go_wp2_with fail
            go_ret
            exact ⟨by rw [HF.out]; rfl, hB2⟩
      · have h5 : Hid (checkT l = 0) := by
          show _ = _
          unfold checkT
          rw [if_neg (by omega), HR.out, show k = l.length by omega, List.drop_length]; rfl
        clear HR
        go_wp2_with fail
        go_ret
        exact ⟨by rw [h5.out]; rfl, hB⟩
  · have h5 : Hid (checkT l = 2) := by show _ = _; unfold checkT; rw [if_pos (by omega)]
    have h1 : (1024 : Int) < l.length := by omega
    go_enter Tryd.func36, Tryd.ntmps36
    go_wp2_with fail
    go_ret
    exact ⟨by rw [h5.out]; rfl, Below.refl _ _⟩

set_option maxHeartbeats 2000000 in
theorem check27_any (A : Option Addr) (c : Nat) (l : List Term) (w : World) (hr : TermsAt w A l) (hm : l.length ≤ 9223372036854775807) :
    Calls Tryd.prog 48 #[.slice A l.length c] w fun e w' => e = .returned (.int .i64 (checkT l)) ∧ Below w.heap.size w w' := by
  by_cases hl : l.length ≤ 1024
  · have h1 : ¬ (1024 : Int) < l.length := by omega
    go_enter Tryd.func48, Tryd.ntmps48
    go_wp2_with fail
    go_loopw [3] (fun i wr => ∃ (k : Nat) (last : Int), k ≤ l.length ∧ i = .int .i64 k ∧ Below w.heap.size w wr ∧ Hid (chkT (-1) l = chkT last (l.drop k)) ∧ Hid (last = lastT l k)) (fun i _ => l.length - (intOf i).toNat)
    case atStart => exact ⟨0, -1, Nat.zero_le _, rfl, Below.refl _ _, rfl, rfl⟩
    case round =>
      obtain ⟨k, last, hk, rfl, hB, HR, HL⟩ := hrel
      have hz := hB.size
      by_cases hlt : k < l.length
      · obtain ⟨b, off, rfl, hb, hc⟩ := hr.at_ hlt
        obtain ⟨d0, d1, d2, d3, d4, d5, d6, d7⟩ := hc k hlt wr hB
        have hx : l[k].lies wr := (hr.lie _ (List.getElem_mem hlt)).ext hB
        have Hd := Lib.hid (chkT_drop l k hlt last)
        have hbw : b < wr.heap.size := Nat.lt_of_lt_of_le hb hz
        have hcE : ∀ b : Bool, b = (l[k].ok && decide (last < l[k].no)) → checkT l = if b then (if chkT l[k].no (l.drop (k + 1)) then 0 else 270) else 270 := by
          rintro b rfl
          unfold checkT
          rw [if_neg (by omega), HR.out, Hd.out]
          cases l[k].ok <;> simp
          by_cases h : last < l[k].no <;> simp [h]
        have HcE := Lib.hid hcE
        have HL2 : Hid (l[k].no = lastT l (k + 1)) := (lastT_succ l k hlt).symm
        have cr : ∀ p : ExtBy wr, Calls Tryd.prog 49 _ p.to _ := fun p => rightT27_at l[k] p.to (hx.ext p.ext)
        cases hok : l[k].ok
        · have HF : Hid (checkT l = 270) := by
            show _ = _
            rw [HcE.out false (by rw [hok]; rfl)]; rfl
          rw [hok] at cr
          have Cr := Lib.hid cr
          clear hcE hok cr HcE hc hx Hd HL2
          generalize l[k] = x at *
          have c0 := fun p => cell_ext (w := wr) (a := ⟨b, off + k * 8, none⟩) hbw d0 p
          have c1 := fun p => cell_ext (w := wr) (a := ⟨b, off + k * 8 + 1, none⟩) hbw d1 p
          have c2 := fun p => cell_ext (w := wr) (a := ⟨b, off + k * 8 + 2, none⟩) hbw d2 p
          have c3 := fun p => cell_ext (w := wr) (a := ⟨b, off + k * 8 + 3, none⟩) hbw d3 p
          have c4 := fun p => cell_ext (w := wr) (a := ⟨b, off + k * 8 + 4, none⟩) hbw d4 p
          have c5 := fun p => cell_ext (w := wr) (a := ⟨b, off + k * 8 + 5, none⟩) hbw d5 p
          have c6 := fun p => cell_ext (w := wr) (a := ⟨b, off + k * 8 + 6, none⟩) hbw d6 p
          have c7 := fun p => cell_ext (w := wr) (a := ⟨b, off + k * 8 + 7, none⟩) hbw d7 p
          go_wp2_with fail
          refine wp_region_ext (by kernel_rfl) (by kernel_rfl) ?_
          repeat (quiet_step ((go_at_call 49; exact Calls.ext_of (Cr.out _))))
          refine wpQuiet_nil ?_
          intro _ hw'
          obtain ⟨p, rfl⟩ := hw'
          go_wp2
          go_ret
          exact ⟨by rw [HF.out]; rfl, hB.trans (p.ext.mono hz)⟩
        · rw [hok] at cr
          have Cr := Lib.hid cr
          have Hok := Lib.hid hok
          have hpos := (ok_no hok).1
          clear hok cr hcE hx
          rcases Nat.eq_zero_or_pos k with rfl | hk0
          · have hl0 : last = -1 := HL.out
            have HF : Hid (chkT (-1) l = chkT l[0].no (l.drop (0 + 1))) := by
              show _ = _
              rw [HR.out, Hd.out, Hok.out, hl0]
              simp; omega
            clear HR Hd
            subst hl0
            clear hc HcE HL Hok
            generalize l[0] = x at *
            simp only [Nat.zero_mul, Nat.add_zero] at d0 d1 d2 d3 d4 d5 d6 d7
            have c0 := fun p => cell_ext (w := wr) (a := ⟨b, off, none⟩) hbw d0 p
            have c1 := fun p => cell_ext (w := wr) (a := ⟨b, off + 1, none⟩) hbw d1 p
            have c2 := fun p => cell_ext (w := wr) (a := ⟨b, off + 2, none⟩) hbw d2 p
            have c3 := fun p => cell_ext (w := wr) (a := ⟨b, off + 3, none⟩) hbw d3 p
            have c4 := fun p => cell_ext (w := wr) (a := ⟨b, off + 4, none⟩) hbw d4 p
            have c5 := fun p => cell_ext (w := wr) (a := ⟨b, off + 5, none⟩) hbw d5 p
            have c6 := fun p => cell_ext (w := wr) (a := ⟨b, off + 6, none⟩) hbw d6 p
            have c7 := fun p => cell_ext (w := wr) (a := ⟨b, off + 7, none⟩) hbw d7 p
            go_wp2_with fail
            refine wp_region_ext (by kernel_rfl) (by kernel_rfl) ?_
            repeat (quiet_step ((go_at_call 49; exact Calls.ext_of (Cr.out _))))
            refine wpQuiet_nil ?_
            intro _ hw'
            obtain ⟨p, rfl⟩ := hw'
            go_wp2
            go_roundw
            case rel => exact ⟨1, x.no, by omega, rfl, hB.trans (p.ext.mono hz), HF, HL2⟩
            case measure => simp [intOf]; omega
          · have hl1 : k - 1 < l.length := by omega
            have hlast : last = l[k - 1].no := by
              have := lastT_succ l (k - 1) hl1
              rw [Nat.sub_add_cancel hk0] at this
              rw [HL.out, this]
            have e0 := (hc (k - 1) hl1 wr hB).1
            have ek : ((k : Int) - 1) = ((k - 1 : Nat) : Int) := by omega
            have Hek := Lib.hid ek
            rw [← hlast] at e0
            have HF : last < l[k].no → Hid (chkT (-1) l = chkT l[k].no (l.drop (k + 1))) := by
              intro h
              show _ = _
              rw [HR.out, Hd.out, Hok.out]
              simp [h]
            have HE : ¬ last < l[k].no → Hid (checkT l = 270) := by
              intro h
              show _ = _
              rw [HcE.out false (by rw [decide_eq_false h]; simp)]; rfl
            clear hc HL Hok HcE HR Hd hlast ek
            generalize l[k] = x at *
            have c0 := fun p => cell_ext (w := wr) (a := ⟨b, off + k * 8, none⟩) hbw d0 p
            have c1 := fun p => cell_ext (w := wr) (a := ⟨b, off + k * 8 + 1, none⟩) hbw d1 p
            have c2 := fun p => cell_ext (w := wr) (a := ⟨b, off + k * 8 + 2, none⟩) hbw d2 p
            have c3 := fun p => cell_ext (w := wr) (a := ⟨b, off + k * 8 + 3, none⟩) hbw d3 p
            have c4 := fun p => cell_ext (w := wr) (a := ⟨b, off + k * 8 + 4, none⟩) hbw d4 p
            have c5 := fun p => cell_ext (w := wr) (a := ⟨b, off + k * 8 + 5, none⟩) hbw d5 p
            have c6 := fun p => cell_ext (w := wr) (a := ⟨b, off + k * 8 + 6, none⟩) hbw d6 p
            have c7 := fun p => cell_ext (w := wr) (a := ⟨b, off + k * 8 + 7, none⟩) hbw d7 p
            have c9 := fun p => cell_ext (w := wr) (a := ⟨b, off + (k - 1) * 8, none⟩) hbw e0 p
            have w1 : IntKind.i64.wrap ((k : Int) - 1) = (k : Int) - 1 := IntWalk.i64_in _ (by omega)
            have w2 : (0 : Int) ≤ (k : Int) - 1 := by omega
            have w3 : (1 : Int) ≤ (k : Int) := by omega
            have w4 : (k : Int) - 1 < l.length := by omega
            have w5 : ((k : Int) - 1).toNat = k - 1 := by omega
            have w6 : (0 : Int) < (k : Int) := by omega
            by_cases hla : last < x.no
            · have HF2 := HF hla
              have g1 : decide (x.no ≤ last) = false := by simp; omega
              clear HF HE
              go_wp2_with fail
              refine wp_region_ext (by kernel_rfl) (by kernel_rfl) ?_
              repeat (quiet_step ((go_at_call 49; exact Calls.ext_of (Cr.out _))))
              refine wpQuiet_nil ?_
              intro _ hw'
              obtain ⟨p, rfl⟩ := hw'
              clear w1 w2 w3 w4 w5
              go_wp2
              go_roundw
              case rel => exact ⟨k + 1, x.no, by omega, by go_num, hB.trans (p.ext.mono hz), HF2, HL2⟩
              case measure => simp [intOf]; omega
            · have HE2 := HE hla
              have g1 : decide (x.no ≤ last) = true := by simp; omega
              clear HF HE
              go_wp2_with fail
              refine wp_region_ext (by kernel_rfl) (by kernel_rfl) ?_
              repeat (quiet_step ((go_at_call 49; exact Calls.ext_of (Cr.out _))))
              refine wpQuiet_nil ?_
              intro _ hw'
              obtain ⟨p, rfl⟩ := hw'
              clear w1 w2 w3 w4 w5
              go_wp2
              go_ret
              exact ⟨by rw [HE2.out]; rfl, hB.trans (p.ext.mono hz)⟩
      · have h5 : Hid (checkT l = 0) := by
          show _ = _
          unfold checkT
          rw [if_neg (by omega), HR.out, show k = l.length by omega, List.drop_length]; rfl
        clear HR
        go_wp2_with fail
        go_ret
        exact ⟨by rw [h5.out]; rfl, hB⟩
  · have h5 : Hid (checkT l = 2) := by show _ = _; unfold checkT; rw [if_pos (by omega)]
    have h1 : (1024 : Int) < l.length := by omega
    go_enter Tryd.func48, Tryd.ntmps48
    go_wp2_with fail
    go_ret
    exact ⟨by rw [h5.out]; rfl, Below.refl _ _⟩
end Go.Proofs.YtmindojbkedmlaaDoor

/- Comparing texts and terms (the reference); what counts, what is later. -/
namespace Go.Proofs.YtmindojbkedmlaaDoor
open Go.RowKit Go.Han
attribute [local irreducible] wpStill wpQuiet
set_option maxRecDepth 100000

theorem sameText_any (s t : StrS) (w : World) (hs : s.lies w) (ht : t.lies w) : Calls Tryd.prog 77 #[s.val, t.val] w fun e w' => e = .returned (.bool (decide (s.xs = t.xs))) ∧ Below w.heap.size w w' := by
  obtain ⟨A, c, l⟩ := s
  obtain ⟨B, d, l'⟩ := t
  have hm : l.length ≤ 9223372036854775807 := Nat.le_trans hs.cap hs.max
  have hat := Lib.hid (fun k hk => StrS.at_ hs (k := k) hk)
  have hat' := Lib.hid (fun k hk => StrS.at_ ht (k := k) hk)
  show Calls _ _ #[.slice A l.length c, .slice B l'.length d] w fun e w' => e = .returned (.bool (decide (l = l'))) ∧ _
  clear hs ht
  by_cases hl : l.length = l'.length
  · have hne : ((l.length : Int) != (l'.length : Int)) = false := by simp [hl]
    have Hl := Lib.hid hl
    clear hl
    go_enter Tryd.func77, Tryd.ntmps77
    go_wp2_with fail
    go_loopw [5] (fun i wr => ∃ k : Nat, k ≤ l.length ∧ i = .int .i64 k ∧ Below w.heap.size w wr ∧ Hid (l.take k = l'.take k)) (fun i _ => l.length - (intOf i).toNat)
    case atStart => exact ⟨0, Nat.zero_le _, rfl, Below.refl _ _, rfl⟩
    case round =>
      obtain ⟨k, hk, rfl, hB, HR⟩ := hrel
      by_cases hlt : k < l.length
      · have hlt' : k < l'.length := by have := Hl.out; omega
        obtain ⟨b, off, he, hb, hc⟩ := hat.out k hlt
        obtain ⟨b', off', he', hb', hc'⟩ := hat'.out k hlt'
        change A = _ at he
        change B = _ at he'
        change ∀ (j : Nat) (hj : j < l.length), w.cell? ⟨b, off + j, none⟩ = some (.string l[j]) at hc
        change ∀ (j : Nat) (hj : j < l'.length), w.cell? ⟨b', off' + j, none⟩ = some (.string l'[j]) at hc'
        subst he he'
        have h1 := (hB.cell (p := ⟨b, off + k, none⟩) hb).trans (hc k hlt)
        have h2 := (hB.cell (p := ⟨b', off' + k, none⟩) hb').trans (hc' k hlt')
        have htk : l.take (k + 1) = l.take k ++ [l[k]] := List.take_succ_eq_append_getElem hlt
        have htk' : l'.take (k + 1) = l'.take k ++ [l'[k]] := List.take_succ_eq_append_getElem hlt'
        have Htk := Lib.hid htk
        have Htk' := Lib.hid htk'
        have hf : Hid (l = l' → l[k] = l'[k]) := by rintro rfl; rfl
        clear hc hc' htk htk'
        generalize l[k] = x at *
        generalize l'[k] = y at *
        by_cases hxy : x = y
        · subst hxy
          have g1 : (x.toList != x.toList) = false := by simp
          have g2 : (x.toList == x.toList) = true := by simp
          go_wp2_with fail
          go_still (by kernel_rfl)
          go_wp2
          go_roundw
          case rel => exact ⟨k + 1, by omega, by go_num, hB.drew, by show _ = _; rw [Htk.out, Htk'.out, HR.out]⟩
          case measure => simp [intOf]; omega
        · have HF : Hid (decide (l = l') = false) := decide_eq_false (fun h => hxy (hf.out h))
          have hxl : ¬ x.toList = y.toList := fun h => hxy (by rw [ByteArray.toList_eq, ByteArray.toList_eq] at h; cases x with | mk a => cases y with | mk b => cases a; cases b; simp at h; rw [h])
          have g1 : (x.toList != y.toList) = true := by simpa using hxl
          have g2 : (x.toList == y.toList) = false := by simpa using hxl
          clear hxy hxl
          go_wp2_with fail
          go_still (by kernel_rfl)
          go_wp2
          go_ret
          exact ⟨by rw [HF.out]; rfl, hB.drew⟩
      · have HF : Hid (decide (l = l') = true) := by
          refine decide_eq_true ?_
          obtain rfl : k = l.length := by omega
          have h := HR.out
          rw [List.take_length, List.take_of_length_le (by have := Hl.out; omega)] at h
          exact h
        clear HR
        go_wp2_with fail
        go_ret
        exact ⟨by rw [HF.out]; rfl, hB⟩
  · have hne : ((l.length : Int) != (l'.length : Int)) = true := by simp; omega
    have HF : Hid (decide (l = l') = false) := decide_eq_false (fun h => hl (by rw [h]))
    clear hl
    go_enter Tryd.func77, Tryd.ntmps77
    go_wp2_with fail
    go_ret
    exact ⟨by rw [HF.out]; rfl, Below.refl _ _⟩
theorem sameText_at (s t : StrS) (w : World) (hs : s.lies w) (ht : t.lies w) : Calls Tryd.prog 77 #[.slice s.addr s.xs.length s.cap, .slice t.addr t.xs.length t.cap] w fun e w' => e = .returned (.bool (decide (s.xs = t.xs))) ∧ Below w.heap.size w w' := sameText_any s t w hs ht

def countsB (x : Term) (at_ known : Int) : Bool := decide (x.at_ ≤ at_) && decide (x.known ≤ known)
def laterB (a b : Term) : Bool := decide (b.at_ < a.at_) || (decide (a.at_ = b.at_) && decide (b.no < a.no))
def aboutB (a b : Term) : Bool := decide (a.lang = b.lang) && decide (a.src.xs = b.src.xs)
def sameTermB (a b : Term) : Bool := decide (a.no = b.no) && decide (a.at_ = b.at_) && decide (a.known = b.known) && decide (a.lang = b.lang) && decide (a.src.xs = b.src.xs) && decide (a.tgt.xs = b.tgt.xs) && decide (a.cat = b.cat) && decide (a.gone = b.gone)

theorem fewT_any (A : Option Addr) (c : Nat) (l : List Term) (w : World) (hm : l.length ≤ 9223372036854775807) : Calls Tryd.prog 8 #[.slice A l.length c] w fun e w' => e = .returned (.bool (decide (l.length ≤ 30) || (decide (1024 < l.length) && decide (l.length ≤ 1100)))) ∧ w = w' := by
  obtain ⟨q, hq⟩ : ∃ q, (decide (l.length ≤ 30) || (decide (1024 < l.length) && decide (l.length ≤ 1100))) = q := ⟨_, rfl⟩
  rw [hq]
  go_enter Tryd.func8, Tryd.ntmps8
  by_cases h1 : l.length ≤ 30
  · have H : Hid (q = true) := by show _ = _; rw [← hq]; simp [h1]
    have i1 : (l.length : Int) ≤ 30 := by omega
    clear hq
    go_wp2_with fail
    go_ret
    exact ⟨by rw [H.out]; first | rfl | (simp; done) | (simp; omega), rfl⟩
  · have i1 : ¬ (l.length : Int) ≤ 30 := by omega
    by_cases h2 : 1024 < l.length
    · have i2 : (1024 : Int) < l.length := by omega
      by_cases h3 : l.length ≤ 1100
      · have H : Hid (q = true) := by show _ = _; rw [← hq]; simp [h2, h3]
        have i3 : (l.length : Int) ≤ 1100 := by omega
        clear hq
        go_wp2_with fail
        go_ret
        exact ⟨by rw [H.out]; first | rfl | (simp; done) | (simp; omega), rfl⟩
      · have H : Hid (q = false) := by show _ = _; rw [← hq]; simp [h1, h3]
        have i3 : ¬ (l.length : Int) ≤ 1100 := by omega
        clear hq
        go_wp2_with fail
        go_ret
        exact ⟨by rw [H.out]; first | rfl | (simp; done) | (simp; omega), rfl⟩
    · have H : Hid (q = false) := by show _ = _; rw [← hq]; simp [h1, h2]
      have i2 : ¬ (1024 : Int) < l.length := by omega
      clear hq
      go_wp2_with fail
      go_ret
      exact ⟨by rw [H.out]; first | rfl | (simp; done) | (simp; omega), rfl⟩

end Go.Proofs.YtmindojbkedmlaaDoor

/- A piece of a slice of strings; IsAt (the reference). -/
namespace Go.Proofs.YtmindojbkedmlaaDoor
open Go.RowKit Go.Han
attribute [local irreducible] wpStill wpQuiet
set_option maxRecDepth 100000

def StrS.sub (s : StrS) (i n : Nat) : StrS := ⟨if s.cap = i then s.addr else s.addr.map (·.add (i * 1)), s.cap - i, (s.xs.drop i).take n⟩
theorem StrS.sub_len {s : StrS} {i n : Nat} (h : i + n ≤ s.xs.length) : (s.sub i n).xs.length = n := by
  show ((s.xs.drop i).take n).length = n
  simp; omega
theorem StrS.sub_lies {w : World} {s : StrS} (hs : s.lies w) {i n : Nat} (h : i + n ≤ s.xs.length) : (s.sub i n).lies w := by
  have hcap := hs.cap
  have hmax := hs.max
  have hn := StrS.sub_len h
  refine ⟨?_, by rw [hn]; show n ≤ s.cap - i; omega, by show s.cap - i ≤ _; omega, ?_⟩
  · show Rd w (if s.cap = i then s.addr else s.addr.map (·.add (i * 1))) (strs ((s.xs.drop i).take n))
    by_cases hc : s.cap = i
    · obtain rfl : n = 0 := by omega
      exact Rd.nil _ _
    · rw [if_neg hc]
      rcases hs.rd with h0 | ⟨b, off, he, hb, hcl⟩
      · have h1 : s.xs = [] := by simpa [strs] using h0
        rw [h1]
        simp only [List.drop_nil, List.take_nil]
        exact Rd.nil _ _
      · refine .inr ⟨b, off + i, by rw [he]; simp [Addr.add], hb, fun j u hu => ?_⟩
        have hj : j < n := by
          obtain ⟨hlt, _⟩ := List.getElem?_eq_some_iff.1 hu
          simp [strs] at hlt
          omega
        rw [Nat.add_assoc]
        refine hcl (i + j) u ?_
        rw [← hu]
        simp [strs, hj]
  · intro h0
    have h1 : s.addr = none := by
      change (if s.cap = i then s.addr else s.addr.map (·.add (i * 1))) = none at h0
      split at h0
      · exact h0
      · simpa using h0
    show (s.xs.drop i).take n = []
    rw [hs.nil h1]; simp
theorem strs_cell : Tryd.prog.cellsOf 9 = 1 := by kernel_rfl
theorem run_sub (s : StrS) (i n : Nat) (w : World) (h : i + n ≤ s.xs.length) (hc : s.xs.length ≤ s.cap) :
    (Instr.slice 23 (.slice s.addr s.xs.length s.cap) (some (.int .i64 i)) (some (.int .i64 ((i : Int) + (n : Int)))) none).run Tryd.prog w = .ok (.slice (s.sub i n).addr n (s.sub i n).cap) w := by
  have e := run_slice_lh (P := Tryd.prog) (w := w) 23 s.addr s.xs.length s.cap (by rw [Tryd.underlying23]; rfl) .i64 .i64 (i : Int) ((i : Int) + (n : Int)) (by omega) (by omega) (by omega)
  rw [e]
  have h1 : ((i : Int) + (n : Int)).toNat = i + n := by omega
  have h2 : ((i : Int)).toNat = i := by omega
  rw [h1, h2]
  have h3 : (Go.sizeOf (Tryd.prog.elem 23)).run Tryd.prog w = .ok 1 w := by kernel_rfl
  rw [h3]
  show Result.ok (sliced s.addr i (i + n) s.cap 1) w = _
  unfold sliced StrS.sub
  rw [show i + n - i = n by omega]
theorem run_from (s : StrS) (i : Nat) (w : World) (h : i ≤ s.xs.length) :
    (Instr.slice 23 (.slice s.addr s.xs.length s.cap) (some (.int .i64 i)) none none).run Tryd.prog w = .ok (.slice (s.sub i (s.xs.length - i)).addr (s.xs.length - i) (s.sub i (s.xs.length - i)).cap) w := by
  have e := run_slice_l (P := Tryd.prog) (w := w) 23 s.addr s.xs.length s.cap (by rw [Tryd.underlying23]; rfl) .i64 (i : Int) (by omega) (by omega)
  rw [e]
  have h2 : ((i : Int)).toNat = i := by omega
  rw [h2]
  have h3 : (Go.sizeOf (Tryd.prog.elem 23)).run Tryd.prog w = .ok 1 w := by kernel_rfl
  rw [h3]
  rfl
theorem run_upto (s : StrS) (n : Nat) (w : World) (h : n ≤ s.xs.length) (hc : s.xs.length ≤ s.cap) :
    (Instr.slice 23 (.slice s.addr s.xs.length s.cap) none (some (.int .i64 n)) none).run Tryd.prog w = .ok (.slice (s.sub 0 n).addr n (s.sub 0 n).cap) w := by
  have e := run_slice_h (P := Tryd.prog) (w := w) 23 s.addr s.xs.length s.cap (by rw [Tryd.underlying23]; rfl) .i64 (n : Int) (by omega) (by omega)
  rw [e]
  have h2 : ((n : Int)).toNat = n := by omega
  rw [h2]
  have h3 : (Go.sizeOf (Tryd.prog.elem 23)).run Tryd.prog w = .ok 1 w := by kernel_rfl
  rw [h3]
  rfl

/-- The term's source stands at the head of these words. -/
def startB (x : Term) (ws : List ByteArray) : Bool := decide (ws.take x.src.xs.length = x.src.xs)
theorem startB_long {x : Term} {ws : List ByteArray} (h : ws.length < x.src.xs.length) : startB x ws = false := by
  refine decide_eq_false fun e => ?_
  have := congrArg List.length e
  rw [List.length_take] at this
  omega

set_option maxHeartbeats 1000000 in
theorem isAt_any (x : Term) (s : StrS) (i : Nat) (w : World) (hx : x.lies w) (hs : s.lies w) (hi : i ≤ s.xs.length) :
    Calls Tryd.prog 52 #[.agg #[.int .i64 x.no, .int .i64 x.at_, .int .i64 x.known, .int .i64 x.lang, .slice x.src.addr x.src.xs.length x.src.cap, .slice x.tgt.addr x.tgt.xs.length x.tgt.cap, .string x.cat, .bool x.gone], .slice s.addr s.xs.length s.cap, .int .i64 i] w fun e w' => e = .returned (.bool (startB x (s.xs.drop i))) ∧ Below w.heap.size w w' := by
  obtain ⟨w0, hw0⟩ : ∃ w0, w.alloc (.cells #[.int .i64 x.no, .int .i64 x.at_, .int .i64 x.known, .int .i64 x.lang, .slice x.src.addr x.src.xs.length x.src.cap, .slice x.tgt.addr x.tgt.xs.length x.tgt.cap, .string x.cat, .bool x.gone] 25) = w0 := ⟨_, rfl⟩
  have hB0 : Below w.heap.size w w0 := by rw [← hw0]; exact ext_alloc (Below.refl _ _) _
  have hz0 : w.heap.size < w0.heap.size := by rw [← hw0]; simp
  have hx0 : w0.heap[w.heap.size]? = some (.cells #[.int .i64 x.no, .int .i64 x.at_, .int .i64 x.known, .int .i64 x.lang, .slice x.src.addr x.src.xs.length x.src.cap, .slice x.tgt.addr x.tgt.xs.length x.tgt.cap, .string x.cat, .bool x.gone] 25 (0, 0)) := by rw [← hw0]; exact World.alloc_heap_new _ _
  have b4 := gblk hx0 4
  have hcap := hs.cap
  have hmax := hs.max
  have hxm : x.src.xs.length ≤ 9223372036854775807 := Nat.le_trans hx.1.cap hx.1.max
  have w1 : IntKind.i64.wrap ((s.xs.length : Int) - (i : Int)) = (s.xs.length : Int) - (i : Int) := IntWalk.i64_in _ (by omega)
  by_cases hn : i + x.src.xs.length ≤ s.xs.length
  · have hle : (x.src.xs.length : Int) ≤ (s.xs.length : Int) - (i : Int) := by omega
    have w2 : IntKind.i64.wrap ((i : Int) + (x.src.xs.length : Int)) = (i : Int) + (x.src.xs.length : Int) := IntWalk.i64_in _ (by omega)
    have hsub : ∀ W : World, _ := fun W => run_sub s i x.src.xs.length W hn hcap
    have hL := StrS.sub_len hn
    have cS : Hid (∀ p : ExtBy w0, Calls Tryd.prog 77 #[.slice x.src.addr x.src.xs.length x.src.cap, .slice (s.sub i x.src.xs.length).addr x.src.xs.length (s.sub i x.src.xs.length).cap] p.to fun e w' => e = .returned (.bool (startB x (s.xs.drop i))) ∧ Below p.to.heap.size p.to w') := by
      intro p
      have hbb := ext_trans hB0 p.ext
      have h := sameText_at x.src (s.sub i x.src.xs.length) p.to (hx.1.ext hbb) ((StrS.sub_lies hs hn).ext hbb)
      rw [hL] at h
      refine h.mono ?_
      rintro e w' ⟨rfl, hb⟩
      refine ⟨?_, hb⟩
      congr 2
      unfold startB
      exact decide_eq_decide.2 ⟨Eq.symm, Eq.symm⟩
    have g4 := fun p => cell_ext (w := w0) (a := ⟨w.heap.size, 4, none⟩) hz0 b4 p
    generalize startB x (s.xs.drop i) = r at *
    generalize (s.sub i x.src.xs.length).addr = B at *
    generalize (s.sub i x.src.xs.length).cap = d at *
    clear hL hs hx hx0
    go_enter Tryd.func52, Tryd.ntmps52
    go_wp2_with fail
    refine wp_region_ext (by kernel_rfl) (by kernel_rfl) ?_
    repeat (quiet_step ((go_at_call 77; exact Calls.ext_of (cS.out _))))
    refine wpQuiet_nil ?_
    intro _ hw'
    obtain ⟨p, rfl⟩ := hw'
    go_wp2
    go_ret
    exact ⟨rfl, ext_trans hB0 p.ext⟩
  · have hle : ¬ (x.src.xs.length : Int) ≤ (s.xs.length : Int) - (i : Int) := by omega
    have hle2 : decide ((x.src.xs.length : Int) ≤ (s.xs.length : Int) - (i : Int)) = false := decide_eq_false hle
    rw [startB_long (by simp; omega)]
    clear hs hx hx0
    go_enter Tryd.func52, Tryd.ntmps52
    go_wp2_with fail
    refine wp_region_ext (by kernel_rfl) (by kernel_rfl) ?_
    repeat (quiet_step (fail))
    refine wpQuiet_nil ?_
    intro _ hw'
    obtain ⟨p, rfl⟩ := hw'
    go_wp2
    go_ret
    exact ⟨rfl, ext_trans hB0 p.ext⟩
end Go.Proofs.YtmindojbkedmlaaDoor

/- slices.Equal at strings. -/
namespace Go.Proofs.YtmindojbkedmlaaDoor
open Go.RowKit Go.Han
set_option maxRecDepth 100000

theorem equalStr_any (s t : StrS) (w : World) (hs : s.lies w) (ht : t.lies w) : Calls Tryd.prog 24 #[.slice s.addr s.xs.length s.cap, .slice t.addr t.xs.length t.cap] w fun e w' => e = .returned (.bool (decide (s.xs = t.xs))) ∧ ∃ q, w' = w.drewN q := by
  have hm : s.xs.length ≤ 9223372036854775807 := Nat.le_trans hs.cap hs.max
  have hm2 : t.xs.length ≤ 9223372036854775807 := Nat.le_trans ht.cap ht.max
  by_cases hl : s.xs.length = t.xs.length
  · by_cases h0 : s.xs.length = 0
    · have e1 : s.xs = [] := List.eq_nil_of_length_eq_zero h0
      have e2 : t.xs = [] := List.eq_nil_of_length_eq_zero (by omega)
      rw [e1, e2]
      refine (Tryd.slices_Equal_string_empty s.addr t.addr s.cap 0 t.cap w (by omega)).mono ?_
      rintro e w' ⟨rfl, rfl⟩
      exact ⟨rfl, 0, rfl⟩
    · obtain ⟨b, off, he, hb, hc⟩ := StrS.at_ hs (k := 0) (by omega)
      obtain ⟨b', off', he', hb', hc'⟩ := StrS.at_ ht (k := 0) (by omega)
      rw [he, he']
      refine (Tryd.slices_Equal_string b off s.xs.length s.cap b' off' t.xs.length t.cap s.xs t.xs w (Nat.le_refl _) (Nat.le_refl _) hm hm2 (fun j hj => ?_) (fun j hj => ?_)).mono ?_
      · rw [hc j hj]; simp [List.getD, hj]
      · rw [hc' j hj]; simp [List.getD, hj]
      · rintro e w' ⟨rfl, q, rfl⟩
        rw [List.take_length, List.take_length]
        exact ⟨rfl, q, rfl⟩
  · refine (Tryd.slices_Equal_string_lens s.addr t.addr s.xs.length s.cap t.xs.length t.cap w hl).mono ?_
    rintro e w' ⟨rfl, rfl⟩
    exact ⟨by rw [decide_eq_false (fun h => hl (by rw [h]))], 0, rfl⟩
end Go.Proofs.YtmindojbkedmlaaDoor

/- Package changes: what Touched asks of a sentence. -/
namespace Go.Proofs.YtmindojbkedmlaaDoor
open Go.RowKit Go.Han
attribute [local irreducible] wpStill wpQuiet
set_option maxRecDepth 100000

def touchB (x : Term) (ws : List ByteArray) : Bool := (List.range ws.length).any (fun i => startB x (ws.drop i))
theorem touchB_true {x : Term} {ws : List ByteArray} {k : Nat} (hk : k < ws.length) (h : startB x (ws.drop k) = true) : touchB x ws = true := List.any_eq_true.2 ⟨k, List.mem_range.2 hk, h⟩
theorem touchB_false {x : Term} {ws : List ByteArray} {k : Nat} (h : ∀ j, j < k → startB x (ws.drop j) = false) (hn : ws.length < k + x.src.xs.length) : touchB x ws = false := by
  unfold touchB
  rw [List.any_eq_false]
  intro j hj
  have hj := List.mem_range.1 hj
  rcases Nat.lt_or_ge j k with h1 | h1
  · rw [h j h1]; simp
  · rw [startB_long (by rw [List.length_drop]; omega)]; simp
theorem odd34_any (s : ByteArray) (w : World) (hT : Tabs w) : Calls Tryd.prog 22 #[.string s] w fun e w' => e = .returned (.bool (!wordB s)) ∧ Below w.heap.size w w' := by
  go_enter Tryd.func22, Tryd.ntmps22
  go_wp2_with fail
  refine (word_any s w hT).mono ?_
  rintro e w1 ⟨rfl, hb1⟩
  go_wp2_with fail
  go_ret
  exact ⟨by simp, hb1⟩
theorem long34_any (s : StrS) (w : World) : Calls Tryd.prog 18 #[.slice s.addr s.xs.length s.cap] w fun e w' => e = .returned (.bool (decide (16 < s.xs.length))) ∧ Below w.heap.size w w' := by
  by_cases h : 16 < s.xs.length
  · have g1 : (16 : Int) < s.xs.length := by omega
    rw [decide_eq_true h]
    go_enter Tryd.func18, Tryd.ntmps18
    go_wp2_with fail
    go_ret
    exact ⟨by simp, Below.refl _ _⟩
  · have g1 : ¬ (16 : Int) < s.xs.length := by omega
    rw [decide_eq_false h]
    go_enter Tryd.func18, Tryd.ntmps18
    go_wp2_with fail
    go_ret
    exact ⟨by simp, Below.refl _ _⟩
theorem wrong34_any (s : StrS) (w : World) (hT : Tabs w) (hs : s.lies w) : Calls Tryd.prog 20 #[.slice s.addr s.xs.length s.cap] w fun e w' => e = .returned (.bool (s.xs.any (fun y => !wordB y))) ∧ Below w.heap.size w w' := by
  have cC := Lib.hid (containsFuncW_any s 22 (fun y => !wordB y) w hs (enters_of Tryd.func22 (by kernel_rfl) rfl) (fun W hb y => odd34_any y W (utf_ext hT hb)))
  go_enter Tryd.func20, Tryd.ntmps20
  go_wp2_with fail
  refine cC.out.mono ?_
  rintro e w1 ⟨rfl, hb1⟩
  go_wp2_with fail
  go_ret
  exact ⟨rfl, hb1⟩
set_option maxHeartbeats 2000000 in
theorem touches34_any (x : Term) (s : StrS) (bn bx : Nat) (w : World) (hbn : w.heap[bn]? = some (.cells #[.int .i64 x.src.xs.length] 3 (0, 0))) (hbx : w.heap[bx]? = some (.cells #[.int .i64 x.no, .int .i64 x.at_, .int .i64 x.known, .int .i64 x.lang, .slice x.src.addr x.src.xs.length x.src.cap, .slice x.tgt.addr x.tgt.xs.length x.tgt.cap, .string x.cat, .bool x.gone] 25)) (hs : s.lies w) (hx : x.lies w) (h1 : 1 ≤ x.src.xs.length) (h2 : x.src.xs.length ≤ 1000) (h3 : s.xs.length ≤ 16) :
    Calls Tryd.prog 23 #[.slice s.addr s.xs.length s.cap, .pointer (some ⟨bn, 0, none⟩), .pointer (some ⟨bx, 0, none⟩)] w fun e w' => e = .returned (.bool (touchB x s.xs)) ∧ Below w.heap.size w w' := by
  have kn := lt_block hbn
  have kx := lt_block hbx
  have c0 := cell_one hbn
  have c4 := gblk hbx 4
  have hcap := hs.cap
  have HS := Lib.hid hs
  have HX := Lib.hid hx
  clear hbn hbx hs hx
  go_enter Tryd.func23, Tryd.ntmps23
  go_wp2_with fail
  go_loopw [5] (fun i wr => ∃ k : Nat, k ≤ s.xs.length ∧ i = .int .i64 k ∧ Below w.heap.size w wr ∧ Hid (∀ j, j < k → startB x (s.xs.drop j) = false)) (fun i _ => s.xs.length - (intOf i).toNat)
  case atStart => exact ⟨0, Nat.zero_le _, rfl, Below.refl _ _, fun j hj => by omega⟩
  case round =>
    obtain ⟨k, hk, rfl, hB, HR⟩ := hrel
    have hwn : IntKind.i64.wrap ((k : Int) + (x.src.xs.length : Int)) = (k : Int) + (x.src.xs.length : Int) := by rw [IntKind.wrap_i64]; omega
    have d0 := (hB.cell (p := ⟨bn, 0, none⟩) kn).trans c0
    have d4 := (hB.cell (p := ⟨bx, 4, none⟩) kx).trans c4
    have kn2 : bn < wr.heap.size := Nat.lt_of_lt_of_le kn hB.size
    have kx2 : bx < wr.heap.size := Nat.lt_of_lt_of_le kx hB.size
    by_cases hn : k + x.src.xs.length ≤ s.xs.length
    · have hle : (k : Int) + (x.src.xs.length : Int) ≤ (s.xs.length : Int) := by omega
      have hsub : ∀ W : World, _ := fun W => run_sub s k x.src.xs.length W hn hcap
      have hL := StrS.sub_len hn
      have cS : Hid (∀ p : ExtBy wr, Calls Tryd.prog 24 #[.slice (s.sub k x.src.xs.length).addr x.src.xs.length (s.sub k x.src.xs.length).cap, .slice x.src.addr x.src.xs.length x.src.cap] p.to fun e w' => e = .returned (.bool (startB x (s.xs.drop k))) ∧ Below p.to.heap.size p.to w') := by
        intro p
        have hbb := ext_trans hB p.ext
        have h := equalStr_any (s.sub k x.src.xs.length) x.src p.to ((StrS.sub_lies HS.out hn).ext hbb) (HX.out.1.ext hbb)
        rw [hL] at h
        refine h.mono ?_
        rintro e w' ⟨rfl, q, rfl⟩
        exact ⟨rfl, ⟨rfl, rfl, rfl, Nat.le_refl _, fun _ _ => rfl⟩⟩
      have g0 := fun p => cell_ext (w := wr) (a := ⟨bn, 0, none⟩) kn2 d0 p
      have g4 := fun p => cell_ext (w := wr) (a := ⟨bx, 4, none⟩) kx2 d4 p
      have HTt := Lib.hid (touchB_true (x := x) (ws := s.xs) (k := k) (by omega))
      have hkl : k + 1 ≤ s.xs.length := by omega
      obtain ⟨r, hr⟩ : ∃ r, startB x (s.xs.drop k) = r := ⟨_, rfl⟩
      rw [hr] at cS HTt
      have Hr := Lib.hid hr
      generalize (s.sub k x.src.xs.length).addr = B at *
      generalize (s.sub k x.src.xs.length).cap = dd at *
      clear hL hr
      go_wp2_with fail
      refine wp_region_ext (by kernel_rfl) (by kernel_rfl) ?_
      repeat (quiet_step ((go_at_call 24; exact Calls.ext_of (cS.out _))))
      refine wpQuiet_nil ?_
      intro _ hw'
      obtain ⟨p, rfl⟩ := hw'
      have hBp := ext_trans hB p.ext
      cases r
      · go_wp2
        go_roundw
        case rel =>
          refine ⟨k + 1, by omega, by go_num, hBp, fun j hj => ?_⟩
          rcases Nat.lt_or_ge j k with h | h
          · exact HR.out j h
          · obtain rfl : j = k := by omega
            exact Hr.out
        case measure => simp [intOf]; omega
      · go_wp2
        go_ret
        have ht : touchB x s.xs = true := by first | exact HTt.out rfl | exact HTt.out trivial
        exact ⟨by rw [ht]; rfl, hBp⟩
    · have hle : ¬ (k : Int) + (x.src.xs.length : Int) ≤ (s.xs.length : Int) := by omega
      have HN := Lib.hid (touchB_false HR.out (by omega))
      go_wp2_with fail
      go_ret
      exact ⟨by rw [HN.out]; rfl, hB⟩
end Go.Proofs.YtmindojbkedmlaaDoor

/- Package changes: where, the indices of the sentences that are touched, as an iterator. -/
namespace Go.Proofs.YtmindojbkedmlaaDoor
open Go.RowKit Go.Han
attribute [local irreducible] wpStill wpQuiet
attribute [local go_sem] Oper.semAt_some
set_option maxRecDepth 100000

def idxB (S : List StrS) (P : StrS → Bool) (i : Nat) : Bool := match S[i]? with | some s => P s | none => false
def idxT (S : List StrS) (P : StrS → Bool) (k : Nat) : List Nat := (List.range k).filter (idxB S P)
theorem idxT_succ {S : List StrS} {P : StrS → Bool} {k : Nat} (h : k < S.length) : idxT S P (k + 1) = idxT S P k ++ if P S[k] = true then [k] else [] := by
  unfold idxT
  rw [List.range_succ, List.filter_append]
  congr 1
  have e : idxB S P k = P S[k] := by unfold idxB; rw [List.getElem?_eq_getElem h]
  by_cases hp : P S[k] = true
  · rw [if_pos hp]; simp [e, hp]
  · rw [if_neg hp]; simp [e, hp]
theorem idxT_prefix (S : List StrS) (P : StrS → Bool) {k n : Nat} (h : k ≤ n) : idxT S P k <+: idxT S P n := by
  unfold idxT
  have e : List.range n = List.range k ++ (List.range n).drop k := by
    conv => lhs; rw [← List.take_append_drop k (List.range n)]
    rw [List.take_range, Nat.min_eq_left h]
  rw [e, List.filter_append]
  exact ⟨_, rfl⟩
theorem where34_any (A : Option Addr) (n cp bn bx : Nat) (w : World) : Calls Tryd.prog 26 #[.slice A n cp, .func (.func 23) #[] #[.pointer (some ⟨bn, 0, none⟩), .pointer (some ⟨bx, 0, none⟩)]] w fun e w' =>
    e = .returned (.func (.func 47) #[] #[.pointer (some ⟨w.heap.size, 0, none⟩), .pointer (some ⟨w.heap.size + 1, 0, none⟩)]) ∧ (w.alloc (.cells #[.slice A n cp] 26)).alloc (.cells #[.func (.func 23) #[] #[.pointer (some ⟨bn, 0, none⟩), .pointer (some ⟨bx, 0, none⟩)]] 48) = w' := by
  have hmf : ∀ (fn : Fn) (first cap : Array Value) (w : World), (Instr.makeFunc fn first cap).run Tryd.prog w = .ok (.func fn first cap) w := fun _ _ _ _ => rfl
  go_enter Tryd.func26, Tryd.ntmps26
  go_wp2
  go_ret
  exact ⟨rfl, rfl⟩
def WInv (B0 : Nat) (R : Nat → Prop) (w0 : World) (S : List StrS) (P : StrS → Bool) (J : (Nat → Prop) → List Nat → World → Prop) (i : Value) (wr : World) : Prop :=
  ∃ (own : Nat → Prop) (k : Nat), k ≤ S.length ∧ i = .int .i64 k ∧ J own (idxT S P k) wr ∧ Hid (∀ j, R j → wr.heap[j]? = w0.heap[j]?) ∧ Hid (∀ j, own j → ¬ R j) ∧ Hid (∀ j, own j → j < wr.heap.size) ∧ B0 ≤ wr.heap.size
set_option maxHeartbeats 2000000 in
theorem where34_1 (b1 b2 bn bx : Nat) (A : Option Addr) (cp : Nat) (S : List StrS) (P : StrS → Bool) (R : Nat → Prop) (w0 : World)
    (hK : ∀ W : World, (∀ k, R k → W.heap[k]? = w0.heap[k]?) → W.heap[b1]? = some (.cells #[.slice A S.length cp] 26 (0, 0)) ∧ W.heap[b2]? = some (.cells #[.func (.func 23) #[] #[.pointer (some ⟨bn, 0, none⟩), .pointer (some ⟨bx, 0, none⟩)]] 48 (0, 0)) ∧ SentsAt W A S ∧
      (∀ s ∈ S, Calls Tryd.prog 23 #[.slice s.addr s.xs.length s.cap, .pointer (some ⟨bn, 0, none⟩), .pointer (some ⟨bx, 0, none⟩)] W fun e w' => e = .returned (.bool (P s)) ∧ Below W.heap.size W w')) (hm : S.length ≤ 1000000) :
    IterC Tryd.prog 47 #[.pointer (some ⟨b1, 0, none⟩), .pointer (some ⟨b2, 0, none⟩)] (fun i : Nat => #[.int .i64 (i : Int)]) R (fun _ => False) (idxT S P S.length) none w0 := by
  intro l' B0 J Jx Jp own₀ W hR hown hB0 hlive hJ hJx hY h0
  refine (callsIn_wide (n := 0)).1 ?_
  refine callsIn_of_wp Tryd.func47 rfl trivial ?_
  simp only [Tryd.ntmps47, List.size_toArray, List.length_cons, List.length_nil, Nat.reduceAdd, Nat.reduceSub, Array.replicate_succ, Array.replicate_zero, List.push_toArray, List.append_toArray, List.nil_append, List.cons_append]
  have hRB : ∀ k, R k → k < B0 := fun k hk => (hR k hk).1
  have c1 := cell_one (hK W (fun k hk => (hR k hk).2)).1
  have hKk := fun k hk => (hR k hk).2
  have HK := Lib.hid hK
  have HY := Lib.hid hY
  have HJ := Lib.hid hJ
  have HRB := Lib.hid hRB
  clear hK hR hY hJx hJ hRB
  gi_wp2
  gi_loopw [8] (fun i wr => WInv B0 R w0 S P J i wr) (fun i _ => S.length - (intOf i).toNat)
  case atStart => exact ⟨own₀, 0, Nat.zero_le _, rfl, h0, hKk, hown, hlive, hB0⟩
  case round =>
    obtain ⟨own, k, hk, rfl, hj, hkeep, hdis, hliv, hBs⟩ := hrel
    by_cases hlt : k < S.length
    · obtain ⟨_, hw2, hT, hcl⟩ := HK.out wr hkeep.out
      obtain ⟨b, off, rfl, hb, hc⟩ := hT.at_ hlt
      have d0 := hc k hlt wr (Below.refl _ _)
      have c2 := cell_one hw2
      have cF := Lib.hid (hcl _ (List.getElem_mem hlt))
      have Htk := Lib.hid (idxT_succ (P := P) hlt)
      have Hpf := Lib.hid (idxT_prefix S P (show k + 1 ≤ S.length from hlt))
      clear hc hcl hT c1
      generalize S[k] = s at *
      gi_wp2_with fail
      refine ⟨trivial, rfl, (callsIn_wide.2 cF.out).mono ?_⟩
      rintro e w1 ⟨rfl, hb1⟩
      have hj1 := HJ.out own _ wr w1 hj ⟨hb1.os, hb1.tape, hb1.output, hb1.size, fun j hj _ => hb1.block j hj⟩
      have hkeep1 : Hid (∀ j, R j → w1.heap[j]? = w0.heap[j]?) := fun j hj => (hb1.block j (Nat.lt_of_lt_of_le (HRB.out j hj) hBs)).trans (hkeep.out j hj)
      have hsz1 := hb1.size
      cases hP : P s
      · have HN : Hid (idxT S P (k + 1) = idxT S P k) := by show _ = _; rw [Htk.out, hP]; simp
        clear hP
        gi_wp2_with fail
        refine ⟨fun _ h => (by cases h), ?_⟩
        gi_wp2_with fail
        go_roundw
        case rel => exact ⟨own, k + 1, by omega, by go_num, by rw [HN.out]; exact hj1, hkeep1, hdis, fun j hj => Nat.lt_of_lt_of_le (hliv.out j hj) hsz1, by omega⟩
        case measure => simp [intOf]; omega
      · have HN : Hid (idxT S P (k + 1) = idxT S P k ++ [k]) := by show _ = _; rw [Htk.out, hP]; simp
        obtain ⟨fn, tmps, assign, body, hy, hRd⟩ := HY.out own _ k w1 hj1 (by rw [← HN.out]; exact Hpf.out) hdis.out (fun j hj => Nat.lt_of_lt_of_le (hliv.out j hj) hsz1)
        change (Instr.yield l' #[.int .i64 (k : Int)]).run _ _ = _ at hy
        clear hP
        gi_wp2_with fail
        refine ⟨rfl, hRd.mono ?_⟩
        rintro e W3 (⟨own', hbs, (⟨rfl, hj3⟩ | ⟨rfl, hjx⟩)⟩ | ⟨ch, rfl, hjp⟩)
        · have hsz3 := hbs.size
          clear hy hRd
          gi_wp2_with fail
          go_roundw
          case rel =>
            refine ⟨own', k + 1, by omega, by go_num, by rw [HN.out]; exact hj3, fun j hjR => ?_, fun j hjo hjR => ?_, fun j hjo => hbs.live j hjo, by omega⟩
            · have h1 := HRB.out j hjR
              rw [hbs.block j (by omega) (fun h => hdis.out j h hjR)]
              exact hkeep1.out j hjR
            · rcases hbs.owns j hjo with h | h
              · exact hdis.out j h hjR
              · have := HRB.out j hjR; omega
          case measure => simp [intOf]; omega
        · gi_wp2_with fail
          refine bodyPost_ret (results_none rfl _ _ _) rfl ?_
          exact .inr (.inl ⟨⟨_, rfl⟩, own', _, by rw [← HN.out]; exact Hpf.out, hjx⟩)
        · exact ⟨rfl, .inr (.inr (.inl ⟨ch, rfl, hjp⟩))⟩
    · obtain rfl : k = S.length := by omega
      gi_wp2_with fail
      go_end0
      exact .inl ⟨rfl, ⟨_, rfl⟩, own, hj⟩
end Go.Proofs.YtmindojbkedmlaaDoor
