/- Reference 21: Least. -/
import Derived.Test.YtmindojbkedmlaaDoorR21a
import Derived.Test.YtmindojbkedmlaaDoorM4
namespace Go.Proofs.YtmindojbkedmlaaDoor
open Go.RowKit Go.Han
attribute [local irreducible] wpStill wpQuiet
set_option maxRecDepth 100000

def LeastPost (a b : StrS) (w : World) (e : Ending) (w' : World) : Prop :=
  ∃ H rb, e = .returned (.slice (some ⟨H, 0, none⟩) (a.xs.length + 1) (a.xs.length + 1)) ∧ Grid w' H a.xs.length b.xs.length (fun i => i ≤ a.xs.length) rb (cA a.xs b.xs) ∧ Below w.heap.size w w'
/-- The least so far at a place. -/
def lsS (a b : Ws) (i k n : Nat) : Nat := if i = a.length ∧ k = b.length then 0 else mS a b i k n
theorem stOk_end {a b : Ws} {j : Nat} : stOk a b j a.length b.length = false := by
  unfold stOk
  rw [eqAt_ne (by omega), neAt_ne (by omega)]
  simp
theorem lsS_ok {a b : Ws} {i k n : Nat} (h : stOk a b n i k = true) : lsS a b i k (n + 1) = min (lsS a b i k n) (stC n + cA a b (stI n i) (stK n k)) := by
  unfold lsS
  by_cases e : i = a.length ∧ k = b.length
  · obtain ⟨rfl, rfl⟩ := e
    rw [stOk_end] at h; cases h
  · rw [if_neg e, if_neg e, mS_ok h]
theorem lsS_no {a b : Ws} {i k n : Nat} (h : stOk a b n i k = false) : lsS a b i k (n + 1) = lsS a b i k n := by
  unfold lsS
  rw [mS_no h]
theorem lsS_le (a b : Ws) (i k n : Nat) : lsS a b i k n ≤ 128 := by
  unfold lsS
  split
  · omega
  · exact mS_le a b i k n
theorem lsS_4 {a b : Ws} {i k : Nat} (hi : i ≤ a.length) (hk : k ≤ b.length) : lsS a b i k 4 = cA a b i k := by
  unfold lsS
  by_cases e : i = a.length ∧ k = b.length
  · rw [if_pos e, cA_end (by omega) (by omega)]
  · rw [if_neg e, mS_all hi hk e]
def LsInv (a b : StrS) (w : World) (H i : Nat) (rb : Nat → Nat) (c : Nat) (wr : World) : Prop :=
  ∃ f, Grid wr H a.xs.length b.xs.length (fun j => i ≤ j ∧ j ≤ a.xs.length) rb f ∧ (∀ j m, i < j → j ≤ a.xs.length → m ≤ b.xs.length → f j m = cA a.xs b.xs j m) ∧ (∀ m, c ≤ m → m ≤ b.xs.length → f i m = cA a.xs b.xs i m) ∧ Below w.heap.size w wr
theorem ls_at {a b : StrS} {f : Nat → Nat → Nat} {i k n : Nat} (hn : n < 4) (h1 : ∀ j m, i < j → j ≤ a.xs.length → m ≤ b.xs.length → f j m = cA a.xs b.xs j m) (h2 : ∀ m, k + 1 ≤ m → m ≤ b.xs.length → f i m = cA a.xs b.xs i m)
    (hyi : stI n i ≤ a.xs.length) (hyk : stK n k ≤ b.xs.length) : f (stI n i) (stK n k) = cA a.xs b.xs (stI n i) (stK n k) := by
  by_cases e : n = 3
  · subst e
    exact h2 _ (by show k + 1 ≤ k + 1; omega) hyk
  · refine h1 _ _ ?_ hyi hyk
    unfold stI; rw [if_neg e]; omega
theorem ls_store {a b : StrS} {w wr : World} {H i k : Nat} {rb : Nat → Nat} {f : Nat → Nat → Nat} (hg : Grid wr H a.xs.length b.xs.length (fun j => i ≤ j ∧ j ≤ a.xs.length) rb f) (hi : i ≤ a.xs.length) (hk : k ≤ b.xs.length)
    (h1 : ∀ j m, i < j → j ≤ a.xs.length → m ≤ b.xs.length → f j m = cA a.xs b.xs j m) (h2 : ∀ m, k + 1 ≤ m → m ≤ b.xs.length → f i m = cA a.xs b.xs i m) (hB : Below w.heap.size w wr) (hb : w.heap.size ≤ rb i) :
    LsInv a b w H i rb k (wr.setCell ⟨rb i, k, none⟩ (.int .i64 ((cA a.xs b.xs i k : Nat) : Int))) := by
  refine ⟨_, hg.store ⟨Nat.le_refl _, hi⟩ hk _, fun j m h3 h4 h5 => ?_, fun m h3 h4 => ?_, hB.setCell (p := (⟨rb i, k, none⟩ : Addr)) hb _⟩
  · rw [Grid.upd_other (by omega)]; exact h1 j m h3 h4 h5
  · by_cases e : m = k
    · subst e; rw [Grid.upd_same]
    · rw [Grid.upd_other (by omega)]; exact h2 m (by omega) h4
set_option maxHeartbeats 8000000 in
theorem Least21_any (a b : StrS) (w : World) (ha : a.lies w) (hb : b.lies w) (h1 : a.xs.length ≤ 64) (h2 : b.xs.length ≤ 64) :
    Calls Tryd.prog 59 #[.slice a.addr a.xs.length a.cap, .slice b.addr b.xs.length b.cap] w (LeastPost a b w) := by
  have hmk : ∀ w : World, _ := mk_rows (a.xs.length + 1) (by omega)
  rw [show ((a.xs.length + 1 : Nat) : Int) = (a.xs.length : Int) + 1 by omega] at hmk
  have Ha := Lib.hid ha
  have Hb := Lib.hid hb
  clear ha hb
  go_enter Tryd.func59, Tryd.ntmps59
  go_wp2_with fail
  obtain ⟨W1, hW1⟩ : ∃ W1, w.alloc (.cells (Array.replicate (a.xs.length + 1) (.slice none 0 0)) 30) = W1 := ⟨_, rfl⟩
  have hB1 : Below w.heap.size w W1 := by rw [← hW1]; exact ext_alloc (Below.refl _ _) _
  have hg1 : Grid W1 w.heap.size a.xs.length b.xs.length (fun j => a.xs.length + 1 ≤ j ∧ j ≤ a.xs.length) (fun _ => 0) (cA a.xs b.xs) :=
    ⟨⟨_, _, by rw [← hW1]; exact World.alloc_heap_new _ _, by simp, fun i hi => absurd hi (by omega)⟩, fun i hi => absurd hi (by omega), fun i j hi => absurd hi (by omega), fun i hi => absurd hi (by omega)⟩
  rw [hW1]
  clear hW1 hmk
  have hmk : ∀ w : World, _ := mk_ints (b.xs.length + 1) (by omega)
  rw [show ((b.xs.length + 1 : Nat) : Int) = (b.xs.length : Int) + 1 by omega] at hmk
  go_loopw [6] (fun vi wr => ∃ (r : Nat) (rb : Nat → Nat), r ≤ a.xs.length + 1 ∧ vi = .int .i64 ((r : Int) - 1) ∧ Below w.heap.size w wr ∧ Grid wr w.heap.size a.xs.length b.xs.length (fun j => r ≤ j ∧ j ≤ a.xs.length) rb (cA a.xs b.xs)) (fun vi _ => (intOf vi + 1).toNat)
  case atStart => exact ⟨a.xs.length + 1, _, by omega, by go_num, hB1, hg1⟩
  case round =>
    obtain ⟨r, rb, hr, rfl, hBr, hg⟩ := hrel
    rcases r with _ | i
    · have z1 : ¬ (0 : Int) ≤ ((0 : Nat) : Int) - 1 := by omega
      go_wp2_with fail
      go_ret
      exact ⟨_, rb, rfl, hg.eqM (fun i hi => ⟨Nat.zero_le _, hi⟩), hBr⟩
    · rw [show ((i + 1 : Nat) : Int) - 1 = (i : Int) by omega]
      have z1 : (0 : Int) ≤ (i : Int) := by omega
      have z2 : (i : Int) < (a.xs.length : Int) + 1 := by omega
      obtain ⟨u, hu⟩ := hg.topw (i := i) (by omega)
      have hu0 := lt_cell hu
      have hfz := hg.topz i
      obtain ⟨W2, hW2⟩ : ∃ W2, wr.alloc (.cells (Array.replicate (b.xs.length + 1) (.int .i64 0)) 3) = W2 := ⟨_, rfl⟩
      have hB2 : Below wr.heap.size wr W2 := by rw [← hW2]; exact ext_alloc (Below.refl _ _) _
      have hr2 : W2.heap[wr.heap.size]? = some (.cells (Array.replicate (b.xs.length + 1) (.int .i64 ((0 : Nat) : Int))) 3 (0, 0)) := by rw [← hW2]; exact World.alloc_heap_new _ _
      have hu2 := (hB2.cell (p := ⟨w.heap.size, i, none⟩) hu0).trans hu
      have hfz2 := (hB2.frozen (p := ⟨w.heap.size, i, none⟩) hu0).trans hfz
      have hg2 := (hg.ext hB2).add (i := i) (z := 0) (by omega) (by show ¬ (i + 1 ≤ i ∧ _); omega) hr2 (fun m hm => by have := hg.olt hm; omega)
      have Hg2 := Lib.hid hg2
      have HB3 := Lib.hid ((ext_trans hBr hB2).setCell (p := (⟨w.heap.size, i, none⟩ : Addr)) (Nat.le_refl _) (.slice (some ⟨wr.heap.size, 0, none⟩) (b.xs.length + 1) (b.xs.length + 1)))
      clear hg2 hg hu hfz hr2
      go_wp2_with fail
      obtain ⟨W3, hW3⟩ : ∃ W3, W2.setCell ⟨w.heap.size, i, none⟩ (.slice (some ⟨wr.heap.size, 0, none⟩) (b.xs.length + 1) (b.xs.length + 1)) = W3 := ⟨_, rfl⟩
      have hI : LsInv a b w w.heap.size i (fun j => if j = i then wr.heap.size else rb j) (b.xs.length + 1) W3 := by
        rw [← hW3]
        exact ⟨_, Hg2.out.eqM (fun j hj => by show j = i ∨ (i + 1 ≤ j ∧ _); omega), fun j m h3 h4 h5 => if_neg (by omega), fun m h3 h4 => absurd h3 (by omega), HB3.out⟩
      rw [hW3]
      have hrbi : w.heap.size ≤ (fun j => if j = i then wr.heap.size else rb j) i := by simp only [if_true]; exact hBr.size
      generalize (fun j => if j = i then wr.heap.size else rb j) = rb2 at hI hrbi
      clear hW3 Hg2 HB3 hu2 hfz2 hW2 hB2 hu0 hBr
      have hia : i ≤ a.xs.length := by omega
      go_loopw [7] (fun vk wr => ∃ c : Nat, c ≤ b.xs.length + 1 ∧ vk = .int .i64 ((c : Int) - 1) ∧ LsInv a b w w.heap.size i rb2 c wr) (fun vk _ => (intOf vk + 1).toNat)
      case atStart => exact ⟨b.xs.length + 1, by omega, by go_num, hI⟩
      case round =>
        obtain ⟨c, hc, rfl, f, hg, hf1, hf2, hB⟩ := hrel
        rcases c with _ | k
        · have z3 : ¬ (0 : Int) ≤ ((0 : Nat) : Int) - 1 := by omega
          have w1 : IntKind.i64.wrap ((i : Int) - 1) = (i : Int) - 1 := by rw [IntKind.wrap_i64]; omega
          go_wp2_with fail
          go_roundw
          case rel => exact ⟨i, rb2, by omega, rfl, hB, hg.eqf (fun j m hj hm => by
            by_cases e : j = i
            · subst e; exact hf2 m (Nat.zero_le _) hm
            · exact hf1 j m (by omega) hj.2 hm)⟩
          case measure => simp [intOf]; try omega
        · rw [show ((k + 1 : Nat) : Int) - 1 = (k : Int) by omega]
          have hkb : k ≤ b.xs.length := by omega
          have z3 : (0 : Int) ≤ (k : Int) := by omega
          have w2 : IntKind.i64.wrap ((k : Int) - 1) = (k : Int) - 1 := by rw [IntKind.wrap_i64]; omega
          have hkey : ∃ p q : Bool, decide (i = a.xs.length) = p ∧ decide (k = b.xs.length) = q ∧ lsS a.xs b.xs i k 0 = if (p && q) = true then 0 else 128 := by
            refine ⟨_, _, rfl, rfl, ?_⟩
            unfold lsS mS
            by_cases e1 : i = a.xs.length <;> by_cases e2 : k = b.xs.length <;> simp [e1, e2]
          obtain ⟨p, q, hp, hq, hls⟩ := hkey
          have hp2 : ((i : Int) == (a.xs.length : Int)) = p := by rw [← hp]; by_cases e : i = a.xs.length <;> simp [e]; omega
          have hq2 : ((k : Int) == (b.xs.length : Int)) = q := by rw [← hq]; by_cases e : k = b.xs.length <;> simp [e]; omega
          have hp3 : (i == a.xs.length) = p := by rw [← hp]; rfl
          have hq3 : (k == b.xs.length) = q := by rw [← hq]; rfl
          obtain ⟨wz, hwz⟩ : ∃ wz, wz = wr := ⟨_, rfl⟩
          subst hwz
          have Hf := Lib.hid (And.intro hg (And.intro hf1 (And.intro hf2 hB)))
          clear hg hf1 hf2 hB hI
          cases p <;> cases q
          all_goals
            (first | rw [if_pos (by decide)] at hls | rw [if_neg (by decide)] at hls)
            have Hls := Lib.hid hls
            clear hls
            go_wp2_with fail
            clear hp hq hp2 hq2 hp3 hq3
            go_loopw [8, 9] (fun vl vs W => ∃ n : Nat, n ≤ 4 ∧ vl = .int .i64 ((lsS a.xs b.xs i k n : Nat) : Int) ∧ vs = .int .i64 ((n : Int) + 1) ∧ Below wz.heap.size wz W) (fun _ vs _ => 5 - (intOf vs).toNat)
            case atStart => exact ⟨0, by omega, by rw [Hls.out]; rfl, rfl, Below.refl _ _⟩
            case round =>
              obtain ⟨n, hn, rfl, rfl, hB2⟩ := hrel
              by_cases hlt : n < 4
              · have z4 : (n : Int) + 1 ≤ 4 := by omega
                have w3 : IntKind.i64.wrap ((n : Int) + 1 + 1) = (n : Int) + 1 + 1 := by rw [IntKind.wrap_i64]; omega
                have hBw := ext_trans Hf.out.2.2.2 hB2
                have cS := Lib.hid (step21r a b n i k wr hlt (by omega) (by omega) (Ha.out.ext hBw) (Hb.out.ext hBw))
                unfold StepR at cS
                have Hok := Lib.hid (lsS_ok (a := a.xs) (b := b.xs) (i := i) (k := k) (n := n))
                have Hno := Lib.hid (lsS_no (a := a.xs) (b := b.xs) (i := i) (k := k) (n := n))
                have hle := lsS_le a.xs b.xs i k n
                have hle2 : stC n ≤ 1 := by unfold stC; split <;> omega
                have hle3 := cA_le a.xs b.xs (stI n i) (stK n k)
                clear hBw
                go_wp2_with fail
                refine cS.out.mono ?_
                rintro e w7 ⟨rfl, hb7⟩
                have hB27 := ext_trans hB2 hb7
                cases hok : stOk a.xs b.xs n i k
                · have HN := Lib.hid (Hno.out hok)
                  clear hok cS
                  go_wp2_with fail
                  go_roundw
                  case rel => exact ⟨n + 1, by omega, by rw [HN.out], by go_num, hB27⟩
                  case measure => simp [intOf]; try omega
                · have HN := Lib.hid (Hok.out hok)
                  obtain ⟨hyi, hyk⟩ := stOk_le hlt hok hia hkb
                  obtain ⟨hg, hf1, hf2, hBz⟩ := Hf.out
                  have hmy : i ≤ stI n i := by unfold stI; split <;> omega
                  have hcy := ls_at hlt hf1 hf2 hyi hyk
                  have hg7 := hg.ext hB27
                  have t0 := hg7.topc (i := stI n i) ⟨hmy, hyi⟩
                  have t1 := hg7.cell (i := stI n i) (k := stK n k) ⟨hmy, hyi⟩ hyk
                  rw [hcy] at t1
                  have i1 : ((stI n i : Nat) : Int) < ((a.xs.length + 1 : Nat) : Int) := by omega
                  have i3 : ((stK n k : Nat) : Int) < ((b.xs.length + 1 : Nat) : Int) := by omega
                  clear hok cS hg hf1 hf2 hg7 hcy hyi hyk hmy hBz
                  generalize stI n i = yi at *
                  generalize stK n k = yk at *
                  generalize stC n = c at *
                  generalize cA a.xs b.xs yi yk = cy at *
                  generalize lsS a.xs b.xs i k n = m at *
                  have hwr : IntKind.i64.wrap ((c : Int) + (cy : Int)) = (c : Int) + (cy : Int) := by rw [IntKind.wrap_i64]; omega
                  have hmn : min (m : Int) ((c : Int) + (cy : Int)) = ((min m (c + cy) : Nat) : Int) := by omega
                  go_wp2_with fail
                  go_roundw
                  case rel => exact ⟨n + 1, by omega, by rw [HN.out], by go_num, hB27⟩
                  case measure => simp [intOf]; try omega
              · obtain rfl : n = 4 := by omega
                have z5 : ¬ ((4 : Nat) : Int) + 1 ≤ 4 := by omega
                obtain ⟨hg, hf1, hf2, hBz⟩ := Hf.out
                have hgw := hg.ext hB2
                have hMi : i ≤ i ∧ i ≤ a.xs.length := ⟨Nat.le_refl _, hia⟩
                have t0 := hgw.topc (i := i) hMi
                have t1 := hgw.cell (i := i) (k := k) hMi hkb
                have fr := hgw.free (i := i) hMi k
                have hrw := hgw.rlt (i := i) hMi
                rw [lsS_4 hia hkb]
                have i1 : (i : Int) < ((a.xs.length + 1 : Nat) : Int) := by omega
                have i3 : (k : Int) < ((b.xs.length + 1 : Nat) : Int) := by omega
                have HF := Lib.hid (ls_store hgw hia hkb hf1 hf2 (ext_trans hBz hB2) hrbi)
                clear hg hf1 hf2 hgw hBz hMi hrw
                generalize cA a.xs b.xs i k = v at *
                go_wp2_with fail
                go_roundw
                case rel => exact ⟨k, by omega, rfl, HF.out⟩
                case measure => simp [intOf]; try omega
end Go.Proofs.YtmindojbkedmlaaDoor
