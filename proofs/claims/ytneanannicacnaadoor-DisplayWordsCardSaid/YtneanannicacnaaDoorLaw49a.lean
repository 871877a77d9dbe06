/- The examples with which the statements about displays begin. -/
import Derived.Test.YtneanannicacnaaDoorLaw49t
import Derived.Deep.RegionWith
namespace Go.Proofs.YtneanannicacnaaDoor
open Go.RowKit Go.Han
attribute [local irreducible] wpStill wpQuiet
set_option maxRecDepth 100000

def TruePost (w : World) (e : Ending) (w' : World) : Prop := e = .returned (.bool true) ∧ Below w.heap.size w w'
theorem len_of_doE {l : List Spot} {c : Change} (h : doE l c = 0) : (madeL c l).length ≤ 1024 := by
  unfold doE at h
  by_cases h1 : checkE l ≠ 0
  · rw [if_pos h1] at h; exact absurd h h1
  · rw [if_neg h1] at h
    split at h
    · cases h
    · split at h
      · cases h
      · split at h
        · cases h
        · omega
theorem len_of_playE {l : List Change} {t : Int} (h : playE l t = 0) : (playL l t).length ≤ 1024 := by
  unfold playE at h
  split at h
  · cases h
  · split at h
    · cases h
    · split at h
      · cases h
      · exact (runL_inv (upTo t l) [] _ asc_nil (by simp) (Prod.ext h rfl)).2
theorem spot_any (i v : Int) (s : ByteArray) (w : World) : Calls Tryd.prog 46 #[.int .i64 i, .int .i64 v, .string s] w fun e w' => e = .returned (.agg #[.int .i64 i, .int .i64 v, .string s]) ∧ w.alloc (.cells #[.int .i64 i, .int .i64 v, .string s] 24) = w' := by
  go_enter Tryd.func46, Tryd.ntmps46
  go_wp2
  exact bodyPost_ret (v := .agg #[.int .i64 i, .int .i64 v, .string s]) (by simp [results, Tryd.results46, go_sem]) rfl ⟨rfl, rfl⟩
theorem alloc_at (w : World) (o : Obj) (n : Nat) (h : n = w.heap.size) : (w.alloc o).heap[n]? = some o := by
  subst h; exact World.alloc_heap_new _ _
theorem rd_blk {w : World} {b t : Nat} {cs : Array Value} {fr : Nat × Nat} {xs : List Value} (h : w.heap[b]? = some (.cells cs t fr)) (hx : cs.toList = xs) : Rd w (some ⟨b, 0, none⟩) xs := by
  refine .inr ⟨b, 0, rfl, lt_block h, fun j u hu => ?_⟩
  rw [Nat.zero_add, cell_blk h]
  rw [← hx] at hu
  simpa using hu

/-- The memory that the examples lay. -/
structure SaneMem (b0 b1 b2 b3 b4 b5 b6 b7 b8 b9 : Nat) (W : World) : Prop where
  m0 : W.heap[b0]? = some (.cells #[.int .i64 5, .int .i64 0, .string ⟨#[97]⟩] 24 (0, 0))
  m1 : W.heap[b1]? = some (.cells #[.int .i64 5, .int .i64 1, .string ⟨#[98]⟩] 24 (0, 0))
  m2 : W.heap[b2]? = some (.cells #[.int .i64 2, .int .i64 0, .string ⟨#[99]⟩] 24 (0, 0))
  m3 : W.heap[b3]? = some (.cells #[.int .i64 3, .int .i64 1, .int .i64 5, .int .i64 0, .string ⟨#[97]⟩, .int .i64 3, .int .i64 1, .int .i64 2, .int .i64 0, .string ⟨#[99]⟩, .int .i64 7, .int .i64 3, .int .i64 5, .int .i64 1, .string ⟨#[98]⟩, .int .i64 9, .int .i64 2, .int .i64 2, .int .i64 0, .string ⟨#[99]⟩] 26 (0, 0))
  m4 : W.heap[b4]? = some (.cells #[.int .i64 2, .int .i64 0, .string ⟨#[99]⟩, .int .i64 5, .int .i64 0, .string ⟨#[97]⟩] 24 (0, 0))
  m5 : W.heap[b5]? = some (.cells #[.int .i64 2, .int .i64 0, .string ⟨#[99]⟩, .int .i64 5, .int .i64 0, .string ⟨#[97]⟩] 24 (0, 0))
  m6 : W.heap[b6]? = some (.cells #[.int .i64 2, .int .i64 0, .string ⟨#[99]⟩, .int .i64 5, .int .i64 1, .string ⟨#[98]⟩] 24 (0, 0))
  m7 : W.heap[b7]? = some (.cells #[.int .i64 5, .int .i64 1, .string ⟨#[98]⟩] 24 (0, 0))
  m8 : W.heap[b8]? = some (.cells #[.int .i64 5, .int .i64 1, .string ⟨#[98]⟩] 24 (0, 0))
  m9 : W.heap[b9]? = some (.cells #[.int .i64 2, .slice none 0 0, .int .i64 0, .int .i64 3, .slice (some ⟨b4, 0, none⟩) 2 2, .int .i64 0, .int .i64 6, .slice (some ⟨b5, 0, none⟩) 2 2, .int .i64 0, .int .i64 7, .slice (some ⟨b6, 0, none⟩) 2 2, .int .i64 1, .int .i64 9, .slice (some ⟨b7, 0, none⟩) 1 1, .int .i64 2, .int .i64 99, .slice (some ⟨b8, 0, none⟩) 1 1, .int .i64 2] 68 (0, 0))
theorem SaneMem.ext {b0 b1 b2 b3 b4 b5 b6 b7 b8 b9 : Nat} {W W' : World} (h : SaneMem b0 b1 b2 b3 b4 b5 b6 b7 b8 b9 W) (hb : Below W.heap.size W W') : SaneMem b0 b1 b2 b3 b4 b5 b6 b7 b8 b9 W' :=
  ⟨(hb.block _ (lt_block h.m0)).trans h.m0, (hb.block _ (lt_block h.m1)).trans h.m1, (hb.block _ (lt_block h.m2)).trans h.m2, (hb.block _ (lt_block h.m3)).trans h.m3, (hb.block _ (lt_block h.m4)).trans h.m4, (hb.block _ (lt_block h.m5)).trans h.m5, (hb.block _ (lt_block h.m6)).trans h.m6, (hb.block _ (lt_block h.m7)).trans h.m7, (hb.block _ (lt_block h.m8)).trans h.m8, (hb.block _ (lt_block h.m9)).trans h.m9⟩
/-- The k-th example. -/
def Row6 (b9 k : Nat) (W : World) : Prop :=
  ∃ (t n : Int) (Aw : Option Addr) (wk : List Spot), W.cell? ⟨b9, k * 3, none⟩ = some (.int .i64 t) ∧ W.cell? ⟨b9, k * 3 + 1, none⟩ = some (.slice Aw wk.length wk.length) ∧ W.cell? ⟨b9, k * 3 + 2, none⟩ = some (.int .i64 n) ∧
    Rd W Aw (flat wk) ∧ playE sL t = 0 ∧ playL sL t = wk ∧ (countW (upTo t sL) : Int) = n ∧ wk.length ≤ 2
theorem SaneMem.row {b0 b1 b2 b3 b4 b5 b6 b7 b8 b9 : Nat} {W : World} (h : SaneMem b0 b1 b2 b3 b4 b5 b6 b7 b8 b9 W) (k : Nat) (hk : k < 6) : Row6 b9 k W := by
  rcases (show k = 0 ∨ k = 1 ∨ k = 2 ∨ k = 3 ∨ k = 4 ∨ k = 5 by omega) with rfl | rfl | rfl | rfl | rfl | rfl
  · exact ⟨2, 0, none, [], cell_blk h.m9 0, cell_blk h.m9 1, cell_blk h.m9 2, Rd.nil _ _, ex_2.1, ex_2.2.1, by rw [ex_2.2.2]; rfl, by decide⟩
  · exact ⟨3, 0, some ⟨b4, 0, none⟩, [sC, sA], cell_blk h.m9 3, cell_blk h.m9 4, cell_blk h.m9 5, rd_blk h.m4 rfl, ex_3.1, ex_3.2.1, by rw [ex_3.2.2]; rfl, by decide⟩
  · exact ⟨6, 0, some ⟨b5, 0, none⟩, [sC, sA], cell_blk h.m9 6, cell_blk h.m9 7, cell_blk h.m9 8, rd_blk h.m5 rfl, ex_6.1, ex_6.2.1, by rw [ex_6.2.2]; rfl, by decide⟩
  · exact ⟨7, 1, some ⟨b6, 0, none⟩, [sC, sB], cell_blk h.m9 9, cell_blk h.m9 10, cell_blk h.m9 11, rd_blk h.m6 rfl, ex_7.1, ex_7.2.1, by rw [ex_7.2.2]; rfl, by decide⟩
  · exact ⟨9, 2, some ⟨b7, 0, none⟩, [sB], cell_blk h.m9 12, cell_blk h.m9 13, cell_blk h.m9 14, rd_blk h.m7 rfl, ex_9.1, ex_9.2.1, by rw [ex_9.2.2]; rfl, by decide⟩
  · exact ⟨99, 2, some ⟨b8, 0, none⟩, [sB], cell_blk h.m9 15, cell_blk h.m9 16, cell_blk h.m9 17, rd_blk h.m8 rfl, ex_99.1, ex_99.2.1, by rw [ex_99.2.2]; rfl, by decide⟩

theorem SaneMem.facts {b0 b1 b2 b3 b4 b5 b6 b7 b8 b9 : Nat} {W : World} (h : SaneMem b0 b1 b2 b3 b4 b5 b6 b7 b8 b9 W) : W.cell? ⟨b0, 0, none⟩ = some (.int .i64 5) ∧ W.cell? ⟨b0, 1, none⟩ = some (.int .i64 0) ∧ W.cell? ⟨b0, 2, none⟩ = some (.string ⟨#[97]⟩) ∧ W.cell? ⟨b1, 0, none⟩ = some (.int .i64 5) ∧ W.cell? ⟨b1, 1, none⟩ = some (.int .i64 1) ∧ W.cell? ⟨b1, 2, none⟩ = some (.string ⟨#[98]⟩) ∧ W.cell? ⟨b2, 0, none⟩ = some (.int .i64 2) ∧ W.cell? ⟨b2, 1, none⟩ = some (.int .i64 0) ∧ W.cell? ⟨b2, 2, none⟩ = some (.string ⟨#[99]⟩) ∧ W.cell? ⟨b3, 0, none⟩ = some (.int .i64 3) ∧ W.cell? ⟨b3, 1, none⟩ = some (.int .i64 1) ∧ W.cell? ⟨b3, 2, none⟩ = some (.int .i64 5) ∧ W.cell? ⟨b3, 3, none⟩ = some (.int .i64 0) ∧ W.cell? ⟨b3, 4, none⟩ = some (.string ⟨#[97]⟩) ∧ W.cell? ⟨b3, 15, none⟩ = some (.int .i64 9) ∧ W.cell? ⟨b3, 16, none⟩ = some (.int .i64 2) ∧ W.cell? ⟨b3, 17, none⟩ = some (.int .i64 2) ∧ W.cell? ⟨b3, 18, none⟩ = some (.int .i64 0) ∧ W.cell? ⟨b3, 19, none⟩ = some (.string ⟨#[99]⟩) ∧ b0 < W.heap.size ∧ b1 < W.heap.size ∧ b2 < W.heap.size ∧ b3 < W.heap.size :=
  ⟨cell_blk h.m0 0, cell_blk h.m0 1, cell_blk h.m0 2, cell_blk h.m1 0, cell_blk h.m1 1, cell_blk h.m1 2, cell_blk h.m2 0, cell_blk h.m2 1, cell_blk h.m2 2, cell_blk h.m3 0, cell_blk h.m3 1, cell_blk h.m3 2, cell_blk h.m3 3, cell_blk h.m3 4, cell_blk h.m3 15, cell_blk h.m3 16, cell_blk h.m3 17, cell_blk h.m3 18, cell_blk h.m3 19, lt_block h.m0, lt_block h.m1, lt_block h.m2, lt_block h.m3⟩
set_option maxHeartbeats 1000000 in
theorem sane_any (w : World) (hT : Tabs w) : Calls Tryd.prog 15 #[] w (TruePost w) := by
  go_enter Tryd.func15, Tryd.ntmps15
  go_wp2_with (first | (go_at_call 46; refine (spot_any _ _ _ _).mono ?_; rintro e w' ⟨rfl, rfl⟩))
  go_loopw [58, 6, 7, 8, 9, 10] (fun i _ _ _ _ _ wr => ∃ k : Nat, k ≤ 6 ∧ i = .int .i64 k ∧ Below w.heap.size w wr ∧ SaneMem (w.heap.size + 1 + 1 + 1) (w.heap.size + 1 + 1 + 1 + 1) (w.heap.size + 1 + 1 + 1 + 1 + 1) (w.heap.size + 1 + 1 + 1 + 1 + 1 + 1) (w.heap.size + 1 + 1 + 1 + 1 + 1 + 1 + 1) (w.heap.size + 1 + 1 + 1 + 1 + 1 + 1 + 1 + 1) (w.heap.size + 1 + 1 + 1 + 1 + 1 + 1 + 1 + 1 + 1) (w.heap.size + 1 + 1 + 1 + 1 + 1 + 1 + 1 + 1 + 1 + 1) (w.heap.size + 1 + 1 + 1 + 1 + 1 + 1 + 1 + 1 + 1 + 1 + 1) (w.heap.size + 1 + 1 + 1 + 1 + 1 + 1 + 1 + 1 + 1 + 1 + 1 + 1) wr) (fun i _ _ _ _ _ _ => 6 - (intOf i).toNat)
  case atStart =>
    refine ⟨0, by omega, rfl, ?_, ⟨?_, ?_, ?_, ?_, ?_, ?_, ?_, ?_, ?_, ?_⟩⟩
    · repeat (first | exact Below.refl _ _ | refine ext_alloc ?_ _)
    all_goals repeat (first | (refine alloc_at _ _ _ ?_; simp only [World.size_alloc]; done) | refine (Below.heap_alloc _ _ _ (by simp only [World.size_alloc]; omega)).trans ?_)
  case round =>
    obtain ⟨k, hk, rfl, hB, hM⟩ := hrel
    have hz := hB.size
    by_cases hlt : k < 6
    · obtain ⟨t, n, Aw, wk, c0, c1, c2, hrw, hPE, hPL, hCW, hwl⟩ := hM.row k hlt
      have hlw := lt_block hM.m9
      have cP := Lib.hid (fun W (hb : Below wr.heap.size wr W) => Play_any (some ⟨w.heap.size + 1 + 1 + 1 + 1 + 1 + 1, 0, none⟩) 4 sL t W (utf_ext hT (ext_trans hB hb)) ((rd_blk hM.m3 (xs := cflat sL) rfl).ext hb) (by decide))
      have cW := Lib.hid (fun W (hb : Below wr.heap.size wr W) => Withdrawn_any (some ⟨w.heap.size + 1 + 1 + 1 + 1 + 1 + 1, 0, none⟩) 4 sL t W (utf_ext hT (ext_trans hB hb)) ((rd_blk hM.m3 (xs := cflat sL) rfl).ext hb) (by decide))
      have hl4 : sL.length = 4 := rfl
      rw [hl4] at cP cW
      clear hl4
      obtain ⟨W0, hW0⟩ : ∃ W0, wr.alloc (.cells #[.int .i64 t, .slice Aw wk.length wk.length, .int .i64 n] 68) = W0 := ⟨_, rfl⟩
      have hB0 : Below wr.heap.size wr W0 := by rw [← hW0]; exact (Below.refl _ _).alloc (Nat.le_refl _) _
      have hx0 : W0.heap[wr.heap.size]? = some (.cells #[.int .i64 t, .slice Aw wk.length wk.length, .int .i64 n] 68 (0, 0)) := by rw [← hW0]; exact World.alloc_heap_new _ _
      have hz0 : W0.heap.size = wr.heap.size + 1 := by rw [← hW0]; simp
      have x0 : W0.cell? ⟨wr.heap.size, 0, none⟩ = some (.int .i64 t) := cell_blk hx0 0
      have HPE := Lib.hid hPE
      have HPL := Lib.hid hPL
      have HCW := Lib.hid hCW
      have HM := Lib.hid hM
      clear hPE hPL hCW hM
      go_wp2_with fail
      refine (cP.out W0 hB0).mono ?_
      rintro e w2 ⟨hb2, h2⟩
      have hB2 := ext_trans hB0 hb2
      have hx2 := (hb2.block _ (by omega)).trans hx0
      have x0' : w2.cell? ⟨wr.heap.size, 0, none⟩ = some (.int .i64 t) := cell_blk hx2 0
      clear x0
      rcases h2 with ⟨hn, _⟩ | ⟨_, v2, rfl, hown⟩
      · exact absurd HPE.out hn
      rw [HPL.out] at hown
      obtain ⟨A2, cp2, rfl, hrd2, _⟩ := own_form hown
      go_wp2_with fail
      refine (cW.out w2 hB2).mono ?_
      rintro e w3 ⟨hb3, rfl⟩
      have hB3 := ext_trans hB2 hb3
      have hx3 := (hb3.block _ (by have := hb2.size; omega)).trans hx2
      have x1 : w3.cell? ⟨wr.heap.size, 1, none⟩ = some (.slice Aw wk.length wk.length) := cell_blk hx3 1
      have x2 : w3.cell? ⟨wr.heap.size, 2, none⟩ = some (.int .i64 n) := cell_blk hx3 2
      rw [if_pos HPE.out, HPE.out, HCW.out]
      clear x0'
      go_wp2_with fail
      have cS := same49_any A2 Aw cp2 wk.length wk wk w3 (hrd2.ext hb3) (hrw.ext hB3) (by omega)
      rw [decide_eq_true (show wk = wk from rfl)] at cS
      refine cS.mono ?_
      rintro e w4 ⟨rfl, hb4⟩
      have hB4 := ext_trans hB3 hb4
      have hx4 := (hb4.block _ (by have := hb2.size; have := hb3.size; omega)).trans hx3
      have y2 : w4.cell? ⟨wr.heap.size, 2, none⟩ = some (.int .i64 n) := cell_blk hx4 2
      clear x1 x2 cS
      go_wp2_with fail
      go_roundw
      case rel => exact ⟨k + 1, by omega, by go_num, ext_trans hB hB4, HM.out.ext hB4⟩
      case measure => simp [intOf]; omega
    · obtain rfl : k = 6 := by omega
      obtain ⟨W1, hW1⟩ : ∃ W1, W1 = wr := ⟨_, rfl⟩
      subst hW1
      have HM1 := Lib.hid hM
      have HB1 := hB
      clear hM hz hlt hk
      obtain ⟨a0, a1, a2, p0, p1, p2, q0, q1, q2, k0, k1, k2, k3, k4, l0, l1, l2, l3, l4, lt0, lt1, lt2, lt3⟩ := HM1.out.facts
      go_wp2_with fail
      refine (Play_err [] (-1) 1 _ (utf_ext hT HB1) rfl ex_neg (by decide)).mono ?_
      rintro e W2 ⟨rfl, hb2⟩
      clear a0 a1 a2 p0 p1 p2 q0 q1 q2 k0 k1 k2 k3 k4 l0 l1 l2 l3 l4 lt0 lt1 lt2 lt3
      have hbb2 := hb2
      have HB2 := ext_trans HB1 hbb2
      have HM2 := Lib.hid (HM1.out.ext hbb2)
      obtain ⟨a0, a1, a2, p0, p1, p2, q0, q1, q2, k0, k1, k2, k3, k4, l0, l1, l2, l3, l4, lt0, lt1, lt2, lt3⟩ := HM2.out.facts
      go_wp2_with fail
      refine (Do_err none 0 0 [] ⟨9, 2, sC⟩ 490 _ (utf_ext hT HB2) (Rd.nil _ _) (fun _ => rfl) rfl (by decide) ex_do1 (by decide)).mono ?_
      rintro e W3 ⟨rfl, hb3⟩
      clear a0 a1 a2 p0 p1 p2 q0 q1 q2 k0 k1 k2 k3 k4 l0 l1 l2 l3 l4 lt0 lt1 lt2 lt3
      have hbb3 := hb3
      have HB3 := ext_trans HB2 hbb3
      have HM3 := Lib.hid (HM2.out.ext hbb3)
      obtain ⟨a0, a1, a2, p0, p1, p2, q0, q1, q2, k0, k1, k2, k3, k4, l0, l1, l2, l3, l4, lt0, lt1, lt2, lt3⟩ := HM3.out.facts
      go_wp2_with fail
      refine (Do_err (some ⟨W3.heap.size, 0, none⟩) 1 1 [sA] ⟨0, 3, sA⟩ 490 _ (tabs_new (utf_ext hT HB3) _) (rd_new rfl) (fun h => by cases h) rfl (by decide) ex_do2 (by decide)).mono ?_
      rintro e W4 ⟨rfl, hb4⟩
      clear a0 a1 a2 p0 p1 p2 q0 q1 q2 k0 k1 k2 k3 k4 l0 l1 l2 l3 l4 lt0 lt1 lt2 lt3
      have hbb4 := ext_trans ((Below.refl W3.heap.size W3).alloc (Nat.le_refl _) _) hb4
      have HB4 := ext_trans HB3 hbb4
      have HM4 := Lib.hid (HM3.out.ext hbb4)
      obtain ⟨a0, a1, a2, p0, p1, p2, q0, q1, q2, k0, k1, k2, k3, k4, l0, l1, l2, l3, l4, lt0, lt1, lt2, lt3⟩ := HM4.out.facts
      go_wp2_with fail
      refine (Do_err (some ⟨W4.heap.size, 0, none⟩) 1 1 [sA] ⟨0, 1, sB⟩ 490 _ (tabs_new (utf_ext hT HB4) _) (rd_new rfl) (fun h => by cases h) rfl (by decide) ex_do3 (by decide)).mono ?_
      rintro e W5 ⟨rfl, hb5⟩
      clear a0 a1 a2 p0 p1 p2 q0 q1 q2 k0 k1 k2 k3 k4 l0 l1 l2 l3 l4 lt0 lt1 lt2 lt3
      have hbb5 := ext_trans ((Below.refl W4.heap.size W4).alloc (Nat.le_refl _) _) hb5
      have HB5 := ext_trans HB4 hbb5
      have HM5 := Lib.hid (HM4.out.ext hbb5)
      obtain ⟨a0, a1, a2, p0, p1, p2, q0, q1, q2, k0, k1, k2, k3, k4, l0, l1, l2, l3, l4, lt0, lt1, lt2, lt3⟩ := HM5.out.facts
      go_wp2_with fail
      refine (Do_err (some ⟨W5.heap.size, 0, none⟩) 1 1 [sA] ⟨0, 2, sB⟩ 490 _ (tabs_new (utf_ext hT HB5) _) (rd_new rfl) (fun h => by cases h) rfl (by decide) ex_do4 (by decide)).mono ?_
      rintro e W6 ⟨rfl, hb6⟩
      clear a0 a1 a2 p0 p1 p2 q0 q1 q2 k0 k1 k2 k3 k4 l0 l1 l2 l3 l4 lt0 lt1 lt2 lt3
      have hbb6 := ext_trans ((Below.refl W5.heap.size W5).alloc (Nat.le_refl _) _) hb6
      have HB6 := ext_trans HB5 hbb6
      have HM6 := Lib.hid (HM5.out.ext hbb6)
      obtain ⟨a0, a1, a2, p0, p1, p2, q0, q1, q2, k0, k1, k2, k3, k4, l0, l1, l2, l3, l4, lt0, lt1, lt2, lt3⟩ := HM6.out.facts
      go_wp2_with fail
      refine (Do_err none 0 0 [] ⟨0, 4, sA⟩ 490 _ (utf_ext hT HB6) (Rd.nil _ _) (fun _ => rfl) rfl (by decide) ex_do5 (by decide)).mono ?_
      rintro e W7 ⟨rfl, hb7⟩
      clear a0 a1 a2 p0 p1 p2 q0 q1 q2 k0 k1 k2 k3 k4 l0 l1 l2 l3 l4 lt0 lt1 lt2 lt3
      have hbb7 := hb7
      have HB7 := ext_trans HB6 hbb7
      have HM7 := Lib.hid (HM6.out.ext hbb7)
      obtain ⟨Z, hZ, hmk⟩ := make_many
      have HZ := Lib.hid hZ
      clear hZ
      obtain ⟨a0, a1, a2, p0, p1, p2, q0, q1, q2, k0, k1, k2, k3, k4, l0, l1, l2, l3, l4, lt0, lt1, lt2, lt3⟩ := HM7.out.facts
      go_wp2_with fail
      go_region_with (go_at_call 17; refine (Do_many W7 Z HZ.out ⟨3, 1, sA⟩ (utf_ext hT HB7) _ ?_ ?_).mono ?_; (repeat (first | exact Below.refl _ _ | refine ext_drew ?_ | refine ext_alloc ?_ _)); (exact World.alloc_heap_new _ _); rintro e W8 ⟨rfl, hb8⟩)
      all_goals
        clear a0 a1 a2 p0 p1 p2 q0 q1 q2 k0 k1 k2 k3 k4 l0 l1 l2 l3 l4 lt0 lt1 lt2 lt3
        have HB8 := ext_trans HB7 hb8
        have HM8 := Lib.hid (HM7.out.ext hb8)
        obtain ⟨a0, a1, a2, p0, p1, p2, q0, q1, q2, k0, k1, k2, k3, k4, l0, l1, l2, l3, l4, lt0, lt1, lt2, lt3⟩ := HM8.out.facts
        go_wp2_with fail
        refine (Check_is (some ⟨W8.heap.size, 0, none⟩) 2 2 [sC, sA] 0 _ (tabs_new (utf_ext hT HB8) _) (rd_new rfl) rfl (by decide) ex_check1).mono ?_
        rintro e W9 ⟨rfl, hb9⟩
        clear a0 a1 a2 p0 p1 p2 q0 q1 q2 k0 k1 k2 k3 k4 l0 l1 l2 l3 l4 lt0 lt1 lt2 lt3
        have hbb9 := ext_trans ((Below.refl W8.heap.size W8).alloc (Nat.le_refl _) _) hb9
        have HB9 := ext_trans HB8 hbb9
        have HM9 := Lib.hid (HM8.out.ext hbb9)
        obtain ⟨a0, a1, a2, p0, p1, p2, q0, q1, q2, k0, k1, k2, k3, k4, l0, l1, l2, l3, l4, lt0, lt1, lt2, lt3⟩ := HM9.out.facts
        go_wp2_with fail
        refine (Check_is (some ⟨W9.heap.size, 0, none⟩) 2 2 [sA, sC] 490 _ (tabs_new (utf_ext hT HB9) _) (rd_new rfl) rfl (by decide) ex_check2).mono ?_
        rintro e W10 ⟨rfl, hb10⟩
        clear a0 a1 a2 p0 p1 p2 q0 q1 q2 k0 k1 k2 k3 k4 l0 l1 l2 l3 l4 lt0 lt1 lt2 lt3
        have hbb10 := ext_trans ((Below.refl W9.heap.size W9).alloc (Nat.le_refl _) _) hb10
        have HB10 := ext_trans HB9 hbb10
        have HM10 := Lib.hid (HM9.out.ext hbb10)
        go_wp2_with fail
        refine (spot_any _ _ _ _).mono ?_
        rintro e w' ⟨rfl, rfl⟩
        go_wp2_with fail
        refine (Check_is (some ⟨W10.heap.size + 1, 0, none⟩) 1 1 [⟨1, 1, ⟨#[]⟩⟩] 490 _ (tabs_new (tabs_new (utf_ext hT HB10) _) _) (rd_blk (alloc_at _ _ _ (by simp only [World.size_alloc])) rfl) rfl (by decide) ex_check3).mono ?_
        rintro e W11 ⟨rfl, hb11⟩
        go_wp2_with fail
        go_ret
        exact ⟨rfl, ext_trans HB10 (ext_trans (((Below.refl W10.heap.size W10).alloc (Nat.le_refl _) _).alloc (by simp) _) hb11)⟩
end Go.Proofs.YtneanannicacnaaDoor
