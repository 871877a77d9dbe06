/- Texts of this claim, one after the other: Aud7i, Aud8, Aud2, Map, KeysI, Aud4, Aud5. -/
import Derived.Test.YtmindojbkedmlaaM4
import Derived.Test.YtmindojbkedmlaaM2
import Derived.Test.YtmindojbkedmlaaM3
import Derived.Test.YtmindojbkedmlaaIter
import Derived.Maps.RangeWalk
import Derived.Shelf.SlIterI.Sorted
import Derived.Shelf.SlIterI.Nil
import Derived.WalkMore
/- Reference 39: Instants. -/
namespace Go.Proofs.Ytmindojbkedmlaa
open Go.RowKit Go.Han
attribute [local irreducible] wpStill wpQuiet
set_option maxRecDepth 100000

/-- The instants of one sight. -/
def instO (l : List House) (x : Sight) : List Int := x.frm :: l.flatMap fun h => (if x.frm < h.frm ∧ h.frm < x.until_ then [h.frm] else []) ++ (if x.frm < h.until_ ∧ h.until_ < x.until_ then [h.until_] else [])
theorem mem_instO {l : List House} {x : Sight} {t : Int} : t ∈ instO l x ↔ t = x.frm ∨ (x.frm < t ∧ t < x.until_ ∧ ∃ h ∈ l, t = h.frm ∨ t = h.until_) := by
  unfold instO
  simp only [List.mem_cons, List.mem_flatMap, List.mem_append]
  constructor
  · rintro (h | ⟨h, hh, hc⟩)
    · exact .inl h
    · right
      rcases hc with hc | hc
      · split at hc
        · rename_i hq; simp at hc; subst hc; exact ⟨hq.1, hq.2, h, hh, .inl rfl⟩
        · cases hc
      · split at hc
        · rename_i hq; simp at hc; subst hc; exact ⟨hq.1, hq.2, h, hh, .inr rfl⟩
        · cases hc
  · rintro (h | ⟨h1, h2, h, hh, rfl | rfl⟩)
    · exact .inl h
    · exact .inr ⟨h, hh, .inl (by rw [if_pos ⟨h1, h2⟩]; simp)⟩
    · exact .inr ⟨h, hh, .inr (by rw [if_pos ⟨h1, h2⟩]; simp)⟩
theorem flat_le {f : House → List Int} {n : Nat} (hf : ∀ h, (f h).length ≤ n) : ∀ l : List House, (l.flatMap f).length ≤ n * l.length
  | [] => by simp
  | h :: t => by
    rw [List.flatMap_cons, List.length_append, List.length_cons, Nat.mul_succ]
    have := hf h
    have := flat_le hf t
    omega
theorem instO_len (l : List House) (x : Sight) : (instO l x).length ≤ 1 + 2 * l.length := by
  unfold instO
  rw [List.length_cons]
  have := flat_le (n := 2) (f := fun h => (if x.frm < h.frm ∧ h.frm < x.until_ then [h.frm] else []) ++ (if x.frm < h.until_ ∧ h.until_ < x.until_ then [h.until_] else [])) (fun h => by
    rw [List.length_append]
    split <;> split <;> simp) l
  omega
theorem instO_take {l : List House} {x : Sight} {k : Nat} (hk : k < l.length) : instO (l.take (k + 1)) x = instO (l.take k) x ++ ((if x.frm < l[k].frm ∧ l[k].frm < x.until_ then [l[k].frm] else []) ++ (if x.frm < l[k].until_ ∧ l[k].until_ < x.until_ then [l[k].until_] else [])) := by
  unfold instO
  rw [List.take_succ_eq_append_getElem hk, List.flatMap_append]
  simp

theorem info_intA : (Try.prog.info? 3).map (fun i => (i.zero, i.size, i.bytes)) = some (some (.int .i64 0), 1, 8) := by kernel_rfl
def intC (x : Int) : List Value := [.int .i64 x]
theorem intC_one (x : Int) : ∀ u ∈ intC x, u.oneCell' = true := by intro u hu; simp [intC] at hu; subst hu; rfl
abbrev OwnI (w : World) (base : Nat) (v : Value) (l : List Int) : Prop := OwnL intC 3 1 w base v l
theorem ownI_one (w : World) (x : Int) : OwnI (w.alloc (.cells #[.int .i64 x] 3)) w.heap.size (.slice (some ⟨w.heap.size, 0, none⟩) 1 1) [x] := by
  refine ⟨by simp [intC], .inr ⟨w.heap.size, 1, #[.int .i64 x], rfl, Nat.le_refl _, World.alloc_heap_new _ _, Nat.le_refl _, by unfold maxLen; decide, rfl, rfl⟩⟩
def InstPost (l : List House) (x : Sight) (w : World) (e : Ending) (w' : World) : Prop := ∃ A c, e = .returned (.slice A (instO l x).length c) ∧ Rd w' A ((instO l x).flatMap intC) ∧ Below w.heap.size w w'
theorem int_room {n : Nat} (h : n ≤ 10000) : n + 1 ≤ maxLen ∧ (n + 1) * 8 ≤ 140737488355328 := by unfold maxLen; omega
set_option maxHeartbeats 4000000 in
theorem Instants39_any (A : Option Addr) (c : Nat) (l : List House) (x : Sight) (w : World) (hr : Rd w A (hflat l)) (hm : l.length ≤ 1024) :
    Calls Try.prog 40 #[.slice A l.length c, .agg #[.int .i64 x.speaker, .int .i64 x.begun, .int .i64 x.lang, .int .i64 x.frm, .int .i64 x.until_]] w (InstPost l x w) := by
  obtain ⟨i0, hi0, iz0, is0, ib0⟩ := info_parts info_intA
  obtain ⟨W, hW, hB, hb, hz⟩ := sig_new x w
  obtain ⟨W1, hW1⟩ : ∃ W1, W.alloc (.cells #[.int .i64 x.frm] 3) = W1 := ⟨_, rfl⟩
  have hB1 : Below W.heap.size W W1 := by subst hW1; exact ext_alloc (Below.refl _ _) _
  have ho1 : OwnI W1 W.heap.size (.slice (some ⟨W.heap.size, 0, none⟩) 1 1) [x.frm] := by subst hW1; exact ownI_one _ _
  have hx1 := hb
  obtain ⟨p0, p1, p2, p3, p4⟩ := sig_at hb
  have Ho1 := Lib.hid ho1
  have Hx1 := Lib.hid hx1
  have HW := Lib.hid hW
  have Hz := Lib.hid hz
  have hBb := hB
  clear hb ho1 hx1 hz
  go_enter Try.func40, Try.ntmps40
  go_wp2_with fail
  clear p0 p1 p2 p3 p4 hW hW1 HW
  go_loopw [5, 6] (fun v i wr => ∃ k : Nat, k ≤ l.length ∧ i = .int .i64 k ∧ OwnI wr W.heap.size v (instO (l.take k) x) ∧ Below W.heap.size W wr) (fun _ i _ => l.length - (intOf i).toNat)
  case atStart => exact ⟨0, Nat.zero_le _, rfl, Ho1.out, hB1⟩
  case round =>
    obtain ⟨k, hk, rfl, hown, hBr⟩ := hrel
    have hBwr := ext_trans hBb hBr
    by_cases hlt : k < l.length
    · obtain ⟨b, off, rfl, hb, hc⟩ := hou_elem hr hlt
      have hft := instO_take (x := x) hlt
      have hlen : (instO (l.take k) x).length ≤ 3000 := by have := instO_len (l.take k) x; rw [List.length_take] at this; omega
      have hlt2 : (k : Int) < l.length := by omega
      have k0 : (0 : Int) ≤ (k : Int) := by omega
      generalize l[k] = h at *
      obtain ⟨d0, d1, d2, d3, d4, d5, d6, d7, d8, d9⟩ := hc wr hBwr
      have HC := Lib.hid hc
      have Hft := Lib.hid hft
      have hbr : b < wr.heap.size := Nat.lt_of_lt_of_le hb hBwr.size
      have hxr := (hBr.block _ (lt_block Hx1.out)).trans Hx1.out
      have y3 : wr.cell? ⟨w.heap.size, 3, none⟩ = some (.int .i64 x.frm) := gblk hxr 3
      have y4 : wr.cell? ⟨w.heap.size, 4, none⟩ = some (.int .i64 x.until_) := gblk hxr 4
      have hxl := lt_block hxr
      have e6 := fun p => cell_ext (w := wr) (a := ⟨b, off + k * 10 + 6, none⟩) hbr d6 p
      have e7 := fun p => cell_ext (w := wr) (a := ⟨w.heap.size, 3, none⟩) hxl y3 p
      have e8 := fun p => cell_ext (w := wr) (a := ⟨w.heap.size, 4, none⟩) hxl y4 p
      clear d0 d1 d2 d3 d4 d5 d6 d7 d8 d9 y3 y4 hft hc hxr
      generalize instO (l.take k) x = el at *
      -- the first border
      have st1 : ∃ q : Nat, (q = 0 ∧ ¬ x.frm < h.frm) ∨ (q = 1 ∧ x.frm < h.frm ∧ ¬ h.frm < x.until_) ∨ (q = 2 ∧ x.frm < h.frm ∧ h.frm < x.until_) := by
        by_cases h1 : x.frm < h.frm
        · by_cases h2 : h.frm < x.until_
          · exact ⟨2, .inr (.inr ⟨rfl, h1, h2⟩)⟩
          · exact ⟨1, .inr (.inl ⟨rfl, h1, h2⟩)⟩
        · exact ⟨0, .inl ⟨rfl, h1⟩⟩
      obtain ⟨_, (⟨_, h1⟩ | ⟨_, h1, h2⟩ | ⟨_, h1, h2⟩)⟩ := st1
      · have g1 : decide (x.frm < h.frm) = false := decide_eq_false h1
        have HT : Hid (instO (l.take (k + 1)) x = el ++ (if x.frm < h.until_ ∧ h.until_ < x.until_ then [h.until_] else [])) := by show _ = _; rw [Hft.out, if_neg (fun hh => h1 hh.1)]; rfl
        clear Hft h1
        go_wp2_with fail
        refine wp_region_ext (by kernel_rfl) (by kernel_rfl) ?_
        repeat (go_big_quiet_step (fail))
        refine wpQuiet_nil ?_
        intro _ hw'
        obtain ⟨p, rfl⟩ := hw'
        have hown2 := hown.ext p.ext
        have hB2 := ext_trans hBr p.ext
        clear e6 e7 e8 hown g1 hBr hBwr
        generalize p.to = V2 at *
        go_wp2_with fail
        obtain ⟨d0, d1, d2, d3, d4, d5, d6, d7, d8, d9⟩ := HC.out V2 (ext_trans hBb hB2)
        have hbr : b < V2.heap.size := Nat.lt_of_lt_of_le hb (ext_trans hBb hB2).size
        have hxr := (hB2.block _ (lt_block Hx1.out)).trans Hx1.out
        have y3 : V2.cell? ⟨w.heap.size, 3, none⟩ = some (.int .i64 x.frm) := gblk hxr 3
        have y4 : V2.cell? ⟨w.heap.size, 4, none⟩ = some (.int .i64 x.until_) := gblk hxr 4
        have hxl := lt_block hxr
        have e6 := fun p => cell_ext (w := V2) (a := ⟨b, off + k * 10 + 7, none⟩) hbr d7 p
        have e7 := fun p => cell_ext (w := V2) (a := ⟨w.heap.size, 3, none⟩) hxl y3 p
        have e8 := fun p => cell_ext (w := V2) (a := ⟨w.heap.size, 4, none⟩) hxl y4 p
        clear d0 d1 d2 d3 d4 d5 d6 d7 d8 d9 y3 y4 hxr
        have st2 : ∃ q : Nat, (q = 0 ∧ ¬ x.frm < h.until_) ∨ (q = 1 ∧ x.frm < h.until_ ∧ ¬ h.until_ < x.until_) ∨ (q = 2 ∧ x.frm < h.until_ ∧ h.until_ < x.until_) := by
          by_cases h1 : x.frm < h.until_
          · by_cases h2 : h.until_ < x.until_
            · exact ⟨2, .inr (.inr ⟨rfl, h1, h2⟩)⟩
            · exact ⟨1, .inr (.inl ⟨rfl, h1, h2⟩)⟩
          · exact ⟨0, .inl ⟨rfl, h1⟩⟩
        obtain ⟨_, (⟨_, h1⟩ | ⟨_, h1, h2⟩ | ⟨_, h1, h2⟩)⟩ := st2
        · have g1 : decide (x.frm < h.until_) = false := decide_eq_false h1
          have HT2 : Hid (instO (l.take (k + 1)) x = el) := by show _ = _; rw [HT.out, if_neg (fun hh => h1 hh.1), List.append_nil]
          clear HT h1
          refine wp_region_ext (by kernel_rfl) (by kernel_rfl) ?_
          repeat (go_big_quiet_step (fail))
          refine wpQuiet_nil ?_
          intro _ hw'
          obtain ⟨p, rfl⟩ := hw'
          have hown3 := hown2.ext p.ext
          have hB3 := ext_trans hB2 p.ext
          clear e6 e7 e8 hown2 g1 hB2
          generalize p.to = V3 at *
          go_wp2_with fail
          go_roundw
          case rel => exact ⟨k + 1, by omega, by go_num, by rw [HT2.out]; exact hown3, hB3⟩
          case measure => simp [intOf]; omega
        · have g1 : decide (h.until_ < x.until_) = false := decide_eq_false h2
          have HT2 : Hid (instO (l.take (k + 1)) x = el) := by show _ = _; rw [HT.out, if_neg (fun hh => h2 hh.2), List.append_nil]
          clear HT h2
          refine wp_region_ext (by kernel_rfl) (by kernel_rfl) ?_
          repeat (go_big_quiet_step (fail))
          refine wpQuiet_nil ?_
          intro _ hw'
          obtain ⟨p, rfl⟩ := hw'
          have hown3 := hown2.ext p.ext
          have hB3 := ext_trans hB2 p.ext
          clear e6 e7 e8 hown2 g1 h1 hB2
          generalize p.to = V3 at *
          go_wp2_with fail
          go_roundw
          case rel => exact ⟨k + 1, by omega, by go_num, by rw [HT2.out]; exact hown3, hB3⟩
          case measure => simp [intOf]; omega
        · have HT2 : Hid (instO (l.take (k + 1)) x = el ++ [h.until_]) := by show _ = _; rw [HT.out, if_pos ⟨h1, h2⟩]
          clear HT
          refine wp_region_ext (by kernel_rfl) (by kernel_rfl) ?_
          repeat (go_big_quiet_step (fail))
          refine wpQuiet_nil ?_
          intro _ hw'
          obtain ⟨p, rfl⟩ := hw'
          have hownV := hown2.ext p.ext
          have hBV := ext_trans hB2 p.ext
          have f6 := e6 p
          clear e6 e7 e8 hown2 h1 h2 hB2
          generalize p.to = V3 at *
          obtain ⟨A1, A2⟩ := int_room (n := el.length) (by omega)
          have hzV : W.heap.size ≤ V3.heap.size := hBV.size
          go_wp2_with (at_builtin; refine wpList_append_rd rfl _ _ 68 rfl W.heap.size 3 i0 _ 1 8 Try.underlying68 hi0 iz0 is0 ib0 rfl (by decide) _ _ _ rfl (some ⟨V3.heap.size, 0, none⟩) 1 1 (intC h.until_) rfl (hownV.ext (ext_alloc (Below.refl V3.heap.size V3) _)) rfl (grd_blk (World.alloc_heap_new V3 _) rfl) (intC_one h.until_) A1 A2 (Nat.le_trans hzV (by simp)) ?_; intro v6 w6 hown6 hgrow6 _)
          have hB3 : Below W.heap.size W w6 := (ext_trans hBV (ext_alloc (Below.refl V3.heap.size V3) _)).grown hgrow6 (Nat.le_trans hzV (by simp)) (fun k hk => (hownV.lt k hk).1)
          have hown3 := OwnL.snoc (f := intC) h.until_ hown6
          clear hown6 hgrow6 hownV hBV f6 A1 A2 hzV
          go_wp2_with fail
          go_roundw
          case rel => exact ⟨k + 1, by omega, by go_num, by rw [HT2.out]; exact hown3, hB3⟩
          case measure => simp [intOf]; omega
      · have g1 : decide (h.frm < x.until_) = false := decide_eq_false h2
        have HT : Hid (instO (l.take (k + 1)) x = el ++ (if x.frm < h.until_ ∧ h.until_ < x.until_ then [h.until_] else [])) := by show _ = _; rw [Hft.out, if_neg (fun hh => h2 hh.2)]; rfl
        clear Hft h2
        go_wp2_with fail
        refine wp_region_ext (by kernel_rfl) (by kernel_rfl) ?_
        repeat (go_big_quiet_step (fail))
        refine wpQuiet_nil ?_
        intro _ hw'
        obtain ⟨p, rfl⟩ := hw'
        have hown2 := hown.ext p.ext
        have hB2 := ext_trans hBr p.ext
        clear e6 e7 e8 hown g1 h1 hBr hBwr
        generalize p.to = V2 at *
        go_wp2_with fail
        obtain ⟨d0, d1, d2, d3, d4, d5, d6, d7, d8, d9⟩ := HC.out V2 (ext_trans hBb hB2)
        have hbr : b < V2.heap.size := Nat.lt_of_lt_of_le hb (ext_trans hBb hB2).size
        have hxr := (hB2.block _ (lt_block Hx1.out)).trans Hx1.out
        have y3 : V2.cell? ⟨w.heap.size, 3, none⟩ = some (.int .i64 x.frm) := gblk hxr 3
        have y4 : V2.cell? ⟨w.heap.size, 4, none⟩ = some (.int .i64 x.until_) := gblk hxr 4
        have hxl := lt_block hxr
        have e6 := fun p => cell_ext (w := V2) (a := ⟨b, off + k * 10 + 7, none⟩) hbr d7 p
        have e7 := fun p => cell_ext (w := V2) (a := ⟨w.heap.size, 3, none⟩) hxl y3 p
        have e8 := fun p => cell_ext (w := V2) (a := ⟨w.heap.size, 4, none⟩) hxl y4 p
        clear d0 d1 d2 d3 d4 d5 d6 d7 d8 d9 y3 y4 hxr
        have st2 : ∃ q : Nat, (q = 0 ∧ ¬ x.frm < h.until_) ∨ (q = 1 ∧ x.frm < h.until_ ∧ ¬ h.until_ < x.until_) ∨ (q = 2 ∧ x.frm < h.until_ ∧ h.until_ < x.until_) := by
          by_cases h1 : x.frm < h.until_
          · by_cases h2 : h.until_ < x.until_
            · exact ⟨2, .inr (.inr ⟨rfl, h1, h2⟩)⟩
            · exact ⟨1, .inr (.inl ⟨rfl, h1, h2⟩)⟩
          · exact ⟨0, .inl ⟨rfl, h1⟩⟩
        obtain ⟨_, (⟨_, h1⟩ | ⟨_, h1, h2⟩ | ⟨_, h1, h2⟩)⟩ := st2
        · have g1 : decide (x.frm < h.until_) = false := decide_eq_false h1
          have HT2 : Hid (instO (l.take (k + 1)) x = el) := by show _ = _; rw [HT.out, if_neg (fun hh => h1 hh.1), List.append_nil]
          clear HT h1
          refine wp_region_ext (by kernel_rfl) (by kernel_rfl) ?_
          repeat (go_big_quiet_step (fail))
          refine wpQuiet_nil ?_
          intro _ hw'
          obtain ⟨p, rfl⟩ := hw'
          have hown3 := hown2.ext p.ext
          have hB3 := ext_trans hB2 p.ext
          clear e6 e7 e8 hown2 g1 hB2
          generalize p.to = V3 at *
          go_wp2_with fail
          go_roundw
          case rel => exact ⟨k + 1, by omega, by go_num, by rw [HT2.out]; exact hown3, hB3⟩
          case measure => simp [intOf]; omega
        · have g1 : decide (h.until_ < x.until_) = false := decide_eq_false h2
          have HT2 : Hid (instO (l.take (k + 1)) x = el) := by show _ = _; rw [HT.out, if_neg (fun hh => h2 hh.2), List.append_nil]
          clear HT h2
          refine wp_region_ext (by kernel_rfl) (by kernel_rfl) ?_
          repeat (go_big_quiet_step (fail))
          refine wpQuiet_nil ?_
          intro _ hw'
          obtain ⟨p, rfl⟩ := hw'
          have hown3 := hown2.ext p.ext
          have hB3 := ext_trans hB2 p.ext
          clear e6 e7 e8 hown2 g1 h1 hB2
          generalize p.to = V3 at *
          go_wp2_with fail
          go_roundw
          case rel => exact ⟨k + 1, by omega, by go_num, by rw [HT2.out]; exact hown3, hB3⟩
          case measure => simp [intOf]; omega
        · have HT2 : Hid (instO (l.take (k + 1)) x = el ++ [h.until_]) := by show _ = _; rw [HT.out, if_pos ⟨h1, h2⟩]
          clear HT
          refine wp_region_ext (by kernel_rfl) (by kernel_rfl) ?_
          repeat (go_big_quiet_step (fail))
          refine wpQuiet_nil ?_
          intro _ hw'
          obtain ⟨p, rfl⟩ := hw'
          have hownV := hown2.ext p.ext
          have hBV := ext_trans hB2 p.ext
          have f6 := e6 p
          clear e6 e7 e8 hown2 h1 h2 hB2
          generalize p.to = V3 at *
          obtain ⟨A1, A2⟩ := int_room (n := el.length) (by omega)
          have hzV : W.heap.size ≤ V3.heap.size := hBV.size
          go_wp2_with (at_builtin; refine wpList_append_rd rfl _ _ 68 rfl W.heap.size 3 i0 _ 1 8 Try.underlying68 hi0 iz0 is0 ib0 rfl (by decide) _ _ _ rfl (some ⟨V3.heap.size, 0, none⟩) 1 1 (intC h.until_) rfl (hownV.ext (ext_alloc (Below.refl V3.heap.size V3) _)) rfl (grd_blk (World.alloc_heap_new V3 _) rfl) (intC_one h.until_) A1 A2 (Nat.le_trans hzV (by simp)) ?_; intro v6 w6 hown6 hgrow6 _)
          have hB3 : Below W.heap.size W w6 := (ext_trans hBV (ext_alloc (Below.refl V3.heap.size V3) _)).grown hgrow6 (Nat.le_trans hzV (by simp)) (fun k hk => (hownV.lt k hk).1)
          have hown3 := OwnL.snoc (f := intC) h.until_ hown6
          clear hown6 hgrow6 hownV hBV f6 A1 A2 hzV
          go_wp2_with fail
          go_roundw
          case rel => exact ⟨k + 1, by omega, by go_num, by rw [HT2.out]; exact hown3, hB3⟩
          case measure => simp [intOf]; omega
      · have HT : Hid (instO (l.take (k + 1)) x = el ++ [h.frm] ++ (if x.frm < h.until_ ∧ h.until_ < x.until_ then [h.until_] else [])) := by show _ = _; rw [Hft.out, if_pos ⟨h1, h2⟩, List.append_assoc]
        clear Hft
        go_wp2_with fail
        refine wp_region_ext (by kernel_rfl) (by kernel_rfl) ?_
        repeat (go_big_quiet_step (fail))
        refine wpQuiet_nil ?_
        intro _ hw'
        obtain ⟨p, rfl⟩ := hw'
        have hownV := hown.ext p.ext
        have hBV := ext_trans hBr p.ext
        have f6 := e6 p
        clear e6 e7 e8 hown h1 h2 hBr hBwr
        generalize p.to = V1 at *
        obtain ⟨A1, A2⟩ := int_room (n := el.length) (by omega)
        have hzV : W.heap.size ≤ V1.heap.size := hBV.size
        go_wp2_with (at_builtin; refine wpList_append_rd rfl _ _ 68 rfl W.heap.size 3 i0 _ 1 8 Try.underlying68 hi0 iz0 is0 ib0 rfl (by decide) _ _ _ rfl (some ⟨V1.heap.size, 0, none⟩) 1 1 (intC h.frm) rfl (hownV.ext (ext_alloc (Below.refl V1.heap.size V1) _)) rfl (grd_blk (World.alloc_heap_new V1 _) rfl) (intC_one h.frm) A1 A2 (Nat.le_trans hzV (by simp)) ?_; intro v5 w5 hown5 hgrow5 _)
        have hB2 : Below W.heap.size W w5 := (ext_trans hBV (ext_alloc (Below.refl V1.heap.size V1) _)).grown hgrow5 (Nat.le_trans hzV (by simp)) (fun k hk => (hownV.lt k hk).1)
        have hown2 := OwnL.snoc (f := intC) h.frm hown5
        clear hown5 hgrow5 hownV hBV f6 A1 A2 hzV
        have hlen2 : (el ++ [h.frm]).length ≤ 3001 := by simp; omega
        generalize el ++ [h.frm] = el2 at *
        go_wp2_with fail
        obtain ⟨d0, d1, d2, d3, d4, d5, d6, d7, d8, d9⟩ := HC.out w5 (ext_trans hBb hB2)
        have hbr : b < w5.heap.size := Nat.lt_of_lt_of_le hb (ext_trans hBb hB2).size
        have hxr := (hB2.block _ (lt_block Hx1.out)).trans Hx1.out
        have y3 : w5.cell? ⟨w.heap.size, 3, none⟩ = some (.int .i64 x.frm) := gblk hxr 3
        have y4 : w5.cell? ⟨w.heap.size, 4, none⟩ = some (.int .i64 x.until_) := gblk hxr 4
        have hxl := lt_block hxr
        have e6 := fun p => cell_ext (w := w5) (a := ⟨b, off + k * 10 + 7, none⟩) hbr d7 p
        have e7 := fun p => cell_ext (w := w5) (a := ⟨w.heap.size, 3, none⟩) hxl y3 p
        have e8 := fun p => cell_ext (w := w5) (a := ⟨w.heap.size, 4, none⟩) hxl y4 p
        clear d0 d1 d2 d3 d4 d5 d6 d7 d8 d9 y3 y4 hxr
        have st2 : ∃ q : Nat, (q = 0 ∧ ¬ x.frm < h.until_) ∨ (q = 1 ∧ x.frm < h.until_ ∧ ¬ h.until_ < x.until_) ∨ (q = 2 ∧ x.frm < h.until_ ∧ h.until_ < x.until_) := by
          by_cases h1 : x.frm < h.until_
          · by_cases h2 : h.until_ < x.until_
            · exact ⟨2, .inr (.inr ⟨rfl, h1, h2⟩)⟩
            · exact ⟨1, .inr (.inl ⟨rfl, h1, h2⟩)⟩
          · exact ⟨0, .inl ⟨rfl, h1⟩⟩
        obtain ⟨_, (⟨_, h1⟩ | ⟨_, h1, h2⟩ | ⟨_, h1, h2⟩)⟩ := st2
        · have g1 : decide (x.frm < h.until_) = false := decide_eq_false h1
          have HT2 : Hid (instO (l.take (k + 1)) x = el2) := by show _ = _; rw [HT.out, if_neg (fun hh => h1 hh.1), List.append_nil]
          clear HT h1
          refine wp_region_ext (by kernel_rfl) (by kernel_rfl) ?_
          repeat (go_big_quiet_step (fail))
          refine wpQuiet_nil ?_
          intro _ hw'
          obtain ⟨p, rfl⟩ := hw'
          have hown3 := hown2.ext p.ext
          have hB3 := ext_trans hB2 p.ext
          clear e6 e7 e8 hown2 g1 hB2
          generalize p.to = V3 at *
          go_wp2_with fail
          go_roundw
          case rel => exact ⟨k + 1, by omega, by go_num, by rw [HT2.out]; exact hown3, hB3⟩
          case measure => simp [intOf]; omega
        · have g1 : decide (h.until_ < x.until_) = false := decide_eq_false h2
          have HT2 : Hid (instO (l.take (k + 1)) x = el2) := by show _ = _; rw [HT.out, if_neg (fun hh => h2 hh.2), List.append_nil]
          clear HT h2
          refine wp_region_ext (by kernel_rfl) (by kernel_rfl) ?_
          repeat (go_big_quiet_step (fail))
          refine wpQuiet_nil ?_
          intro _ hw'
          obtain ⟨p, rfl⟩ := hw'
          have hown3 := hown2.ext p.ext
          have hB3 := ext_trans hB2 p.ext
          clear e6 e7 e8 hown2 g1 h1 hB2
          generalize p.to = V3 at *
          go_wp2_with fail
          go_roundw
          case rel => exact ⟨k + 1, by omega, by go_num, by rw [HT2.out]; exact hown3, hB3⟩
          case measure => simp [intOf]; omega
        · have HT2 : Hid (instO (l.take (k + 1)) x = el2 ++ [h.until_]) := by show _ = _; rw [HT.out, if_pos ⟨h1, h2⟩]
          clear HT
          refine wp_region_ext (by kernel_rfl) (by kernel_rfl) ?_
          repeat (go_big_quiet_step (fail))
          refine wpQuiet_nil ?_
          intro _ hw'
          obtain ⟨p, rfl⟩ := hw'
          have hownV := hown2.ext p.ext
          have hBV := ext_trans hB2 p.ext
          have f6 := e6 p
          clear e6 e7 e8 hown2 h1 h2 hB2
          generalize p.to = V3 at *
          obtain ⟨A1, A2⟩ := int_room (n := el2.length) (by omega)
          have hzV : W.heap.size ≤ V3.heap.size := hBV.size
          go_wp2_with (at_builtin; refine wpList_append_rd rfl _ _ 68 rfl W.heap.size 3 i0 _ 1 8 Try.underlying68 hi0 iz0 is0 ib0 rfl (by decide) _ _ _ rfl (some ⟨V3.heap.size, 0, none⟩) 1 1 (intC h.until_) rfl (hownV.ext (ext_alloc (Below.refl V3.heap.size V3) _)) rfl (grd_blk (World.alloc_heap_new V3 _) rfl) (intC_one h.until_) A1 A2 (Nat.le_trans hzV (by simp)) ?_; intro v6 w6 hown6 hgrow6 _)
          have hB3 : Below W.heap.size W w6 := (ext_trans hBV (ext_alloc (Below.refl V3.heap.size V3) _)).grown hgrow6 (Nat.le_trans hzV (by simp)) (fun k hk => (hownV.lt k hk).1)
          have hown3 := OwnL.snoc (f := intC) h.until_ hown6
          clear hown6 hgrow6 hownV hBV f6 A1 A2 hzV
          go_wp2_with fail
          go_roundw
          case rel => exact ⟨k + 1, by omega, by go_num, by rw [HT2.out]; exact hown3, hB3⟩
          case measure => simp [intOf]; omega
    · obtain rfl : k = l.length := by omega
      rw [List.take_length] at hown
      obtain ⟨A9, c9, rfl, hrd9, _⟩ := OwnL.form (by omega) hown
      have hfin : Hid (InstPost l x w (.returned (.slice A9 (instO l x).length c9)) wr) := ⟨A9, c9, rfl, hrd9, hBwr⟩
      clear hown hrd9
      go_wp2_with fail
      go_ret
      exact hfin.out
end Go.Proofs.Ytmindojbkedmlaa

/- Reference 39: Find. -/
namespace Go.Proofs.Ytmindojbkedmlaa
open Go.RowKit Go.Han
attribute [local irreducible] wpStill wpQuiet
set_option maxRecDepth 100000

theorem forb_val {l : List House} {x : Sight} {t kn : Int} (g1 : x.frm ≤ t) (g2 : t < x.until_) : forb l kn x t = if ((verd l (askOf x t kn)).1 != 0) = true then some (verd l (askOf x t kn)).2 else none := by
  unfold forb
  rw [if_neg (show ¬ (t < x.frm ∨ x.until_ ≤ t) by omega)]
  by_cases h0 : (verd l (askOf x t kn)).1 = 0 <;> simp [h0]
theorem forbid39_val (A : Option Addr) (c : Nat) (l : List House) (kn : Int) (x : Sight) (t : Int) (w : World) (hA : AudOk w A l kn) (hx : x.Ok) (g1 : x.frm ≤ t) (g2 : t < x.until_) :
    Calls Try.prog 41 #[.slice A l.length c, .agg #[.int .i64 x.speaker, .int .i64 x.begun, .int .i64 x.lang, .int .i64 x.frm, .int .i64 x.until_], .int .i64 kn, .int .i64 t] w fun e w' => e = .returned (.tuple #[.int .i64 (verd l (askOf x t kn)).2, .bool ((verd l (askOf x t kn)).1 != 0)]) ∧ Below w.heap.size w w' := by
  obtain ⟨W, hW, hB, hb, _⟩ := sig_new x w
  obtain ⟨c0, c1, c2, c3, c4⟩ := sig_at hb
  have HAW := Lib.hid (hA.ext hB)
  clear hb
  have hao := ask_ok hx g1 g2 hA.kn0 hA.kn1
  obtain ⟨e1, e2⟩ := verdR_ok hA.chk hao
  have cV := Lib.hid (Verdict36_any A c l (askOf x t kn) W HAW.out.rd HAW.out.len)
  unfold VerdPost at cV
  rw [e1, e2] at cV
  generalize hvv : verd l (askOf x t kn) = vv at *
  simp only [askOf] at cV
  clear e1 e2 hao g1 g2 hA hvv
  go_enter Try.func41, Try.ntmps41
  go_wp2_with fail
  refine cV.out.mono ?_
  rintro e w1 ⟨rfl, hb1⟩
  go_wp2_with fail
  go_ret2
  exact ⟨rfl, ext_trans hB hb1⟩

/-! ### The best so far -/
def encB (o : Option (Nat × Int × Int)) : Bool := o.isSome
def encAt (o : Option (Nat × Int × Int)) : Int := match o with | some (i, _, _) => (i : Int) | none => 0
def encT (o : Option (Nat × Int × Int)) : Int := match o with | some (_, t, _) => t | none => 0
def encN (o : Option (Nat × Int × Int)) : Int := match o with | some (_, _, n) => n | none => 0
structure BestOf (l : List House) (s : List Sight) (kn : Int) (D : Nat → Int → Prop) (top : Nat) (o : Option (Nat × Int × Int)) : Prop where
  no : o = none → ∀ i t x, D i t → s[i]? = some x → forb l kn x t = none
  yes : ∀ j u n, o = some (j, u, n) → (∃ x, s[j]? = some x ∧ forb l kn x u = some n) ∧ (∀ i t x, D i t → s[i]? = some x → (forb l kn x t).isSome = true → u < t ∨ (u = t ∧ j ≤ i)) ∧ j ≤ top
theorem BestOf.mono {l : List House} {s : List Sight} {kn : Int} {D D' : Nat → Int → Prop} {top top' : Nat} {o : Option (Nat × Int × Int)} (h : BestOf l s kn D top o) (hD : ∀ i t, D' i t → D i t) (ht : top ≤ top') : BestOf l s kn D' top' o :=
  ⟨fun e i t x hd hx => h.no e i t x (hD i t hd) hx, fun j u n e => let ⟨a, b, c⟩ := h.yes j u n e; ⟨a, fun i t x hd hx => b i t x (hD i t hd) hx, by omega⟩⟩
/-- A further pair. -/
def stepO (o : Option (Nat × Int × Int)) (i : Nat) (t no : Int) : Option (Nat × Int × Int) := match o with
  | none => some (i, t, no)
  | some (j, u, n) => if t < u then some (i, t, no) else some (j, u, n)
theorem BestOf.miss {l : List House} {s : List Sight} {kn : Int} {D D' : Nat → Int → Prop} {top i : Nat} {t : Int} {x : Sight} {o : Option (Nat × Int × Int)} (h : BestOf l s kn D top o) (hx : s[i]? = some x) (hf : forb l kn x t = none) (hD : ∀ j u, D' j u → D j u ∨ (j = i ∧ u = t)) : BestOf l s kn D' top o := by
  refine ⟨fun e j u y hd hy => ?_, fun j u n e => ?_⟩
  · rcases hD j u hd with hd | ⟨rfl, rfl⟩
    · exact h.no e j u y hd hy
    · rw [hx] at hy; cases hy; exact hf
  · obtain ⟨a, b, c⟩ := h.yes j u n e
    refine ⟨a, fun k v y hd hy hs => ?_, c⟩
    rcases hD k v hd with hd | ⟨rfl, rfl⟩
    · exact b k v y hd hy hs
    · rw [hx] at hy; cases hy; rw [hf] at hs; cases hs
theorem BestOf.hit {l : List House} {s : List Sight} {kn : Int} {D D' : Nat → Int → Prop} {top : Nat} {t no : Int} {x : Sight} {o : Option (Nat × Int × Int)} (h : BestOf l s kn D top o) (hx : s[top]? = some x) (hf : forb l kn x t = some no) (hD : ∀ j u, D' j u → D j u ∨ (j = top ∧ u = t)) (hle : ∀ j u, D j u → j ≤ top) : BestOf l s kn D' top (stepO o top t no) := by
  cases o with
  | none =>
    refine ⟨(fun e => by cases e), fun j u n e => ?_⟩
    cases e
    refine ⟨⟨x, hx, hf⟩, fun k v y hd hy hs => ?_, Nat.le_refl _⟩
    rcases hD k v hd with hd | ⟨rfl, rfl⟩
    · rw [h.no rfl k v y hd hy] at hs; cases hs
    · exact .inr ⟨rfl, Nat.le_refl _⟩
  | some r =>
    obtain ⟨j0, u0, n0⟩ := r
    obtain ⟨a, b, c⟩ := h.yes j0 u0 n0 rfl
    unfold stepO
    simp only
    by_cases hlt : t < u0
    · rw [if_pos hlt]
      refine ⟨(fun e => by cases e), fun j u n e => ?_⟩
      cases e
      refine ⟨⟨x, hx, hf⟩, fun k v y hd hy hs => ?_, Nat.le_refl _⟩
      rcases hD k v hd with hd | ⟨rfl, rfl⟩
      · have := b k v y hd hy hs; omega
      · exact .inr ⟨rfl, Nat.le_refl _⟩
    · rw [if_neg hlt]
      refine ⟨(fun e => by cases e), fun j u n e => ?_⟩
      cases e
      refine ⟨a, fun k v y hd hy hs => ?_, c⟩
      rcases hD k v hd with hd | ⟨rfl, rfl⟩
      · exact b k v y hd hy hs
      · omega
def allD (l : List House) (s : List Sight) (i : Nat) (t : Int) : Prop := ∃ x, s[i]? = some x ∧ t ∈ instO l x
theorem best_find {l : List House} (hok : ∀ h ∈ l, h.Ok) {s : List Sight} {kn : Int} {top : Nat} {o : Option (Nat × Int × Int)} (h : BestOf l s kn (allD l s) top o) : findA l s kn = o := by
  have down : ∀ i x t, s[i]? = some x → (forb l kn x t).isSome = true → ∃ u, u ≤ t ∧ allD l s i u ∧ (forb l kn x u).isSome = true := fun i x t hx hf => by
    obtain ⟨u, hu, hc, hf'⟩ := forb_from hok hf
    exact ⟨u, hu, ⟨x, hx, mem_instO.2 hc⟩, hf'⟩
  cases o with
  | none =>
    rw [findA_none hok]
    intro x hx u
    obtain ⟨i, hi⟩ := List.getElem?_of_mem hx
    cases hf : forb l kn x u with
    | none => rfl
    | some no =>
      obtain ⟨v, _, hd, hfv⟩ := down i x u hi (by rw [hf]; rfl)
      rw [h.no rfl i v x hd hi] at hfv
      cases hfv
  | some r =>
    obtain ⟨j, u, n⟩ := r
    obtain ⟨a, b, _⟩ := h.yes j u n rfl
    rw [findA_some hok]
    refine ⟨a, fun i x t hx hf => ?_⟩
    obtain ⟨v, hv, hd, hfv⟩ := down i x t hx hf
    have := b i v x hd hx hfv
    omega
end Go.Proofs.Ytmindojbkedmlaa

/- Package audit: borders, the times at which a decision begins or ends, as an iterator. -/
namespace Go.Proofs.Ytmindojbkedmlaa
open Go.RowKit Go.Han
attribute [local irreducible] wpStill wpQuiet
set_option maxRecDepth 100000

def bordL (l : List House) : List Int := l.flatMap fun h => [h.frm, h.until_]
def encI (x : Int) : Array Value := #[.int .i64 x]
theorem bordL_take {l : List House} {k : Nat} (hk : k < l.length) : bordL (l.take (k + 1)) = bordL (l.take k) ++ [l[k].frm] ++ [l[k].until_] := by
  unfold bordL
  rw [List.take_succ_eq_append_getElem hk, List.flatMap_append]
  simp
theorem bordL_pre (l : List House) (k : Nat) : bordL (l.take k) <+: bordL l := by
  conv => rhs; rw [← List.take_append_drop k l]
  unfold bordL
  rw [List.flatMap_append]
  exact List.prefix_append _ _
theorem borders_any (A : Option Addr) (c : Nat) (l : List House) (w : World) : Calls Try.prog 35 #[.slice A l.length c] w fun e w' => e = .returned (.func (.func 75) #[] #[.pointer (some ⟨w.heap.size, 0, none⟩)]) ∧ w.alloc (.cells #[.slice A l.length c] 22) = w' := by
  have hmf : ∀ (fn : Fn) (first cap : Array Value) (w : World), (Instr.makeFunc fn first cap).run Try.prog w = .ok (.func fn first cap) w := fun _ _ _ _ => rfl
  go_enter Try.func35, Try.ntmps35
  go_wp2
  go_ret
  exact ⟨rfl, rfl⟩
def BordR (A : Option Addr) (l : List House) (b1 : Nat) (k : Nat) : Prop := k = b1 ∨ (l ≠ [] ∧ ∃ a, A = some a ∧ k = a.block)
theorem bord_alive {A : Option Addr} {c : Nat} {l : List House} {b1 : Nat} {w0 : World} (h : w0.heap[b1]? = some (.cells #[.slice A l.length c] 22 (0, 0))) (hr : Rd w0 A (hflat l)) : Alive w0 (BordR A l b1) := by
  rintro j (rfl | ⟨hl, a', rfl, rfl⟩)
  · exact lt_block h
  · obtain ⟨b, off, he, hb, _⟩ := hou_elem hr (k := 0) (List.length_pos_iff.2 hl)
    cases he; exact hb
set_option maxHeartbeats 2000000 in
theorem borders1 (A : Option Addr) (c : Nat) (l : List House) (b1 : Nat) (w0 : World) (hat : w0.heap[b1]? = some (.cells #[.slice A l.length c] 22 (0, 0))) (hr : Rd w0 A (hflat l)) (hm : l.length ≤ 9223372036854775807) :
    IterN Try.prog 75 #[.pointer (some ⟨b1, 0, none⟩)] encI (BordR A l b1) (fun _ => False) (bordL l) w0 := by
  intro l' B0 J Jx own₀ W hR hown hB0 hlive hJ hJx hY h0
  refine (callsIn_wide (n := 0)).1 ?_
  refine callsIn_of_wp Try.func75 rfl trivial ?_
  simp only [Try.ntmps75, List.size_toArray, List.length_cons, List.length_nil, Nat.reduceAdd, Nat.reduceSub, Array.replicate_succ, Array.replicate_zero, List.push_toArray, List.append_toArray, List.nil_append, List.cons_append]
  have hal := bord_alive hat hr
  have hI0 : ItInv w0 B0 (BordR A l b1) J (bordL (l.take 0)) W := ⟨own₀, by simpa [bordL] using h0, fun j hj => (hR j hj).2, hown, hlive, hB0⟩
  have x0 := cell_one ((hR b1 (.inl rfl)).2.trans hat)
  have HY := Lib.hid hY
  have HJ := Lib.hid hJ
  have Hal := Lib.hid hal
  clear hR hY hJ hJx h0 hown hlive hal
  gi_wp2
  clear x0 hat
  gi_loopw [7] (fun i wr => ∃ k : Nat, k ≤ l.length ∧ i = .int .i64 k ∧ ItInv w0 B0 (BordR A l b1) J (bordL (l.take k)) wr) (fun i _ => l.length - (intOf i).toNat)
  case atStart => exact ⟨0, Nat.zero_le _, rfl, hI0⟩
  case round =>
    obtain ⟨k, hk, rfl, hI⟩ := hrel
    by_cases hlt : k < l.length
    · obtain ⟨b, off, rfl, hb, hc⟩ := hou_elem hr hlt
      obtain ⟨own, hj, hkeep, hdis, hliv, hBs⟩ := hI
      have hbw := hkeep b (.inr ⟨(fun h => by rw [h] at hlt; simp at hlt), _, rfl, rfl⟩)
      have low : ∀ j v, w0.cell? ⟨b, j, none⟩ = some v → wr.cell? ⟨b, j, none⟩ = some v := fun j v h => (World.cell?_of_block (w := w0) (a := ⟨b, j, none⟩) hbw).trans h
      obtain ⟨h0, h1, h2, h3, h4, h5, h6, h7, h8, h9⟩ := hc w0 (Below.refl _ _)
      replace h0 := low _ _ h0
      replace h1 := low _ _ h1
      replace h2 := low _ _ h2
      replace h3 := low _ _ h3
      replace h4 := low _ _ h4
      replace h5 := low _ _ h5
      replace h6 := low _ _ h6
      replace h7 := low _ _ h7
      replace h8 := low _ _ h8
      replace h9 := low _ _ h9
      have hft := bordL_take hlt
      have hpre := bordL_pre l (k + 1)
      rw [hft] at hpre
      clear hbw low hc hr
      generalize l[k] = x at *
      obtain ⟨W1, hW1, hB1, hx1, hz1⟩ := hou_new x wr
      have hj1 := HJ.out own _ wr W1 hj (IterStep.of_below hB1)
      have hkeep1 : ∀ j, BordR (some ⟨b, off, none⟩) l b1 j → W1.heap[j]? = w0.heap[j]? := fun j hjR => (hB1.block j (alive_lt Hal.out hkeep hjR)).trans (hkeep j hjR)
      have hliv1 : ∀ j, own j → j < W1.heap.size := fun j hjo => by have := hliv j hjo; omega
      have hno : ¬ own wr.heap.size := fun h => by have := hliv _ h; omega
      have hBs1 : B0 ≤ W1.heap.size := by omega
      have hp1 : bordL (l.take k) ++ [x.frm] <+: bordL l := (List.prefix_append _ _).trans hpre
      obtain ⟨fn, tmps, assign, body, hyy, hRd⟩ := HY.out own _ x.frm W1 hj1 hp1 hdis hliv1
      change (Instr.yield l' #[.int .i64 x.frm]).run _ _ = _ at hyy
      obtain ⟨p0, p1, p2, p3, p4, p5, p6, p7, p8, p9⟩ := hou_at hx1
      have Hft := Lib.hid hft
      have Hpre := Lib.hid hpre
      have Hp1 := Lib.hid hp1
      have Hkeep := Lib.hid hkeep1
      have Hdis := Lib.hid hdis
      have Hno := Lib.hid hno
      have Hx1 := Lib.hid hx1
      clear hft hpre hj hj1 hp1 hkeep hkeep1 hdis hliv hliv1 hno hx1 p0 p1 p2 p3 p4 p5 p8 p9
      gi_wp2_with fail
      refine ⟨rfl, hRd.mono ?_⟩
      rintro e W3 (⟨own', hbs, (⟨rfl, hj3⟩ | ⟨rfl, hjx⟩)⟩ | ⟨ch, rfl, hjp⟩)
      · have hI3 : ItInv w0 B0 (BordR (some ⟨b, off, none⟩) l b1) J (bordL (l.take k) ++ [x.frm]) W3 := ItInv.body hj3 hbs Hal.out Hkeep.out Hdis.out hBs1
        have hx3 := (hbs.block _ (by omega) Hno.out).trans Hx1.out
        obtain ⟨own2, hj2, hkeep2, hdis2, hliv2, hBs2⟩ := hI3
        obtain ⟨fn2, tmps2, assign2, body2, hyy2, hRd2⟩ := HY.out own2 _ x.until_ W3 hj2 Hpre.out hdis2 hliv2
        change (Instr.yield l' #[.int .i64 x.until_]).run _ _ = _ at hyy2
        obtain ⟨_, _, _, _, _, _, _, q7, _, _⟩ := hou_at hx3
        have Hkeep2 := Lib.hid hkeep2
        have Hdis2 := Lib.hid hdis2
        clear hyy hRd hbs hj3 hj2 hkeep2 hdis2 hliv2 hx3 p6 p7 h0 h1 h2 h3 h4 h5 h6 h7 h8 h9
        gi_wp2_with fail
        refine ⟨rfl, hRd2.mono ?_⟩
        rintro e W4 (⟨own3, hbs3, (⟨rfl, hj4⟩ | ⟨rfl, hjx⟩)⟩ | ⟨ch, rfl, hjp⟩)
        · have hI4 : Hid (ItInv w0 B0 (BordR (some ⟨b, off, none⟩) l b1) J (bordL (l.take (k + 1))) W4) := by
            show ItInv _ _ _ _ _ _
            rw [Hft.out]
            exact ItInv.body hj4 hbs3 Hal.out Hkeep2.out Hdis2.out hBs2
          clear hyy2 hRd2 hbs3 hj4
          gi_wp2_with fail
          go_roundw
          case rel => exact ⟨k + 1, by omega, by go_num, hI4.out⟩
          case measure => simp [intOf]; omega
        · gi_wp2_with fail
          refine bodyPost_ret (results_none rfl _ _ _) rfl ?_
          exact .inr (.inl ⟨⟨_, rfl⟩, own3, _, Hpre.out, hjx⟩)
        · exact hjp.elim
      · have Hjx := Lib.hid hjx
        clear hyy hRd hbs hjx
        gi_wp2_with fail
        refine ⟨fun _ h => (by cases h), ?_⟩
        gi_wp2_with fail
        refine bodyPost_ret (results_none rfl _ _ _) rfl ?_
        exact .inr (.inl ⟨⟨_, rfl⟩, own', _, Hp1.out, Hjx.out⟩)
      · exact hjp.elim
    · obtain rfl : k = l.length := by omega
      gi_wp2
      go_end0
      obtain ⟨own, hj, _⟩ := hI
      rw [List.take_length] at hj
      exact .inl ⟨rfl, ⟨_, rfl⟩, own, hj⟩
end Go.Proofs.Ytmindojbkedmlaa

/- Maps as functions: what a map of the call's own holds at each key; ranging over one. No program in sight. -/
namespace Go.Han
open Go.Maps (Keyed)

section
variable {α β : Type} {P : Program} {k : TypeId}

/-- How keys are spelled: as values, as the reader's keys; which of them are keys at all. -/
structure KeyShape (P : Program) (k : TypeId) (α : Type) where
  val : α → Value
  lit : α → Lit
  good : α → Prop
  of : ∀ x, good x → keyOf P k (val x) = some (lit x)
  inv : ∀ v l, keyOf P k v = some l → ∃ x, good x ∧ v = val x ∧ l = lit x
  inj : ∀ x y, good x → good y → lit x = lit y → x = y
/-- How elements are spelled. -/
structure ElemShape (β : Type) where
  val : β → Value
  inj : ∀ x y, val x = val y → x = y

/-- An element reads as itself. -/
noncomputable def ElemShape.read (E : ElemShape β) (v : Value) : Option (DataW β × List MemPlace) :=
  open Classical in if h : ∃ c, v = E.val c then some (.held (Classical.choose h), []) else none
theorem ElemShape.read_val (E : ElemShape β) (c : β) : E.read (E.val c) = some (.held c, []) := by
  unfold ElemShape.read
  have h : ∃ c', E.val c = E.val c' := ⟨c, rfl⟩
  rw [dif_pos h, E.inj _ _ (Classical.choose_spec h).symm]
theorem ElemShape.read_inv (E : ElemShape β) {v : Value} {y : DataW β × List MemPlace} (h : E.read v = some y) : ∃ c, v = E.val c ∧ y = (.held c, []) := by
  unfold ElemShape.read at h
  split at h
  · rename_i hc
    cases h
    exact ⟨Classical.choose hc, Classical.choose_spec hc, rfl⟩
  · cases h

/-- What stands at the keys. -/
def HoldsAt (S : KeyShape P k α) (D : DataW β) (f : α → Option β) : Prop :=
  ∀ x, S.good x → (f x = none → Maps.has D (S.lit x) = false) ∧ ∀ c, f x = some c → Maps.has D (S.lit x) = true ∧ ∀ z, D.atKey (S.lit x) z = .held c

/-- Block b is a map of at most n entries that holds f. -/
def MapF (w : World) (S : KeyShape P k α) (E : ElemShape β) (b n : Nat) (f : α → Option β) : Prop :=
  ∃ D : DataW β, w.ownsMap P k E.read b n D ∧ HoldsAt S D f

theorem MapF.lt {w : World} {S : KeyShape P k α} {E : ElemShape β} {b n : Nat} {f : α → Option β} (h : MapF w S E b n f) : b < w.heap.size := let ⟨_, h1, _⟩ := h; h1.lt
theorem MapF.made (w : World) (S : KeyShape P k α) (E : ElemShape β) : MapF (w.alloc (.map #[] 0)) S E w.heap.size 0 (fun _ => none) :=
  ⟨.map [], World.ownsMap_made w P k E.read, fun x _ => ⟨fun _ => rfl, fun c h => by cases h⟩⟩
theorem MapF.mono {w : World} {S : KeyShape P k α} {E : ElemShape β} {b n n' : Nat} {f : α → Option β} (h : MapF w S E b n f) (hn : n ≤ n') : MapF w S E b n' f :=
  let ⟨D, h1, h2⟩ := h; ⟨D, h1.mono hn, h2⟩
theorem MapF.of_block {w w' : World} {S : KeyShape P k α} {E : ElemShape β} {b n : Nat} {f : α → Option β} (h : MapF w S E b n f) (hb : w'.heap[b]? = w.heap[b]?) : MapF w' S E b n f := by
  obtain ⟨D, ⟨es, clock, h1, h2⟩, h3⟩ := h
  exact ⟨D, ⟨es, clock, hb.trans h1, h2⟩, h3⟩
theorem MapF.congr {w : World} {S : KeyShape P k α} {E : ElemShape β} {b n : Nat} {f g : α → Option β} (h : MapF w S E b n f) (e : ∀ x, S.good x → g x = f x) : MapF w S E b n g := by
  obtain ⟨D, h1, h2⟩ := h
  exact ⟨D, h1, fun x hx => by rw [e x hx]; exact h2 x hx⟩

theorem HoldsAt.put [DecidableEq α] {S : KeyShape P k α} (K : Keyed P k) {D : DataW β} {f : α → Option β} (h : HoldsAt S D f) (hD : Maps.IsMap D) {x : α} (hx : S.good x) (c : β) :
    HoldsAt S (D.put (S.lit x) (.held c)) (fun y => if y = x then some c else f y) := by
  intro y hy
  have hk : WideAt.IsKeyLit (S.lit x) := K.key (S.of x hx)
  by_cases e : y = x
  · subst e
    exact ⟨fun h => by simp at h, fun c' h => by
      simp at h; subst h
      exact ⟨Maps.has_put_same hD hk _, fun z => Maps.atKey_put_same hD hk _ z⟩⟩
  · have hne : S.lit y ≠ S.lit x := fun h' => e (S.inj y x hy hx h')
    obtain ⟨h1, h2⟩ := h y hy
    exact ⟨fun h' => by rw [Maps.has_put_other hne]; exact h1 (by simpa [e] using h'), fun c' h' => by
      have := h2 c' (by simpa [e] using h')
      exact ⟨by rw [Maps.has_put_other hne]; exact this.1, fun z => by rw [Maps.atKey_put_other hne]; exact this.2 z⟩⟩

section
variable (w : World) {ops : Array Oper} {rest : List Oper} {o : Oper} {a : Act} {Q : Exit → Act → World → Prop}

/-- m[x] = c. -/
theorem wpList_mapUpdate_f [DecidableEq α] (hg : o.guard = none) (m x v : Operand) (t : TypeId) (hop : o.op = Op.mapUpdate t m x v) (e : TypeId) (K : Keyed P k) (ht : P.underlying t = some (.map k e)) (S : KeyShape P k α) (E : ElemShape β) (b n : Nat) (f : α → Option β)
    (hm : a.eval m = .map (some b)) (hown : MapF w S E b n f) (hn : n < maxLen) (key : α) (c : β) (hx : a.eval x = S.val key) (hv : a.eval v = E.val c) (hgood : S.good key)
    (hK : ∀ w', MapF w' S E b (n + 1) (fun y => if y = key then some c else f y) → w.grownBy w' (some b) → w'.heap.size = w.heap.size → wpList P ops Q rest (a.put o.dst undef) w') :
    wpList P ops Q (o :: rest) a w := by
  obtain ⟨D, h1, h2⟩ := hown
  refine wpList_plain hg fun K' hK' => ?_
  obtain ⟨w', hrun, r1, r2⟩ := h1.store K ht hn (S.of key hgood) (E.read_val c)
  have hsz : w'.heap.size = w.heap.size := by
    obtain ⟨es, clock, es', clock', hb, rfl⟩ := r2
    simp [ChangeMaps.setBlock]
  unfold Oper.wp
  simp [execOp, hop, hm, hx, hv, hrun, Result.andThen]
  exact hK' _ _ (hK w' ⟨_, r1, h2.put K h1.isMap hgood c⟩ r2.grown hsz)

/-- m[x] = c, as an equation. -/
theorem MapF.store [DecidableEq α] {t e : TypeId} (K : Keyed P k) (ht : P.underlying t = some (.map k e)) {S : KeyShape P k α} {E : ElemShape β} {b n : Nat} {f : α → Option β} (hown : MapF w S E b n f) (hn : n < maxLen) (key : α) (c : β) (hgood : S.good key) :
    ∃ w', (Instr.mapUpdate t (.map (some b)) (S.val key) (E.val c)).run P w = .ok () w' ∧ MapF w' S E b (n + 1) (fun y => if y = key then some c else f y) ∧ w.grownBy w' (some b) ∧ w'.heap.size = w.heap.size := by
  obtain ⟨D, h1, h2⟩ := hown
  obtain ⟨w', hrun, r1, r2⟩ := h1.store K ht hn (S.of key hgood) (E.read_val c)
  refine ⟨w', hrun, ⟨_, r1, h2.put K h1.isMap hgood c⟩, r2.grown, ?_⟩
  obtain ⟨es, clock, es', clock', hb, rfl⟩ := r2
  simp [ChangeMaps.setBlock]
/-- v, ok := m[x]. -/
theorem run_lookup_f {t e : TypeId} (K : Keyed P k) (ht : P.underlying t = some (.map k e)) (S : KeyShape P k α) (E : ElemShape β) (z0 : β) {b n : Nat} {f : α → Option β} (hz : (zeroValue e).run P w = .ok (E.val z0) w) (hown : MapF w S E b n f) (key : α) (hgood : S.good key) :
    (Instr.lookup t (.map (some b)) (S.val key) true).run P w = .ok (.tuple #[E.val ((f key).getD z0), .bool (f key).isSome]) w := by
  obtain ⟨D, h1, h2⟩ := hown
  obtain ⟨v, ps, hrun, hv⟩ := h1.look_ok K ht hz (E.read_val z0) (S.of key hgood)
  obtain ⟨g1, g2⟩ := h2 key hgood
  obtain ⟨c, rfl, hc⟩ := E.read_inv hv
  simp only [Prod.mk.injEq] at hc
  cases hf : f key with
  | none =>
    have := g1 hf
    rw [Maps.atKey_of_not_has this] at hc
    cases hc.1
    rw [this] at hrun
    exact hrun
  | some c' =>
    obtain ⟨g3, g4⟩ := g2 c' hf
    rw [g4] at hc
    cases hc.1
    rw [g3] at hrun
    exact hrun
theorem wpList_lookup_f (hg : o.guard = none) (m x : Operand) (t : TypeId) (hop : o.op = Op.lookup t m x true) (e : TypeId) (K : Keyed P k) (ht : P.underlying t = some (.map k e)) (S : KeyShape P k α) (E : ElemShape β) (z0 : β) (b n : Nat) (f : α → Option β)
    (hz : (zeroValue e).run P w = .ok (E.val z0) w) (hm : a.eval m = .map (some b)) (hown : MapF w S E b n f) (key : α) (hx : a.eval x = S.val key) (hgood : S.good key)
    (hK : wpList P ops Q rest (a.put o.dst (.tuple #[E.val ((f key).getD z0), .bool (f key).isSome])) w) :
    wpList P ops Q (o :: rest) a w := by
  refine wpList_plain hg fun K' hK' => ?_
  have hrun := run_lookup_f w K ht S E z0 hz hown key hgood
  unfold Oper.wp
  simp only [execOp, hop, hm, hx, Sem.run_bind, hrun, Result.andThen_ok, Sem.run_pure]
  exact hK' _ _ hK

theorem wpList_lookup_is (hg : o.guard = none) (m x : Operand) (t : TypeId) (hop : o.op = Op.lookup t m x true) (e : TypeId) (K : Keyed P k) (ht : P.underlying t = some (.map k e)) (S : KeyShape P k α) (E : ElemShape β) (z0 : β) (b n : Nat) (f : α → Option β)
    (hz : (zeroValue e).run P w = .ok (E.val z0) w) (hm : a.eval m = .map (some b)) (hown : MapF w S E b n f) (key : α) (hx : a.eval x = S.val key) (hgood : S.good key) (vc : Value) (bc : Bool) (hv : E.val ((f key).getD z0) = vc) (hb : (f key).isSome = bc)
    (hK : wpList P ops Q rest (a.put o.dst (.tuple #[vc, .bool bc])) w) :
    wpList P ops Q (o :: rest) a w := by
  subst hv hb
  exact wpList_lookup_f w hg m x t hop e K ht S E z0 b n f hz hm hown key hx hgood hK

/-! ### ranging -/
/-- Block r ranges over the map in block b; 'left': what is still to come. -/
def RangeF (w : World) (S : KeyShape P k α) (E : ElemShape β) (b r n : Nat) (f : α → Option β) (left : α → Bool) (cnt : Nat) : Prop :=
  ∃ (D : DataW β) (lf : Lit → Bool), w.ranges P k E.read b r n D lf cnt ∧ HoldsAt S D f ∧ (∀ x, S.good x → left x = lf (S.lit x)) ∧ ∀ l, lf l = true → ∃ x, S.good x ∧ l = S.lit x
end
theorem RangeF.kept {w w' : World} {S : KeyShape P k α} {E : ElemShape β} {b r n cnt : Nat} {f : α → Option β} {left : α → Bool} {row : Option Nat} (h : RangeF w S E b r n f left cnt) (hg : w.grownBy w' row) (hb : some b ≠ row) (hr : some r ≠ row) : RangeF w' S E b r n f left cnt :=
  let ⟨D, lf, h1, h2⟩ := h; ⟨D, lf, h1.kept hg hb hr, h2⟩
theorem RangeF.owns {w : World} {S : KeyShape P k α} {E : ElemShape β} {b r n cnt : Nat} {f : α → Option β} {left : α → Bool} (h : RangeF w S E b r n f left cnt) : MapF w S E b n f :=
  let ⟨D, _, h1, h2, _⟩ := h; ⟨D, h1.owns, h2⟩
theorem RangeF.left_eq {w : World} {S : KeyShape P k α} {E : ElemShape β} {b r n cnt : Nat} {f : α → Option β} {left : α → Bool} (h : RangeF w S E b r n f left cnt) : w.rangeLeft b r = cnt :=
  let ⟨_, _, h1, _⟩ := h; h1.left_eq
theorem RangeF.lt {w : World} {S : KeyShape P k α} {E : ElemShape β} {b r n cnt : Nat} {f : α → Option β} {left : α → Bool} (h : RangeF w S E b r n f left cnt) : r < w.heap.size :=
  let ⟨_, _, h1, _⟩ := h; h1.lt

section
variable (w : World) {ops : Array Oper} {rest : List Oper} {o : Oper} {a : Act} {Q : Exit → Act → World → Prop}
/-- range m. -/
theorem wpList_range_f (hg : o.guard = none) (m : Operand) (t : TypeId) (hop : o.op = Op.range t m) (e : TypeId) (K : Keyed P k) (ht : P.underlying t = some (.map k e)) (S : KeyShape P k α) (E : ElemShape β) (b n : Nat) (f : α → Option β)
    (hm : a.eval m = .map (some b)) (hown : MapF w S E b n f)
    (hK : ∀ w' cnt, RangeF w' S E b w.heap.size n f (fun x => (f x).isSome) cnt → w.grownBy w' none → w'.heap.size = w.heap.size + 1 → wpList P ops Q rest (a.put o.dst (.pointer (some ⟨w.heap.size, 0, none⟩))) w') :
    wpList P ops Q (o :: rest) a w := by
  obtain ⟨D, h1, h2⟩ := hown
  obtain ⟨es, hes, hpw, hkl⟩ := h1.entries K
  refine wpList_range_own w hg m t hop k e K ht E.read b n D hm h1 fun w' hr hgr hs => hK w' _ ⟨D, Maps.has D, hr, h2, fun x hx => ?_, fun l hl => ?_⟩ hgr hs
  · obtain ⟨g1, g2⟩ := h2 x hx
    show (f x).isSome = _
    cases hf : f x with
    | none => exact (g1 hf).symm
    | some c => exact ((g2 c hf).1).symm
  · obtain ⟨es', clock, _, F, _, hD⟩ := h1
    subst hD
    obtain ⟨p, hp, hpk⟩ := List.any_eq_true.1 hl
    obtain ⟨y, hy, rfl⟩ := List.mem_map.1 (mem_sorted.1 hp)
    obtain ⟨z, hz⟩ := F.reads y hy
    have hk' := WideElems.rd_key hz
    have e1 : (WideElems.rg P k E.read y).1 = z.1 := by rw [WideElems.rg_of hz]
    obtain ⟨x, hx, _, hl'⟩ := S.inv _ _ hk'
    exact ⟨x, hx, by rw [← hl', ← e1]; exact (WideAt.sameKey_eq hpk).symm⟩

/-- The step. -/
theorem wpList_next_f [DecidableEq α] (hg : o.guard = none) (it : Operand) (hop : o.op = Op.next it false) (K : Keyed P k) (S : KeyShape P k α) (E : ElemShape β) (b r n : Nat) (f : α → Option β) (left : α → Bool) (cnt : Nat) (kv : α → Value) (cv : β → Value) (hkv : ∀ x, S.val x = kv x) (hcv : ∀ c, E.val c = cv c)
    (hit : a.eval it = .pointer (some ⟨r, 0, none⟩)) (h : RangeF w S E b r n f left cnt)
    (hDone : (∀ x, S.good x → left x = false) → wpList P ops Q rest (a.put o.dst (.tuple #[.bool false])) w)
    (hMore : ∀ (x : α) (c : β) (w' : World) (cnt' : Nat), S.good x → left x = true → f x = some c → RangeF w' S E b r n f (fun y => left y && !decide (y = x)) cnt' → cnt' < cnt →
      w.grownBy w' (some r) → w'.heap.size = w.heap.size → (Instr.entry (.pointer (some ⟨r, 0, none⟩))).run P w' = .ok (.tuple #[kv x, cv c]) w' → wpList P ops Q rest (a.put o.dst (.tuple #[.bool true, kv x, cv c])) w') :
    wpList P ops Q (o :: rest) a w := by
  obtain ⟨D, lf, h1, h2, h3, h4⟩ := h
  refine wpList_next_ranges w hg it hop k K E.read S.val E.val (fun key kl hk => by obtain ⟨x, _, hx, _⟩ := S.inv key kl hk; exact ⟨x, hx⟩) (fun v y hv => by obtain ⟨c, hc, _⟩ := E.read_inv hv; exact ⟨c, hc⟩) b r n D lf cnt hit h1
    (fun _ hl => hDone fun x hx => by rw [h3 x hx, hl]) ?_
  intro x' c kl y w' cnt' hkey hlk hv hat hrg hlt hgr hsz hen
  obtain ⟨x, hx, hxv, hxl⟩ := S.inv _ _ hkey
  subst hxl
  obtain ⟨c', hc', hy⟩ := E.read_inv hv
  obtain rfl : c = c' := E.inj _ _ hc'
  subst hy
  rw [hxv, hkv, hcv] at hen
  rw [hxv, hkv, hcv]
  have hfx : f x = some c := by
    obtain ⟨g1, g2⟩ := h2 x hx
    cases hf : f x with
    | none =>
      have := g1 hf
      have h0 := hat .nil
      rw [Maps.atKey_of_not_has this] at h0
      cases h0
    | some c2 =>
      have h0 := (g2 c2 hf).2 .nil
      rw [hat] at h0
      cases h0
      rfl
  refine hMore x c w' cnt' hx (by rw [h3 x hx]; exact hlk) hfx ⟨D, _, hrg, h2, fun y hy => ?_, fun l hl => ?_⟩ hlt hgr hsz hen
  · show (left y && !decide (y = x)) = (lf (S.lit y) && !(S.lit y).sameKey (S.lit x))
    rw [h3 y hy]
    by_cases e : y = x
    · subst e
      rw [WideAt.sameKey_self (K.key (S.of y hy))]; simp
    · rw [Maps.sameKey_ne (fun h' => e (S.inj y x hy hx h'))]; simp [e]
  · refine h4 l ?_
    cases hl' : lf l
    · simp [hl'] at hl
    · rfl
end

/-- Keys of the type int. -/
def intShape {q : IntKind} (hk : P.underlying k = some (.int q)) : KeyShape P k Int where
  val := .int q
  lit := .int q
  good x := (Lit.int q x).wf = true
  of x hx := by simp [keyOf, mapKey, hk, hx]
  inv v l h := by
    obtain ⟨x, h1, h2, h3⟩ := Maps.keyOf_int_inv hk h
    exact ⟨x, h3, h1, h2⟩
  inj x y _ _ h := by cases h; rfl
end
end Go.Han

/- The keys of a map with int keys, sorted: what they are, by what the map holds. No program in sight. -/
namespace Go.Han
open Go.RowKit Go.Maps

theorem intKeys_facts {H : Type} {P : Program} {k : TypeId} {R : Value → Option (DataW H × List MemPlace)} {w : World} {b n : Nat} {D0 : DataW H} (hown : w.ownsMap P k R b n D0) (K : Keyed P k) (hk : P.underlying k = some (.int .i64)) :
    (intKeys D0).Nodup ∧ ∀ x, x ∈ intKeys D0 ↔ has D0 (.int .i64 x) = true := by
  obtain ⟨es, hD, hpw, _⟩ := hown.entries K
  obtain ⟨es', hD', hko⟩ := hown.keysOf
  obtain rfl : es = es' := by rw [hD] at hD'; simpa using hD'
  subst hD
  have hkx : ∀ p ∈ es, ∃ x, p.1 = .int .i64 x := fun p hp => by
    obtain ⟨v, hv⟩ := hko p hp
    obtain ⟨x, _, hx, _⟩ := Maps.keyOf_i64 hk hv
    exact ⟨x, hx⟩
  refine ⟨?_, fun x => ?_⟩
  · show (es.map fun p => Go.intOf p.1).Nodup
    refine List.pairwise_map.2 (hpw.imp_of_mem fun {p q} hp' hq' hne e => hne ?_)
    obtain ⟨a, ha⟩ := hkx p hp'
    obtain ⟨b, hb⟩ := hkx q hq'
    rw [ha, hb] at e ⊢
    exact congrArg _ e
  · rw [has_eq, List.any_eq_true]
    show x ∈ (es.map fun p => Go.intOf p.1) ↔ _
    rw [List.mem_map]
    constructor
    · rintro ⟨p, hp', rfl⟩
      obtain ⟨a, ha⟩ := hkx p hp'
      exact ⟨p, hp', by rw [ha]; simp [Lit.sameKey, Go.intOf]⟩
    · rintro ⟨p, hp', hs⟩
      obtain ⟨a, ha⟩ := hkx p hp'
      rw [ha] at hs
      exact ⟨p, hp', by rw [ha]; simpa [Lit.sameKey, Go.intOf] using hs⟩
theorem sort_asc {l : List Int} (h : l.Nodup) : (l.mergeSort (fun x y => decide (x ≤ y))).Pairwise (fun a b => a < b) := by
  have tr : ∀ a b c : Int, decide (a ≤ b) = true → decide (b ≤ c) = true → decide (a ≤ c) = true := fun a b c h1 h2 => by simp at *; omega
  have to : ∀ a b : Int, (decide (a ≤ b) || decide (b ≤ a)) = true := fun a b => by simp; omega
  have h1 := List.pairwise_mergeSort tr to l
  have h2 : (l.mergeSort (fun x y => decide (x ≤ y))).Nodup := (List.mergeSort_perm l _).nodup_iff.2 h
  refine (h1.and h2).imp (fun hab => ?_)
  have := hab.1
  simp at this
  have := hab.2
  omega
/-- The sorted keys. -/
structure SortedKeys (P : Program) {k : TypeId} (hk : P.underlying k = some (.int .i64)) {β : Type} (f : Int → Option β) (T : List Int) : Prop where
  asc : T.Pairwise (fun a b => a < b)
  mem : ∀ x, x ∈ T ↔ ((intShape hk).good x ∧ (f x).isSome = true)
theorem sorted_keys {β : Type} {P : Program} {k : TypeId} (hk : P.underlying k = some (.int .i64)) {E : ElemShape β} {w : World} {b n : Nat} {D : DataW β} {f : Int → Option β} (hown : w.ownsMap P k E.read b n D) (hf : HoldsAt (intShape hk) D f) {ss : List Int} (hp : ss.Perm (intKeys D)) :
    SortedKeys P hk f (ss.mergeSort (fun x y => decide (x ≤ y))) := by
  obtain ⟨h1, h2⟩ := intKeys_facts hown (Maps.int_keyed hk) hk
  have h3 := intKeys_wf hown hk
  have hnd : ss.Nodup := hp.nodup_iff.2 h1
  refine ⟨sort_asc hnd, fun x => ?_⟩
  rw [List.mem_mergeSort, hp.mem_iff, h2 x]
  constructor
  · intro h
    have hg : (Lit.int .i64 x).wf = true := h3 x ((h2 x).2 h)
    refine ⟨hg, ?_⟩
    cases hx : f x with
    | none => have := (hf x hg).1 hx; change has D (.int .i64 x) = false at this; rw [this] at h; cases h
    | some c => rfl
  · rintro ⟨hg, hs⟩
    obtain ⟨c, hc⟩ := Option.isSome_iff_exists.1 hs
    exact ((hf x hg).2 c hc).1
end Go.Han

/- Package audit: Find. -/
namespace Go.Proofs.Ytmindojbkedmlaa
open Go.RowKit Go.Han Go.Maps Go.Shelf
attribute [local irreducible] wpStill wpQuiet
attribute [local go_sem] Oper.semAt_some
set_option maxRecDepth 100000

def intS : KeyShape Try.prog 3 Int := intShape Try.underlying3
theorem keyed_int : Maps.Keyed Try.prog 3 := Maps.int_keyed Try.underlying3
theorem vbool_inj (x y : Bool) (h : Value.bool x = Value.bool y) : x = y := by cases h; rfl
def blE : ElemShape Bool := ⟨Value.bool, vbool_inj⟩
theorem good_time {n : Int} (h0 : 0 ≤ n) (h1 : n ≤ 1099511627776) : intS.good n := by
  show (Lit.int .i64 n).wf = true
  simp [Lit.wf, IntKind.min, IntKind.max, IntKind.signed, IntKind.bits]; omega
def setF (l : List Int) (n : Int) : Option Bool := if n ∈ l then some true else none
theorem setF_snoc (l : List Int) (x : Int) : ∀ n, setF (l ++ [x]) n = if n = x then some true else setF l n := by
  intro n
  unfold setF
  by_cases h : n = x
  · simp [h]
  · simp [h]
theorem keysB_any (mb : Option Nat) (w : World) : Calls Try.prog 37 #[.map mb] w fun e w' => e = .returned (.func (.func 78) #[] #[.pointer (some ⟨w.heap.size, 0, none⟩)]) ∧ w.alloc (.cells #[.map mb] 64) = w' := by
  have hmf : ∀ (fn : Fn) (first cap : Array Value) (w : World), (Instr.makeFunc fn first cap).run Try.prog w = .ok (.func fn first cap) w := fun _ _ _ _ => rfl
  go_enter Try.func37, Try.ntmps37
  go_wp2
  go_ret
  exact ⟨rfl, rfl⟩
theorem sortsA (m : Nat) : AnyZI.SortsIn Try.prog Try.sortedA_ren Fence.wide m :=
  ⟨fun blk off cap ss W hH hblk hsz => callsIn_wide.2 (AnyM.slices_Sort_int Try.sortA blk off cap ss W hH hblk hsz),
   fun p cap W => callsIn_wide.2 (AnyM.slices_Sort_int_none Try.sortA p cap W)⟩
def SortPost (f : Int → Option Bool) (w : World) (e : Ending) (w' : World) : Prop :=
  Below w.heap.size w w' ∧ ∃ v T, e = .returned v ∧ SortedKeys Try.prog Try.underlying3 f T ∧ w'.ownsRow w.heap.size 3 1 v T.length (T.map fun x => Value.int .i64 x)
theorem sortedB_any (b n g : Nat) (f : Int → Option Bool) (w : World) (hm : MapF w intS blE b n f) (hn : n ≤ 100000) (hg : w.heap[g]? = some (.cells #[.map (some b)] 64 (0, 0))) :
    Calls Try.prog 36 #[.func (.func 78) #[] #[.pointer (some ⟨g, 0, none⟩)]] w (SortPost f w) := by
  obtain ⟨D, hown, hf⟩ := hm
  have hsz := hown.size_le
  have hseq : SeqGives Fence.wide 2 Try.prog 78 #[.pointer (some ⟨g, 0, none⟩)] encZ (fun ss => ss.Perm (intKeys D)) (Maps.size D) w :=
    AnyZI.keys_gives (ρ := Try.keysA_ren) { Try.keysA with } Fence.wide _ trivial rfl (by omega) g b n D _ (lt_block hg) (by rw [gblk hg]; rfl) hown
  have cS := AnyZI.sorted_in Try.sortedA Fence.wide 5 trivial trivial trivial trivial rfl (by omega) (sortsA _) (enters_of Try.func77 (by kernel_rfl) rfl) 78 #[.pointer (some ⟨g, 0, none⟩)] trivial (enters_of Try.func78 (by kernel_rfl) rfl) _ _ (by unfold maxLen; omega) (by omega) _ hseq
  change CallsIn _ _ Try.prog 36 _ _ _ at cS
  refine ((callsIn_wide (n := 5)).1 cS).mono ?_
  rintro e w' ⟨v, ss, rfl, hp, hrow, _, hb⟩
  refine ⟨hb, v, _, rfl, sorted_keys Try.underlying3 hown hf hp, ?_⟩
  rw [List.length_mergeSort]
  exact hrow
end Go.Proofs.Ytmindojbkedmlaa

/- Package audit: Find. -/
namespace Go.Proofs.Ytmindojbkedmlaa
open Go.RowKit Go.Han Go.Maps Go.Shelf
attribute [local irreducible] wpStill wpQuiet
attribute [local go_sem] Oper.semAt_some
set_option maxRecDepth 100000

def findR (l : List House) (s : List Sight) (kn : Int) : Int × Int × Int × Bool :=
  if audE l s kn = 0 then (match findA l s kn with | some (i, t, no) => ((i : Int), t, no, true) | none => (0, 0, 0, false)) else (0, 0, 0, false)
def FindPost (l : List House) (s : List Sight) (kn : Int) (w : World) (e : Ending) (w' : World) : Prop :=
  e = .returned (.tuple #[.int .i64 (findR l s kn).1, .int .i64 (findR l s kn).2.1, .int .i64 (findR l s kn).2.2.1, .bool (findR l s kn).2.2.2, .int .i64 (audE l s kn)]) ∧ Below w.heap.size w w'
theorem mem_bordL {l : List House} {t : Int} : t ∈ bordL l ↔ ∃ h ∈ l, t = h.frm ∨ t = h.until_ := by
  unfold bordL
  rw [List.mem_flatMap]
  constructor
  · rintro ⟨h, hh, hc⟩; exact ⟨h, hh, by simpa using hc⟩
  · rintro ⟨h, hh, hc⟩; exact ⟨h, hh, by simpa using hc⟩
/-- The instants that have been laid so far. -/
def InstInv (W4 : World) (mb : Nat) (own : Nat → Prop) (pre : List Int) (W : World) : Prop :=
  (∀ k, own k ↔ k = mb) ∧ Only (fun k => k = mb) W4 W ∧ MapF W intS blE mb pre.length (setF pre)
theorem inst_stable (W4 : World) (mb : Nat) (B0 : Nat) (hB : W4.heap.size ≤ B0) : Stable B0 (fun _ => False) (InstInv W4 mb) := by
  rintro own pre W W' ⟨ho, hon, hm⟩ st
  exact ⟨ho, only_iterN hon st hB, hm.of_block (st.block _ hm.lt (.inr ((ho _).2 rfl)))⟩
def InstAsg (W4 : World) (mb : Nat) (F : Value → Array Value) (x : Int) (a' : Act) (own : Nat → Prop) (pre : List Int) (W : World) : Prop :=
  a' = { tmps := F (.int .i64 x), defers := [] } ∧ InstInv W4 mb own pre W
set_option maxHeartbeats 4000000 in
theorem FindA_any (A : Option Addr) (c : Nat) (l : List House) (A2 : Option Addr) (c2 : Nat) (s : List Sight) (kn : Int) (w : World) (hr : Rd w A (hflat l)) (hm : l.length ≤ 9223372036854775807) (hs : Rd w A2 (sflat s)) (hm2 : s.length ≤ 9223372036854775807) :
    Calls Try.prog 11 #[.slice A l.length c, .slice A2 s.length c2, .int .i64 kn] w (FindPost l s kn w) := by
  obtain ⟨W1, hW1⟩ : ∃ W, (w.alloc (.cells #[.slice A l.length c] 22)).alloc (.cells #[.int .i64 kn] 3) = W := ⟨_, rfl⟩
  have hB1 : Below w.heap.size w W1 := by subst hW1; exact ext_alloc (ext_alloc (Below.refl _ _) _) _
  have k3 : W1.heap[w.heap.size]? = some (.cells #[.slice A l.length c] 22 (0, 0)) := by subst hW1; exact (Below.heap_alloc _ _ _ (by simp)).trans (galloc_at _ _ _ rfl)
  have k5 : W1.heap[w.heap.size + 1]? = some (.cells #[.int .i64 kn] 3 (0, 0)) := by subst hW1; exact galloc_at _ _ _ (by simp)
  have cC := Lib.hid (checkA_any A c l A2 c2 s kn W1 (hr.ext hB1) hm (hs.ext hB1) hm2)
  unfold CheckPost at cC
  have hz1 : W1.heap.size = w.heap.size + 2 := by subst hW1; simp
  have Hz1 := Lib.hid hz1
  have HW1 := Lib.hid hW1
  have x3 := cell_one k3
  have x5 := cell_one k5
  have K3 := Lib.hid k3
  have K5 := Lib.hid k5
  clear hW1 k3 k5 hz1
  unfold FindPost
  refine calls_of_wpAt Try.func11 rfl ?_
  simp only [Try.ntmps11, List.size_toArray, List.length_cons, List.length_nil, Nat.reduceAdd, Nat.reduceSub, Array.replicate_succ, Array.replicate_zero, List.push_toArray, List.append_toArray, List.nil_append, List.cons_append]
  refine wpAt_seq_wp fun Q1 hQ1 => ?_
  go_wp2_with fail
  rw [HW1.out]
  refine wpAt_scope ?_
  refine wpAt_seq_wp fun Q2 hQ2 => ?_
  go_wp2_with fail
  refine cC.out.mono ?_
  rintro e w2 ⟨rfl, hb2⟩
  clear cC HW1
  by_cases hae : audE l s kn = 0
  · have Hae := Lib.hid hae
    have Hchk : Hid (hchk l = 0) := by
      show hchk l = 0
      unfold audE at hae
      by_cases h : hchk l = 0
      · exact h
      · rw [if_neg h] at hae; exact absurd hae h
    rw [hae]
    clear hae
    go_wp2_with fail
    have hmm := @run_makeMap Try.prog
    refine wpAt_seq_wp fun Q3 hQ3 => ?_
    go_wp2_with fail
    obtain ⟨w3, hw3⟩ : ∃ W, (w2.alloc (.map #[] 0)).alloc (.cells #[.map (some w2.heap.size)] 64) = W := ⟨_, rfl⟩
    have hb3 : Below w2.heap.size w2 w3 := by subst hw3; exact ext_alloc (ext_alloc (Below.refl _ _) _) _
    have hz3 : w3.heap.size = w2.heap.size + 2 := by subst hw3; simp
    have hmap3 : MapF w3 intS blE w2.heap.size 0 (fun _ => none) := by subst hw3; exact (MapF.made _ _ _).of_block (Below.heap_alloc _ _ _ (by simp))
    have km3 : w3.heap[w2.heap.size + 1]? = some (.cells #[.map (some w2.heap.size)] 64 (0, 0)) := by subst hw3; exact galloc_at _ _ _ (by simp)
    rw [hw3]
    have y3 := cell_one (((ext_trans hb2 hb3).block _ (lt_block K3.out)).trans K3.out)
    have Hz3 := Lib.hid hz3
    clear hw3 hmm x3 x5 hz3
    refine wpAt_seq ?_
    refine wpAt_seq_wp fun Q4 hQ4 => ?_
    go_wp2_with fail
    refine (borders_any A c l w3).mono ?_
    rintro e w4 ⟨rfl, hw4⟩
    have hb4 : Below w3.heap.size w3 w4 := by subst hw4; exact ext_alloc (Below.refl _ _) _
    have hz4 : w4.heap.size = w3.heap.size + 1 := by subst hw4; simp
    have kb4 : w4.heap[w3.heap.size]? = some (.cells #[.slice A l.length c] 22 (0, 0)) := by subst hw4; exact World.alloc_heap_new _ _
    have km4 := (hb4.block _ (lt_block km3)).trans km3
    have hmap4 := hmap3.of_block (hb4.block _ hmap3.lt)
    have hb24 := ext_trans hb2 (ext_trans hb3 hb4)
    have k34 := (hb24.block _ (lt_block K3.out)).trans K3.out
    have k54 := (hb24.block _ (lt_block K5.out)).trans K5.out
    have hB4 := ext_trans hB1 hb24
    have hr4 := hr.ext hB4
    have hs4 := hs.ext hB4
    have hs2 := hb2.size
    have Hz4 := Lib.hid hz4
    clear hw4 hb3 hb4 km3 hmap3 y3 K3 K5 hb2 hz4
    go_wp2_with fail
    refine wpAt_block ?_
    have hz3 := Hz3.out
    have hz4 := Hz4.out
    have HSO : Hid (∀ x ∈ s, x.Ok) := fun x hx => by
      have := Hae.out
      unfold audE at this
      rw [if_pos Hchk.out] at this
      by_cases h1 : 4096 < s.length
      · rw [if_pos h1] at this; cases this
      · rw [if_neg h1] at this
        by_cases h2 : s.all Sight.ok = true
        · exact Sight.ok_iff.1 (List.all_eq_true.1 h2 x hx)
        · rw [if_neg h2] at this; cases this
    have hsl : s.length ≤ 4096 := by
      have := Hae.out
      unfold audE at this
      rw [if_pos Hchk.out] at this
      by_cases h1 : 4096 < s.length
      · rw [if_pos h1] at this; cases this
      · omega
    have HOK : Hid (∀ h ∈ l, h.Ok) := fun h hh => (hasc_ok (hchk_ok Hchk.out).2 h hh).1
    have HBL : Hid ((bordL l).length ≤ 2048) := by
      show (bordL l).length ≤ 2048
      have := (hchk_ok Hchk.out).1
      have h2 : (bordL l).length = l.length * 2 := by
        unfold bordL
        exact flat_len (fun h : House => [h.frm, h.until_]) 2 (fun _ => rfl) l
      omega
    have hit := borders1 A c l w3.heap.size w4 kb4 hr4 hm
    have hal := bord_alive kb4 hr4
    have hnm : ¬ BordR A l w3.heap.size w2.heap.size := by
      rintro (h | ⟨hl, a', ha', h⟩)
      · omega
      · obtain ⟨b, off, he, hb, _⟩ := hou_elem hr (k := 0) (List.length_pos_iff.2 hl)
        rw [he] at ha'
        cases ha'
        have h1 := hB1.size
        simp only at h
        omega
    refine wp_rangeN (xs := bordL l) (R := BordR A l w3.heap.size) (M := fun _ => False) (w0 := w4) Try.func11 (by rfl) (enters_of Try.func75 (by kernel_rfl) rfl) hit
      (fun k hk => ⟨hal k hk, rfl⟩) (fun _ => rfl)
      (InstInv w4 w2.heap.size) (fun _ _ _ _ => False) (inst_stable _ _ _ (Nat.le_refl _)) (fun c _ _ _ _ h _ => h) (fun k => k = w2.heap.size) ?_ ?_
      (InstAsg w4 w2.heap.size (fun vx => #[.slice A l.length c, .slice A2 s.length c2, .int .i64 kn, .pointer (some ⟨w.heap.size, 0, none⟩), undef, .pointer (some ⟨w.heap.size + 1, 0, none⟩), .int .i64 0, .int .i64 0, .int .i64 0, .bool false, .int .i64 0, .pointer (some ⟨w2.heap.size + 1, 0, none⟩), vx, undef, undef, undef, undef, undef, undef, undef, .slice A l.length c, .slice A2 s.length c2, .int .i64 kn, .int .i64 0, .int .i64 0, .bool false, undef, .map (some w2.heap.size), .slice A l.length c, .func (.func 75) #[] #[.pointer (some ⟨w3.heap.size, 0, none⟩)], vx, undef, undef, undef, undef, undef, undef, undef, undef, undef, undef, undef, undef, undef, undef, undef, undef, undef, undef, undef, undef, undef, undef, undef, undef, undef, undef, undef, undef, undef, undef, undef, undef, undef, undef, undef, undef, undef, undef, undef, undef, undef, undef, undef, undef])) (fun x a' => fun own pre X Y ⟨h1, h2⟩ st => ⟨h1, inst_stable w4 w2.heap.size _ (Nat.le_refl _) own pre X Y h2 st⟩) ?_ ?_ ?_ ?_
    · rintro k rfl
      exact ⟨hmap4.lt, hnm⟩
    · exact ⟨fun _ => Iff.rfl, Only.refl _ _, hmap4.congr fun _ _ => rfl⟩
    · rintro l1 own pre x X hI hl1 hl2 ho hpre
      refine wpIn_mono (Q := Exit.then (fun a' W' => ∃ own', BodyStep own own' X W' ∧ InstAsg w4 w2.heap.size (fun vx => #[.slice A l.length c, .slice A2 s.length c2, .int .i64 kn, .pointer (some ⟨w.heap.size, 0, none⟩), undef, .pointer (some ⟨w.heap.size + 1, 0, none⟩), .int .i64 0, .int .i64 0, .int .i64 0, .bool false, .int .i64 0, .pointer (some ⟨w2.heap.size + 1, 0, none⟩), vx, undef, undef, undef, undef, undef, undef, undef, .slice A l.length c, .slice A2 s.length c2, .int .i64 kn, .int .i64 0, .int .i64 0, .bool false, undef, .map (some w2.heap.size), .slice A l.length c, .func (.func 75) #[] #[.pointer (some ⟨w3.heap.size, 0, none⟩)], vx, undef, undef, undef, undef, undef, undef, undef, undef, undef, undef, undef, undef, undef, undef, undef, undef, undef, undef, undef, undef, undef, undef, undef, undef, undef, undef, undef, undef, undef, undef, undef, undef, undef, undef, undef, undef, undef, undef, undef, undef, undef, undef, undef, undef]) x a' own' pre W') (fun _ _ _ => False)) ?_ (fun e a w h => h)
      have hlv : ∀ k, own k → k < X.heap.size := fun k hk => (ho k hk).2.1
      unfold encI
      clear hz3 hz4
      gi_wp2
      exact ⟨own, BodyStep.refl hlv, rfl, hI⟩
    · rintro l1 own pre x a' X ⟨rfl, ho1, hon, hmp⟩ hl1 hl2 ho hpre
      have hlv : ∀ k, own k → k < X.heap.size := fun k hk => (ho k hk).2.1
      have hxm : x ∈ bordL l := by obtain ⟨t, ht⟩ := hpre; rw [← ht]; simp
      have hgd : intS.good x := by
        obtain ⟨h', hh, hc⟩ := List.mem_flatMap.1 hxm
        have ho := HOK.out h' hh
        have := ho.t0; have := ho.t1; have := ho.t2
        rcases (by simpa using hc : x = h'.frm ∨ x = h'.until_) with rfl | rfl
        · exact good_time (by omega) (by omega)
        · exact good_time (by omega) (by omega)
      have hpl : pre.length ≤ 2048 := by
        have h1 := List.IsPrefix.length_le hpre
        have h2 := HBL.out
        simp at h1
        omega
      obtain ⟨X', hrun, hmp', hgr, hsz⟩ := hmp.store _ keyed_int Try.underlying64 (by unfold maxLen; omega) x true hgd
      change (Instr.mapUpdate _ _ (.int .i64 x) (.bool true)).run _ _ = _ at hrun
      have hfin : Hid (∃ own', BodyStep own own' X X' ∧ InstInv w4 w2.heap.size own' (pre ++ [x]) X') := by
        refine ⟨own, (BodyStep.refl hlv).grown hgr (fun k hk => by cases hk; exact .inl ((ho1 _).2 rfl)), ho1, ⟨hgr.os.trans hon.os, hgr.tape.trans hon.tape, hgr.output.trans hon.output, Nat.le_trans hon.size hgr.size, fun i hi hn => (hgr.block i (Nat.lt_of_lt_of_le hi hon.size) (fun e => hn (by cases e; rfl))).trans (hon.block i hi hn)⟩, ?_⟩
        rw [List.length_append]
        exact hmp'.congr fun n _ => setF_snoc pre x n
      have c11 := cell_one ((hon.block (w2.heap.size + 1) (by omega) (by omega)).trans km4)
      clear hz3 hz4 hmp hon ho1 hmp' hgr hsz hlv ho hpl hgd hxm hpre
      gi_wp2_with fail
      exact hfin.out
    · rintro D own X hD hoD ⟨ho1, hon, hmp⟩ hdef
      have hw2 : w.heap.size + 2 ≤ w2.heap.size := by have := Hz1.out; omega
      have km := (hon.block _ (lt_block km4) (by omega)).trans km4
      have k3X := (hon.block _ (lt_block k34) (by omega)).trans k34
      have k5X := (hon.block _ (lt_block k54) (by omega)).trans k54
      have hBX : Below w.heap.size w X := ⟨hon.os.trans hB4.os, hon.tape.trans hB4.tape, hon.output.trans hB4.output, Nat.le_trans hB4.size hon.size, fun k hk => (hon.block k (by have := hB4.size; omega) (by have := hB1.size; omega)).trans (hB4.block k hk)⟩
      have hsX := hs.ext hBX
      have hrX := hr.ext hBX
      have hlow : w2.heap.size + 3 ≤ X.heap.size := by have := hon.size; omega
      have hD' : w.heap.size ≤ D := by omega
      have hDm : w2.heap.size < D := by omega
      have Hdef := Lib.hid hdef
      have Hmp := Lib.hid hmp
      clear hz3 hz4 hit hal hnm hon hmp ho1 hoD hdef km4 hmap4 kb4 k34 k54 hr4 hs4
      refine wpAt_wp ?_
      go_wp2_with fail
      go_loopw [35] (fun i wr => ∃ k : Nat, k ≤ s.length ∧ i = .int .i64 k ∧ Only (fun j => j = w2.heap.size) X wr ∧ MapF wr intS blE w2.heap.size ((bordL l).length + k) (setF (bordL l ++ (s.take k).map (·.frm)))) (fun i _ => s.length - (intOf i).toNat)
      case atStart => exact ⟨0, Nat.zero_le _, rfl, Only.refl _ _, by simpa using Hmp.out⟩
      case round =>
        obtain ⟨k, hk, rfl, hon, hmp⟩ := hrel
        have hsz := hon.size
        by_cases hlt : k < s.length
        · obtain ⟨b, off, rfl, hb, hc⟩ := sig_elem hs hlt
          have hsig : ∀ j v, w.cell? ⟨b, j, none⟩ = some v → wr.cell? ⟨b, j, none⟩ = some v := fun j v h =>
            (World.cell?_of_block (w := w) (a := ⟨b, j, none⟩) ((hon.block b (by have := hBX.size; omega) (by omega)).trans (hBX.block b hb))).trans h
          obtain ⟨d0, d1, d2, d3, d4⟩ := hc w (Below.refl _ _)
          replace d0 := hsig _ _ d0
          replace d1 := hsig _ _ d1
          replace d2 := hsig _ _ d2
          replace d3 := hsig _ _ d3
          replace d4 := hsig _ _ d4
          have hxo := HSO.out _ (List.getElem_mem hlt)
          have htk : (s.take (k + 1)).map (·.frm) = (s.take k).map (·.frm) ++ [s[k].frm] := by rw [List.take_succ_eq_append_getElem hlt, List.map_append]; rfl
          clear hc hsig
          generalize s[k] = x at *
          obtain ⟨V, hV, hbV, hxV, hzV⟩ := sig_new x wr
          have c11 := cell_one ((hbV.block _ (by omega)).trans ((hon.block _ (lt_block km) (by omega)).trans km))
          have hgd : intS.good x.frm := good_time hxo.f0 (by have := hxo.f1; have := hxo.f2; omega)
          have hn : (bordL l).length + k < maxLen := by have := HBL.out; unfold maxLen; omega
          obtain ⟨X', hrun, hmp', hgr, hsz'⟩ := (hmp.of_block (hbV.block _ hmp.lt)).store _ keyed_int Try.underlying64 hn x.frm true hgd
          change (Instr.mapUpdate _ _ (.int .i64 x.frm) (.bool true)).run _ _ = _ at hrun
          have hon' : Hid (Only (fun j => j = w2.heap.size) X X') := (hon.ext hbV).trans ⟨hgr.os, hgr.tape, hgr.output, hgr.size, fun i hi hn => hgr.block i hi (fun e => hn (by cases e; rfl))⟩
          have hmp2 : Hid (MapF X' intS blE w2.heap.size ((bordL l).length + (k + 1)) (setF (bordL l ++ (s.take (k + 1)).map (·.frm)))) := by
            show MapF _ _ _ _ _ _
            rw [htk, ← List.append_assoc, ← Nat.add_assoc]
            exact hmp'.congr fun n _ => setF_snoc _ _ n
          obtain ⟨p0, p1, p2, p3, p4⟩ := sig_at hxV
          clear hmp' hgr hsz' hmp hon htk hxV hzV hgd hn hxo
          go_wp2_with fail
          go_roundw
          case rel => exact ⟨k + 1, by omega, by go_num, hon'.out, hmp2.out⟩
          case measure => simp [intOf]; omega
        · obtain rfl : k = s.length := by omega
          rw [List.take_length] at hmp
          have hkm := (hon.block _ (lt_block km) (by omega)).trans km
          have c11 := cell_one hkm
          have hBr : Below w.heap.size w wr := ⟨hon.os.trans hBX.os, hon.tape.trans hBX.tape, hon.output.trans hBX.output, Nat.le_trans hBX.size hsz, fun j hj => (hon.block j (by have := hBX.size; omega) (by omega)).trans (hBX.block j hj)⟩
          have k3r := (hon.block _ (lt_block k3X) (by omega)).trans k3X
          have k5r := (hon.block _ (lt_block k5X) (by omega)).trans k5X
          have hD2 : D < X.heap.size := lt_block Hdef.out
          have Hdr : Hid (wr.heap[D]? = some (.deferred (some []))) := (hon.block D hD2 (by omega)).trans Hdef.out
          have Hon := Lib.hid hon
          have Hmp2 := Lib.hid hmp
          clear hkm hon hmp Hmp km k3X k5X hsz
          go_wp2_with fail
          go_step3
          go_wp2_with fail
          refine (keysB_any _ wr).mono ?_
          rintro e wk ⟨rfl, hwk⟩
          have hbk : Below wr.heap.size wr wk := by subst hwk; exact ext_alloc (Below.refl _ _) _
          have hgk : wk.heap[wr.heap.size]? = some (.cells #[.map (some w2.heap.size)] 64 (0, 0)) := by subst hwk; exact World.alloc_heap_new _ _
          have hmk := Hmp2.out.of_block (hbk.block _ Hmp2.out.lt)
          have cS := Lib.hid (sortedB_any w2.heap.size _ wr.heap.size _ wk hmk (by have := HBL.out; omega) hgk)
          clear hwk hgk hmk c11
          go_wp2_with fail
          refine cS.out.mono ?_
          rintro e w6 ⟨hb6, v6, T, rfl, hsk, hown6⟩
          obtain ⟨A6, c6, rfl, hq1, hq2, _, hr6⟩ := SlOf.of_own hown6
          have hb66 := ext_trans hbk hb6
          have hI : Insts l s T := by
            refine ⟨hsk.asc, fun t => (hsk.mem t).trans ?_⟩
            unfold setF
            constructor
            · rintro ⟨_, h⟩
              by_cases hm' : t ∈ bordL l ++ s.map (·.frm)
              · rcases List.mem_append.1 hm' with h' | h'
                · obtain ⟨h1, hh, hc⟩ := List.mem_flatMap.1 h'
                  exact .inl ⟨h1, hh, by simpa using hc⟩
                · obtain ⟨x, hx, hc⟩ := List.mem_map.1 h'
                  exact .inr ⟨x, hx, hc.symm⟩
              · rw [if_neg hm'] at h; cases h
            · rintro (⟨h1, hh, hc⟩ | ⟨x, hx, rfl⟩)
              · have ho := HOK.out h1 hh
                have := ho.t0; have := ho.t1; have := ho.t2
                refine ⟨?_, ?_⟩
                · rcases hc with rfl | rfl
                  · exact good_time (by omega) (by omega)
                  · exact good_time (by omega) (by omega)
                · rw [if_pos (List.mem_append.2 (.inl (mem_bordL.2 ⟨h1, hh, hc⟩)))]; rfl
              · have ho := HSO.out x hx
                refine ⟨good_time ho.f0 (by have := ho.f1; have := ho.f2; omega), ?_⟩
                rw [if_pos (List.mem_append.2 (.inr (List.mem_map.2 ⟨x, hx, rfl⟩)))]; rfl
          have HFA : Hid (findA l s kn = findT l kn s T) := by show _ = _; unfold findA; rw [insts_eq hI]
          have hTl : T.length ≤ 9223372036854775807 := by unfold maxLen at hq2; omega
          have hB6 := ext_trans hBr hb66
          have Hd6 : Hid (w6.heap[D]? = some (.deferred (some []))) := (hb66.block D (lt_block Hdr.out)).trans Hdr.out
          have k36 := (hb66.block _ (lt_block k3r)).trans k3r
          have k56 := (hb66.block _ (lt_block k5r)).trans k5r
          have hs6 := hs.ext hB6
          have hao6 : AudOk w6 A l kn := by
            have := Hae.out
            unfold audE at this
            rw [if_pos Hchk.out] at this
            refine ⟨hr.ext hB6, Hchk.out, ?_, ?_⟩
            all_goals
              by_cases h1 : 4096 < s.length
              · omega
              · rw [if_neg h1] at this
                by_cases h2 : s.all Sight.ok = true
                · rw [if_pos h2] at this
                  by_cases h3 : timeB kn = true
                  · have := timeB_iff.1 h3; omega
                  · rw [if_neg h3] at this; cases this
                · rw [if_neg h2] at this; cases this
          have Hr6 := Lib.hid hr6
          have Hs6 := Lib.hid hs6
          have Hao6 := Lib.hid hao6
          have K36 := Lib.hid k36
          have K56 := Lib.hid k56
          clear hown6 hsk hb6 hbk hI hb66 k3r k5r k36 k56 hs6 hao6 hr6 cS Hmp2 Hon hBr hB4 hs2 hb24
          go_wp2_with fail
          have eF := enters_of Try.func38 (by kernel_rfl) rfl
          have hmf : ∀ (fn : Fn) (first cap : Array Value) (w : World), (Instr.makeFunc fn first cap).run Try.prog w = .ok (.func fn first cap) w := fun _ _ _ _ => rfl
          go_loopw [47, 8, 9] (fun i z b wr => ∃ (k : Nat) (no : Int), k ≤ T.length ∧ i = .int .i64 k ∧ z = .int .i64 no ∧ b = .bool false ∧ Below w6.heap.size w6 wr ∧ Hid (findA l s kn = findT l kn s (T.drop k))) (fun i _ _ _ => T.length - (intOf i).toNat)
          case atStart => exact ⟨0, 0, Nat.zero_le _, rfl, rfl, rfl, Below.refl _ _, HFA.out⟩
          case round =>
            obtain ⟨k, no, hk, rfl, rfl, rfl, hBr6, HK⟩ := hrel
            by_cases hlt : k < T.length
            · obtain ⟨b6, off6, rfl, hlt6, hc6⟩ := Hr6.out.at_ (k := k) (by simpa using hlt)
              have ct := (hBr6.cell (p := ⟨b6, off6 + k, none⟩) hlt6).trans (hc6 k (.int .i64 T[k]) (by simp [hlt]))
              have hft : findT l kn s (T.drop k) = match forbAt l kn s 0 T[k] with | some r => some r | none => findT l kn s (T.drop (k + 1)) := by
                rw [List.drop_eq_getElem_cons hlt, findT]; rfl
              clear hc6
              generalize T[k] = t at *
              obtain ⟨v1, hv1⟩ : ∃ v1, wr.alloc (.cells #[.int .i64 t] 3) = v1 := ⟨_, rfl⟩
              have hbv1 : Below wr.heap.size wr v1 := by subst hv1; exact ext_alloc (Below.refl _ _) _
              have kt1 : v1.heap[wr.heap.size]? = some (.cells #[.int .i64 t] 3 (0, 0)) := by subst hv1; exact World.alloc_heap_new _ _
              have hBv := ext_trans hBr6 hbv1
              have Hft := Lib.hid hft
              have Kt1 := Lib.hid kt1
              clear hft kt1 hbv1
              go_wp2_with fail
              clear hv1
              obtain ⟨wo, rfl⟩ : ∃ wo : World, wo = wr := ⟨_, rfl⟩
              go_loopw [54, 8, 9] (fun i z b wr => ∃ (m : Nat) (no : Int), m ≤ s.length ∧ i = .int .i64 m ∧ z = .int .i64 no ∧ b = .bool false ∧ Below v1.heap.size v1 wr ∧ Hid (forbAt l kn s 0 t = forbAt l kn (s.drop m) m t)) (fun i _ _ _ => s.length - (intOf i).toNat)
              case atStart => exact ⟨0, no, Nat.zero_le _, rfl, rfl, rfl, Below.refl _ _, rfl⟩
              case round =>
                obtain ⟨m, no2, hm', rfl, rfl, rfl, hBm, HM⟩ := hrel
                have hBm6 := ext_trans hBv hBm
                by_cases hlt2 : m < s.length
                · obtain ⟨b, off, rfl, hb, hc⟩ := sig_elem Hs6.out hlt2
                  obtain ⟨d0, d1, d2, d3, d4⟩ := hc _ hBm6
                  have hxo := HSO.out _ (List.getElem_mem hlt2)
                  have hfa : forbAt l kn (s.drop m) m t = match forb l kn s[m] t with | some no => some (m, t, no) | none => forbAt l kn (s.drop (m + 1)) (m + 1) t := by
                    rw [List.drop_eq_getElem_cons hlt2, forbAt]; rfl
                  clear hc
                  generalize s[m] = x at *
                  obtain ⟨V, hV, hbV, hxV, hzV⟩ := sig_new x wr
                  have hbVv := ext_trans hBm hbV
                  have kt := (hbVv.block _ (lt_block Kt1.out)).trans Kt1.out
                  have hb6V := ext_trans hBm6 hbV
                  have kl := (hb6V.block _ (lt_block K36.out)).trans K36.out
                  have kk := (hb6V.block _ (lt_block K56.out)).trans K56.out
                  have cF := Lib.hid (forbidA_any A c l kn x t wo.heap.size w.heap.size (w.heap.size + 1) V (Hao6.out.ext hb6V) hxo kt kl kk)
                  obtain ⟨p0, p1, p2, p3, p4⟩ := sig_at hxV
                  have Hfa := Lib.hid hfa
                  have Kt := Lib.hid kt
                  clear kt kl kk hxV hzV hfa hbV hxo
                  go_wp2_with fail
                  refine cF.out.mono ?_
                  rintro e w9 ⟨no3, b3, rfl, hfb, hb9⟩
                  clear hV d0 d1 d2 d3 d4 p0 p1 p2 p3 p4 cF
                  cases b3
                  · have HM2 : Hid (forbAt l kn s 0 t = forbAt l kn (s.drop (m + 1)) (m + 1) t) := by show _ = _; rw [HM.out, Hfa.out, hfb]; rfl
                    have hB9 := ext_trans hbVv hb9
                    clear hfb HM Hfa hbVv hb9
                    go_wp2_with fail
                    go_roundw
                    case rel => exact ⟨m + 1, no3, by omega, by go_num, rfl, rfl, hB9, HM2⟩
                    case measure => simp [intOf]; omega
                  · have HF : Hid (findR l s kn = ((m : Int), t, no3, true)) := by
                      show _ = _
                      unfold findR
                      rw [if_pos Hae.out, HK.out, Hft.out, HM.out, Hfa.out, hfb]; rfl
                    have k9 := cell_one ((hb9.block _ (lt_block Kt.out)).trans Kt.out)
                    have hb69 := ext_trans hb6V hb9
                    have hBend := ext_trans hB6 hb69
                    have Hd9 : Hid (w9.heap[D]? = some (.deferred (some []))) := (hb69.block D (lt_block Hd6.out)).trans Hd6.out
                    clear hfb HM Hfa hbVv hb9 HK Hft hb69
                    go_wp2_with fail
                    go_still (by kernel_rfl)
                    go_wp2_with fail
                    rw [Exit.noGoto_ret]
                    refine leavesM_ret (W := w9.drew) (v := .tuple #[.int .i64 (m : Int), .int .i64 t, .int .i64 no3, .bool true, .int .i64 0]) Hd9.out ?_ ?_
                    · simp [results, Try.results11, go_sem]
                    · exact ⟨by rw [HF.out, Hae.out], (ext_drew hBend).trans (putObj_below _ _ hD')⟩
                · obtain rfl : m = s.length := by omega
                  have HK2 : Hid (findA l s kn = findT l kn s (T.drop (k + 1))) := by
                    show _ = _
                    rw [HK.out, Hft.out, HM.out, List.drop_length]; rfl
                  clear HK Hft HM
                  go_wp2_with fail
                  go_roundw
                  case rel => exact ⟨k + 1, no2, by omega, by go_num, rfl, rfl, hBm6, HK2⟩
                  case measure => simp [intOf]; omega
            · obtain rfl : k = T.length := by omega
              have HN : Hid (findR l s kn = (0, 0, 0, false)) := by
                show _ = _
                unfold findR
                rw [if_pos Hae.out, HK.out, List.drop_length]; rfl
              have hBend := ext_trans hB6 hBr6
              have Hd9 : Hid (wr.heap[D]? = some (.deferred (some []))) := (hBr6.block D (lt_block Hd6.out)).trans Hd6.out
              clear HK HFA
              go_wp2_with fail
              rw [Exit.noGoto_ret]
              refine leavesM_ret (W := wr) (v := .tuple #[.int .i64 0, .int .i64 0, .int .i64 0, .bool false, .int .i64 0]) Hd9.out ?_ ?_
              · simp [results, Try.results11, go_sem]
              · exact ⟨by rw [HN.out, Hae.out], hBend.trans (putObj_below _ _ hD')⟩
    · rintro D own c pre X _ _ _ h
      exact h.elim
  · have HR : Hid (findR l s kn = (0, 0, 0, false)) := by show _ = _; unfold findR; rw [if_neg hae]
    have h1 : (audE l s kn != 0) = true := by simpa using hae
    generalize hae0 : audE l s kn = ae at *
    have Hae0 := Lib.hid hae0
    clear hae hae0
    go_wp2_with fail
    rw [Exit.noGoto_ret]
    refine leavesM_plain (v := .tuple #[.int .i64 0, .int .i64 0, .int .i64 0, .bool false, .int .i64 ae]) ?_ ?_
    · simp [results, Try.results11, go_sem]
    · exact ⟨by rw [HR.out, Hae0.out], ext_trans hB1 hb2⟩
end Go.Proofs.Ytmindojbkedmlaa
