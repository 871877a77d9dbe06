/- Texts of this claim, one after the other: Aud7, Aud8, Aud2, Map, KeysI, Aud4. -/
import Derived.Test.YtccmomebpdiimaaM4
import Derived.Test.YtccmomebpdiimaaM2
import Derived.Test.YtccmomebpdiimaaM3
import Derived.Test.YtccmomebpdiimaaIter
import Derived.Maps.RangeWalk
import Derived.Shelf.SlIterI.Sorted
import Derived.Shelf.SlIterI.Nil
import Derived.WalkMore
/- Reference 39: Breaks, Instants. -/
namespace Go.Proofs.Ytccmomebpdiimaa
open Go.RowKit Go.Han
attribute [local irreducible] wpStill wpQuiet
set_option maxRecDepth 100000

set_option maxHeartbeats 4000000 in
theorem Breaks39_any (A : Option Addr) (c : Nat) (l : List House) (A2 : Option Addr) (c2 : Nat) (s : List Sight) (kn i t no : Int) (w : World) (hr : Rd w A (hflat l)) (hm : l.length ≤ 9223372036854775807) (hs : Rd w A2 (sflat s)) (hm2 : s.length ≤ 9223372036854775807) :
    Calls Try.prog 16 #[.slice A l.length c, .slice A2 s.length c2, .int .i64 kn, .int .i64 i, .int .i64 t, .int .i64 no] w (BrkPost l s kn i t no w) := by
  have cC := Lib.hid (error39_any A c l A2 c2 s kn w hr hm hs hm2)
  unfold CheckPost at cC
  unfold BrkPost
  by_cases hae : audE l s kn = 0
  · have HB : Hid (brkR l s kn i t no = brkB l s kn i t no) := by show _ = _; unfold brkR; rw [decide_eq_true hae, Bool.true_and]
    obtain ⟨hchk, hsl, hso, k0, k1⟩ := audE_ok hae
    rw [hae] at cC
    rw [hae, HB.out]
    by_cases h0 : i < 0
    · have HF : Hid (brkB l s kn i t no = false) := brk_out (.inl h0)
      rw [HF.out]
      clear HB HF hae hchk hso
      go_enter Try.func16, Try.ntmps16
      go_wp2_with fail
      refine cC.out.mono ?_
      rintro e w1 ⟨rfl, hb1⟩
      go_wp2_with fail
      go_ret2
      exact ⟨rfl, hb1⟩
    · obtain ⟨k, rfl⟩ := Int.eq_ofNat_of_zero_le (by omega : 0 ≤ i)
      have h0' : decide ((k : Int) < 0) = false := by simp
      by_cases h1 : s.length ≤ k
      · have h1' : decide ((s.length : Int) ≤ k) = true := by simp; omega
        have HF : Hid (brkB l s kn (k : Int) t no = false) := brk_out (.inr (by omega))
        rw [HF.out]
        clear HB HF hae hchk hso h0
        go_enter Try.func16, Try.ntmps16
        go_wp2_with fail
        refine cC.out.mono ?_
        rintro e w1 ⟨rfl, hb1⟩
        go_wp2_with fail
        go_ret2
        exact ⟨rfl, hb1⟩
      · have h1' : decide (s.length ≤ k) = false := by simp; omega
        have hlt : k < s.length := by omega
        obtain ⟨b, off, rfl, hb, hc⟩ := sig_elem hs hlt
        have hxo := hso _ (List.getElem_mem hlt)
        have HF : Hid (brkB l s kn (k : Int) t no = decide (forb l kn s[k] t = some no)) := brk_in hlt
        have kk0 : (0 : Int) ≤ (k : Int) := by omega
        have kk1 : (k : Int) < s.length := by omega
        rw [HF.out]
        clear HF HB hae hso hs h0
        generalize s[k] = x at *
        have Hc := Lib.hid hc
        clear hc
        by_cases g1 : t < x.frm
        · have hz : Hid (decide (forb l kn x t = some no) = false) := by show _ = _; unfold forb; rw [if_pos (.inl g1)]; simp
          rw [hz.out]
          go_enter Try.func16, Try.ntmps16
          go_wp2_with fail
          refine cC.out.mono ?_
          rintro e w1 ⟨rfl, hb1⟩
          obtain ⟨d0, d1, d2, d3, d4⟩ := Hc.out w1 hb1
          go_wp2_with fail
          go_ret2
          exact ⟨rfl, hb1⟩
        · by_cases g2 : x.until_ ≤ t
          · have hz : Hid (decide (forb l kn x t = some no) = false) := by show _ = _; unfold forb; rw [if_pos (.inr g2)]; simp
            rw [hz.out]
            go_enter Try.func16, Try.ntmps16
            go_wp2_with fail
            refine cC.out.mono ?_
            rintro e w1 ⟨rfl, hb1⟩
            obtain ⟨d0, d1, d2, d3, d4⟩ := Hc.out w1 hb1
            go_wp2_with fail
            go_ret2
            exact ⟨rfl, hb1⟩
          · have hA : AudOk w A l kn := ⟨hr, hchk, k0, k1⟩
            have cV : Hid (∀ W, Below w.heap.size w W → Calls Try.prog 40 #[.slice A l.length c, .agg #[.int .i64 x.speaker, .int .i64 x.begun, .int .i64 x.lang, .int .i64 x.frm, .int .i64 x.until_], .int .i64 kn, .int .i64 t] W (ForbPost l kn x t W)) := fun W hW => forbid39_any A c l kn x t W (hA.ext hW) hxo (by omega) (by omega)
            have g1' : decide (t < x.frm) = false := decide_eq_false g1
            have g2' : decide (x.until_ ≤ t) = false := decide_eq_false g2
            generalize hfb : forb l kn x t = fb at *
            have Hfb := Lib.hid hfb
            clear g1 g2 hchk hxo hr hA hfb
            go_enter Try.func16, Try.ntmps16
            go_wp2_with fail
            refine cC.out.mono ?_
            rintro e w1 ⟨rfl, hb1⟩
            obtain ⟨d0, d1, d2, d3, d4⟩ := Hc.out w1 hb1
            go_wp2_with fail
            refine (cV.out w1 hb1).mono ?_
            rintro e w2 ⟨no2, b2, rfl, hf2, hb2⟩
            have hB2 := ext_trans hb1 hb2
            have hf3 : Hid (fb = if b2 then some no2 else none) := Hfb.out.symm.trans hf2
            clear hf2 d0 d1 d2 d3 d4 cV cC
            cases b2
            · have hz : Hid (decide (fb = some no) = false) := by show _ = _; rw [hf3.out]; simp
              go_wp2_with fail
              go_ret2
              exact ⟨by rw [hz.out]; rfl, hB2⟩
            · have hz : Hid (decide (fb = some no) = (no2 == no)) := by
                show _ = _
                rw [hf3.out]
                simp only [if_true, Option.some.injEq]
                rfl
              go_wp2_with fail
              go_ret2
              exact ⟨by rw [hz.out]; rfl, hB2⟩
  · have HB : Hid (brkR l s kn i t no = false) := by show _ = _; unfold brkR; rw [decide_eq_false hae]; rfl
    rw [HB.out]
    have h1 : (audE l s kn != 0) = true := by simpa using hae
    generalize audE l s kn = ae at *
    clear hae HB
    go_enter Try.func16, Try.ntmps16
    go_wp2_with fail
    refine cC.out.mono ?_
    rintro e w1 ⟨rfl, hb1⟩
    go_wp2_with fail
    go_ret2
    exact ⟨rfl, hb1⟩
/-- The instants of one sight. -/
def instO (l : List House) (x : Sight) : List Int := x.frm :: l.flatMap fun h => (if x.frm < h.frm ∧ h.frm < x.until_ then [h.frm] else []) ++ (if x.frm < h.until_ ∧ h.until_ < x.until_ then [h.until_] else [])
theorem mem_instO {l : List House} {x : Sight} {t : Int} : t ∈ instO l x ↔ t = x.frm ∨ (x.frm < t ∧ t < x.until_ ∧ ∃ h ∈ l, t = h.frm ∨ t = h.until_) := by
  unfold instO
  simp only [List.mem_cons, List.mem_flatMap, List.mem_append]
  constructor
  · rintro (h | ⟨h, hh, hc⟩)
    · exact .inl h
    · right
      rcases hc with hc | hc
      · split at hc
        · rename_i hq; simp at hc; subst hc; exact ⟨hq.1, hq.2, h, hh, .inl rfl⟩
        · cases hc
      · split at hc
        · rename_i hq; simp at hc; subst hc; exact ⟨hq.1, hq.2, h, hh, .inr rfl⟩
        · cases hc
  · rintro (h | ⟨h1, h2, h, hh, rfl | rfl⟩)
    · exact .inl h
    · exact .inr ⟨h, hh, .inl (by rw [if_pos ⟨h1, h2⟩]; simp)⟩
    · exact .inr ⟨h, hh, .inr (by rw [if_pos ⟨h1, h2⟩]; simp)⟩
theorem flat_le {f : House → List Int} {n : Nat} (hf : ∀ h, (f h).length ≤ n) : ∀ l : List House, (l.flatMap f).length ≤ n * l.length
  | [] => by simp
  | h :: t => by
    rw [List.flatMap_cons, List.length_append, List.length_cons, Nat.mul_succ]
    have := hf h
    have := flat_le hf t
    omega
theorem instO_len (l : List House) (x : Sight) : (instO l x).length ≤ 1 + 2 * l.length := by
  unfold instO
  rw [List.length_cons]
  have := flat_le (n := 2) (f := fun h => (if x.frm < h.frm ∧ h.frm < x.until_ then [h.frm] else []) ++ (if x.frm < h.until_ ∧ h.until_ < x.until_ then [h.until_] else [])) (fun h => by
    rw [List.length_append]
    split <;> split <;> simp) l
  omega
theorem instO_take {l : List House} {x : Sight} {k : Nat} (hk : k < l.length) : instO (l.take (k + 1)) x = instO (l.take k) x ++ ((if x.frm < l[k].frm ∧ l[k].frm < x.until_ then [l[k].frm] else []) ++ (if x.frm < l[k].until_ ∧ l[k].until_ < x.until_ then [l[k].until_] else [])) := by
  unfold instO
  rw [List.take_succ_eq_append_getElem hk, List.flatMap_append]
  simp

theorem info_intA : (Try.prog.info? 3).map (fun i => (i.zero, i.size, i.bytes)) = some (some (.int .i64 0), 1, 8) := by kernel_rfl
def intC (x : Int) : List Value := [.int .i64 x]
theorem intC_one (x : Int) : ∀ u ∈ intC x, u.oneCell' = true := by intro u hu; simp [intC] at hu; subst hu; rfl
abbrev OwnI (w : World) (base : Nat) (v : Value) (l : List Int) : Prop := OwnL intC 3 1 w base v l
theorem ownI_one (w : World) (x : Int) : OwnI (w.alloc (.cells #[.int .i64 x] 3)) w.heap.size (.slice (some ⟨w.heap.size, 0, none⟩) 1 1) [x] := by
  refine ⟨by simp [intC], .inr ⟨w.heap.size, 1, #[.int .i64 x], rfl, Nat.le_refl _, World.alloc_heap_new _ _, Nat.le_refl _, by unfold maxLen; decide, rfl, rfl⟩⟩
def InstPost (l : List House) (x : Sight) (w : World) (e : Ending) (w' : World) : Prop := ∃ A c, e = .returned (.slice A (instO l x).length c) ∧ Rd w' A ((instO l x).flatMap intC) ∧ Below w.heap.size w w'
theorem int_room {n : Nat} (h : n ≤ 10000) : n + 1 ≤ maxLen ∧ (n + 1) * 8 ≤ 140737488355328 := by unfold maxLen; omega
set_option maxHeartbeats 4000000 in
theorem Instants39_any (A : Option Addr) (c : Nat) (l : List House) (x : Sight) (w : World) (hr : Rd w A (hflat l)) (hm : l.length ≤ 1024) :
    Calls Try.prog 39 #[.slice A l.length c, .agg #[.int .i64 x.speaker, .int .i64 x.begun, .int .i64 x.lang, .int .i64 x.frm, .int .i64 x.until_]] w (InstPost l x w) := by
  obtain ⟨i0, hi0, iz0, is0, ib0⟩ := info_parts info_intA
  obtain ⟨W, hW, hB, hb, hz⟩ := sig_new x w
  obtain ⟨W1, hW1⟩ : ∃ W1, W.alloc (.cells #[.int .i64 x.frm] 3) = W1 := ⟨_, rfl⟩
  have hB1 : Below W.heap.size W W1 := by subst hW1; exact ext_alloc (Below.refl _ _) _
  have ho1 : OwnI W1 W.heap.size (.slice (some ⟨W.heap.size, 0, none⟩) 1 1) [x.frm] := by subst hW1; exact ownI_one _ _
  have hx1 := hb
  obtain ⟨p0, p1, p2, p3, p4⟩ := sig_at hb
  have Ho1 := Lib.hid ho1
  have Hx1 := Lib.hid hx1
  have HW := Lib.hid hW
  have Hz := Lib.hid hz
  have hBb := hB
  clear hb ho1 hx1 hz
  go_enter Try.func39, Try.ntmps39
  go_wp2_with fail
  clear p0 p1 p2 p3 p4 hW hW1 HW
  go_loopw [5, 6] (fun v i wr => ∃ k : Nat, k ≤ l.length ∧ i = .int .i64 k ∧ OwnI wr W.heap.size v (instO (l.take k) x) ∧ Below W.heap.size W wr) (fun _ i _ => l.length - (intOf i).toNat)
  case atStart => exact ⟨0, Nat.zero_le _, rfl, Ho1.out, hB1⟩
  case round =>
    obtain ⟨k, hk, rfl, hown, hBr⟩ := hrel
    have hBwr := ext_trans hBb hBr
    by_cases hlt : k < l.length
    · obtain ⟨b, off, rfl, hb, hc⟩ := hou_elem hr hlt
      have hft := instO_take (x := x) hlt
      have hlen : (instO (l.take k) x).length ≤ 3000 := by have := instO_len (l.take k) x; rw [List.length_take] at this; omega
      have hlt2 : (k : Int) < l.length := by omega
      have k0 : (0 : Int) ≤ (k : Int) := by omega
      generalize l[k] = h at *
      obtain ⟨d0, d1, d2, d3, d4, d5, d6, d7, d8, d9⟩ := hc wr hBwr
      have HC := Lib.hid hc
      have Hft := Lib.hid hft
      have hbr : b < wr.heap.size := Nat.lt_of_lt_of_le hb hBwr.size
      have hxr := (hBr.block _ (lt_block Hx1.out)).trans Hx1.out
      have y3 : wr.cell? ⟨w.heap.size, 3, none⟩ = some (.int .i64 x.frm) := gblk hxr 3
      have y4 : wr.cell? ⟨w.heap.size, 4, none⟩ = some (.int .i64 x.until_) := gblk hxr 4
      have hxl := lt_block hxr
      have e6 := fun p => cell_ext (w := wr) (a := ⟨b, off + k * 10 + 6, none⟩) hbr d6 p
      have e7 := fun p => cell_ext (w := wr) (a := ⟨w.heap.size, 3, none⟩) hxl y3 p
      have e8 := fun p => cell_ext (w := wr) (a := ⟨w.heap.size, 4, none⟩) hxl y4 p
      clear d0 d1 d2 d3 d4 d5 d6 d7 d8 d9 y3 y4 hft hc hxr
      generalize instO (l.take k) x = el at *
      -- the first border
      have st1 : ∃ q : Nat, (q = 0 ∧ ¬ x.frm < h.frm) ∨ (q = 1 ∧ x.frm < h.frm ∧ ¬ h.frm < x.until_) ∨ (q = 2 ∧ x.frm < h.frm ∧ h.frm < x.until_) := by
        by_cases h1 : x.frm < h.frm
        · by_cases h2 : h.frm < x.until_
          · exact ⟨2, .inr (.inr ⟨rfl, h1, h2⟩)⟩
          · exact ⟨1, .inr (.inl ⟨rfl, h1, h2⟩)⟩
        · exact ⟨0, .inl ⟨rfl, h1⟩⟩
      obtain ⟨_, (⟨_, h1⟩ | ⟨_, h1, h2⟩ | ⟨_, h1, h2⟩)⟩ := st1
      · have g1 : decide (x.frm < h.frm) = false := decide_eq_false h1
        have HT : Hid (instO (l.take (k + 1)) x = el ++ (if x.frm < h.until_ ∧ h.until_ < x.until_ then [h.until_] else [])) := by show _ = _; rw [Hft.out, if_neg (fun hh => h1 hh.1)]; rfl
        clear Hft h1
        go_wp2_with fail
        refine wp_region_ext (by kernel_rfl) (by kernel_rfl) ?_
        repeat (go_big_quiet_step (fail))
        refine wpQuiet_nil ?_
        intro _ hw'
        obtain ⟨p, rfl⟩ := hw'
        have hown2 := hown.ext p.ext
        have hB2 := ext_trans hBr p.ext
        clear e6 e7 e8 hown g1 hBr hBwr
        generalize p.to = V2 at *
        go_wp2_with fail
        obtain ⟨d0, d1, d2, d3, d4, d5, d6, d7, d8, d9⟩ := HC.out V2 (ext_trans hBb hB2)
        have hbr : b < V2.heap.size := Nat.lt_of_lt_of_le hb (ext_trans hBb hB2).size
        have hxr := (hB2.block _ (lt_block Hx1.out)).trans Hx1.out
        have y3 : V2.cell? ⟨w.heap.size, 3, none⟩ = some (.int .i64 x.frm) := gblk hxr 3
        have y4 : V2.cell? ⟨w.heap.size, 4, none⟩ = some (.int .i64 x.until_) := gblk hxr 4
        have hxl := lt_block hxr
        have e6 := fun p => cell_ext (w := V2) (a := ⟨b, off + k * 10 + 7, none⟩) hbr d7 p
        have e7 := fun p => cell_ext (w := V2) (a := ⟨w.heap.size, 3, none⟩) hxl y3 p
        have e8 := fun p => cell_ext (w := V2) (a := ⟨w.heap.size, 4, none⟩) hxl y4 p
        clear d0 d1 d2 d3 d4 d5 d6 d7 d8 d9 y3 y4 hxr
        have st2 : ∃ q : Nat, (q = 0 ∧ ¬ x.frm < h.until_) ∨ (q = 1 ∧ x.frm < h.until_ ∧ ¬ h.until_ < x.until_) ∨ (q = 2 ∧ x.frm < h.until_ ∧ h.until_ < x.until_) := by
          by_cases h1 : x.frm < h.until_
          · by_cases h2 : h.until_ < x.until_
            · exact ⟨2, .inr (.inr ⟨rfl, h1, h2⟩)⟩
            · exact ⟨1, .inr (.inl ⟨rfl, h1, h2⟩)⟩
          · exact ⟨0, .inl ⟨rfl, h1⟩⟩
        obtain ⟨_, (⟨_, h1⟩ | ⟨_, h1, h2⟩ | ⟨_, h1, h2⟩)⟩ := st2
        · have g1 : decide (x.frm < h.until_) = false := decide_eq_false h1
          have HT2 : Hid (instO (l.take (k + 1)) x = el) := by show _ = _; rw [HT.out, if_neg (fun hh => h1 hh.1), List.append_nil]
          clear HT h1
          refine wp_region_ext (by kernel_rfl) (by kernel_rfl) ?_
          repeat (go_big_quiet_step (fail))
          refine wpQuiet_nil ?_
          intro _ hw'
          obtain ⟨p, rfl⟩ := hw'
          have hown3 := hown2.ext p.ext
          have hB3 := ext_trans hB2 p.ext
          clear e6 e7 e8 hown2 g1 hB2
          generalize p.to = V3 at *
          go_wp2_with fail
          go_roundw
          case rel => exact ⟨k + 1, by omega, by go_num, by rw [HT2.out]; exact hown3, hB3⟩
          case measure => simp [intOf]; omega
        · have g1 : decide (h.until_ < x.until_) = false := decide_eq_false h2
          have HT2 : Hid (instO (l.take (k + 1)) x = el) := by show _ = _; rw [HT.out, if_neg (fun hh => h2 hh.2), List.append_nil]
          clear HT h2
          refine wp_region_ext (by kernel_rfl) (by kernel_rfl) ?_
          repeat (go_big_quiet_step (fail))
          refine wpQuiet_nil ?_
          intro _ hw'
          obtain ⟨p, rfl⟩ := hw'
          have hown3 := hown2.ext p.ext
          have hB3 := ext_trans hB2 p.ext
          clear e6 e7 e8 hown2 g1 h1 hB2
          generalize p.to = V3 at *
          go_wp2_with fail
          go_roundw
          case rel => exact ⟨k + 1, by omega, by go_num, by rw [HT2.out]; exact hown3, hB3⟩
          case measure => simp [intOf]; omega
        · have HT2 : Hid (instO (l.take (k + 1)) x = el ++ [h.until_]) := by show _ = _; rw [HT.out, if_pos ⟨h1, h2⟩]
          clear HT
          refine wp_region_ext (by kernel_rfl) (by kernel_rfl) ?_
          repeat (go_big_quiet_step (fail))
          refine wpQuiet_nil ?_
          intro _ hw'
          obtain ⟨p, rfl⟩ := hw'
          have hownV := hown2.ext p.ext
          have hBV := ext_trans hB2 p.ext
          have f6 := e6 p
          clear e6 e7 e8 hown2 h1 h2 hB2
          generalize p.to = V3 at *
          obtain ⟨A1, A2⟩ := int_room (n := el.length) (by omega)
          have hzV : W.heap.size ≤ V3.heap.size := hBV.size
          go_wp2_with (at_builtin; refine wpList_append_rd rfl _ _ 62 rfl W.heap.size 3 i0 _ 1 8 Try.underlying62 hi0 iz0 is0 ib0 rfl (by decide) _ _ _ rfl (some ⟨V3.heap.size, 0, none⟩) 1 1 (intC h.until_) rfl (hownV.ext (ext_alloc (Below.refl V3.heap.size V3) _)) rfl (grd_blk (World.alloc_heap_new V3 _) rfl) (intC_one h.until_) A1 A2 (Nat.le_trans hzV (by simp)) ?_; intro v6 w6 hown6 hgrow6 _)
          have hB3 : Below W.heap.size W w6 := (ext_trans hBV (ext_alloc (Below.refl V3.heap.size V3) _)).grown hgrow6 (Nat.le_trans hzV (by simp)) (fun k hk => (hownV.lt k hk).1)
          have hown3 := OwnL.snoc (f := intC) h.until_ hown6
          clear hown6 hgrow6 hownV hBV f6 A1 A2 hzV
          go_wp2_with fail
          go_roundw
          case rel => exact ⟨k + 1, by omega, by go_num, by rw [HT2.out]; exact hown3, hB3⟩
          case measure => simp [intOf]; omega
      · have g1 : decide (h.frm < x.until_) = false := decide_eq_false h2
        have HT : Hid (instO (l.take (k + 1)) x = el ++ (if x.frm < h.until_ ∧ h.until_ < x.until_ then [h.until_] else [])) := by show _ = _; rw [Hft.out, if_neg (fun hh => h2 hh.2)]; rfl
        clear Hft h2
        go_wp2_with fail
        refine wp_region_ext (by kernel_rfl) (by kernel_rfl) ?_
        repeat (go_big_quiet_step (fail))
        refine wpQuiet_nil ?_
        intro _ hw'
        obtain ⟨p, rfl⟩ := hw'
        have hown2 := hown.ext p.ext
        have hB2 := ext_trans hBr p.ext
        clear e6 e7 e8 hown g1 h1 hBr hBwr
        generalize p.to = V2 at *
        go_wp2_with fail
        obtain ⟨d0, d1, d2, d3, d4, d5, d6, d7, d8, d9⟩ := HC.out V2 (ext_trans hBb hB2)
        have hbr : b < V2.heap.size := Nat.lt_of_lt_of_le hb (ext_trans hBb hB2).size
        have hxr := (hB2.block _ (lt_block Hx1.out)).trans Hx1.out
        have y3 : V2.cell? ⟨w.heap.size, 3, none⟩ = some (.int .i64 x.frm) := gblk hxr 3
        have y4 : V2.cell? ⟨w.heap.size, 4, none⟩ = some (.int .i64 x.until_) := gblk hxr 4
        have hxl := lt_block hxr
        have e6 := fun p => cell_ext (w := V2) (a := ⟨b, off + k * 10 + 7, none⟩) hbr d7 p
        have e7 := fun p => cell_ext (w := V2) (a := ⟨w.heap.size, 3, none⟩) hxl y3 p
        have e8 := fun p => cell_ext (w := V2) (a := ⟨w.heap.size, 4, none⟩) hxl y4 p
        clear d0 d1 d2 d3 d4 d5 d6 d7 d8 d9 y3 y4 hxr
        have st2 : ∃ q : Nat, (q = 0 ∧ ¬ x.frm < h.until_) ∨ (q = 1 ∧ x.frm < h.until_ ∧ ¬ h.until_ < x.until_) ∨ (q = 2 ∧ x.frm < h.until_ ∧ h.until_ < x.until_) := by
          by_cases h1 : x.frm < h.until_
          · by_cases h2 : h.until_ < x.until_
            · exact ⟨2, .inr (.inr ⟨rfl, h1, h2⟩)⟩
            · exact ⟨1, .inr (.inl ⟨rfl, h1, h2⟩)⟩
          · exact ⟨0, .inl ⟨rfl, h1⟩⟩
        obtain ⟨_, (⟨_, h1⟩ | ⟨_, h1, h2⟩ | ⟨_, h1, h2⟩)⟩ := st2
        · have g1 : decide (x.frm < h.until_) = false := decide_eq_false h1
          have HT2 : Hid (instO (l.take (k + 1)) x = el) := by show _ = _; rw [HT.out, if_neg (fun hh => h1 hh.1), List.append_nil]
          clear HT h1
          refine wp_region_ext (by kernel_rfl) (by kernel_rfl) ?_
          repeat (go_big_quiet_step (fail))
          refine wpQuiet_nil ?_
          intro _ hw'
          obtain ⟨p, rfl⟩ := hw'
          have hown3 := hown2.ext p.ext
          have hB3 := ext_trans hB2 p.ext
          clear e6 e7 e8 hown2 g1 hB2
          generalize p.to = V3 at *
          go_wp2_with fail
          go_roundw
          case rel => exact ⟨k + 1, by omega, by go_num, by rw [HT2.out]; exact hown3, hB3⟩
          case measure => simp [intOf]; omega
        · have g1 : decide (h.until_ < x.until_) = false := decide_eq_false h2
          have HT2 : Hid (instO (l.take (k + 1)) x = el) := by show _ = _; rw [HT.out, if_neg (fun hh => h2 hh.2), List.append_nil]
          clear HT h2
          refine wp_region_ext (by kernel_rfl) (by kernel_rfl) ?_
          repeat (go_big_quiet_step (fail))
          refine wpQuiet_nil ?_
          intro _ hw'
          obtain ⟨p, rfl⟩ := hw'
          have hown3 := hown2.ext p.ext
          have hB3 := ext_trans hB2 p.ext
          clear e6 e7 e8 hown2 g1 h1 hB2
          generalize p.to = V3 at *
          go_wp2_with fail
          go_roundw
          case rel => exact ⟨k + 1, by omega, by go_num, by rw [HT2.out]; exact hown3, hB3⟩
          case measure => simp [intOf]; omega
        · have HT2 : Hid (instO (l.take (k + 1)) x = el ++ [h.until_]) := by show _ = _; rw [HT.out, if_pos ⟨h1, h2⟩]
          clear HT
          refine wp_region_ext (by kernel_rfl) (by kernel_rfl) ?_
          repeat (go_big_quiet_step (fail))
          refine wpQuiet_nil ?_
          intro _ hw'
          obtain ⟨p, rfl⟩ := hw'
          have hownV := hown2.ext p.ext
          have hBV := ext_trans hB2 p.ext
          have f6 := e6 p
          clear e6 e7 e8 hown2 h1 h2 hB2
          generalize p.to = V3 at *
          obtain ⟨A1, A2⟩ := int_room (n := el.length) (by omega)
          have hzV : W.heap.size ≤ V3.heap.size := hBV.size
          go_wp2_with (at_builtin; refine wpList_append_rd rfl _ _ 62 rfl W.heap.size 3 i0 _ 1 8 Try.underlying62 hi0 iz0 is0 ib0 rfl (by decide) _ _ _ rfl (some ⟨V3.heap.size, 0, none⟩) 1 1 (intC h.until_) rfl (hownV.ext (ext_alloc (Below.refl V3.heap.size V3) _)) rfl (grd_blk (World.alloc_heap_new V3 _) rfl) (intC_one h.until_) A1 A2 (Nat.le_trans hzV (by simp)) ?_; intro v6 w6 hown6 hgrow6 _)
          have hB3 : Below W.heap.size W w6 := (ext_trans hBV (ext_alloc (Below.refl V3.heap.size V3) _)).grown hgrow6 (Nat.le_trans hzV (by simp)) (fun k hk => (hownV.lt k hk).1)
          have hown3 := OwnL.snoc (f := intC) h.until_ hown6
          clear hown6 hgrow6 hownV hBV f6 A1 A2 hzV
          go_wp2_with fail
          go_roundw
          case rel => exact ⟨k + 1, by omega, by go_num, by rw [HT2.out]; exact hown3, hB3⟩
          case measure => simp [intOf]; omega
      · have HT : Hid (instO (l.take (k + 1)) x = el ++ [h.frm] ++ (if x.frm < h.until_ ∧ h.until_ < x.until_ then [h.until_] else [])) := by show _ = _; rw [Hft.out, if_pos ⟨h1, h2⟩, List.append_assoc]
        clear Hft
        go_wp2_with fail
        refine wp_region_ext (by kernel_rfl) (by kernel_rfl) ?_
        repeat (go_big_quiet_step (fail))
        refine wpQuiet_nil ?_
        intro _ hw'
        obtain ⟨p, rfl⟩ := hw'
        have hownV := hown.ext p.ext
        have hBV := ext_trans hBr p.ext
        have f6 := e6 p
        clear e6 e7 e8 hown h1 h2 hBr hBwr
        generalize p.to = V1 at *
        obtain ⟨A1, A2⟩ := int_room (n := el.length) (by omega)
        have hzV : W.heap.size ≤ V1.heap.size := hBV.size
        go_wp2_with (at_builtin; refine wpList_append_rd rfl _ _ 62 rfl W.heap.size 3 i0 _ 1 8 Try.underlying62 hi0 iz0 is0 ib0 rfl (by decide) _ _ _ rfl (some ⟨V1.heap.size, 0, none⟩) 1 1 (intC h.frm) rfl (hownV.ext (ext_alloc (Below.refl V1.heap.size V1) _)) rfl (grd_blk (World.alloc_heap_new V1 _) rfl) (intC_one h.frm) A1 A2 (Nat.le_trans hzV (by simp)) ?_; intro v5 w5 hown5 hgrow5 _)
        have hB2 : Below W.heap.size W w5 := (ext_trans hBV (ext_alloc (Below.refl V1.heap.size V1) _)).grown hgrow5 (Nat.le_trans hzV (by simp)) (fun k hk => (hownV.lt k hk).1)
        have hown2 := OwnL.snoc (f := intC) h.frm hown5
        clear hown5 hgrow5 hownV hBV f6 A1 A2 hzV
        have hlen2 : (el ++ [h.frm]).length ≤ 3001 := by simp; omega
        generalize el ++ [h.frm] = el2 at *
        go_wp2_with fail
        obtain ⟨d0, d1, d2, d3, d4, d5, d6, d7, d8, d9⟩ := HC.out w5 (ext_trans hBb hB2)
        have hbr : b < w5.heap.size := Nat.lt_of_lt_of_le hb (ext_trans hBb hB2).size
        have hxr := (hB2.block _ (lt_block Hx1.out)).trans Hx1.out
        have y3 : w5.cell? ⟨w.heap.size, 3, none⟩ = some (.int .i64 x.frm) := gblk hxr 3
        have y4 : w5.cell? ⟨w.heap.size, 4, none⟩ = some (.int .i64 x.until_) := gblk hxr 4
        have hxl := lt_block hxr
        have e6 := fun p => cell_ext (w := w5) (a := ⟨b, off + k * 10 + 7, none⟩) hbr d7 p
        have e7 := fun p => cell_ext (w := w5) (a := ⟨w.heap.size, 3, none⟩) hxl y3 p
        have e8 := fun p => cell_ext (w := w5) (a := ⟨w.heap.size, 4, none⟩) hxl y4 p
        clear d0 d1 d2 d3 d4 d5 d6 d7 d8 d9 y3 y4 hxr
        have st2 : ∃ q : Nat, (q = 0 ∧ ¬ x.frm < h.until_) ∨ (q = 1 ∧ x.frm < h.until_ ∧ ¬ h.until_ < x.until_) ∨ (q = 2 ∧ x.frm < h.until_ ∧ h.until_ < x.until_) := by
          by_cases h1 : x.frm < h.until_
          · by_cases h2 : h.until_ < x.until_
            · exact ⟨2, .inr (.inr ⟨rfl, h1, h2⟩)⟩
            · exact ⟨1, .inr (.inl ⟨rfl, h1, h2⟩)⟩
          · exact ⟨0, .inl ⟨rfl, h1⟩⟩
        obtain ⟨_, (⟨_, h1⟩ | ⟨_, h1, h2⟩ | ⟨_, h1, h2⟩)⟩ := st2
        · have g1 : decide (x.frm < h.until_) = false := decide_eq_false h1
          have HT2 : Hid (instO (l.take (k + 1)) x = el2) := by show _ = _; rw [HT.out, if_neg (fun hh => h1 hh.1), List.append_nil]
          clear HT h1
          refine wp_region_ext (by kernel_rfl) (by kernel_rfl) ?_
          repeat (go_big_quiet_step (fail))
          refine wpQuiet_nil ?_
          intro _ hw'
          obtain ⟨p, rfl⟩ := hw'
          have hown3 := hown2.ext p.ext
          have hB3 := ext_trans hB2 p.ext
          clear e6 e7 e8 hown2 g1 hB2
          generalize p.to = V3 at *
          go_wp2_with fail
          go_roundw
          case rel => exact ⟨k + 1, by omega, by go_num, by rw [HT2.out]; exact hown3, hB3⟩
          case measure => simp [intOf]; omega
        · have g1 : decide (h.until_ < x.until_) = false := decide_eq_false h2
          have HT2 : Hid (instO (l.take (k + 1)) x = el2) := by show _ = _; rw [HT.out, if_neg (fun hh => h2 hh.2), List.append_nil]
          clear HT h2
          refine wp_region_ext (by kernel_rfl) (by kernel_rfl) ?_
          repeat (go_big_quiet_step (fail))
          refine wpQuiet_nil ?_
          intro _ hw'
          obtain ⟨p, rfl⟩ := hw'
          have hown3 := hown2.ext p.ext
          have hB3 := ext_trans hB2 p.ext
          clear e6 e7 e8 hown2 g1 h1 hB2
          generalize p.to = V3 at *
          go_wp2_with fail
          go_roundw
          case rel => exact ⟨k + 1, by omega, by go_num, by rw [HT2.out]; exact hown3, hB3⟩
          case measure => simp [intOf]; omega
        · have HT2 : Hid (instO (l.take (k + 1)) x = el2 ++ [h.until_]) := by show _ = _; rw [HT.out, if_pos ⟨h1, h2⟩]
          clear HT
          refine wp_region_ext (by kernel_rfl) (by kernel_rfl) ?_
          repeat (go_big_quiet_step (fail))
          refine wpQuiet_nil ?_
          intro _ hw'
          obtain ⟨p, rfl⟩ := hw'
          have hownV := hown2.ext p.ext
          have hBV := ext_trans hB2 p.ext
          have f6 := e6 p
          clear e6 e7 e8 hown2 h1 h2 hB2
          generalize p.to = V3 at *
          obtain ⟨A1, A2⟩ := int_room (n := el2.length) (by omega)
          have hzV : W.heap.size ≤ V3.heap.size := hBV.size
          go_wp2_with (at_builtin; refine wpList_append_rd rfl _ _ 62 rfl W.heap.size 3 i0 _ 1 8 Try.underlying62 hi0 iz0 is0 ib0 rfl (by decide) _ _ _ rfl (some ⟨V3.heap.size, 0, none⟩) 1 1 (intC h.until_) rfl (hownV.ext (ext_alloc (Below.refl V3.heap.size V3) _)) rfl (grd_blk (World.alloc_heap_new V3 _) rfl) (intC_one h.until_) A1 A2 (Nat.le_trans hzV (by simp)) ?_; intro v6 w6 hown6 hgrow6 _)
          have hB3 : Below W.heap.size W w6 := (ext_trans hBV (ext_alloc (Below.refl V3.heap.size V3) _)).grown hgrow6 (Nat.le_trans hzV (by simp)) (fun k hk => (hownV.lt k hk).1)
          have hown3 := OwnL.snoc (f := intC) h.until_ hown6
          clear hown6 hgrow6 hownV hBV f6 A1 A2 hzV
          go_wp2_with fail
          go_roundw
          case rel => exact ⟨k + 1, by omega, by go_num, by rw [HT2.out]; exact hown3, hB3⟩
          case measure => simp [intOf]; omega
    · obtain rfl : k = l.length := by omega
      rw [List.take_length] at hown
      obtain ⟨A9, c9, rfl, hrd9, _⟩ := OwnL.form (by omega) hown
      have hfin : Hid (InstPost l x w (.returned (.slice A9 (instO l x).length c9)) wr) := ⟨A9, c9, rfl, hrd9, hBwr⟩
      clear hown hrd9
      go_wp2_with fail
      go_ret
      exact hfin.out
end Go.Proofs.Ytccmomebpdiimaa

/- Reference 39: Find. -/
namespace Go.Proofs.Ytccmomebpdiimaa
open Go.RowKit Go.Han
attribute [local irreducible] wpStill wpQuiet
set_option maxRecDepth 100000

theorem forb_val {l : List House} {x : Sight} {t kn : Int} (g1 : x.frm ≤ t) (g2 : t < x.until_) : forb l kn x t = if ((verd l (askOf x t kn)).1 != 0) = true then some (verd l (askOf x t kn)).2 else none := by
  unfold forb
  rw [if_neg (show ¬ (t < x.frm ∨ x.until_ ≤ t) by omega)]
  by_cases h0 : (verd l (askOf x t kn)).1 = 0 <;> simp [h0]
theorem forbid39_val (A : Option Addr) (c : Nat) (l : List House) (kn : Int) (x : Sight) (t : Int) (w : World) (hA : AudOk w A l kn) (hx : x.Ok) (g1 : x.frm ≤ t) (g2 : t < x.until_) :
    Calls Try.prog 40 #[.slice A l.length c, .agg #[.int .i64 x.speaker, .int .i64 x.begun, .int .i64 x.lang, .int .i64 x.frm, .int .i64 x.until_], .int .i64 kn, .int .i64 t] w fun e w' => e = .returned (.tuple #[.int .i64 (verd l (askOf x t kn)).2, .bool ((verd l (askOf x t kn)).1 != 0)]) ∧ Below w.heap.size w w' := by
  obtain ⟨W, hW, hB, hb, _⟩ := sig_new x w
  obtain ⟨c0, c1, c2, c3, c4⟩ := sig_at hb
  have HAW := Lib.hid (hA.ext hB)
  clear hb
  have hao := ask_ok hx g1 g2 hA.kn0 hA.kn1
  obtain ⟨e1, e2⟩ := verdR_ok hA.chk hao
  have cV := Lib.hid (Verdict36_any A c l (askOf x t kn) W HAW.out.rd HAW.out.len)
  unfold VerdPost at cV
  rw [e1, e2] at cV
  generalize hvv : verd l (askOf x t kn) = vv at *
  simp only [askOf] at cV
  clear e1 e2 hao g1 g2 hA hvv
  go_enter Try.func40, Try.ntmps40
  go_wp2_with fail
  refine cV.out.mono ?_
  rintro e w1 ⟨rfl, hb1⟩
  go_wp2_with fail
  go_ret2
  exact ⟨rfl, ext_trans hB hb1⟩

/-! ### The best so far -/
def encB (o : Option (Nat × Int × Int)) : Bool := o.isSome
def encAt (o : Option (Nat × Int × Int)) : Int := match o with | some (i, _, _) => (i : Int) | none => 0
def encT (o : Option (Nat × Int × Int)) : Int := match o with | some (_, t, _) => t | none => 0
def encN (o : Option (Nat × Int × Int)) : Int := match o with | some (_, _, n) => n | none => 0
structure BestOf (l : List House) (s : List Sight) (kn : Int) (D : Nat → Int → Prop) (top : Nat) (o : Option (Nat × Int × Int)) : Prop where
  no : o = none → ∀ i t x, D i t → s[i]? = some x → forb l kn x t = none
  yes : ∀ j u n, o = some (j, u, n) → (∃ x, s[j]? = some x ∧ forb l kn x u = some n) ∧ (∀ i t x, D i t → s[i]? = some x → (forb l kn x t).isSome = true → u < t ∨ (u = t ∧ j ≤ i)) ∧ j ≤ top
theorem BestOf.mono {l : List House} {s : List Sight} {kn : Int} {D D' : Nat → Int → Prop} {top top' : Nat} {o : Option (Nat × Int × Int)} (h : BestOf l s kn D top o) (hD : ∀ i t, D' i t → D i t) (ht : top ≤ top') : BestOf l s kn D' top' o :=
  ⟨fun e i t x hd hx => h.no e i t x (hD i t hd) hx, fun j u n e => let ⟨a, b, c⟩ := h.yes j u n e; ⟨a, fun i t x hd hx => b i t x (hD i t hd) hx, by omega⟩⟩
/-- A further pair. -/
def stepO (o : Option (Nat × Int × Int)) (i : Nat) (t no : Int) : Option (Nat × Int × Int) := match o with
  | none => some (i, t, no)
  | some (j, u, n) => if t < u then some (i, t, no) else some (j, u, n)
theorem BestOf.miss {l : List House} {s : List Sight} {kn : Int} {D D' : Nat → Int → Prop} {top i : Nat} {t : Int} {x : Sight} {o : Option (Nat × Int × Int)} (h : BestOf l s kn D top o) (hx : s[i]? = some x) (hf : forb l kn x t = none) (hD : ∀ j u, D' j u → D j u ∨ (j = i ∧ u = t)) : BestOf l s kn D' top o := by
  refine ⟨fun e j u y hd hy => ?_, fun j u n e => ?_⟩
  · rcases hD j u hd with hd | ⟨rfl, rfl⟩
    · exact h.no e j u y hd hy
    · rw [hx] at hy; cases hy; exact hf
  · obtain ⟨a, b, c⟩ := h.yes j u n e
    refine ⟨a, fun k v y hd hy hs => ?_, c⟩
    rcases hD k v hd with hd | ⟨rfl, rfl⟩
    · exact b k v y hd hy hs
    · rw [hx] at hy; cases hy; rw [hf] at hs; cases hs
theorem BestOf.hit {l : List House} {s : List Sight} {kn : Int} {D D' : Nat → Int → Prop} {top : Nat} {t no : Int} {x : Sight} {o : Option (Nat × Int × Int)} (h : BestOf l s kn D top o) (hx : s[top]? = some x) (hf : forb l kn x t = some no) (hD : ∀ j u, D' j u → D j u ∨ (j = top ∧ u = t)) (hle : ∀ j u, D j u → j ≤ top) : BestOf l s kn D' top (stepO o top t no) := by
  cases o with
  | none =>
    refine ⟨(fun e => by cases e), fun j u n e => ?_⟩
    cases e
    refine ⟨⟨x, hx, hf⟩, fun k v y hd hy hs => ?_, Nat.le_refl _⟩
    rcases hD k v hd with hd | ⟨rfl, rfl⟩
    · rw [h.no rfl k v y hd hy] at hs; cases hs
    · exact .inr ⟨rfl, Nat.le_refl _⟩
  | some r =>
    obtain ⟨j0, u0, n0⟩ := r
    obtain ⟨a, b, c⟩ := h.yes j0 u0 n0 rfl
    unfold stepO
    simp only
    by_cases hlt : t < u0
    · rw [if_pos hlt]
      refine ⟨(fun e => by cases e), fun j u n e => ?_⟩
      cases e
      refine ⟨⟨x, hx, hf⟩, fun k v y hd hy hs => ?_, Nat.le_refl _⟩
      rcases hD k v hd with hd | ⟨rfl, rfl⟩
      · have := b k v y hd hy hs; omega
      · exact .inr ⟨rfl, Nat.le_refl _⟩
    · rw [if_neg hlt]
      refine ⟨(fun e => by cases e), fun j u n e => ?_⟩
      cases e
      refine ⟨a, fun k v y hd hy hs => ?_, c⟩
      rcases hD k v hd with hd | ⟨rfl, rfl⟩
      · exact b k v y hd hy hs
      · omega
def allD (l : List House) (s : List Sight) (i : Nat) (t : Int) : Prop := ∃ x, s[i]? = some x ∧ t ∈ instO l x
theorem best_find {l : List House} (hok : ∀ h ∈ l, h.Ok) {s : List Sight} {kn : Int} {top : Nat} {o : Option (Nat × Int × Int)} (h : BestOf l s kn (allD l s) top o) : findA l s kn = o := by
  have down : ∀ i x t, s[i]? = some x → (forb l kn x t).isSome = true → ∃ u, u ≤ t ∧ allD l s i u ∧ (forb l kn x u).isSome = true := fun i x t hx hf => by
    obtain ⟨u, hu, hc, hf'⟩ := forb_from hok hf
    exact ⟨u, hu, ⟨x, hx, mem_instO.2 hc⟩, hf'⟩
  cases o with
  | none =>
    rw [findA_none hok]
    intro x hx u
    obtain ⟨i, hi⟩ := List.getElem?_of_mem hx
    cases hf : forb l kn x u with
    | none => rfl
    | some no =>
      obtain ⟨v, _, hd, hfv⟩ := down i x u hi (by rw [hf]; rfl)
      rw [h.no rfl i v x hd hi] at hfv
      cases hfv
  | some r =>
    obtain ⟨j, u, n⟩ := r
    obtain ⟨a, b, _⟩ := h.yes j u n rfl
    rw [findA_some hok]
    refine ⟨a, fun i x t hx hf => ?_⟩
    obtain ⟨v, hv, hd, hfv⟩ := down i x t hx hf
    have := b i v x hd hx hfv
    omega
end Go.Proofs.Ytccmomebpdiimaa

/- Package audit: borders, the times at which a decision begins or ends, as an iterator. -/
namespace Go.Proofs.Ytccmomebpdiimaa
open Go.RowKit Go.Han
attribute [local irreducible] wpStill wpQuiet
set_option maxRecDepth 100000

def bordL (l : List House) : List Int := l.flatMap fun h => [h.frm, h.until_]
def encI (x : Int) : Array Value := #[.int .i64 x]
theorem bordL_take {l : List House} {k : Nat} (hk : k < l.length) : bordL (l.take (k + 1)) = bordL (l.take k) ++ [l[k].frm] ++ [l[k].until_] := by
  unfold bordL
  rw [List.take_succ_eq_append_getElem hk, List.flatMap_append]
  simp
theorem bordL_pre (l : List House) (k : Nat) : bordL (l.take k) <+: bordL l := by
  conv => rhs; rw [← List.take_append_drop k l]
  unfold bordL
  rw [List.flatMap_append]
  exact List.prefix_append _ _
theorem borders_any (A : Option Addr) (c : Nat) (l : List House) (w : World) : Calls Try.prog 34 #[.slice A l.length c] w fun e w' => e = .returned (.func (.func 62) #[] #[.pointer (some ⟨w.heap.size, 0, none⟩)]) ∧ w.alloc (.cells #[.slice A l.length c] 22) = w' := by
  have hmf : ∀ (fn : Fn) (first cap : Array Value) (w : World), (Instr.makeFunc fn first cap).run Try.prog w = .ok (.func fn first cap) w := fun _ _ _ _ => rfl
  go_enter Try.func34, Try.ntmps34
  go_wp2
  go_ret
  exact ⟨rfl, rfl⟩
def BordR (A : Option Addr) (l : List House) (b1 : Nat) (k : Nat) : Prop := k = b1 ∨ (l ≠ [] ∧ ∃ a, A = some a ∧ k = a.block)
theorem bord_alive {A : Option Addr} {c : Nat} {l : List House} {b1 : Nat} {w0 : World} (h : w0.heap[b1]? = some (.cells #[.slice A l.length c] 22 (0, 0))) (hr : Rd w0 A (hflat l)) : Alive w0 (BordR A l b1) := by
  rintro j (rfl | ⟨hl, a', rfl, rfl⟩)
  · exact lt_block h
  · obtain ⟨b, off, he, hb, _⟩ := hou_elem hr (k := 0) (List.length_pos_iff.2 hl)
    cases he; exact hb
set_option maxHeartbeats 2000000 in
theorem borders1 (A : Option Addr) (c : Nat) (l : List House) (b1 : Nat) (w0 : World) (hat : w0.heap[b1]? = some (.cells #[.slice A l.length c] 22 (0, 0))) (hr : Rd w0 A (hflat l)) (hm : l.length ≤ 9223372036854775807) :
    IterN Try.prog 62 #[.pointer (some ⟨b1, 0, none⟩)] encI (BordR A l b1) (fun _ => False) (bordL l) w0 := by
  intro l' B0 J Jx own₀ W hR hown hB0 hlive hJ hJx hY h0
  refine (callsIn_wide (n := 0)).1 ?_
  refine callsIn_of_wp Try.func62 rfl trivial ?_
  simp only [Try.ntmps62, List.size_toArray, List.length_cons, List.length_nil, Nat.reduceAdd, Nat.reduceSub, Array.replicate_succ, Array.replicate_zero, List.push_toArray, List.append_toArray, List.nil_append, List.cons_append]
  have hal := bord_alive hat hr
  have hI0 : ItInv w0 B0 (BordR A l b1) J (bordL (l.take 0)) W := ⟨own₀, by simpa [bordL] using h0, fun j hj => (hR j hj).2, hown, hlive, hB0⟩
  have x0 := cell_one ((hR b1 (.inl rfl)).2.trans hat)
  have HY := Lib.hid hY
  have HJ := Lib.hid hJ
  have Hal := Lib.hid hal
  clear hR hY hJ hJx h0 hown hlive hal
  gi_wp2
  clear x0 hat
  gi_loopw [7] (fun i wr => ∃ k : Nat, k ≤ l.length ∧ i = .int .i64 k ∧ ItInv w0 B0 (BordR A l b1) J (bordL (l.take k)) wr) (fun i _ => l.length - (intOf i).toNat)
  case atStart => exact ⟨0, Nat.zero_le _, rfl, hI0⟩
  case round =>
    obtain ⟨k, hk, rfl, hI⟩ := hrel
    by_cases hlt : k < l.length
    · obtain ⟨b, off, rfl, hb, hc⟩ := hou_elem hr hlt
      obtain ⟨own, hj, hkeep, hdis, hliv, hBs⟩ := hI
      have hbw := hkeep b (.inr ⟨(fun h => by rw [h] at hlt; simp at hlt), _, rfl, rfl⟩)
      have low : ∀ j v, w0.cell? ⟨b, j, none⟩ = some v → wr.cell? ⟨b, j, none⟩ = some v := fun j v h => (World.cell?_of_block (w := w0) (a := ⟨b, j, none⟩) hbw).trans h
      obtain ⟨h0, h1, h2, h3, h4, h5, h6, h7, h8, h9⟩ := hc w0 (Below.refl _ _)
      replace h0 := low _ _ h0
      replace h1 := low _ _ h1
      replace h2 := low _ _ h2
      replace h3 := low _ _ h3
      replace h4 := low _ _ h4
      replace h5 := low _ _ h5
      replace h6 := low _ _ h6
      replace h7 := low _ _ h7
      replace h8 := low _ _ h8
      replace h9 := low _ _ h9
      have hft := bordL_take hlt
      have hpre := bordL_pre l (k + 1)
      rw [hft] at hpre
      clear hbw low hc hr
      generalize l[k] = x at *
      obtain ⟨W1, hW1, hB1, hx1, hz1⟩ := hou_new x wr
      have hj1 := HJ.out own _ wr W1 hj (IterStep.of_below hB1)
      have hkeep1 : ∀ j, BordR (some ⟨b, off, none⟩) l b1 j → W1.heap[j]? = w0.heap[j]? := fun j hjR => (hB1.block j (alive_lt Hal.out hkeep hjR)).trans (hkeep j hjR)
      have hliv1 : ∀ j, own j → j < W1.heap.size := fun j hjo => by have := hliv j hjo; omega
      have hno : ¬ own wr.heap.size := fun h => by have := hliv _ h; omega
      have hBs1 : B0 ≤ W1.heap.size := by omega
      have hp1 : bordL (l.take k) ++ [x.frm] <+: bordL l := (List.prefix_append _ _).trans hpre
      obtain ⟨fn, tmps, assign, body, hyy, hRd⟩ := HY.out own _ x.frm W1 hj1 hp1 hdis hliv1
      change (Instr.yield l' #[.int .i64 x.frm]).run _ _ = _ at hyy
      obtain ⟨p0, p1, p2, p3, p4, p5, p6, p7, p8, p9⟩ := hou_at hx1
      have Hft := Lib.hid hft
      have Hpre := Lib.hid hpre
      have Hp1 := Lib.hid hp1
      have Hkeep := Lib.hid hkeep1
      have Hdis := Lib.hid hdis
      have Hno := Lib.hid hno
      have Hx1 := Lib.hid hx1
      clear hft hpre hj hj1 hp1 hkeep hkeep1 hdis hliv hliv1 hno hx1 p0 p1 p2 p3 p4 p5 p8 p9
      gi_wp2_with fail
      refine ⟨rfl, hRd.mono ?_⟩
      rintro e W3 (⟨own', hbs, (⟨rfl, hj3⟩ | ⟨rfl, hjx⟩)⟩ | ⟨ch, rfl, hjp⟩)
      · have hI3 : ItInv w0 B0 (BordR (some ⟨b, off, none⟩) l b1) J (bordL (l.take k) ++ [x.frm]) W3 := ItInv.body hj3 hbs Hal.out Hkeep.out Hdis.out hBs1
        have hx3 := (hbs.block _ (by omega) Hno.out).trans Hx1.out
        obtain ⟨own2, hj2, hkeep2, hdis2, hliv2, hBs2⟩ := hI3
        obtain ⟨fn2, tmps2, assign2, body2, hyy2, hRd2⟩ := HY.out own2 _ x.until_ W3 hj2 Hpre.out hdis2 hliv2
        change (Instr.yield l' #[.int .i64 x.until_]).run _ _ = _ at hyy2
        obtain ⟨_, _, _, _, _, _, _, q7, _, _⟩ := hou_at hx3
        have Hkeep2 := Lib.hid hkeep2
        have Hdis2 := Lib.hid hdis2
        clear hyy hRd hbs hj3 hj2 hkeep2 hdis2 hliv2 hx3 p6 p7 h0 h1 h2 h3 h4 h5 h6 h7 h8 h9
        gi_wp2_with fail
        refine ⟨rfl, hRd2.mono ?_⟩
        rintro e W4 (⟨own3, hbs3, (⟨rfl, hj4⟩ | ⟨rfl, hjx⟩)⟩ | ⟨ch, rfl, hjp⟩)
        · have hI4 : Hid (ItInv w0 B0 (BordR (some ⟨b, off, none⟩) l b1) J (bordL (l.take (k + 1))) W4) := by
            show ItInv _ _ _ _ _ _
            rw [Hft.out]
            exact ItInv.body hj4 hbs3 Hal.out Hkeep2.out Hdis2.out hBs2
          clear hyy2 hRd2 hbs3 hj4
          gi_wp2_with fail
          go_roundw
          case rel => exact ⟨k + 1, by omega, by go_num, hI4.out⟩
          case measure => simp [intOf]; omega
        · gi_wp2_with fail
          refine bodyPost_ret (results_none rfl _ _ _) rfl ?_
          exact .inr (.inl ⟨⟨_, rfl⟩, own3, _, Hpre.out, hjx⟩)
        · exact hjp.elim
      · have Hjx := Lib.hid hjx
        clear hyy hRd hbs hjx
        gi_wp2_with fail
        refine ⟨fun _ h => (by cases h), ?_⟩
        gi_wp2_with fail
        refine bodyPost_ret (results_none rfl _ _ _) rfl ?_
        exact .inr (.inl ⟨⟨_, rfl⟩, own', _, Hp1.out, Hjx.out⟩)
      · exact hjp.elim
    · obtain rfl : k = l.length := by omega
      gi_wp2
      go_end0
      obtain ⟨own, hj, _⟩ := hI
      rw [List.take_length] at hj
      exact .inl ⟨rfl, ⟨_, rfl⟩, own, hj⟩
end Go.Proofs.Ytccmomebpdiimaa

/- Maps as functions: what a map of the call's own holds at each key; ranging over one. No program in sight. -/
namespace Go.Han
open Go.Maps (Keyed)

section
variable {α β : Type} {P : Program} {k : TypeId}

/-- How keys are spelled: as values, as the reader's keys; which of them are keys at all. -/
structure KeyShape (P : Program) (k : TypeId) (α : Type) where
  val : α → Value
  lit : α → Lit
  good : α → Prop
  of : ∀ x, good x → keyOf P k (val x) = some (lit x)
  inv : ∀ v l, keyOf P k v = some l → ∃ x, good x ∧ v = val x ∧ l = lit x
  inj : ∀ x y, good x → good y → lit x = lit y → x = y
/-- How elements are spelled. -/
structure ElemShape (β : Type) where
  val : β → Value
  inj : ∀ x y, val x = val y → x = y

/-- An element reads as itself. -/
noncomputable def ElemShape.read (E : ElemShape β) (v : Value) : Option (DataW β × List MemPlace) :=
  open Classical in if h : ∃ c, v = E.val c then some (.held (Classical.choose h), []) else none
theorem ElemShape.read_val (E : ElemShape β) (c : β) : E.read (E.val c) = some (.held c, []) := by
  unfold ElemShape.read
  have h : ∃ c', E.val c = E.val c' := ⟨c, rfl⟩
  rw [dif_pos h, E.inj _ _ (Classical.choose_spec h).symm]
theorem ElemShape.read_inv (E : ElemShape β) {v : Value} {y : DataW β × List MemPlace} (h : E.read v = some y) : ∃ c, v = E.val c ∧ y = (.held c, []) := by
  unfold ElemShape.read at h
  split at h
  · rename_i hc
    cases h
    exact ⟨Classical.choose hc, Classical.choose_spec hc, rfl⟩
  · cases h

/-- What stands at the keys. -/
def HoldsAt (S : KeyShape P k α) (D : DataW β) (f : α → Option β) : Prop :=
  ∀ x, S.good x → (f x = none → Maps.has D (S.lit x) = false) ∧ ∀ c, f x = some c → Maps.has D (S.lit x) = true ∧ ∀ z, D.atKey (S.lit x) z = .held c

/-- Block b is a map of at most n entries that holds f. -/
def MapF (w : World) (S : KeyShape P k α) (E : ElemShape β) (b n : Nat) (f : α → Option β) : Prop :=
  ∃ D : DataW β, w.ownsMap P k E.read b n D ∧ HoldsAt S D f

theorem MapF.lt {w : World} {S : KeyShape P k α} {E : ElemShape β} {b n : Nat} {f : α → Option β} (h : MapF w S E b n f) : b < w.heap.size := let ⟨_, h1, _⟩ := h; h1.lt
theorem MapF.made (w : World) (S : KeyShape P k α) (E : ElemShape β) : MapF (w.alloc (.map #[] 0)) S E w.heap.size 0 (fun _ => none) :=
  ⟨.map [], World.ownsMap_made w P k E.read, fun x _ => ⟨fun _ => rfl, fun c h => by cases h⟩⟩
theorem MapF.mono {w : World} {S : KeyShape P k α} {E : ElemShape β} {b n n' : Nat} {f : α → Option β} (h : MapF w S E b n f) (hn : n ≤ n') : MapF w S E b n' f :=
  let ⟨D, h1, h2⟩ := h; ⟨D, h1.mono hn, h2⟩
theorem MapF.of_block {w w' : World} {S : KeyShape P k α} {E : ElemShape β} {b n : Nat} {f : α → Option β} (h : MapF w S E b n f) (hb : w'.heap[b]? = w.heap[b]?) : MapF w' S E b n f := by
  obtain ⟨D, ⟨es, clock, h1, h2⟩, h3⟩ := h
  exact ⟨D, ⟨es, clock, hb.trans h1, h2⟩, h3⟩
theorem MapF.congr {w : World} {S : KeyShape P k α} {E : ElemShape β} {b n : Nat} {f g : α → Option β} (h : MapF w S E b n f) (e : ∀ x, S.good x → g x = f x) : MapF w S E b n g := by
  obtain ⟨D, h1, h2⟩ := h
  exact ⟨D, h1, fun x hx => by rw [e x hx]; exact h2 x hx⟩

theorem HoldsAt.put [DecidableEq α] {S : KeyShape P k α} (K : Keyed P k) {D : DataW β} {f : α → Option β} (h : HoldsAt S D f) (hD : Maps.IsMap D) {x : α} (hx : S.good x) (c : β) :
    HoldsAt S (D.put (S.lit x) (.held c)) (fun y => if y = x then some c else f y) := by
  intro y hy
  have hk : WideAt.IsKeyLit (S.lit x) := K.key (S.of x hx)
  by_cases e : y = x
  · subst e
    exact ⟨fun h => by simp at h, fun c' h => by
      simp at h; subst h
      exact ⟨Maps.has_put_same hD hk _, fun z => Maps.atKey_put_same hD hk _ z⟩⟩
  · have hne : S.lit y ≠ S.lit x := fun h' => e (S.inj y x hy hx h')
    obtain ⟨h1, h2⟩ := h y hy
    exact ⟨fun h' => by rw [Maps.has_put_other hne]; exact h1 (by simpa [e] using h'), fun c' h' => by
      have := h2 c' (by simpa [e] using h')
      exact ⟨by rw [Maps.has_put_other hne]; exact this.1, fun z => by rw [Maps.atKey_put_other hne]; exact this.2 z⟩⟩

section
variable (w : World) {ops : Array Oper} {rest : List Oper} {o : Oper} {a : Act} {Q : Exit → Act → World → Prop}

/-- m[x] = c. -/
theorem wpList_mapUpdate_f [DecidableEq α] (hg : o.guard = none) (m x v : Operand) (t : TypeId) (hop : o.op = Op.mapUpdate t m x v) (e : TypeId) (K : Keyed P k) (ht : P.underlying t = some (.map k e)) (S : KeyShape P k α) (E : ElemShape β) (b n : Nat) (f : α → Option β)
    (hm : a.eval m = .map (some b)) (hown : MapF w S E b n f) (hn : n < maxLen) (key : α) (c : β) (hx : a.eval x = S.val key) (hv : a.eval v = E.val c) (hgood : S.good key)
    (hK : ∀ w', MapF w' S E b (n + 1) (fun y => if y = key then some c else f y) → w.grownBy w' (some b) → w'.heap.size = w.heap.size → wpList P ops Q rest (a.put o.dst undef) w') :
    wpList P ops Q (o :: rest) a w := by
  obtain ⟨D, h1, h2⟩ := hown
  refine wpList_plain hg fun K' hK' => ?_
  obtain ⟨w', hrun, r1, r2⟩ := h1.store K ht hn (S.of key hgood) (E.read_val c)
  have hsz : w'.heap.size = w.heap.size := by
    obtain ⟨es, clock, es', clock', hb, rfl⟩ := r2
    simp [ChangeMaps.setBlock]
  unfold Oper.wp
  simp [execOp, hop, hm, hx, hv, hrun, Result.andThen]
  exact hK' _ _ (hK w' ⟨_, r1, h2.put K h1.isMap hgood c⟩ r2.grown hsz)

/-- m[x] = c, as an equation. -/
theorem MapF.store [DecidableEq α] {t e : TypeId} (K : Keyed P k) (ht : P.underlying t = some (.map k e)) {S : KeyShape P k α} {E : ElemShape β} {b n : Nat} {f : α → Option β} (hown : MapF w S E b n f) (hn : n < maxLen) (key : α) (c : β) (hgood : S.good key) :
    ∃ w', (Instr.mapUpdate t (.map (some b)) (S.val key) (E.val c)).run P w = .ok () w' ∧ MapF w' S E b (n + 1) (fun y => if y = key then some c else f y) ∧ w.grownBy w' (some b) ∧ w'.heap.size = w.heap.size := by
  obtain ⟨D, h1, h2⟩ := hown
  obtain ⟨w', hrun, r1, r2⟩ := h1.store K ht hn (S.of key hgood) (E.read_val c)
  refine ⟨w', hrun, ⟨_, r1, h2.put K h1.isMap hgood c⟩, r2.grown, ?_⟩
  obtain ⟨es, clock, es', clock', hb, rfl⟩ := r2
  simp [ChangeMaps.setBlock]
/-- v, ok := m[x]. -/
theorem run_lookup_f {t e : TypeId} (K : Keyed P k) (ht : P.underlying t = some (.map k e)) (S : KeyShape P k α) (E : ElemShape β) (z0 : β) {b n : Nat} {f : α → Option β} (hz : (zeroValue e).run P w = .ok (E.val z0) w) (hown : MapF w S E b n f) (key : α) (hgood : S.good key) :
    (Instr.lookup t (.map (some b)) (S.val key) true).run P w = .ok (.tuple #[E.val ((f key).getD z0), .bool (f key).isSome]) w := by
  obtain ⟨D, h1, h2⟩ := hown
  obtain ⟨v, ps, hrun, hv⟩ := h1.look_ok K ht hz (E.read_val z0) (S.of key hgood)
  obtain ⟨g1, g2⟩ := h2 key hgood
  obtain ⟨c, rfl, hc⟩ := E.read_inv hv
  simp only [Prod.mk.injEq] at hc
  cases hf : f key with
  | none =>
    have := g1 hf
    rw [Maps.atKey_of_not_has this] at hc
    cases hc.1
    rw [this] at hrun
    exact hrun
  | some c' =>
    obtain ⟨g3, g4⟩ := g2 c' hf
    rw [g4] at hc
    cases hc.1
    rw [g3] at hrun
    exact hrun
theorem wpList_lookup_f (hg : o.guard = none) (m x : Operand) (t : TypeId) (hop : o.op = Op.lookup t m x true) (e : TypeId) (K : Keyed P k) (ht : P.underlying t = some (.map k e)) (S : KeyShape P k α) (E : ElemShape β) (z0 : β) (b n : Nat) (f : α → Option β)
    (hz : (zeroValue e).run P w = .ok (E.val z0) w) (hm : a.eval m = .map (some b)) (hown : MapF w S E b n f) (key : α) (hx : a.eval x = S.val key) (hgood : S.good key)
    (hK : wpList P ops Q rest (a.put o.dst (.tuple #[E.val ((f key).getD z0), .bool (f key).isSome])) w) :
    wpList P ops Q (o :: rest) a w := by
  refine wpList_plain hg fun K' hK' => ?_
  have hrun := run_lookup_f w K ht S E z0 hz hown key hgood
  unfold Oper.wp
  simp only [execOp, hop, hm, hx, Sem.run_bind, hrun, Result.andThen_ok, Sem.run_pure]
  exact hK' _ _ hK

theorem wpList_lookup_is (hg : o.guard = none) (m x : Operand) (t : TypeId) (hop : o.op = Op.lookup t m x true) (e : TypeId) (K : Keyed P k) (ht : P.underlying t = some (.map k e)) (S : KeyShape P k α) (E : ElemShape β) (z0 : β) (b n : Nat) (f : α → Option β)
    (hz : (zeroValue e).run P w = .ok (E.val z0) w) (hm : a.eval m = .map (some b)) (hown : MapF w S E b n f) (key : α) (hx : a.eval x = S.val key) (hgood : S.good key) (vc : Value) (bc : Bool) (hv : E.val ((f key).getD z0) = vc) (hb : (f key).isSome = bc)
    (hK : wpList P ops Q rest (a.put o.dst (.tuple #[vc, .bool bc])) w) :
    wpList P ops Q (o :: rest) a w := by
  subst hv hb
  exact wpList_lookup_f w hg m x t hop e K ht S E z0 b n f hz hm hown key hx hgood hK

/-! ### ranging -/
/-- Block r ranges over the map in block b; 'left': what is still to come. -/
def RangeF (w : World) (S : KeyShape P k α) (E : ElemShape β) (b r n : Nat) (f : α → Option β) (left : α → Bool) (cnt : Nat) : Prop :=
  ∃ (D : DataW β) (lf : Lit → Bool), w.ranges P k E.read b r n D lf cnt ∧ HoldsAt S D f ∧ (∀ x, S.good x → left x = lf (S.lit x)) ∧ ∀ l, lf l = true → ∃ x, S.good x ∧ l = S.lit x
end
theorem RangeF.kept {w w' : World} {S : KeyShape P k α} {E : ElemShape β} {b r n cnt : Nat} {f : α → Option β} {left : α → Bool} {row : Option Nat} (h : RangeF w S E b r n f left cnt) (hg : w.grownBy w' row) (hb : some b ≠ row) (hr : some r ≠ row) : RangeF w' S E b r n f left cnt :=
  let ⟨D, lf, h1, h2⟩ := h; ⟨D, lf, h1.kept hg hb hr, h2⟩
theorem RangeF.owns {w : World} {S : KeyShape P k α} {E : ElemShape β} {b r n cnt : Nat} {f : α → Option β} {left : α → Bool} (h : RangeF w S E b r n f left cnt) : MapF w S E b n f :=
  let ⟨D, _, h1, h2, _⟩ := h; ⟨D, h1.owns, h2⟩
theorem RangeF.left_eq {w : World} {S : KeyShape P k α} {E : ElemShape β} {b r n cnt : Nat} {f : α → Option β} {left : α → Bool} (h : RangeF w S E b r n f left cnt) : w.rangeLeft b r = cnt :=
  let ⟨_, _, h1, _⟩ := h; h1.left_eq
theorem RangeF.lt {w : World} {S : KeyShape P k α} {E : ElemShape β} {b r n cnt : Nat} {f : α → Option β} {left : α → Bool} (h : RangeF w S E b r n f left cnt) : r < w.heap.size :=
  let ⟨_, _, h1, _⟩ := h; h1.lt

section
variable (w : World) {ops : Array Oper} {rest : List Oper} {o : Oper} {a : Act} {Q : Exit → Act → World → Prop}
/-- range m. -/
theorem wpList_range_f (hg : o.guard = none) (m : Operand) (t : TypeId) (hop : o.op = Op.range t m) (e : TypeId) (K : Keyed P k) (ht : P.underlying t = some (.map k e)) (S : KeyShape P k α) (E : ElemShape β) (b n : Nat) (f : α → Option β)
    (hm : a.eval m = .map (some b)) (hown : MapF w S E b n f)
    (hK : ∀ w' cnt, RangeF w' S E b w.heap.size n f (fun x => (f x).isSome) cnt → w.grownBy w' none → w'.heap.size = w.heap.size + 1 → wpList P ops Q rest (a.put o.dst (.pointer (some ⟨w.heap.size, 0, none⟩))) w') :
    wpList P ops Q (o :: rest) a w := by
  obtain ⟨D, h1, h2⟩ := hown
  obtain ⟨es, hes, hpw, hkl⟩ := h1.entries K
  refine wpList_range_own w hg m t hop k e K ht E.read b n D hm h1 fun w' hr hgr hs => hK w' _ ⟨D, Maps.has D, hr, h2, fun x hx => ?_, fun l hl => ?_⟩ hgr hs
  · obtain ⟨g1, g2⟩ := h2 x hx
    show (f x).isSome = _
    cases hf : f x with
    | none => exact (g1 hf).symm
    | some c => exact ((g2 c hf).1).symm
  · obtain ⟨es', clock, _, F, _, hD⟩ := h1
    subst hD
    obtain ⟨p, hp, hpk⟩ := List.any_eq_true.1 hl
    obtain ⟨y, hy, rfl⟩ := List.mem_map.1 (mem_sorted.1 hp)
    obtain ⟨z, hz⟩ := F.reads y hy
    have hk' := WideElems.rd_key hz
    have e1 : (WideElems.rg P k E.read y).1 = z.1 := by rw [WideElems.rg_of hz]
    obtain ⟨x, hx, _, hl'⟩ := S.inv _ _ hk'
    exact ⟨x, hx, by rw [← hl', ← e1]; exact (WideAt.sameKey_eq hpk).symm⟩

/-- The step. -/
theorem wpList_next_f [DecidableEq α] (hg : o.guard = none) (it : Operand) (hop : o.op = Op.next it false) (K : Keyed P k) (S : KeyShape P k α) (E : ElemShape β) (b r n : Nat) (f : α → Option β) (left : α → Bool) (cnt : Nat) (kv : α → Value) (cv : β → Value) (hkv : ∀ x, S.val x = kv x) (hcv : ∀ c, E.val c = cv c)
    (hit : a.eval it = .pointer (some ⟨r, 0, none⟩)) (h : RangeF w S E b r n f left cnt)
    (hDone : (∀ x, S.good x → left x = false) → wpList P ops Q rest (a.put o.dst (.tuple #[.bool false])) w)
    (hMore : ∀ (x : α) (c : β) (w' : World) (cnt' : Nat), S.good x → left x = true → f x = some c → RangeF w' S E b r n f (fun y => left y && !decide (y = x)) cnt' → cnt' < cnt →
      w.grownBy w' (some r) → w'.heap.size = w.heap.size → (Instr.entry (.pointer (some ⟨r, 0, none⟩))).run P w' = .ok (.tuple #[kv x, cv c]) w' → wpList P ops Q rest (a.put o.dst (.tuple #[.bool true, kv x, cv c])) w') :
    wpList P ops Q (o :: rest) a w := by
  obtain ⟨D, lf, h1, h2, h3, h4⟩ := h
  refine wpList_next_ranges w hg it hop k K E.read S.val E.val (fun key kl hk => by obtain ⟨x, _, hx, _⟩ := S.inv key kl hk; exact ⟨x, hx⟩) (fun v y hv => by obtain ⟨c, hc, _⟩ := E.read_inv hv; exact ⟨c, hc⟩) b r n D lf cnt hit h1
    (fun _ hl => hDone fun x hx => by rw [h3 x hx, hl]) ?_
  intro x' c kl y w' cnt' hkey hlk hv hat hrg hlt hgr hsz hen
  obtain ⟨x, hx, hxv, hxl⟩ := S.inv _ _ hkey
  subst hxl
  obtain ⟨c', hc', hy⟩ := E.read_inv hv
  obtain rfl : c = c' := E.inj _ _ hc'
  subst hy
  rw [hxv, hkv, hcv] at hen
  rw [hxv, hkv, hcv]
  have hfx : f x = some c := by
    obtain ⟨g1, g2⟩ := h2 x hx
    cases hf : f x with
    | none =>
      have := g1 hf
      have h0 := hat .nil
      rw [Maps.atKey_of_not_has this] at h0
      cases h0
    | some c2 =>
      have h0 := (g2 c2 hf).2 .nil
      rw [hat] at h0
      cases h0
      rfl
  refine hMore x c w' cnt' hx (by rw [h3 x hx]; exact hlk) hfx ⟨D, _, hrg, h2, fun y hy => ?_, fun l hl => ?_⟩ hlt hgr hsz hen
  · show (left y && !decide (y = x)) = (lf (S.lit y) && !(S.lit y).sameKey (S.lit x))
    rw [h3 y hy]
    by_cases e : y = x
    · subst e
      rw [WideAt.sameKey_self (K.key (S.of y hy))]; simp
    · rw [Maps.sameKey_ne (fun h' => e (S.inj y x hy hx h'))]; simp [e]
  · refine h4 l ?_
    cases hl' : lf l
    · simp [hl'] at hl
    · rfl
end

/-- Keys of the type int. -/
def intShape {q : IntKind} (hk : P.underlying k = some (.int q)) : KeyShape P k Int where
  val := .int q
  lit := .int q
  good x := (Lit.int q x).wf = true
  of x hx := by simp [keyOf, mapKey, hk, hx]
  inv v l h := by
    obtain ⟨x, h1, h2, h3⟩ := Maps.keyOf_int_inv hk h
    exact ⟨x, h3, h1, h2⟩
  inj x y _ _ h := by cases h; rfl
end
end Go.Han

/- The keys of a map with int keys, sorted: what they are, by what the map holds. No program in sight. -/
namespace Go.Han
open Go.RowKit Go.Maps

theorem intKeys_facts {H : Type} {P : Program} {k : TypeId} {R : Value → Option (DataW H × List MemPlace)} {w : World} {b n : Nat} {D0 : DataW H} (hown : w.ownsMap P k R b n D0) (K : Keyed P k) (hk : P.underlying k = some (.int .i64)) :
    (intKeys D0).Nodup ∧ ∀ x, x ∈ intKeys D0 ↔ has D0 (.int .i64 x) = true := by
  obtain ⟨es, hD, hpw, _⟩ := hown.entries K
  obtain ⟨es', hD', hko⟩ := hown.keysOf
  obtain rfl : es = es' := by rw [hD] at hD'; simpa using hD'
  subst hD
  have hkx : ∀ p ∈ es, ∃ x, p.1 = .int .i64 x := fun p hp => by
    obtain ⟨v, hv⟩ := hko p hp
    obtain ⟨x, _, hx, _⟩ := Maps.keyOf_i64 hk hv
    exact ⟨x, hx⟩
  refine ⟨?_, fun x => ?_⟩
  · show (es.map fun p => Go.intOf p.1).Nodup
    refine List.pairwise_map.2 (hpw.imp_of_mem fun {p q} hp' hq' hne e => hne ?_)
    obtain ⟨a, ha⟩ := hkx p hp'
    obtain ⟨b, hb⟩ := hkx q hq'
    rw [ha, hb] at e ⊢
    exact congrArg _ e
  · rw [has_eq, List.any_eq_true]
    show x ∈ (es.map fun p => Go.intOf p.1) ↔ _
    rw [List.mem_map]
    constructor
    · rintro ⟨p, hp', rfl⟩
      obtain ⟨a, ha⟩ := hkx p hp'
      exact ⟨p, hp', by rw [ha]; simp [Lit.sameKey, Go.intOf]⟩
    · rintro ⟨p, hp', hs⟩
      obtain ⟨a, ha⟩ := hkx p hp'
      rw [ha] at hs
      exact ⟨p, hp', by rw [ha]; simpa [Lit.sameKey, Go.intOf] using hs⟩
theorem sort_asc {l : List Int} (h : l.Nodup) : (l.mergeSort (fun x y => decide (x ≤ y))).Pairwise (fun a b => a < b) := by
  have tr : ∀ a b c : Int, decide (a ≤ b) = true → decide (b ≤ c) = true → decide (a ≤ c) = true := fun a b c h1 h2 => by simp at *; omega
  have to : ∀ a b : Int, (decide (a ≤ b) || decide (b ≤ a)) = true := fun a b => by simp; omega
  have h1 := List.pairwise_mergeSort tr to l
  have h2 : (l.mergeSort (fun x y => decide (x ≤ y))).Nodup := (List.mergeSort_perm l _).nodup_iff.2 h
  refine (h1.and h2).imp (fun hab => ?_)
  have := hab.1
  simp at this
  have := hab.2
  omega
/-- The sorted keys. -/
structure SortedKeys (P : Program) {k : TypeId} (hk : P.underlying k = some (.int .i64)) {β : Type} (f : Int → Option β) (T : List Int) : Prop where
  asc : T.Pairwise (fun a b => a < b)
  mem : ∀ x, x ∈ T ↔ ((intShape hk).good x ∧ (f x).isSome = true)
theorem sorted_keys {β : Type} {P : Program} {k : TypeId} (hk : P.underlying k = some (.int .i64)) {E : ElemShape β} {w : World} {b n : Nat} {D : DataW β} {f : Int → Option β} (hown : w.ownsMap P k E.read b n D) (hf : HoldsAt (intShape hk) D f) {ss : List Int} (hp : ss.Perm (intKeys D)) :
    SortedKeys P hk f (ss.mergeSort (fun x y => decide (x ≤ y))) := by
  obtain ⟨h1, h2⟩ := intKeys_facts hown (Maps.int_keyed hk) hk
  have h3 := intKeys_wf hown hk
  have hnd : ss.Nodup := hp.nodup_iff.2 h1
  refine ⟨sort_asc hnd, fun x => ?_⟩
  rw [List.mem_mergeSort, hp.mem_iff, h2 x]
  constructor
  · intro h
    have hg : (Lit.int .i64 x).wf = true := h3 x ((h2 x).2 h)
    refine ⟨hg, ?_⟩
    cases hx : f x with
    | none => have := (hf x hg).1 hx; change has D (.int .i64 x) = false at this; rw [this] at h; cases h
    | some c => rfl
  · rintro ⟨hg, hs⟩
    obtain ⟨c, hc⟩ := Option.isSome_iff_exists.1 hs
    exact ((hf x hg).2 c hc).1
end Go.Han

/- Package audit: Find. -/
namespace Go.Proofs.Ytccmomebpdiimaa
open Go.RowKit Go.Han Go.Maps Go.Shelf
attribute [local irreducible] wpStill wpQuiet
attribute [local go_sem] Oper.semAt_some
set_option maxRecDepth 100000

def intS : KeyShape Try.prog 3 Int := intShape Try.underlying3
theorem keyed_int : Maps.Keyed Try.prog 3 := Maps.int_keyed Try.underlying3
theorem vbool_inj (x y : Bool) (h : Value.bool x = Value.bool y) : x = y := by cases h; rfl
def blE : ElemShape Bool := ⟨Value.bool, vbool_inj⟩
theorem good_time {n : Int} (h0 : 0 ≤ n) (h1 : n ≤ 1099511627776) : intS.good n := by
  show (Lit.int .i64 n).wf = true
  simp [Lit.wf, IntKind.min, IntKind.max, IntKind.signed, IntKind.bits]; omega
def setF (l : List Int) (n : Int) : Option Bool := if n ∈ l then some true else none
theorem setF_snoc (l : List Int) (x : Int) : ∀ n, setF (l ++ [x]) n = if n = x then some true else setF l n := by
  intro n
  unfold setF
  by_cases h : n = x
  · simp [h]
  · simp [h]
theorem keysB_any (mb : Option Nat) (w : World) : Calls Try.prog 36 #[.map mb] w fun e w' => e = .returned (.func (.func 65) #[] #[.pointer (some ⟨w.heap.size, 0, none⟩)]) ∧ w.alloc (.cells #[.map mb] 58) = w' := by
  have hmf : ∀ (fn : Fn) (first cap : Array Value) (w : World), (Instr.makeFunc fn first cap).run Try.prog w = .ok (.func fn first cap) w := fun _ _ _ _ => rfl
  go_enter Try.func36, Try.ntmps36
  go_wp2
  go_ret
  exact ⟨rfl, rfl⟩
theorem sortsA (m : Nat) : AnyZI.SortsIn Try.prog Try.sortedA_ren Fence.wide m :=
  ⟨fun blk off cap ss W hH hblk hsz => callsIn_wide.2 (AnyM.slices_Sort_int Try.sortA blk off cap ss W hH hblk hsz),
   fun p cap W => callsIn_wide.2 (AnyM.slices_Sort_int_none Try.sortA p cap W)⟩
def SortPost (f : Int → Option Bool) (w : World) (e : Ending) (w' : World) : Prop :=
  Below w.heap.size w w' ∧ ∃ v T, e = .returned v ∧ SortedKeys Try.prog Try.underlying3 f T ∧ w'.ownsRow w.heap.size 3 1 v T.length (T.map fun x => Value.int .i64 x)
theorem sortedB_any (b n g : Nat) (f : Int → Option Bool) (w : World) (hm : MapF w intS blE b n f) (hn : n ≤ 100000) (hg : w.heap[g]? = some (.cells #[.map (some b)] 58 (0, 0))) :
    Calls Try.prog 35 #[.func (.func 65) #[] #[.pointer (some ⟨g, 0, none⟩)]] w (SortPost f w) := by
  obtain ⟨D, hown, hf⟩ := hm
  have hsz := hown.size_le
  have hseq : SeqGives Fence.wide 2 Try.prog 65 #[.pointer (some ⟨g, 0, none⟩)] encZ (fun ss => ss.Perm (intKeys D)) (Maps.size D) w :=
    AnyZI.keys_gives (ρ := Try.keysA_ren) { Try.keysA with } Fence.wide _ trivial rfl (by omega) g b n D _ (lt_block hg) (by rw [gblk hg]; rfl) hown
  have cS := AnyZI.sorted_in Try.sortedA Fence.wide 5 trivial trivial trivial trivial rfl (by omega) (sortsA _) (enters_of Try.func64 (by kernel_rfl) rfl) 65 #[.pointer (some ⟨g, 0, none⟩)] trivial (enters_of Try.func65 (by kernel_rfl) rfl) _ _ (by unfold maxLen; omega) (by omega) _ hseq
  change CallsIn _ _ Try.prog 35 _ _ _ at cS
  refine ((callsIn_wide (n := 5)).1 cS).mono ?_
  rintro e w' ⟨v, ss, rfl, hp, hrow, _, hb⟩
  refine ⟨hb, v, _, rfl, sorted_keys Try.underlying3 hown hf hp, ?_⟩
  rw [List.length_mergeSort]
  exact hrow
end Go.Proofs.Ytccmomebpdiimaa
