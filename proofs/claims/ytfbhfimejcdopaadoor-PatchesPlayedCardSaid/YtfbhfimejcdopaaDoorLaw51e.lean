/- The statement PatchesPlayed, walked. -/
import Derived.Test.YtfbhfimejcdopaaDoorM7
namespace Go.Proofs.YtfbhfimejcdopaaDoor
open Go.RowKit Go.Han
attribute [local irreducible] wpStill wpQuiet
set_option maxRecDepth 100000

theorem app_form {w : World} {base : Nat} {v : Value} {n : Nat} {p d : List Change} (h : w.ownsRow base 54 5 v n (cflat p ++ cflat d)) (hn : n = (p ++ d).length) :
    ∃ A c, v = .slice A (p ++ d).length c ∧ Rd w A (cflat (p ++ d)) := by
  subst hn
  have h1 : OwnL Change.cells 54 5 w base v (p ++ d) := by unfold OwnL; unfold cflat at h; rw [List.flatMap_append]; exact h
  obtain ⟨A, c, rfl, hr, _⟩ := h1.form (by decide)
  exact ⟨A, c, rfl, hr⟩
theorem count_take {d : List Change} {k : Nat} (h : k < d.length) : countW (d.take (k + 1)) = countW (d.take k) + if d[k].kind = 1 then 0 else 1 := by
  rw [List.take_succ_eq_append_getElem h, countW_app]
  congr 1
  unfold countW
  by_cases e : d[k].kind = 1
  · rw [if_pos e]; simp [e]
  · rw [if_neg e]; simp [e]
set_option maxHeartbeats 4000000 in
theorem PatchesPlayed_any (A : Option Addr) (cp : Nat) (p : List Change) (B : Option Addr) (cq : Nat) (b : List Spot) (t : Int) (w : World) (hT : Tabs w)
    (hr : Rd w A (cflat p)) (hm : p.length ≤ 9223372036854775807) (hr' : Rd w B (flat b)) (_ : B = none → b = []) (hm' : b.length ≤ 9223372036854775807) :
    Calls Tryd.prog 10 #[.slice A p.length cp, .slice B b.length cq, .int .i64 t] w (TruePost w) := by
  obtain ⟨i0, hi0, hz0, hs0, hb0⟩ := info_parts info_change
  have cF := Lib.hid (fun W (h : Below w.heap.size w W) => few51_any B none cq 0 b [] W (hr'.ext h) (Rd.nil _ _) hm' (by decide))
  have cC := Lib.hid (fun W (h : Below w.heap.size w W) => fewc49_any A cp p W (hr.ext h) hm)
  have cP := Lib.hid (fun W (h : Below w.heap.size w W) => Play_any A cp p t W (utf_ext hT h) (hr.ext h) hm)
  have cV := Lib.hid (fun W (h : Below w.heap.size w W) => Withdrawn_any A cp p t W (utf_ext hT h) (hr.ext h) hm)
  have cP2 := Lib.hid (fun W (h : Below w.heap.size w W) X cx l (h1 : Rd W X (cflat l)) h2 => Play_any X cx l t W (utf_ext hT h) h1 h2)
  have cV2 := Lib.hid (fun W (h : Below w.heap.size w W) X cx l (h1 : Rd W X (cflat l)) h2 => Withdrawn_any X cx l t W (utf_ext hT h) h1 h2)
  have cD := Lib.hid (fun W (h : Below w.heap.size w W) X cx l (h1 : Rd W X (flat l)) h2 => Diff51_any X cx l B cq b t W (utf_ext hT h) h1 h2 (hr'.ext h) hm')
  have cY := Lib.hid (fun W (h : Below w.heap.size w W) X cx (hy : Rd W X (flat b)) => same_spt X B cx cq b b.length W rfl hy (hr'.ext h) hm')
  have HRA := Lib.hid hr
  clear hr hr'
  generalize hpm : p.length = m at *
  have Hpm := Lib.hid hpm
  clear hpm
  go_enter Tryd.func10, Tryd.ntmps10
  go_wp2_with fail
  refine (sane51_any w hT).mono ?_
  rintro e w1 ⟨rfl, hb1⟩
  by_cases hp100 : (100 : Int) < m
  · go_wp2_with fail
    go_ret
    exact ⟨rfl, hb1⟩
  go_wp2_with fail
  refine (cC.out w1 hb1).mono ?_
  rintro e w' ⟨rfl, rfl⟩
  cases fewC p
  · go_wp2_with fail
    go_ret
    exact ⟨rfl, hb1⟩
  go_wp2_with fail
  refine (cF.out w1 hb1).mono ?_
  rintro e w' ⟨rfl, rfl⟩
  cases hfab : (fewB b && fewB [])
  · clear hfab
    go_wp2_with fail
    go_ret
    exact ⟨rfl, hb1⟩
  clear hfab
  by_cases hb60 : (60 : Int) < b.length
  · go_wp2_with fail
    go_ret
    exact ⟨rfl, hb1⟩
  clear cF cC
  have hp : m ≤ 100 := by omega
  have hpp : p.length ≤ 100 := by rw [Hpm.out]; exact hp
  have hbl : b.length ≤ 60 := by omega
  have d1 : decide ((100 : Int) < m) = false := decide_eq_false (by omega)
  have d2 : decide ((60 : Int) < b.length) = false := decide_eq_false (by omega)
  clear hp100 hb60
  have hlast : (p = [] ∨ ∃ n, ∃ (h : n < p.length), m = n + 1 ∧ p.getLast? = some p[n]) := by
    have hpm := Hpm.out
    rcases Nat.eq_zero_or_pos p.length with h | h
    · exact .inl (List.eq_nil_of_length_eq_zero h)
    · refine .inr ⟨p.length - 1, by omega, by omega, ?_⟩
      rw [List.getLast?_eq_getElem?, List.getElem?_eq_getElem]
  rcases hlast with hp0 | ⟨n, hn, hpn, hgl⟩
  · have hl : Hid (∀ c, p.getLast? = some c → c.at_ ≤ t) := by rw [hp0]; intro c hc; cases hc
    have g0 : m = 0 := by rw [← Hpm.out, hp0]; rfl
    clear hp0
    subst g0
    go_wp2_with fail
    refine (cP.out w1 hb1).mono ?_
    rintro e w2 ⟨hb2, h2⟩
    have hB2 := ext_trans hb1 hb2
    rcases h2 with ⟨hn, rfl⟩ | ⟨hn, v, rfl, hown⟩
    · have n1 : (playE p t == 0) = false := by simpa using hn
      clear hn
      go_wp2_with fail
      go_ret
      exact ⟨rfl, hB2⟩
    · obtain ⟨X, cx, rfl, hrx, _⟩ := own_form hown
      have hlen := play_len hpp hn
      have cDx := Lib.hid (cD.out w2 hB2 X cx _ hrx (by omega))
      have HN := Lib.hid hn
      clear hn hown
      go_wp2_with fail
      refine cDx.out.mono ?_
      rintro e w3 ⟨hb3, h3⟩
      have hB3 := ext_trans hB2 hb3
      rcases h3 with ⟨hd, rfl⟩ | ⟨hd, v3, rfl, hown3⟩
      · have n1 : (diffE (playL p t) b t == 0) = false := by simpa using hd
        clear hd
        go_wp2_with fail
        go_ret
        exact ⟨rfl, hB3⟩
      obtain ⟨D, cd, rfl, hrd, _⟩ := hown3.form (by decide)
      have hrd : Rd w3 D (cflat (diffL t (playL p t) b)) := hrd
      obtain ⟨_, q2, q3, q4, q5⟩ := played_law hpp hbl hl.out HN.out hd
      have Q3 := Lib.hid q3
      have Q4 := Lib.hid q4
      have Q5 := Lib.hid q5
      have hcw : countW (upTo t p) ≤ 0 := by rw [← Hpm.out]; exact Nat.le_trans (countW_le _) (by unfold upTo; exact (List.takeWhile_prefix _).length_le)
      clear hd hown3 q3 q4 q5 cDx hrx
      generalize diffL t (playL p t) b = d at *
      have hcd := countW_le d
      have A1 : 0 + 0 ≤ maxLen := by unfold maxLen; omega
      have A2 : (0 + 0) * 48 ≤ 140737488355328 := by omega
      have A3 : 0 + 0 + d.length ≤ maxLen := by unfold maxLen; omega
      have A4 : (0 + 0 + d.length) * 48 ≤ 140737488355328 := by omega
      have hr_p : Rd (w3.alloc (.cells #[] 54)) _ (cflat p) := HRA.out.ext (ext_alloc hB3 _)
      have hown0 : (w3.alloc (.cells #[] 54)).ownsRow w3.heap.size 54 5 (.slice (some ⟨w3.heap.size, 0, none⟩) 0 0) 0 [] := own_empty (World.alloc_heap_new w3 _) (Nat.le_refl _)
      have hz : w3.heap.size ≤ (w3.alloc (.cells #[] 54)).heap.size := by simp
      go_wp2_with (at_builtin; first | (have hmark := hown1; (refine wpList_append_rd rfl _ _ 46 rfl w3.heap.size 54 i0 _ 5 48 Tryd.underlying46 hi0 hz0 hs0 hb0 rfl (by decide) _ _ _ rfl D d.length cd (cflat d) rfl hown1 (cflat_len d) hr_d (cflat_one d) A3 A4 hz1 ?_; intro v5 w5 hown2 hgrow2 hat2; obtain ⟨Y, cy, rfl, hry⟩ := app_form hown2 (by simp [Hpm.out]); clear hmark)) | ((refine wpList_append_rd rfl _ _ 46 rfl w3.heap.size 54 i0 _ 5 48 Tryd.underlying46 hi0 hz0 hs0 hb0 rfl (by decide) _ _ _ rfl _ 0 _ (cflat p) rfl hown0 (by rw [cflat_len, Hpm.out]) hr_p (cflat_one p) A1 A2 hz ?_; intro v4 w4 hown1 hgrow1 hat1; have hz1 := Nat.le_trans hz hgrow1.size; have hb34 : Below w3.heap.size w3 w4 := (ext_alloc (Below.refl w3.heap.size w3) _).grown hgrow1 (by simp) (fun k hk => Nat.le_of_eq (Option.some.inj (show some w3.heap.size = some k from hk))); have hr_d := hrd.ext hb34; rw [List.nil_append] at hown1)))
      have hb35 : Below w3.heap.size w3 w5 := hb34.grown hgrow2 hz1 (fun k hk => (hown1.lt k hk).1)
      have HB5 := ext_trans hB3 hb35
      clear hown0 hown1 hown2 hgrow1 hgrow2 hr_p hr_d hat1 hat2 hb34
      have cPY := Lib.hid (cP2.out w5 HB5 Y cy (p ++ d) hry (by simp [Hpm.out]; omega))
      rw [List.length_append] at cPY
      clear cP2
      go_wp2_with fail
      refine cPY.out.mono ?_
      rintro e w6 ⟨hb6, h6⟩
      have HB6 := ext_trans HB5 hb6
      have hrd6 := hrd.ext (ext_trans hb35 hb6)
      rcases h6 with ⟨h0, _⟩ | ⟨_, v6, rfl, hown6⟩
      · exact absurd Q3.out h0
      rw [Q4.out] at hown6
      obtain ⟨X6, cx6, rfl, hrx6, _⟩ := own_form hown6
      have cV6 := Lib.hid (cV.out w6 HB6)
      clear hown6 cPY cV
      go_wp2_with fail
      refine cV6.out.mono ?_
      rintro e w7 ⟨hb7, rfl⟩
      have HB7 := ext_trans HB6 hb7
      rw [if_pos HN.out, HN.out]
      have hrd7 := hrd6.ext hb7
      have hrx7 := hrx6.ext hb7
      clear cV6 hrd6 hrx6
      have hr_pb : Rd (w7.alloc (.cells #[] 54)) _ (cflat p) := HRA.out.ext (ext_alloc HB7 _)
      have hown0b : (w7.alloc (.cells #[] 54)).ownsRow w7.heap.size 54 5 (.slice (some ⟨w7.heap.size, 0, none⟩) 0 0) 0 [] := own_empty (World.alloc_heap_new w7 _) (Nat.le_refl _)
      have hzb : w7.heap.size ≤ (w7.alloc (.cells #[] 54)).heap.size := by simp
      go_wp2_with (at_builtin; first | (have hmark := hown1b; (refine wpList_append_rd rfl _ _ 46 rfl w7.heap.size 54 i0 _ 5 48 Tryd.underlying46 hi0 hz0 hs0 hb0 rfl (by decide) _ _ _ rfl D d.length cd (cflat d) rfl hown1b (cflat_len d) hr_db (cflat_one d) A3 A4 hz1b ?_; intro v5b w5b hown2b hgrow2b hat2b; obtain ⟨Yb, cyb, rfl, hryb⟩ := app_form hown2b (by simp [Hpm.out]); clear hmark)) | ((refine wpList_append_rd rfl _ _ 46 rfl w7.heap.size 54 i0 _ 5 48 Tryd.underlying46 hi0 hz0 hs0 hb0 rfl (by decide) _ _ _ rfl _ 0 _ (cflat p) rfl hown0b (by rw [cflat_len, Hpm.out]) hr_pb (cflat_one p) A1 A2 hzb ?_; intro v4b w4b hown1b hgrow1b hat1b; have hz1b := Nat.le_trans hzb hgrow1b.size; have hb34b : Below w7.heap.size w7 w4b := (ext_alloc (Below.refl w7.heap.size w7) _).grown hgrow1b (by simp) (fun k hk => Nat.le_of_eq (Option.some.inj (show some w7.heap.size = some k from hk))); have hr_db := hrd7.ext hb34b; rw [List.nil_append] at hown1b)))
      have hb35b : Below w7.heap.size w7 w5b := hb34b.grown hgrow2b hz1b (fun k hk => (hown1b.lt k hk).1)
      have HB5b := ext_trans HB7 hb35b
      clear hown0b hown1b hown2b hgrow1b hgrow2b hr_pb hr_db hat1b hat2b hb34b
      have cVY := Lib.hid (cV2.out w5b HB5b Yb cyb (p ++ d) hryb (by simp [Hpm.out]; omega))
      rw [List.length_append] at cVY
      clear cV2
      go_wp2_with fail
      refine cVY.out.mono ?_
      rintro e w8 ⟨hb8, rfl⟩
      have HB8 := ext_trans HB5b hb8
      rw [if_pos Q3.out, Q3.out, Q5.out]
      have hrd8 := hrd7.ext (ext_trans hb35b hb8)
      have hrx8 := hrx7.ext (ext_trans hb35b hb8)
      have Hcw := Lib.hid hcw
      clear cVY hrd7 hrx7 hcw
      generalize countW (upTo t p) = N at *
      go_wp2_with fail
      go_loopw [17, 18] (fun mo i wr => ∃ k : Nat, k ≤ d.length ∧ i = .int .i64 k ∧ mo = .int .i64 (countW (d.take k)) ∧ Below w8.heap.size w8 wr) (fun _ i _ => d.length - (intOf i).toNat)
      case atStart => exact ⟨0, Nat.zero_le _, rfl, rfl, Below.refl _ _⟩
      case round =>
        obtain ⟨k, hk, rfl, rfl, hB⟩ := hrel
        have hcl : countW (d.take k) ≤ d.length := Nat.le_trans (countW_le _) (by rw [List.length_take]; exact Nat.min_le_right _ _)
        by_cases hlt : k < d.length
        · obtain ⟨bb, off2, rfl, hbd, hc⟩ := hrd8.elem Change.size_cells (by omega) hlt
          have c1 := (hB.cell (p := ⟨bb, off2 + k * 5 + 1, none⟩) hbd).trans (hc 1 _ rfl)
          have Hct := Lib.hid (count_take hlt)
          have hk64 : (k : Int) < d.length := by omega
          clear hc hrd8 cY
          generalize d[k].kind = kd at *
          generalize countW (d.take k) = mm at *
          by_cases hkd : kd = 1
          · have g1 : (kd != 1) = false := by simp [hkd]
            have Hct2 : Hid (countW (d.take (k + 1)) = mm) := by show _ = _; rw [Hct.out, if_pos hkd]; rfl
            clear hkd
            go_wp2_with fail
            go_roundw
            case rel => exact ⟨k + 1, by omega, by go_num, by rw [Hct2.out], hB⟩
            case measure => simp [intOf]; omega
          · have g1 : (kd == 1) = false := by simpa using hkd
            have Hct2 : Hid (countW (d.take (k + 1)) = mm + 1) := by show _ = _; rw [Hct.out, if_neg hkd]
            clear hkd
            go_wp2_with fail
            go_roundw
            case rel => exact ⟨k + 1, by omega, by go_num, by rw [Hct2.out]; go_num, hB⟩
            case measure => simp [intOf]; omega
        · obtain rfl : k = d.length := by omega
          rw [List.take_length] at hcl ⊢
          have HB9 := ext_trans HB8 hB
          have cS := Lib.hid (cY.out wr HB9 X6 cx6 (hrx8.ext hB))
          have hN := Hcw.out
          generalize countW d = M at *
          have hw1 : IntKind.i64.wrap ((N : Int) + (M : Int)) = ((N + M : Nat) : Int) := by rw [IntKind.wrap_i64]; omega
          have hw2 : ((N + M : Nat) : Int) = (N : Int) + (M : Int) := by omega
          clear hrd8 hrx8 cY
          go_wp2_with fail
          refine cS.out.mono ?_
          rintro e wF ⟨rfl, hbF⟩
          go_wp2_with fail
          go_ret
          exact ⟨by simp, ext_trans HB9 hbF⟩
  · obtain ⟨ba, off, rfl, hba, hca⟩ := HRA.out.elem Change.size_cells (by omega) hn
    have x0 := (hb1.cell (p := ⟨ba, off + n * 5 + 0, none⟩) hba).trans (hca 0 _ rfl)
    simp only [Nat.add_zero] at x0
    have w1' : IntKind.i64.wrap ((m : Int) - 1) = (n : Int) := by rw [IntKind.wrap_i64]; omega
    have w2' : (m : Int) - 1 = (n : Int) := by omega
    have w3' : (0 : Int) < m := by omega
    have w4' : (n : Int) < m := by omega
    have w5' : 0 < m := by omega
    clear hpn
    by_cases hgt : t < p[n].at_
    · clear hca
      generalize p[n].at_ = u at *
      go_wp2_with fail
      go_ret
      exact ⟨rfl, hb1⟩
    have hl : Hid (∀ c, p.getLast? = some c → c.at_ ≤ t) := by
      intro c hc; rw [hgl] at hc; cases hc; omega
    have g9 : decide (t < p[n].at_) = false := decide_eq_false hgt
    clear hca hgl hgt
    generalize p[n].at_ = u at *
    go_wp2_with fail
    clear x0 w1' w2' w3' w4' w5' g9 hba hn
    refine (cP.out w1 hb1).mono ?_
    rintro e w2 ⟨hb2, h2⟩
    have hB2 := ext_trans hb1 hb2
    rcases h2 with ⟨hn, rfl⟩ | ⟨hn, v, rfl, hown⟩
    · have n1 : (playE p t == 0) = false := by simpa using hn
      clear hn
      go_wp2_with fail
      go_ret
      exact ⟨rfl, hB2⟩
    · obtain ⟨X, cx, rfl, hrx, _⟩ := own_form hown
      have hlen := play_len hpp hn
      have cDx := Lib.hid (cD.out w2 hB2 X cx _ hrx (by omega))
      have HN := Lib.hid hn
      clear hn hown
      go_wp2_with fail
      refine cDx.out.mono ?_
      rintro e w3 ⟨hb3, h3⟩
      have hB3 := ext_trans hB2 hb3
      rcases h3 with ⟨hd, rfl⟩ | ⟨hd, v3, rfl, hown3⟩
      · have n1 : (diffE (playL p t) b t == 0) = false := by simpa using hd
        clear hd
        go_wp2_with fail
        go_ret
        exact ⟨rfl, hB3⟩
      obtain ⟨D, cd, rfl, hrd, _⟩ := hown3.form (by decide)
      have hrd : Rd w3 D (cflat (diffL t (playL p t) b)) := hrd
      obtain ⟨_, q2, q3, q4, q5⟩ := played_law hpp hbl hl.out HN.out hd
      have Q3 := Lib.hid q3
      have Q4 := Lib.hid q4
      have Q5 := Lib.hid q5
      have hcw : countW (upTo t p) ≤ m := by rw [← Hpm.out]; exact Nat.le_trans (countW_le _) (by unfold upTo; exact (List.takeWhile_prefix _).length_le)
      clear hd hown3 q3 q4 q5 cDx hrx
      generalize diffL t (playL p t) b = d at *
      have hcd := countW_le d
      have A1 : 0 + m ≤ maxLen := by unfold maxLen; omega
      have A2 : (0 + m) * 48 ≤ 140737488355328 := by omega
      have A3 : 0 + m + d.length ≤ maxLen := by unfold maxLen; omega
      have A4 : (0 + m + d.length) * 48 ≤ 140737488355328 := by omega
      have hr_p : Rd (w3.alloc (.cells #[] 54)) _ (cflat p) := HRA.out.ext (ext_alloc hB3 _)
      have hown0 : (w3.alloc (.cells #[] 54)).ownsRow w3.heap.size 54 5 (.slice (some ⟨w3.heap.size, 0, none⟩) 0 0) 0 [] := own_empty (World.alloc_heap_new w3 _) (Nat.le_refl _)
      have hz : w3.heap.size ≤ (w3.alloc (.cells #[] 54)).heap.size := by simp
      go_wp2_with (at_builtin; first | (have hmark := hown1; (refine wpList_append_rd rfl _ _ 46 rfl w3.heap.size 54 i0 _ 5 48 Tryd.underlying46 hi0 hz0 hs0 hb0 rfl (by decide) _ _ _ rfl D d.length cd (cflat d) rfl hown1 (cflat_len d) hr_d (cflat_one d) A3 A4 hz1 ?_; intro v5 w5 hown2 hgrow2 hat2; obtain ⟨Y, cy, rfl, hry⟩ := app_form hown2 (by simp [Hpm.out]); clear hmark)) | ((refine wpList_append_rd rfl _ _ 46 rfl w3.heap.size 54 i0 _ 5 48 Tryd.underlying46 hi0 hz0 hs0 hb0 rfl (by decide) _ _ _ rfl _ m _ (cflat p) rfl hown0 (by rw [cflat_len, Hpm.out]) hr_p (cflat_one p) A1 A2 hz ?_; intro v4 w4 hown1 hgrow1 hat1; have hz1 := Nat.le_trans hz hgrow1.size; have hb34 : Below w3.heap.size w3 w4 := (ext_alloc (Below.refl w3.heap.size w3) _).grown hgrow1 (by simp) (fun k hk => Nat.le_of_eq (Option.some.inj (show some w3.heap.size = some k from hk))); have hr_d := hrd.ext hb34; rw [List.nil_append] at hown1)))
      have hb35 : Below w3.heap.size w3 w5 := hb34.grown hgrow2 hz1 (fun k hk => (hown1.lt k hk).1)
      have HB5 := ext_trans hB3 hb35
      clear hown0 hown1 hown2 hgrow1 hgrow2 hr_p hr_d hat1 hat2 hb34
      have cPY := Lib.hid (cP2.out w5 HB5 Y cy (p ++ d) hry (by simp [Hpm.out]; omega))
      rw [List.length_append] at cPY
      clear cP2
      go_wp2_with fail
      refine cPY.out.mono ?_
      rintro e w6 ⟨hb6, h6⟩
      have HB6 := ext_trans HB5 hb6
      have hrd6 := hrd.ext (ext_trans hb35 hb6)
      rcases h6 with ⟨h0, _⟩ | ⟨_, v6, rfl, hown6⟩
      · exact absurd Q3.out h0
      rw [Q4.out] at hown6
      obtain ⟨X6, cx6, rfl, hrx6, _⟩ := own_form hown6
      have cV6 := Lib.hid (cV.out w6 HB6)
      clear hown6 cPY cV
      go_wp2_with fail
      refine cV6.out.mono ?_
      rintro e w7 ⟨hb7, rfl⟩
      have HB7 := ext_trans HB6 hb7
      rw [if_pos HN.out, HN.out]
      have hrd7 := hrd6.ext hb7
      have hrx7 := hrx6.ext hb7
      clear cV6 hrd6 hrx6
      have hr_pb : Rd (w7.alloc (.cells #[] 54)) _ (cflat p) := HRA.out.ext (ext_alloc HB7 _)
      have hown0b : (w7.alloc (.cells #[] 54)).ownsRow w7.heap.size 54 5 (.slice (some ⟨w7.heap.size, 0, none⟩) 0 0) 0 [] := own_empty (World.alloc_heap_new w7 _) (Nat.le_refl _)
      have hzb : w7.heap.size ≤ (w7.alloc (.cells #[] 54)).heap.size := by simp
      go_wp2_with (at_builtin; first | (have hmark := hown1b; (refine wpList_append_rd rfl _ _ 46 rfl w7.heap.size 54 i0 _ 5 48 Tryd.underlying46 hi0 hz0 hs0 hb0 rfl (by decide) _ _ _ rfl D d.length cd (cflat d) rfl hown1b (cflat_len d) hr_db (cflat_one d) A3 A4 hz1b ?_; intro v5b w5b hown2b hgrow2b hat2b; obtain ⟨Yb, cyb, rfl, hryb⟩ := app_form hown2b (by simp [Hpm.out]); clear hmark)) | ((refine wpList_append_rd rfl _ _ 46 rfl w7.heap.size 54 i0 _ 5 48 Tryd.underlying46 hi0 hz0 hs0 hb0 rfl (by decide) _ _ _ rfl _ m _ (cflat p) rfl hown0b (by rw [cflat_len, Hpm.out]) hr_pb (cflat_one p) A1 A2 hzb ?_; intro v4b w4b hown1b hgrow1b hat1b; have hz1b := Nat.le_trans hzb hgrow1b.size; have hb34b : Below w7.heap.size w7 w4b := (ext_alloc (Below.refl w7.heap.size w7) _).grown hgrow1b (by simp) (fun k hk => Nat.le_of_eq (Option.some.inj (show some w7.heap.size = some k from hk))); have hr_db := hrd7.ext hb34b; rw [List.nil_append] at hown1b)))
      have hb35b : Below w7.heap.size w7 w5b := hb34b.grown hgrow2b hz1b (fun k hk => (hown1b.lt k hk).1)
      have HB5b := ext_trans HB7 hb35b
      clear hown0b hown1b hown2b hgrow1b hgrow2b hr_pb hr_db hat1b hat2b hb34b
      have cVY := Lib.hid (cV2.out w5b HB5b Yb cyb (p ++ d) hryb (by simp [Hpm.out]; omega))
      rw [List.length_append] at cVY
      clear cV2
      go_wp2_with fail
      refine cVY.out.mono ?_
      rintro e w8 ⟨hb8, rfl⟩
      have HB8 := ext_trans HB5b hb8
      rw [if_pos Q3.out, Q3.out, Q5.out]
      have hrd8 := hrd7.ext (ext_trans hb35b hb8)
      have hrx8 := hrx7.ext (ext_trans hb35b hb8)
      have Hcw := Lib.hid hcw
      clear cVY hrd7 hrx7 hcw
      generalize countW (upTo t p) = N at *
      go_wp2_with fail
      go_loopw [17, 18] (fun mo i wr => ∃ k : Nat, k ≤ d.length ∧ i = .int .i64 k ∧ mo = .int .i64 (countW (d.take k)) ∧ Below w8.heap.size w8 wr) (fun _ i _ => d.length - (intOf i).toNat)
      case atStart => exact ⟨0, Nat.zero_le _, rfl, rfl, Below.refl _ _⟩
      case round =>
        obtain ⟨k, hk, rfl, rfl, hB⟩ := hrel
        have hcl : countW (d.take k) ≤ d.length := Nat.le_trans (countW_le _) (by rw [List.length_take]; exact Nat.min_le_right _ _)
        by_cases hlt : k < d.length
        · obtain ⟨bb, off2, rfl, hbd, hc⟩ := hrd8.elem Change.size_cells (by omega) hlt
          have c1 := (hB.cell (p := ⟨bb, off2 + k * 5 + 1, none⟩) hbd).trans (hc 1 _ rfl)
          have Hct := Lib.hid (count_take hlt)
          have hk64 : (k : Int) < d.length := by omega
          clear hc hrd8 cY
          generalize d[k].kind = kd at *
          generalize countW (d.take k) = mm at *
          by_cases hkd : kd = 1
          · have g1 : (kd != 1) = false := by simp [hkd]
            have Hct2 : Hid (countW (d.take (k + 1)) = mm) := by show _ = _; rw [Hct.out, if_pos hkd]; rfl
            clear hkd
            go_wp2_with fail
            go_roundw
            case rel => exact ⟨k + 1, by omega, by go_num, by rw [Hct2.out], hB⟩
            case measure => simp [intOf]; omega
          · have g1 : (kd == 1) = false := by simpa using hkd
            have Hct2 : Hid (countW (d.take (k + 1)) = mm + 1) := by show _ = _; rw [Hct.out, if_neg hkd]
            clear hkd
            go_wp2_with fail
            go_roundw
            case rel => exact ⟨k + 1, by omega, by go_num, by rw [Hct2.out]; go_num, hB⟩
            case measure => simp [intOf]; omega
        · obtain rfl : k = d.length := by omega
          rw [List.take_length] at hcl ⊢
          have HB9 := ext_trans HB8 hB
          have cS := Lib.hid (cY.out wr HB9 X6 cx6 (hrx8.ext hB))
          have hN := Hcw.out
          generalize countW d = M at *
          have hw1 : IntKind.i64.wrap ((N : Int) + (M : Int)) = ((N + M : Nat) : Int) := by rw [IntKind.wrap_i64]; omega
          have hw2 : ((N + M : Nat) : Int) = (N : Int) + (M : Int) := by omega
          clear hrd8 hrx8 cY
          go_wp2_with fail
          refine cS.out.mono ?_
          rintro e wF ⟨rfl, hbF⟩
          go_wp2_with fail
          go_ret
          exact ⟨by simp, ext_trans HB9 hbF⟩
end Go.Proofs.YtfbhfimejcdopaaDoor
