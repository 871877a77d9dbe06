/- Laws 39: AuditFirst. (Printed by wip/genfirst.py.) -/
import Derived.Test.YtccmomebpdiimaaM6
namespace Go.Proofs.Ytccmomebpdiimaa
open Go.RowKit Go.Han
attribute [local irreducible] wpStill wpQuiet
set_option maxRecDepth 100000

theorem find_is {A : Option Addr} {l : List House} {A2 : Option Addr} {s : List Sight} {kn a u n : Int} {f : Bool} {ae : Int} {w : World} (c c2 : Nat) (h : ArgsA w A l A2 s) (h1 : findR l s kn = (a, u, n, f)) (h2 : audE l s kn = ae) :
    Calls Try.prog 13 #[.slice A l.length c, .slice A2 s.length c2, .int .i64 kn] w fun e w' => e = .returned (.tuple #[.int .i64 a, .int .i64 u, .int .i64 n, .bool f, .int .i64 ae]) ∧ Below w.heap.size w w' := by
  have h' := FindA_any A c l A2 c2 s kn w h.hr h.hm h.hs h.hm2
  unfold FindPost at h'
  rw [h1, h2] at h'
  exact h'
theorem breaks_is {A : Option Addr} {l : List House} {A2 : Option Addr} {s : List Sight} {kn i t no : Int} {ok : Bool} {ae : Int} {w : World} (c c2 : Nat) (h : ArgsA w A l A2 s) (h1 : brkR l s kn i t no = ok) (h2 : audE l s kn = ae) :
    Calls Try.prog 15 #[.slice A l.length c, .slice A2 s.length c2, .int .i64 kn, .int .i64 i, .int .i64 t, .int .i64 no] w fun e w' => e = .returned (.tuple #[.bool ok, .int .i64 ae]) ∧ Below w.heap.size w w' := by
  have h' := BreaksA_any A c l A2 c2 s kn i t no w h.hr h.hm h.hs h.hm2
  unfold BrkPost at h'
  rw [h1, h2] at h'
  exact h'
theorem brkR_ok {l : List House} {s : List Sight} {kn i t no : Int} (h : audE l s kn = 0) : brkR l s kn i t no = brkB l s kn i t no := by unfold brkR; rw [decide_eq_true h, Bool.true_and]
/-- What Find returns, with what it means. -/
theorem findR_cases {l : List House} {s : List Sight} {kn : Int} (h : audE l s kn = 0) : (findR l s kn = (0, 0, 0, false) ∧ NoneV l s kn) ∨ ∃ (i : Nat) (t n : Int), findR l s kn = ((i : Int), t, n, true) ∧ FirstV l s kn i t n := by
  have hok : ∀ h ∈ l, h.Ok := fun x hx => (hasc_ok (hchk_ok (audE_ok h).1).2 x hx).1
  unfold findR
  rw [if_pos h]
  rcases findA_spec hok s kn with ⟨h1, h2⟩ | ⟨i, t, n, h1, h2⟩
  · rw [h1]; exact .inl ⟨rfl, h2⟩
  · rw [h1]; exact .inr ⟨i, t, n, rfl, h2⟩
theorem first_own {l : List House} {s : List Sight} {kn : Int} {i : Nat} {t n : Int} (h : FirstV l s kn i t n) : brkB l s kn (i : Int) t n = true := by
  obtain ⟨x, hx, hf⟩ := h.hit
  obtain ⟨hlt, rfl⟩ := List.getElem?_eq_some_iff.1 hx
  rw [brk_in hlt, hf]; simp
/-- A sight that is not there, or not then. -/
def outB (s : List Sight) (i t : Int) : Prop := i < 0 ∨ (s.length : Int) ≤ i ∨ ∃ k : Nat, ∃ h : k < s.length, i = (k : Int) ∧ (t < s[k].frm ∨ s[k].until_ ≤ t)
theorem brk_outB {l : List House} {s : List Sight} {kn i t no : Int} (h : outB s i t) : brkB l s kn i t no = false := by
  rcases h with h | h | ⟨k, hk, rfl, h⟩
  · exact brk_out (.inl h)
  · exact brk_out (.inr h)
  · rw [brk_in hk]
    unfold forb
    rw [if_pos h]; simp
/-- The verdict about what is there. -/
theorem verd_is {A : Option Addr} {l : List House} {kn t : Int} {x : Sight} {w : World} (c : Nat) (hr : Rd w A (hflat l)) (hm : l.length ≤ 9223372036854775807) (h0 : hchk l = 0) (hx : x.Ok) (g1 : x.frm ≤ t) (g2 : t < x.until_) (k0 : 0 ≤ kn) (k1 : kn < 1099511627776) :
    Calls Try.prog 17 #[.slice A l.length c, .int .i64 x.speaker, .int .i64 x.begun, .int .i64 x.lang, .int .i64 t, .int .i64 kn] w fun e w' => e = .returned (.tuple #[.int .i64 (verd l (askOf x t kn)).1, .int .i64 (verd l (askOf x t kn)).2, .int .i64 0]) ∧ Below w.heap.size w w' := by
  have h := Verdict_any A c l (askOf x t kn) w hr hm
  obtain ⟨e1, e2⟩ := verdR_ok h0 (ask_ok hx g1 g2 k0 k1)
  unfold VerdPost at h
  rw [e1, e2] at h
  exact h

set_option maxHeartbeats 8000000 in
theorem AuditFirst_any (A : Option Addr) (c : Nat) (l : List House) (A2 : Option Addr) (c2 : Nat) (s : List Sight) (kn i t no : Int) (w : World) (h : ArgsA w A l A2 s) :
    Calls Try.prog 5 #[.slice A l.length c, .slice A2 s.length c2, .int .i64 kn, .int .i64 i, .int .i64 t, .int .i64 no] w fun e w' => e = .returned (.bool true) ∧ Below w.heap.size w w' := by
  have cS := Lib.hid (sane39_any w)
  cases hf : (fewHB l.length && fewSB s.length)
  · have Hf := Lib.hid hf
    clear hf
    go_enter Try.func5, Try.ntmps5
    go_wp2_with fail
    refine cS.out.mono ?_
    rintro e w1 ⟨rfl, hb1⟩
    go_wp2_with fail
    refine (few_any _ _ _ _ _ _ w1).mono ?_
    rintro e w' ⟨rfl, rfl⟩
    rw [Hf.out]
    go_wp2_with fail
    go_ret
    exact ⟨rfl, hb1⟩
  have Hf := Lib.hid hf
  clear hf
  have H := Lib.hid h
  have hm2 := h.hm2
  clear h
  by_cases hae : audE l s kn = 0
  · obtain ⟨hchk, hsl, hso, k0, k1⟩ := audE_ok hae
    have HB := brkR_ok (i := i) (t := t) (no := no) hae
    have Hae := Lib.hid hae
    have Hchk := Lib.hid hchk
    have HSO := Lib.hid hso
    clear hae hchk hso
    have cFew := Lib.hid (fun (w1 : World) => few_any A c l.length A2 c2 s.length w1)
    rw [Hf.out] at cFew
    have where_ : outB s i t ∨ ∃ k : Nat, ∃ hk : k < s.length, i = (k : Int) ∧ s[k].frm ≤ t ∧ t < s[k].until_ := by
      unfold outB
      by_cases h1 : i < 0
      · exact .inl (.inl h1)
      · by_cases h2 : (s.length : Int) ≤ i
        · exact .inl (.inr (.inl h2))
        · obtain ⟨k, rfl⟩ := Int.eq_ofNat_of_zero_le (by omega : 0 ≤ i)
          have hk : k < s.length := by omega
          by_cases h3 : t < s[k].frm ∨ s[k].until_ ≤ t
          · exact .inl (.inr (.inr ⟨k, hk, rfl, h3⟩))
          · exact .inr ⟨k, hk, rfl, by omega, by omega⟩
    rcases findR_cases Hae.out with ⟨hR, hN⟩ | ⟨i0, t0, n0, hR, hV⟩
    · rcases where_ with hO | ⟨k, hk, rfl, g1, g2⟩
      · have hBR : brkR l s kn i t no = false := by rw [HB, brk_outB hO]
        have cF := Lib.hid (fun (W : World) (hW : Below w.heap.size w W) => find_is c c2 (H.out.ext hW) hR Hae.out)
        have cB := Lib.hid (fun (W : World) (hW : Below w.heap.size w W) => breaks_is (i := i) (t := t) (no := no) c c2 (H.out.ext hW) hBR Hae.out)
        clear hN
        clear hBR hR HB
        rcases hO with h1 | h1 | ⟨k, hk, rfl, h1⟩
        · have h1' : decide (0 ≤ i) = false := by simp; omega
          clear h1
          go_enter Try.func5, Try.ntmps5
          go_wp2_with fail
          refine cS.out.mono ?_
          rintro e w1 ⟨rfl, hb1⟩
          go_wp2_with fail
          refine (cFew.out w1).mono ?_
          rintro e w' ⟨rfl, rfl⟩
          go_wp2_with fail
          refine (cF.out w1 hb1).mono ?_
          rintro e w2 ⟨rfl, hb2⟩
          have hB2 := ext_trans hb1 hb2
          go_wp2_with fail
          refine (cB.out w2 hB2).mono ?_
          rintro e w3 ⟨rfl, hb3⟩
          have hB3 := ext_trans hB2 hb3
          go_wp2_with fail
          go_ret
          exact ⟨rfl, hB3⟩
        · have h0 : 0 ≤ i := by omega
          have h1' : decide (i < (s.length : Int)) = false := by simp; omega
          clear h1
          go_enter Try.func5, Try.ntmps5
          go_wp2_with fail
          refine cS.out.mono ?_
          rintro e w1 ⟨rfl, hb1⟩
          go_wp2_with fail
          refine (cFew.out w1).mono ?_
          rintro e w' ⟨rfl, rfl⟩
          go_wp2_with fail
          refine (cF.out w1 hb1).mono ?_
          rintro e w2 ⟨rfl, hb2⟩
          have hB2 := ext_trans hb1 hb2
          go_wp2_with fail
          refine (cB.out w2 hB2).mono ?_
          rintro e w3 ⟨rfl, hb3⟩
          have hB3 := ext_trans hB2 hb3
          go_wp2_with fail
          go_ret
          exact ⟨rfl, hB3⟩
        · obtain ⟨b, off, rfl, hb, hc⟩ := sig_elem H.out.hs hk
          have kk0 : (0 : Int) ≤ (k : Int) := by omega
          have kk1 : (k : Int) < s.length := by omega
          generalize s[k] = x at *
          have Hc := Lib.hid hc
          clear hc
          by_cases g1 : t < x.frm
          · have g1' : decide (x.frm ≤ t) = false := by simp; omega
            clear h1 g1
            go_enter Try.func5, Try.ntmps5
            go_wp2_with fail
            refine cS.out.mono ?_
            rintro e w1 ⟨rfl, hb1⟩
            go_wp2_with fail
            refine (cFew.out w1).mono ?_
            rintro e w' ⟨rfl, rfl⟩
            go_wp2_with fail
            refine (cF.out w1 hb1).mono ?_
            rintro e w2 ⟨rfl, hb2⟩
            have hB2 := ext_trans hb1 hb2
            go_wp2_with fail
            refine (cB.out w2 hB2).mono ?_
            rintro e w3 ⟨rfl, hb3⟩
            have hB3 := ext_trans hB2 hb3
            obtain ⟨d0, d1, d2, d3, d4⟩ := Hc.out w3 hB3
            go_wp2_with fail
            go_ret
            exact ⟨rfl, hB3⟩
          · have g1' : x.frm ≤ t := by omega
            have g2' : decide (t < x.until_) = false := by simp; omega
            clear h1 g1
            go_enter Try.func5, Try.ntmps5
            go_wp2_with fail
            refine cS.out.mono ?_
            rintro e w1 ⟨rfl, hb1⟩
            go_wp2_with fail
            refine (cFew.out w1).mono ?_
            rintro e w' ⟨rfl, rfl⟩
            go_wp2_with fail
            refine (cF.out w1 hb1).mono ?_
            rintro e w2 ⟨rfl, hb2⟩
            have hB2 := ext_trans hb1 hb2
            go_wp2_with fail
            refine (cB.out w2 hB2).mono ?_
            rintro e w3 ⟨rfl, hb3⟩
            have hB3 := ext_trans hB2 hb3
            obtain ⟨d0, d1, d2, d3, d4⟩ := Hc.out w3 hB3
            go_wp2_with fail
            go_ret
            exact ⟨rfl, hB3⟩
      · obtain ⟨b, off, rfl, hb, hc⟩ := sig_elem H.out.hs hk
        have kk0 : (0 : Int) ≤ (k : Int) := by omega
        have kk1 : (k : Int) < s.length := by omega
        have hxo := HSO.out _ (List.getElem_mem hk)
        have hxs : s[k]? = some s[k] := List.getElem?_eq_getElem hk
        have hbi : brkB l s kn (k : Int) t no = decide (forb l kn s[k] t = some no) := brk_in hk
        generalize s[k] = x at *
        have Hc := Lib.hid hc
        have hfv := forb_val (l := l) (kn := kn) g1 g2
        have hlm := H.out.hm
        have cV := Lib.hid (fun (W : World) (hW : Below w.heap.size w W) => verd_is (kn := kn) c (H.out.ext hW).hr hlm Hchk.out hxo g1 g2 k0 k1)
        generalize hvv : verd l (askOf x t kn) = vv at *
        clear hvv hc
        have hz : forb l kn x t = none := hN x (List.mem_of_getElem? hxs) t
        have hv0 : (vv.1 != 0) = false := by
          cases hb : (vv.1 != 0)
          · rfl
          · rw [hz, if_pos hb] at hfv; cases hfv
        have hBR : brkR l s kn (k : Int) t no = false := by rw [HB, hbi, hz]; simp
        have cF := Lib.hid (fun (W : World) (hW : Below w.heap.size w W) => find_is c c2 (H.out.ext hW) hR Hae.out)
        have cB := Lib.hid (fun (W : World) (hW : Below w.heap.size w W) => breaks_is (i := (k : Int)) (t := t) (no := no) c c2 (H.out.ext hW) hBR Hae.out)
        have g1' := g1
        clear hN hz hfv hBR hR HB hbi hxs hxo
        go_enter Try.func5, Try.ntmps5
        go_wp2_with fail
        refine cS.out.mono ?_
        rintro e w1 ⟨rfl, hb1⟩
        go_wp2_with fail
        refine (cFew.out w1).mono ?_
        rintro e w' ⟨rfl, rfl⟩
        go_wp2_with fail
        refine (cF.out w1 hb1).mono ?_
        rintro e w2 ⟨rfl, hb2⟩
        have hB2 := ext_trans hb1 hb2
        go_wp2_with fail
        refine (cB.out w2 hB2).mono ?_
        rintro e w3 ⟨rfl, hb3⟩
        have hB3 := ext_trans hB2 hb3
        obtain ⟨d0, d1, d2, d3, d4⟩ := Hc.out w3 hB3
        have hbw : b < w3.heap.size := Nat.lt_of_lt_of_le hb hB3.size
        have g0 := fun p => cell_ext (w := w3) (a := ⟨b, off + k * 5, none⟩) hbw d0 p
        have g1 := fun p => cell_ext (w := w3) (a := ⟨b, off + k * 5 + 1, none⟩) hbw d1 p
        have g2 := fun p => cell_ext (w := w3) (a := ⟨b, off + k * 5 + 2, none⟩) hbw d2 p
        have g3 := fun p => cell_ext (w := w3) (a := ⟨b, off + k * 5 + 3, none⟩) hbw d3 p
        have g4 := fun p => cell_ext (w := w3) (a := ⟨b, off + k * 5 + 4, none⟩) hbw d4 p
        have cV2 := Lib.hid (fun p : ExtBy w3 => cV.out p.to (ext_trans hB3 p.ext))
        go_wp2_with fail
        clear d0 d1 d2 d3 d4
        refine wp_region_ext (by kernel_rfl) (by kernel_rfl) ?_
        repeat (go_big_quiet_step ((go_at_call 17; exact Calls.ext_of (cV2.out _))))
        refine wpQuiet_nil ?_
        intro _ hw'
        obtain ⟨p, rfl⟩ := hw'
        have hBe := ext_trans hB3 p.ext
        clear g0 g3 g4 cV2
        go_wp2_with fail
        go_ret
        exact ⟨rfl, hBe⟩
    · rcases where_ with hO | ⟨k, hk, rfl, g1, g2⟩
      · have hBR : brkR l s kn i t no = false := by rw [HB, brk_outB hO]
        have cF := Lib.hid (fun (W : World) (hW : Below w.heap.size w W) => find_is c c2 (H.out.ext hW) hR Hae.out)
        have cB := Lib.hid (fun (W : World) (hW : Below w.heap.size w W) => breaks_is (i := i) (t := t) (no := no) c c2 (H.out.ext hW) hBR Hae.out)
        have cO := Lib.hid (fun (W : World) (hW : Below w.heap.size w W) => breaks_is (ok := true) (i := (i0 : Int)) (t := t0) (no := n0) c c2 (H.out.ext hW) (by rw [brkR_ok Hae.out]; exact first_own hV) Hae.out)
        clear hV
        clear hBR hR HB
        rcases hO with h1 | h1 | ⟨k, hk, rfl, h1⟩
        · have h1' : decide (0 ≤ i) = false := by simp; omega
          clear h1
          go_enter Try.func5, Try.ntmps5
          go_wp2_with fail
          refine cS.out.mono ?_
          rintro e w1 ⟨rfl, hb1⟩
          go_wp2_with fail
          refine (cFew.out w1).mono ?_
          rintro e w' ⟨rfl, rfl⟩
          go_wp2_with fail
          refine (cF.out w1 hb1).mono ?_
          rintro e w2 ⟨rfl, hb2⟩
          have hB2 := ext_trans hb1 hb2
          go_wp2_with fail
          refine (cB.out w2 hB2).mono ?_
          rintro e w3 ⟨rfl, hb3⟩
          have hB3 := ext_trans hB2 hb3
          go_wp2_with fail
          refine (cO.out _ hB3).mono ?_
          rintro e w5 ⟨rfl, hb5⟩
          go_wp2_with fail
          go_ret
          exact ⟨rfl, ext_trans hB3 hb5⟩
        · have h0 : 0 ≤ i := by omega
          have h1' : decide (i < (s.length : Int)) = false := by simp; omega
          clear h1
          go_enter Try.func5, Try.ntmps5
          go_wp2_with fail
          refine cS.out.mono ?_
          rintro e w1 ⟨rfl, hb1⟩
          go_wp2_with fail
          refine (cFew.out w1).mono ?_
          rintro e w' ⟨rfl, rfl⟩
          go_wp2_with fail
          refine (cF.out w1 hb1).mono ?_
          rintro e w2 ⟨rfl, hb2⟩
          have hB2 := ext_trans hb1 hb2
          go_wp2_with fail
          refine (cB.out w2 hB2).mono ?_
          rintro e w3 ⟨rfl, hb3⟩
          have hB3 := ext_trans hB2 hb3
          go_wp2_with fail
          refine (cO.out _ hB3).mono ?_
          rintro e w5 ⟨rfl, hb5⟩
          go_wp2_with fail
          go_ret
          exact ⟨rfl, ext_trans hB3 hb5⟩
        · obtain ⟨b, off, rfl, hb, hc⟩ := sig_elem H.out.hs hk
          have kk0 : (0 : Int) ≤ (k : Int) := by omega
          have kk1 : (k : Int) < s.length := by omega
          generalize s[k] = x at *
          have Hc := Lib.hid hc
          clear hc
          by_cases g1 : t < x.frm
          · have g1' : decide (x.frm ≤ t) = false := by simp; omega
            clear h1 g1
            go_enter Try.func5, Try.ntmps5
            go_wp2_with fail
            refine cS.out.mono ?_
            rintro e w1 ⟨rfl, hb1⟩
            go_wp2_with fail
            refine (cFew.out w1).mono ?_
            rintro e w' ⟨rfl, rfl⟩
            go_wp2_with fail
            refine (cF.out w1 hb1).mono ?_
            rintro e w2 ⟨rfl, hb2⟩
            have hB2 := ext_trans hb1 hb2
            go_wp2_with fail
            refine (cB.out w2 hB2).mono ?_
            rintro e w3 ⟨rfl, hb3⟩
            have hB3 := ext_trans hB2 hb3
            obtain ⟨d0, d1, d2, d3, d4⟩ := Hc.out w3 hB3
            go_wp2_with fail
            refine (cO.out _ hB3).mono ?_
            rintro e w5 ⟨rfl, hb5⟩
            go_wp2_with fail
            go_ret
            exact ⟨rfl, ext_trans hB3 hb5⟩
          · have g1' : x.frm ≤ t := by omega
            have g2' : decide (t < x.until_) = false := by simp; omega
            clear h1 g1
            go_enter Try.func5, Try.ntmps5
            go_wp2_with fail
            refine cS.out.mono ?_
            rintro e w1 ⟨rfl, hb1⟩
            go_wp2_with fail
            refine (cFew.out w1).mono ?_
            rintro e w' ⟨rfl, rfl⟩
            go_wp2_with fail
            refine (cF.out w1 hb1).mono ?_
            rintro e w2 ⟨rfl, hb2⟩
            have hB2 := ext_trans hb1 hb2
            go_wp2_with fail
            refine (cB.out w2 hB2).mono ?_
            rintro e w3 ⟨rfl, hb3⟩
            have hB3 := ext_trans hB2 hb3
            obtain ⟨d0, d1, d2, d3, d4⟩ := Hc.out w3 hB3
            go_wp2_with fail
            refine (cO.out _ hB3).mono ?_
            rintro e w5 ⟨rfl, hb5⟩
            go_wp2_with fail
            go_ret
            exact ⟨rfl, ext_trans hB3 hb5⟩
      · obtain ⟨b, off, rfl, hb, hc⟩ := sig_elem H.out.hs hk
        have kk0 : (0 : Int) ≤ (k : Int) := by omega
        have kk1 : (k : Int) < s.length := by omega
        have hxo := HSO.out _ (List.getElem_mem hk)
        have hxs : s[k]? = some s[k] := List.getElem?_eq_getElem hk
        have hbi : brkB l s kn (k : Int) t no = decide (forb l kn s[k] t = some no) := brk_in hk
        generalize s[k] = x at *
        have Hc := Lib.hid hc
        have hfv := forb_val (l := l) (kn := kn) g1 g2
        have hlm := H.out.hm
        have cV := Lib.hid (fun (W : World) (hW : Below w.heap.size w W) => verd_is (kn := kn) c (H.out.ext hW).hr hlm Hchk.out hxo g1 g2 k0 k1)
        generalize hvv : verd l (askOf x t kn) = vv at *
        clear hvv hc
        have cO := Lib.hid (fun (W : World) (hW : Below w.heap.size w W) => breaks_is (ok := true) (i := (i0 : Int)) (t := t0) (no := n0) c c2 (H.out.ext hW) (by rw [brkR_ok Hae.out]; exact first_own hV) Hae.out)
        cases hv0 : (vv.1 != 0)
        · have hz : forb l kn x t = none := by rw [hfv, hv0]; rfl
          have hBR : brkR l s kn (k : Int) t no = false := by rw [HB, hbi, hz]; simp
          have cF := Lib.hid (fun (W : World) (hW : Below w.heap.size w W) => find_is c c2 (H.out.ext hW) hR Hae.out)
          have cB := Lib.hid (fun (W : World) (hW : Below w.heap.size w W) => breaks_is (i := (k : Int)) (t := t) (no := no) c c2 (H.out.ext hW) hBR Hae.out)
          clear hV hz hfv hBR hR HB hbi hxs hxo
          go_enter Try.func5, Try.ntmps5
          go_wp2_with fail
          refine cS.out.mono ?_
          rintro e w1 ⟨rfl, hb1⟩
          go_wp2_with fail
          refine (cFew.out w1).mono ?_
          rintro e w' ⟨rfl, rfl⟩
          go_wp2_with fail
          refine (cF.out w1 hb1).mono ?_
          rintro e w2 ⟨rfl, hb2⟩
          have hB2 := ext_trans hb1 hb2
          go_wp2_with fail
          refine (cB.out w2 hB2).mono ?_
          rintro e w3 ⟨rfl, hb3⟩
          have hB3 := ext_trans hB2 hb3
          obtain ⟨d0, d1, d2, d3, d4⟩ := Hc.out w3 hB3
          have hbw : b < w3.heap.size := Nat.lt_of_lt_of_le hb hB3.size
          have g0 := fun p => cell_ext (w := w3) (a := ⟨b, off + k * 5, none⟩) hbw d0 p
          have g1 := fun p => cell_ext (w := w3) (a := ⟨b, off + k * 5 + 1, none⟩) hbw d1 p
          have g2 := fun p => cell_ext (w := w3) (a := ⟨b, off + k * 5 + 2, none⟩) hbw d2 p
          have g3 := fun p => cell_ext (w := w3) (a := ⟨b, off + k * 5 + 3, none⟩) hbw d3 p
          have g4 := fun p => cell_ext (w := w3) (a := ⟨b, off + k * 5 + 4, none⟩) hbw d4 p
          have cV2 := Lib.hid (fun p : ExtBy w3 => cV.out p.to (ext_trans hB3 p.ext))
          go_wp2_with fail
          clear d0 d1 d2 d3 d4
          refine wp_region_ext (by kernel_rfl) (by kernel_rfl) ?_
          repeat (go_big_quiet_step ((go_at_call 17; exact Calls.ext_of (cV2.out _))))
          refine wpQuiet_nil ?_
          intro _ hw'
          obtain ⟨p, rfl⟩ := hw'
          have hBe := ext_trans hB3 p.ext
          clear g0 g3 g4 cV2
          go_wp2_with fail
          refine (cO.out _ hBe).mono ?_
          rintro e w5 ⟨rfl, hb5⟩
          go_wp2_with fail
          go_ret
          exact ⟨rfl, ext_trans hBe hb5⟩
        · have hz : forb l kn x t = some vv.2 := by rw [hfv, hv0]; rfl
          have hBR : brkR l s kn (k : Int) t no = (vv.2 == no) := by
            rw [HB, hbi, hz]
            simp only [Option.some.injEq]
            rfl
          cases hno : (vv.2 == no)
          all_goals
            rw [hno] at hBR
            have cF := Lib.hid (fun (W : World) (hW : Below w.heap.size w W) => find_is c c2 (H.out.ext hW) hR Hae.out)
            have cB := Lib.hid (fun (W : World) (hW : Below w.heap.size w W) => breaks_is (i := (k : Int)) (t := t) (no := no) c c2 (H.out.ext hW) hBR Hae.out)
            have hle := hV.least k x t hxs (by rw [hz]; rfl)
            clear hV hz hfv hBR hR HB hbi hxs hxo
            rcases hle with hle | ⟨rfl, hle⟩
            · have q1 : decide (t < t0) = false := by simp; omega
              have q2 : (t0 == t) = false := by simp; omega
              clear hle
              go_enter Try.func5, Try.ntmps5
              go_wp2_with fail
              refine cS.out.mono ?_
              rintro e w1 ⟨rfl, hb1⟩
              go_wp2_with fail
              refine (cFew.out w1).mono ?_
              rintro e w' ⟨rfl, rfl⟩
              go_wp2_with fail
              refine (cF.out w1 hb1).mono ?_
              rintro e w2 ⟨rfl, hb2⟩
              have hB2 := ext_trans hb1 hb2
              go_wp2_with fail
              refine (cB.out w2 hB2).mono ?_
              rintro e w3 ⟨rfl, hb3⟩
              have hB3 := ext_trans hB2 hb3
              obtain ⟨d0, d1, d2, d3, d4⟩ := Hc.out w3 hB3
              have hbw : b < w3.heap.size := Nat.lt_of_lt_of_le hb hB3.size
              have g0 := fun p => cell_ext (w := w3) (a := ⟨b, off + k * 5, none⟩) hbw d0 p
              have g1 := fun p => cell_ext (w := w3) (a := ⟨b, off + k * 5 + 1, none⟩) hbw d1 p
              have g2 := fun p => cell_ext (w := w3) (a := ⟨b, off + k * 5 + 2, none⟩) hbw d2 p
              have g3 := fun p => cell_ext (w := w3) (a := ⟨b, off + k * 5 + 3, none⟩) hbw d3 p
              have g4 := fun p => cell_ext (w := w3) (a := ⟨b, off + k * 5 + 4, none⟩) hbw d4 p
              have cV2 := Lib.hid (fun p : ExtBy w3 => cV.out p.to (ext_trans hB3 p.ext))
              go_wp2_with fail
              clear d0 d1 d2 d3 d4
              refine wp_region_ext (by kernel_rfl) (by kernel_rfl) ?_
              repeat (go_big_quiet_step ((go_at_call 17; exact Calls.ext_of (cV2.out _))))
              refine wpQuiet_nil ?_
              intro _ hw'
              obtain ⟨p, rfl⟩ := hw'
              have hBe := ext_trans hB3 p.ext
              clear g0 g3 g4 cV2
              go_wp2_with fail
              refine (cO.out _ hBe).mono ?_
              rintro e w5 ⟨rfl, hb5⟩
              go_wp2_with fail
              go_ret
              exact ⟨rfl, ext_trans hBe hb5⟩
            · have q1 : decide (t0 < t0) = false := by simp
              have q2 : (t0 == t0) = true := by simp
              have q3 : decide (k < i0) = false := by simp; omega
              clear hle
              go_enter Try.func5, Try.ntmps5
              go_wp2_with fail
              refine cS.out.mono ?_
              rintro e w1 ⟨rfl, hb1⟩
              go_wp2_with fail
              refine (cFew.out w1).mono ?_
              rintro e w' ⟨rfl, rfl⟩
              go_wp2_with fail
              refine (cF.out w1 hb1).mono ?_
              rintro e w2 ⟨rfl, hb2⟩
              have hB2 := ext_trans hb1 hb2
              go_wp2_with fail
              refine (cB.out w2 hB2).mono ?_
              rintro e w3 ⟨rfl, hb3⟩
              have hB3 := ext_trans hB2 hb3
              obtain ⟨d0, d1, d2, d3, d4⟩ := Hc.out w3 hB3
              have hbw : b < w3.heap.size := Nat.lt_of_lt_of_le hb hB3.size
              have g0 := fun p => cell_ext (w := w3) (a := ⟨b, off + k * 5, none⟩) hbw d0 p
              have g1 := fun p => cell_ext (w := w3) (a := ⟨b, off + k * 5 + 1, none⟩) hbw d1 p
              have g2 := fun p => cell_ext (w := w3) (a := ⟨b, off + k * 5 + 2, none⟩) hbw d2 p
              have g3 := fun p => cell_ext (w := w3) (a := ⟨b, off + k * 5 + 3, none⟩) hbw d3 p
              have g4 := fun p => cell_ext (w := w3) (a := ⟨b, off + k * 5 + 4, none⟩) hbw d4 p
              have cV2 := Lib.hid (fun p : ExtBy w3 => cV.out p.to (ext_trans hB3 p.ext))
              go_wp2_with fail
              clear d0 d1 d2 d3 d4
              refine wp_region_ext (by kernel_rfl) (by kernel_rfl) ?_
              repeat (go_big_quiet_step ((go_at_call 17; exact Calls.ext_of (cV2.out _))))
              refine wpQuiet_nil ?_
              intro _ hw'
              obtain ⟨p, rfl⟩ := hw'
              have hBe := ext_trans hB3 p.ext
              clear g0 g3 g4 cV2
              go_wp2_with fail
              refine (cO.out _ hBe).mono ?_
              rintro e w5 ⟨rfl, hb5⟩
              go_wp2_with fail
              go_ret
              exact ⟨rfl, ext_trans hBe hb5⟩
  · have hR : findR l s kn = (0, 0, 0, false) := by unfold findR; rw [if_neg hae]
    have hBR : brkR l s kn i t no = false := by unfold brkR; rw [decide_eq_false hae]; rfl
    have hne : (audE l s kn != 0) = true := by simpa using hae
    have cF := Lib.hid (fun (W : World) (hW : Below w.heap.size w W) => find_is c c2 (H.out.ext hW) hR (rfl : audE l s kn = _))
    have cB := Lib.hid (fun (W : World) (hW : Below w.heap.size w W) => breaks_is c c2 (H.out.ext hW) hBR (rfl : audE l s kn = _))
    have cFew := Lib.hid (fun (w1 : World) => few_any A c l.length A2 c2 s.length w1)
    rw [Hf.out] at cFew
    generalize audE l s kn = ae at *
    clear hR hBR hae
    go_enter Try.func5, Try.ntmps5
    go_wp2_with fail
    refine cS.out.mono ?_
    rintro e w1 ⟨rfl, hb1⟩
    go_wp2_with fail
    refine (cFew.out w1).mono ?_
    rintro e w' ⟨rfl, rfl⟩
    go_wp2_with fail
    refine (cF.out w1 hb1).mono ?_
    rintro e w2 ⟨rfl, hb2⟩
    have hB2 := ext_trans hb1 hb2
    go_wp2_with fail
    refine (cB.out w2 hB2).mono ?_
    rintro e w3 ⟨rfl, hb3⟩
    have hB3 := ext_trans hB2 hb3
    go_wp2_with fail
    go_ret
    exact ⟨rfl, hB3⟩
end Go.Proofs.Ytccmomebpdiimaa
