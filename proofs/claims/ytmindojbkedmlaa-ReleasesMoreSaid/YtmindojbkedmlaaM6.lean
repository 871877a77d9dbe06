/- Texts of this claim, one after the other: Aud9, Law39a, Rel2, Rel3, Rel4, RelQ, RelR, MapS. -/
import Derived.Test.YtmindojbkedmlaaM5
import Derived.Test.YtmindojbkedmlaaM2
import Derived.Test.YtmindojbkedmlaaM4
import Derived.Control
/- Reference 39: Find, walked. -/
namespace Go.Proofs.Ytmindojbkedmlaa
open Go.RowKit Go.Han
attribute [local irreducible] wpStill wpQuiet
set_option maxRecDepth 100000

def Enc (o : Option (Nat × Int × Int)) (f : Bool) (a u n : Int) : Prop := (f = false ∧ o = none ∧ a = 0 ∧ u = 0 ∧ n = 0) ∨ ∃ j : Nat, f = true ∧ o = some (j, u, n) ∧ a = (j : Int)
def outD (l : List House) (s : List Sight) (k i : Nat) (t : Int) : Prop := i < k ∧ allD l s i t
def inD (l : List House) (s : List Sight) (x : Sight) (k j i : Nat) (t : Int) : Prop := outD l s k i t ∨ (i = k ∧ t ∈ (instO l x).take j)
theorem inD_succ {l : List House} {s : List Sight} {x : Sight} {k j : Nat} (hj : j < (instO l x).length) : ∀ i t, inD l s x k (j + 1) i t → inD l s x k j i t ∨ (i = k ∧ t = (instO l x)[j]) := by
  rintro i t (h | ⟨rfl, h⟩)
  · exact .inl (.inl h)
  · rw [List.take_succ_eq_append_getElem hj] at h
    rcases List.mem_append.1 h with h | h
    · exact .inl (.inr ⟨rfl, h⟩)
    · exact .inr ⟨rfl, by simpa using h⟩
theorem inD_le {l : List House} {s : List Sight} {x : Sight} {k j : Nat} : ∀ i t, inD l s x k j i t → i ≤ k := by
  rintro i t (h | ⟨rfl, h⟩)
  · exact Nat.le_of_lt h.1
  · exact Nat.le_refl _
theorem findR_enc {l : List House} {s : List Sight} {kn : Int} {o : Option (Nat × Int × Int)} {f : Bool} {a u n : Int} (h0 : audE l s kn = 0) (h : findA l s kn = o) (he : Enc o f a u n) : findR l s kn = (a, u, n, f) := by
  unfold findR
  rw [if_pos h0, h]
  rcases he with ⟨rfl, rfl, rfl, rfl, rfl⟩ | ⟨j, rfl, rfl, rfl⟩
  · rfl
  · rfl
set_option maxHeartbeats 4000000 in
theorem Find39_any (A : Option Addr) (c : Nat) (l : List House) (A2 : Option Addr) (c2 : Nat) (s : List Sight) (kn : Int) (w : World) (hr : Rd w A (hflat l)) (hm : l.length ≤ 9223372036854775807) (hs : Rd w A2 (sflat s)) (hm2 : s.length ≤ 9223372036854775807) :
    Calls Try.prog 12 #[.slice A l.length c, .slice A2 s.length c2, .int .i64 kn] w (FindPost l s kn w) := by
  have cC := Lib.hid (error39_any A c l A2 c2 s kn w hr hm hs hm2)
  unfold CheckPost at cC
  unfold FindPost
  by_cases hae : audE l s kn = 0
  · have Hae := Lib.hid hae
    obtain ⟨hchk, hsl, hso, k0, k1⟩ := audE_ok hae
    have hlen := (hchk_ok hchk).1
    have HOK : Hid (∀ h ∈ l, h.Ok) := fun h hh => (hasc_ok (hchk_ok hchk).2 h hh).1
    have HSO := Lib.hid hso
    have HA : Hid (AudOk w A l kn) := ⟨hr, hchk, k0, k1⟩
    rw [hae] at cC ⊢
    clear hae hchk hso k0 k1
    go_enter Try.func12, Try.ntmps12
    go_wp2_with fail
    refine cC.out.mono ?_
    rintro e w1 ⟨rfl, hb1⟩
    clear cC
    go_wp2_with fail
    go_loopw [12, 13, 14, 15, 16] (fun vf va vu vn i wr => ∃ (k : Nat) (f : Bool) (a u n : Int) (o : Option (Nat × Int × Int)), k ≤ s.length ∧ i = .int .i64 k ∧ vf = .bool f ∧ va = .int .i64 a ∧ vu = .int .i64 u ∧ vn = .int .i64 n ∧ Below w.heap.size w wr ∧ Hid (Enc o f a u n) ∧ Hid (BestOf l s kn (outD l s k) k o)) (fun _ _ _ _ i _ => s.length - (intOf i).toNat)
    case atStart => exact ⟨0, false, 0, 0, 0, none, Nat.zero_le _, rfl, rfl, rfl, rfl, rfl, hb1, .inl ⟨rfl, rfl, rfl, rfl, rfl⟩, ⟨fun _ i t x hd => absurd hd.1 (by omega), (fun j u n e => by cases e)⟩⟩
    case round =>
      obtain ⟨k, f, a, u, n, o, hk, rfl, rfl, rfl, rfl, rfl, hB, HE, HBO⟩ := hrel
      by_cases hlt : k < s.length
      · obtain ⟨b, off, rfl, hb, hc⟩ := sig_elem hs hlt
        obtain ⟨d0, d1, d2, d3, d4⟩ := hc wr hB
        have hxs : s[k]? = some s[k] := List.getElem?_eq_getElem hlt
        have hxo := HSO.out _ (List.getElem_mem hlt)
        have HC := Lib.hid hc
        have hlt2 : (k : Int) < s.length := by omega
        have kk0 : (0 : Int) ≤ (k : Int) := by omega
        generalize s[k] = x at *
        have cI := Lib.hid (Instants39_any A c l x wr (hr.ext hB) hlen)
        have Hxs := Lib.hid hxs
        have Hxo := Lib.hid hxo
        clear hc hxs hxo
        go_wp2_with fail
        refine cI.out.mono ?_
        rintro e w2 ⟨AI, cI2, rfl, hrI, hb2⟩
        have hB2 := ext_trans hB hb2
        have hln : (instO l x).length ≤ 3000 := by have := instO_len l x; omega
        have HrI := Lib.hid hrI
        clear d0 d1 d2 d3 d4 hrI cI
        go_wp2_with fail
        obtain ⟨wo, rfl⟩ : ∃ wo : World, wo = wr := ⟨_, rfl⟩
        go_loopw [12, 13, 14, 15, 18] (fun vf va vu vn i wr => ∃ (j : Nat) (f : Bool) (a u n : Int) (o : Option (Nat × Int × Int)), j ≤ (instO l x).length ∧ i = .int .i64 j ∧ vf = .bool f ∧ va = .int .i64 a ∧ vu = .int .i64 u ∧ vn = .int .i64 n ∧ Below w2.heap.size w2 wr ∧ Hid (Enc o f a u n) ∧ Hid (BestOf l s kn (inD l s x k j) k o)) (fun _ _ _ _ i _ => (instO l x).length - (intOf i).toNat)
        case atStart => exact ⟨0, f, a, u, n, o, Nat.zero_le _, rfl, rfl, rfl, rfl, rfl, Below.refl _ _, HE, HBO.out.mono (fun i t h => by rcases h with h | ⟨_, h⟩; exact h; simp at h) (Nat.le_refl _)⟩
        case round =>
          clear HE HBO
          obtain ⟨j, f, a, u, n, o, hj, rfl, rfl, rfl, rfl, rfl, hBj, HE, HBO⟩ := hrel
          have hBw := ext_trans hB2 hBj
          by_cases hltj : j < (instO l x).length
          · obtain ⟨d0, d1, d2, d3, d4⟩ := HC.out wr hBw
            obtain ⟨b6, off6, rfl, hlt6, hc6⟩ := HrI.out.at_ (k := j) (by rw [flat_len intC 1 (fun _ => rfl)]; omega)
            have ct := (hBj.cell (p := ⟨b6, off6 + j, none⟩) hlt6).trans (hc6 j (.int .i64 (instO l x)[j]) (by
              have := flat_get intC 1 (fun _ => rfl) (instO l x) j 0 hltj (by omega)
              simpa [intC] using this))
            have htm : (instO l x)[j] ∈ instO l x := List.getElem_mem hltj
            have hDs := inD_succ (s := s) (k := k) hltj
            clear hc6
            have hj2 : (j : Int) < (instO l x).length := by omega
            have j0 : (0 : Int) ≤ (j : Int) := by omega
            generalize (instO l x)[j] = t at *
            have hin : x.frm ≤ t ∧ t < x.until_ := by
              have h1 := Hxo.out.f1
              rcases mem_instO.1 htm with rfl | ⟨h2, h3, _⟩
              · omega
              · omega
            have hbr : b < wr.heap.size := Nat.lt_of_lt_of_le hb hBw.size
            have hb6 : b6 < wr.heap.size := Nat.lt_of_lt_of_le hlt6 hBj.size
            have g0 := fun p => cell_ext (w := wr) (a := ⟨b, off + k * 5, none⟩) hbr d0 p
            have g1 := fun p => cell_ext (w := wr) (a := ⟨b, off + k * 5 + 1, none⟩) hbr d1 p
            have g2 := fun p => cell_ext (w := wr) (a := ⟨b, off + k * 5 + 2, none⟩) hbr d2 p
            have g3 := fun p => cell_ext (w := wr) (a := ⟨b, off + k * 5 + 3, none⟩) hbr d3 p
            have g4 := fun p => cell_ext (w := wr) (a := ⟨b, off + k * 5 + 4, none⟩) hbr d4 p
            have g5 := fun p => cell_ext (w := wr) (a := ⟨b6, off6 + j, none⟩) hb6 ct p
            have cF := Lib.hid (fun p : ExtBy wr => forbid39_val A c l kn x t p.to (HA.out.ext (ext_trans hBw p.ext)) Hxo.out hin.1 hin.2)
            have hfv := forb_val (l := l) (kn := kn) hin.1 hin.2
            generalize verd l (askOf x t kn) = vv at *
            have Hfv := Lib.hid hfv
            have HDs := Lib.hid hDs
            clear hfv hDs d0 d1 d2 d3 d4 hin htm
            go_wp2_with fail
            clear ct
            refine wp_region_ext (by kernel_rfl) (by kernel_rfl) ?_
            repeat (go_big_quiet_step ((go_at_call 41; exact Calls.ext_of (cF.out _))))
            refine wpQuiet_nil ?_
            intro _ hw'
            obtain ⟨p, rfl⟩ := hw'
            have hBp := ext_trans hBj p.ext
            have f5 := g5 p
            clear g0 g1 g2 g3 g4 g5 cF
            generalize p.to = V at *
            cases hv : (vv.1 != 0)
            · have HBO2 : Hid (BestOf l s kn (inD l s x k (j + 1)) k o) := HBO.out.miss Hxs.out (by rw [Hfv.out, if_neg (by rw [hv]; decide)]) HDs.out
              clear HBO
              go_wp2_with fail
              go_roundw
              case rel => exact ⟨j + 1, f, a, u, n, o, by omega, by go_num, rfl, rfl, rfl, rfl, hBp, HE, HBO2⟩
              case measure => simp [intOf]; omega
            · have HBO2 : Hid (BestOf l s kn (inD l s x k (j + 1)) k (stepO o k t vv.2)) := HBO.out.hit Hxs.out (by rw [Hfv.out, if_pos hv]) HDs.out inD_le
              clear HBO
              rcases HE.out with ⟨rfl, rfl, rfl, rfl, rfl⟩ | ⟨j0, rfl, rfl, rfl⟩
              · have HE2 : Hid (Enc (stepO none k t vv.2) true (k : Int) t vv.2) := .inr ⟨k, rfl, rfl, rfl⟩
                clear HE
                go_wp2_with fail
                go_roundw
                case rel => exact ⟨j + 1, true, k, t, vv.2, _, by omega, by go_num, rfl, rfl, rfl, rfl, hBp, HE2, HBO2⟩
                case measure => simp [intOf]; omega
              · by_cases hlu : t < u
                · have HE2 : Hid (Enc (stepO (some (j0, u, n)) k t vv.2) true (k : Int) t vv.2) := .inr ⟨k, rfl, by unfold stepO; simp only; rw [if_pos hlu], rfl⟩
                  clear HE
                  go_wp2_with fail
                  go_roundw
                  case rel => exact ⟨j + 1, true, k, t, vv.2, _, by omega, by go_num, rfl, rfl, rfl, rfl, hBp, HE2, HBO2⟩
                  case measure => simp [intOf]; omega
                · have HE2 : Hid (Enc (stepO (some (j0, u, n)) k t vv.2) true (j0 : Int) u n) := .inr ⟨j0, rfl, by unfold stepO; simp only; rw [if_neg hlu], rfl⟩
                  have hlu' : decide (t < u) = false := decide_eq_false hlu
                  clear HE hlu
                  go_wp2_with fail
                  go_roundw
                  case rel => exact ⟨j + 1, true, j0, u, n, _, by omega, by go_num, rfl, rfl, rfl, rfl, hBp, HE2, HBO2⟩
                  case measure => simp [intOf]; omega
          · obtain rfl : j = (instO l x).length := by omega
            have HBO2 : Hid (BestOf l s kn (outD l s (k + 1)) (k + 1) o) := HBO.out.mono (fun i t h => by
              obtain ⟨h1, y, hy, ht⟩ := h
              rcases Nat.lt_or_ge i k with h2 | h2
              · exact .inl ⟨h2, y, hy, ht⟩
              · obtain rfl : i = k := by omega
                rw [Hxs.out] at hy
                cases hy
                exact .inr ⟨rfl, by rw [List.take_length]; exact ht⟩) (by omega)
            clear HBO
            go_wp2_with fail
            go_roundw
            case rel => exact ⟨k + 1, f, a, u, n, o, by omega, by go_num, rfl, rfl, rfl, rfl, hBw, HE, HBO2⟩
            case measure => simp [intOf]; omega
      · obtain rfl : k = s.length := by omega
        have HF : Hid (findR l s kn = (a, u, n, f)) := findR_enc Hae.out (best_find HOK.out (HBO.out.mono (fun i t h => ⟨by
          obtain ⟨x, hx, _⟩ := h
          exact (List.getElem?_eq_some_iff.1 hx).1, h⟩) (Nat.le_refl _))) HE.out
        clear HBO HE
        go_wp2_with fail
        refine bodyPost_ret (v := .tuple #[.int .i64 a, .int .i64 u, .int .i64 n, .bool f, .int .i64 0]) (by simp [results, Try.results12, go_sem]) rfl ⟨by rw [HF.out], hB⟩
  · have HR : Hid (findR l s kn = (0, 0, 0, false)) := by show _ = _; unfold findR; rw [if_neg hae]
    have h1 : (audE l s kn != 0) = true := by simpa using hae
    generalize audE l s kn = ae at *
    rw [HR.out]
    clear hae
    go_enter Try.func12, Try.ntmps12
    go_wp2_with fail
    refine cC.out.mono ?_
    rintro e w1 ⟨rfl, hb1⟩
    go_wp2_with fail
    refine bodyPost_ret (v := .tuple #[.int .i64 0, .int .i64 0, .int .i64 0, .bool false, .int .i64 ae]) (by simp [results, Try.results12, go_sem]) rfl ⟨rfl, hb1⟩
end Go.Proofs.Ytmindojbkedmlaa

/- Laws 39: few, sane. -/
namespace Go.Proofs.Ytmindojbkedmlaa
open Go.RowKit Go.Han
attribute [local irreducible] wpStill wpQuiet
set_option maxRecDepth 100000

def fewHB (n : Nat) : Bool := decide (n ≤ 30) || (decide (1024 < n) && decide (n ≤ 1100))
def fewSB (n : Nat) : Bool := decide (n ≤ 20) || (decide (4096 < n) && decide (n ≤ 4200))
theorem few35_any (A : Option Addr) (c n : Nat) (w : World) : Calls Try.prog 32 #[.slice A n c] w fun e w' => e = .returned (.bool (fewHB n)) ∧ w = w' := by
  unfold fewHB
  by_cases h1 : n ≤ 30
  · have h1' : (n : Int) ≤ 30 := by omega
    go_enter Try.func32, Try.ntmps32
    go_wp2
    go_ret
    simp [h1]
  · have h1' : decide ((n : Int) ≤ 30) = false := by simp; omega
    by_cases h2 : 1024 < n
    · have h2' : (1024 : Int) < n := by omega
      by_cases h3 : n ≤ 1100
      · have h3' : decide ((n : Int) ≤ 1100) = true := by simp; omega
        go_enter Try.func32, Try.ntmps32
        go_wp2
        go_ret
        simp [h1, h2, h3]
      · have h3' : decide ((n : Int) ≤ 1100) = false := by simp; omega
        go_enter Try.func32, Try.ntmps32
        go_wp2
        go_ret
        simp [h1, h2, h3]
    · have h2' : decide ((1024 : Int) < n) = false := by simp; omega
      go_enter Try.func32, Try.ntmps32
      go_wp2
      go_ret
      simp [h1, h2]
theorem few39_any (A : Option Addr) (c n : Nat) (w : World) : Calls Try.prog 33 #[.slice A n c] w fun e w' => e = .returned (.bool (fewSB n)) ∧ w = w' := by
  unfold fewSB
  by_cases h1 : n ≤ 20
  · have h1' : (n : Int) ≤ 20 := by omega
    go_enter Try.func33, Try.ntmps33
    go_wp2
    go_ret
    simp [h1]
  · have h1' : decide ((n : Int) ≤ 20) = false := by simp; omega
    by_cases h2 : 4096 < n
    · have h2' : (4096 : Int) < n := by omega
      by_cases h3 : n ≤ 4200
      · have h3' : decide ((n : Int) ≤ 4200) = true := by simp; omega
        go_enter Try.func33, Try.ntmps33
        go_wp2
        go_ret
        simp [h1, h2, h3]
      · have h3' : decide ((n : Int) ≤ 4200) = false := by simp; omega
        go_enter Try.func33, Try.ntmps33
        go_wp2
        go_ret
        simp [h1, h2, h3]
    · have h2' : decide ((4096 : Int) < n) = false := by simp; omega
      go_enter Try.func33, Try.ntmps33
      go_wp2
      go_ret
      simp [h1, h2]
theorem few_any (A : Option Addr) (c n : Nat) (A2 : Option Addr) (c2 m : Nat) (w : World) : Calls Try.prog 10 #[.slice A n c, .slice A2 m c2] w fun e w' => e = .returned (.bool (fewHB n && fewSB m)) ∧ w = w' := by
  cases h : fewHB n
  · have H := Lib.hid h
    clear h
    go_enter Try.func10, Try.ntmps10
    go_wp2_with fail
    refine (few35_any _ _ _ _).mono ?_
    rintro e w' ⟨rfl, rfl⟩
    rw [H.out]
    go_wp2
    go_ret
    exact ⟨rfl, rfl⟩
  · have H := Lib.hid h
    clear h
    go_enter Try.func10, Try.ntmps10
    go_wp2_with fail
    refine (few35_any _ _ _ _).mono ?_
    rintro e w' ⟨rfl, rfl⟩
    rw [H.out]
    go_wp2_with fail
    refine (few39_any _ _ _ _).mono ?_
    rintro e w' ⟨rfl, rfl⟩
    go_wp2
    go_ret
    exact ⟨by simp, rfl⟩
def strikeH (no frm kn : Int) : House := ⟨no, 1, -1, 0, 10, -1, frm, 1099511627776, kn, 0⟩
theorem strike_any (no frm kn : Int) (w : World) : Calls Try.prog 30 #[.int .i64 no, .int .i64 frm, .int .i64 kn] w fun e w' => e = .returned (strikeH no frm kn).val ∧ Below w.heap.size w w' := by
  unfold strikeH House.val
  go_enter Try.func30, Try.ntmps30
  go_wp2_with fail
  exact bodyPost_ret (v := .agg #[.int .i64 no, .int .i64 1, .int .i64 (-1), .int .i64 0, .int .i64 10, .int .i64 (-1), .int .i64 frm, .int .i64 1099511627776, .int .i64 kn, .int .i64 0]) (by simp [results, Try.results30, go_sem]) rfl ⟨rfl, ext_alloc (Below.refl _ _) _⟩
theorem find_at {l : List House} {s : List Sight} {kn i t no : Int} {ok : Bool} {ae : Int} (A : Option Addr) (c : Nat) (A2 : Option Addr) (c2 : Nat) (w : World) (hr : Rd w A (hflat l)) (hs : Rd w A2 (sflat s)) (h1 : findR l s kn = (i, t, no, ok)) (h2 : audE l s kn = ae) (hm : l.length ≤ 1000) (hm2 : s.length ≤ 1000) :
    Calls Try.prog 11 #[.slice A l.length c, .slice A2 s.length c2, .int .i64 kn] w fun e w' => e = .returned (.tuple #[.int .i64 i, .int .i64 t, .int .i64 no, .bool ok, .int .i64 ae]) ∧ Below w.heap.size w w' := by
  have h := FindA_any A c l A2 c2 s kn w hr (by omega) hs (by omega)
  unfold FindPost at h
  rw [h1, h2] at h
  exact h
theorem breaks_at {l : List House} {s : List Sight} {kn i t no : Int} {ok : Bool} {ae : Int} (A : Option Addr) (c : Nat) (A2 : Option Addr) (c2 : Nat) (w : World) (hr : Rd w A (hflat l)) (hs : Rd w A2 (sflat s)) (h1 : brkR l s kn i t no = ok) (h2 : audE l s kn = ae) (hm : l.length ≤ 1000) (hm2 : s.length ≤ 1000) :
    Calls Try.prog 31 #[.slice A l.length c, .slice A2 s.length c2, .int .i64 kn, .int .i64 i, .int .i64 t, .int .i64 no] w fun e w' => e = .returned (.tuple #[.bool ok, .int .i64 ae]) ∧ Below w.heap.size w w' := by
  have h := BreaksA_any A c l A2 c2 s kn i t no w hr (by omega) hs (by omega)
  unfold BrkPost at h
  rw [h1, h2] at h
  exact h
abbrev lS : List House := [strikeH 6 20 25]
abbrev sS : List Sight := [⟨0, 5, 0, 10, 30⟩]
abbrev sZ : List Sight := [⟨0, 0, 0, 0, 0⟩]
theorem ex1 : findR lS sS 25 = (0, 20, 6, true) ∧ audE lS sS 25 = 0 := ⟨by kernel_rfl, by kernel_rfl⟩
theorem ex2 : findR lS sS 24 = (0, 0, 0, false) ∧ audE lS sS 24 = 0 := ⟨by kernel_rfl, by kernel_rfl⟩
theorem ex3 : brkR lS sS 25 0 25 6 = true ∧ brkR lS sS 25 0 25 5 = false ∧ brkR lS sS 25 0 19 6 = false := ⟨by kernel_rfl, by kernel_rfl, by kernel_rfl⟩
theorem ex4 : findR [] [] 0 = (0, 0, 0, false) ∧ audE [] [] 0 = 0 := ⟨by kernel_rfl, by kernel_rfl⟩
theorem ex5 : findR [] sZ 0 = (0, 0, 0, false) ∧ audE [] sZ 0 = 390 := ⟨by kernel_rfl, by kernel_rfl⟩
theorem ex6 : findR [] [] (-1) = (0, 0, 0, false) ∧ audE [] [] (-1) = 1 := ⟨by kernel_rfl, by kernel_rfl⟩
theorem ex7 : brkR [] [] 0 0 0 0 = false := by kernel_rfl
end Go.Proofs.Ytmindojbkedmlaa

/- Releases: the error of the arguments, few decisions. -/
namespace Go.Proofs.Ytmindojbkedmlaa
open Go.RowKit Go.Han
attribute [local irreducible] wpStill wpQuiet
set_option maxRecDepth 100000

def RelPost (l : List House) (s b g kn : Int) (w : World) (e : Ending) (w' : World) : Prop := e = .returned (.int .i64 (relE l s b g kn)) ∧ Below w.heap.size w w'
theorem few38_any (A : Option Addr) (c n : Nat) (w : World) : Calls Try.prog 14 #[.slice A n c] w fun e w' => e = .returned (.bool (fewHB n)) ∧ w = w' := by
  unfold fewHB
  by_cases h1 : n ≤ 30
  · have q1 : decide ((n : Int) ≤ 30) = true := by simp; omega
    go_enter Try.func14, Try.ntmps14
    go_wp2_with fail
    go_ret
    exact ⟨by simp [h1], rfl⟩
  · have q1 : decide ((n : Int) ≤ 30) = false := by simp; omega
    by_cases h2 : 1024 < n
    · have q2 : decide ((1024 : Int) < n) = true := by simp; omega
      by_cases h3 : n ≤ 1100
      · have q3 : decide ((n : Int) ≤ 1100) = true := by simp; omega
        go_enter Try.func14, Try.ntmps14
        go_wp2_with fail
        go_ret
        exact ⟨by simp [h2, h3], rfl⟩
      · have q3 : decide ((n : Int) ≤ 1100) = false := by simp; omega
        go_enter Try.func14, Try.ntmps14
        go_wp2_with fail
        go_ret
        exact ⟨by simp [h1, h3], rfl⟩
    · have q2 : decide ((1024 : Int) < n) = false := by simp; omega
      go_enter Try.func14, Try.ntmps14
      go_wp2_with fail
      go_ret
      exact ⟨by simp [h1, h2], rfl⟩
set_option maxHeartbeats 2000000 in
theorem error38_any (A : Option Addr) (c : Nat) (l : List House) (s b g kn : Int) (w : World) (hr : Rd w A (hflat l)) (hm : l.length ≤ 9223372036854775807) :
    Calls Try.prog 45 #[.slice A l.length c, .int .i64 s, .int .i64 b, .int .i64 g, .int .i64 kn] w (RelPost l s b g kn w) := by
  have cC := Lib.hid (check35_any A c l w hr hm)
  unfold RelPost
  by_cases hc : hchk l = 0
  · have HE : Hid (relE l s b g kn = if spkB s && timeB b && lngB g && timeB kn then 0 else 1) := by show _ = _; unfold relE; rw [if_pos hc]
    rw [hc] at cC
    clear hc
    generalize relE l s b g kn = re at *
    have c1 := Lib.hid (fun W => spk35_any s W)
    have c2 := Lib.hid (fun W => time35_any b W)
    have c3 := Lib.hid (fun W => lng35_any g W)
    have c4 := Lib.hid (fun W => time35_any kn W)
    generalize spkB s = p1 at *
    generalize timeB b = p2 at *
    generalize lngB g = p3 at *
    generalize timeB kn = p4 at *
    go_enter Try.func45, Try.ntmps45
    go_wp2_with fail
    refine cC.out.mono ?_
    rintro e w1 ⟨rfl, hb1⟩
    clear cC
    cases p1 <;> cases p2 <;> cases p3 <;> cases p4
    all_goals
      have HF : Hid (re = _) := HE.out
      clear HE
      go_wp2_with (first | (go_at_call 60; refine (c1.out _).mono ?_; rintro e w' ⟨rfl, rfl⟩) | (go_at_call 61; refine (c3.out _).mono ?_; rintro e w' ⟨rfl, rfl⟩) | (go_at_call_of 48 (Value.int .i64 b); refine (c2.out _).mono ?_; rintro e w' ⟨rfl, rfl⟩) | (go_at_call_of 48 (Value.int .i64 kn); refine (c4.out _).mono ?_; rintro e w' ⟨rfl, rfl⟩))
      go_ret
      exact ⟨by rw [HF.out]; rfl, hb1⟩
  · have HE : Hid (relE l s b g kn = hchk l) := by show _ = _; unfold relE; rw [if_neg hc]
    rw [HE.out]
    have hc1 : (hchk l != 0) = true := by simpa using hc
    generalize hchk l = hk at *
    clear hc HE
    go_enter Try.func45, Try.ntmps45
    go_wp2_with fail
    refine cC.out.mono ?_
    rintro e w1 ⟨rfl, hb1⟩
    go_wp2_with fail
    go_ret
    exact ⟨rfl, hb1⟩
set_option maxHeartbeats 2000000 in
theorem checkR_any (A : Option Addr) (c : Nat) (l : List House) (s b g kn : Int) (w : World) (hr : Rd w A (hflat l)) (hm : l.length ≤ 9223372036854775807) :
    Calls Try.prog 42 #[.slice A l.length c, .int .i64 s, .int .i64 b, .int .i64 g, .int .i64 kn] w (RelPost l s b g kn w) := by
  have cC := Lib.hid (CheckH_any A c l w hr hm)
  unfold RelPost
  by_cases hc : hchk l = 0
  · have HE : Hid (relE l s b g kn = if spkB s && timeB b && lngB g && timeB kn then 0 else 1) := by show _ = _; unfold relE; rw [if_pos hc]
    rw [hc] at cC
    clear hc
    generalize relE l s b g kn = re at *
    obtain ⟨p1, h1⟩ : ∃ p, decide (s < 0) = p := ⟨_, rfl⟩
    obtain ⟨p2, h2⟩ : ∃ p, decide (64 ≤ s) = p := ⟨_, rfl⟩
    obtain ⟨p3, h3⟩ : ∃ p, decide (b < 0) = p := ⟨_, rfl⟩
    obtain ⟨p4, h4⟩ : ∃ p, decide (1099511627776 ≤ b) = p := ⟨_, rfl⟩
    obtain ⟨p5, h5⟩ : ∃ p, decide (g < 0) = p := ⟨_, rfl⟩
    obtain ⟨p6, h6⟩ : ∃ p, decide (32 ≤ g) = p := ⟨_, rfl⟩
    obtain ⟨p7, h7⟩ : ∃ p, decide (kn < 0) = p := ⟨_, rfl⟩
    obtain ⟨p8, h8⟩ : ∃ p, decide (1099511627776 ≤ kn) = p := ⟨_, rfl⟩
    have HF : Hid (re = if p1 || p2 || p3 || p4 || p5 || p6 || p7 || p8 then 1 else 0) := by
      show _ = _
      rw [HE.out, ← h1, ← h2, ← h3, ← h4, ← h5, ← h6, ← h7, ← h8]
      have e : (spkB s && timeB b && lngB g && timeB kn) = !(decide (s < 0) || decide (64 ≤ s) || decide (b < 0) || decide (1099511627776 ≤ b) || decide (g < 0) || decide (32 ≤ g) || decide (kn < 0) || decide (1099511627776 ≤ kn)) := by
        rw [Bool.eq_iff_iff]
        simp only [Bool.and_eq_true, spkB_iff, timeB_iff, lngB_iff, Bool.not_eq_true', Bool.or_eq_false_iff, decide_eq_false_iff_not]
        omega
      rw [e]
      cases (decide (s < 0) || decide (64 ≤ s) || decide (b < 0) || decide (1099511627776 ≤ b) || decide (g < 0) || decide (32 ≤ g) || decide (kn < 0) || decide (1099511627776 ≤ kn)) <;> rfl
    clear HE
    go_enter Try.func42, Try.ntmps42
    go_wp2_with fail
    refine cC.out.mono ?_
    rintro e w1 ⟨rfl, hb1⟩
    clear cC
    go_wp2_with fail
    all_goals
      go_ret
      exact ⟨by rw [HF.out]; simp [*], hb1⟩
  · have HE : Hid (relE l s b g kn = hchk l) := by show _ = _; unfold relE; rw [if_neg hc]
    rw [HE.out]
    have hc1 : (hchk l != 0) = true := by simpa using hc
    generalize hchk l = hk at *
    clear hc HE
    go_enter Try.func42, Try.ntmps42
    go_wp2_with fail
    refine cC.out.mono ?_
    rintro e w1 ⟨rfl, hb1⟩
    go_wp2_with fail
    go_ret
    exact ⟨rfl, hb1⟩
end Go.Proofs.Ytmindojbkedmlaa

/- Releases: the reference's put. -/
namespace Go.Proofs.Ytmindojbkedmlaa
open Go.RowKit Go.Han
attribute [local irreducible] wpStill wpQuiet
set_option maxRecDepth 100000

theorem run_upto_i (A : Option Addr) (cp n k : Nat) (W : World) (h : k ≤ n) (hc : n ≤ cp) :
    (Instr.slice 68 (.slice A n cp) none (some (.int .i64 k)) none).run Try.prog W = .ok (.slice (subA A cp 0 1) k cp) W := by
  have e := run_slice_h (P := Try.prog) (w := W) 68 A n cp (by rw [Try.underlying68]; rfl) .i64 (k : Int) (by omega) (by omega)
  rw [e]
  have h2 : ((k : Int)).toNat = k := by omega
  rw [h2]
  have h3 : (Go.sizeOf (Try.prog.elem 68)).run Try.prog W = .ok 1 W := by kernel_rfl
  rw [h3]
  rfl
theorem run_from_i (A : Option Addr) (cp n k : Nat) (W : World) (h : k ≤ n) :
    (Instr.slice 68 (.slice A n cp) (some (.int .i64 k)) none none).run Try.prog W = .ok (.slice (subA A cp k 1) (n - k) (cp - k)) W := by
  have e := run_slice_l (P := Try.prog) (w := W) 68 A n cp (by rw [Try.underlying68]; rfl) .i64 (k : Int) (by omega) (by omega)
  rw [e]
  have h2 : ((k : Int)).toNat = k := by omega
  rw [h2]
  have h3 : (Go.sizeOf (Try.prog.elem 68)).run Try.prog W = .ok 1 W := by kernel_rfl
  rw [h3]
  rfl
theorem ints_len (l : List Int) : (l.flatMap intC).length = l.length * 1 := flat_len intC 1 (fun _ => rfl) l
theorem ints_one (l : List Int) : ∀ u ∈ l.flatMap intC, u.oneCell' = true := by
  intro u hu
  obtain ⟨x, _, hx⟩ := List.mem_flatMap.1 hu
  exact intC_one x u hx
theorem stepI {w : World} {ops : Array Oper} {o : Oper} {a : Act} {K : Act → World → Prop} {Q : Exit → Act → World → Prop} {E : Prop} (hgd : o.guard = none) (s x : Operand)
    (ho : o.op = .call { callee := .builtin .append, args := #[s, x], argTypes := #[68, 68] })
    (base : Nat) (v : Value) (l : List Int) (hs : a.eval s = v) (B : Option Addr) (m c : Nat) (ys : List Int) (hx : a.eval x = .slice B m c) (hm : ys.length = m)
    (hown : OwnI w base v l) (hr : Rd w B (ys.flatMap intC)) (hbd : l.length + ys.length ≤ 9000) (hbase : base ≤ w.heap.size)
    (h : ∀ v' w', OwnI w' base v' (l ++ ys) → (∀ W : World, W.heap.size = base → Below W.heap.size W w → Below W.heap.size W w') → w.grownBy w' v.ownBlock → (v'.ownBlock = v.ownBlock ∨ v'.ownBlock = some w.heap.size) → K (a.put o.dst v') w') :
    if Region.wanted o (yielded ops a.tmps) = true then Oper.wp Try.prog o a w K Q else E := by
  obtain ⟨i0, hi0, iz0, is0, ib0⟩ := info_parts info_intA
  subst hm
  refine step_append_rd hgd s x 68 ho base 3 i0 _ 1 8 Try.underlying68 hi0 iz0 is0 ib0 rfl (by decide) v l.length (l.flatMap intC) hs B ys.length c (ys.flatMap intC) hx hown (ints_len ys) hr (ints_one ys) (by unfold maxLen; omega) (by omega) hbase ?_
  intro v' w' h1 h2 h3
  refine h v' w' ?_ (fun W hW hb => hb.grown h2 hb.size (fun k hk => by rw [hW]; exact (hown.lt k hk).1)) h2 h3
  show w'.ownsRow base 3 1 v' (l ++ ys).length ((l ++ ys).flatMap intC)
  rw [List.length_append, List.flatMap_append]
  exact h1
def putL (t : Int) (T : List Int) : List Int := if t < 0 ∨ 1099511627776 ≤ t then T else insU t T
theorem insU_at {t : Int} : ∀ {T : List Int} {k : Nat}, k ≤ T.length → (∀ (j : Nat) (h : j < T.length), j < k → T[j] < t) → (∀ h : k < T.length, t < T[k]) → insU t T = T.take k ++ t :: T.drop k
  | [], 0, _, _, _ => rfl
  | a :: T, 0, _, _, h2 => by
    have h := h2 (by simp)
    simp at h
    simp [insU, h]
  | a :: T, k + 1, hk, h1, h2 => by
    have h := h1 0 (by simp) (by omega)
    simp at h
    have ih := insU_at (t := t) (T := T) (k := k) (by simpa using hk) (fun j hj hjk => by have := h1 (j + 1) (by simpa using hj) (by omega); simpa using this) (fun hj => by have := h2 (by simpa using hj); simpa using this)
    rw [insU, if_neg (by omega), if_neg (by omega), ih]
    simp
theorem insU_in {t : Int} : ∀ {T : List Int} {k : Nat} (h : k < T.length), (∀ (j : Nat) (h : j < T.length), j < k → T[j] < t) → T[k] = t → insU t T = T
  | a :: T, 0, _, _, h2 => by
    simp at h2
    subst h2
    rw [insU, if_neg (by omega), if_pos rfl]
  | a :: T, k + 1, hk, h1, h2 => by
    have h := h1 0 (by simp) (by omega)
    simp at h
    have ih := insU_in (t := t) (T := T) (k := k) (by simpa using hk) (fun j hj hjk => by have := h1 (j + 1) (by simpa using hj) (by omega); simpa using this) (by simpa using h2)
    rw [insU, if_neg (by omega), if_neg (by omega), ih]
/-- The same slice, or a new one. -/
def NewT (n : Nat) (A B : Option Addr) : Prop := ∀ a, B = some a → A = some a ∨ n ≤ a.block
def NewB (n : Nat) (A : Option Addr) : Prop := ∀ a, A = some a → n ≤ a.block
theorem NewB.on {n m : Nat} {A B : Option Addr} (h : NewB n A) (k : NewT m A B) (hn : n ≤ m) : NewB n B := fun a ha => by
  rcases k a ha with h1 | h1
  · exact h a h1
  · omega
def PutPost (A0 : Option Addr) (T : List Int) (t : Int) (w : World) (e : Ending) (w' : World) : Prop := ∃ A c, e = .returned (.slice A (putL t T).length c) ∧ Rd w' A ((putL t T).flatMap intC) ∧ (putL t T).length ≤ c ∧ Below w.heap.size w w' ∧ NewT w.heap.size A0 A
set_option maxHeartbeats 4000000 in
theorem put38_any (A : Option Addr) (c : Nat) (T : List Int) (t : Int) (w : World) (hr : Rd w A (T.flatMap intC)) (hcp : T.length ≤ c) (hlen : T.length ≤ 8000) :
    Calls Try.prog 83 #[.slice A T.length c, .int .i64 t] w (PutPost A T t w) := by
  by_cases ht : t < 0 ∨ 1099511627776 ≤ t
  · have HP : Hid (PutPost A T t w (.returned (.slice A T.length c)) w) := by
      have e : putL t T = T := by unfold putL; rw [if_pos ht]
      unfold PutPost; rw [e]; exact ⟨A, c, rfl, hr, hcp, Below.refl _ _, fun _ h => .inl h⟩
    by_cases h1 : t < 0
    · have q1 : decide (t < 0) = true := decide_eq_true h1
      clear ht h1
      go_enter Try.func83, Try.ntmps83
      go_wp2_with fail
      go_ret
      exact HP.out
    · have q1 : decide (t < 0) = false := decide_eq_false h1
      have q2 : decide (1099511627776 ≤ t) = true := by rcases ht with h | h; exact absurd h h1; exact decide_eq_true h
      clear ht h1
      go_enter Try.func83, Try.ntmps83
      go_wp2_with fail
      go_ret
      exact HP.out
  · have q1 : decide (t < 0) = false := decide_eq_false (fun h => ht (.inl h))
    have q2 : decide (1099511627776 ≤ t) = false := decide_eq_false (fun h => ht (.inr h))
    have HP0 : Hid (putL t T = insU t T) := by show _ = _; unfold putL; rw [if_neg ht]
    clear ht
    go_enter Try.func83, Try.ntmps83
    go_wp2_with fail
    go_loopw [5] (fun i wr => ∃ k : Nat, k ≤ T.length ∧ i = .int .i64 k ∧ Below w.heap.size w wr ∧ Hid (∀ (j : Nat) (h : j < T.length), j < k → T[j] < t)) (fun i _ => T.length - (intOf i).toNat)
    case atStart => exact ⟨0, Nat.zero_le _, rfl, Below.refl _ _, fun j h hj => by omega⟩
    case round =>
      obtain ⟨k, hk, rfl, hB, HR⟩ := hrel
      by_cases hlt : k < T.length
      · obtain ⟨b, off, rfl, hb, hc⟩ := hr.elem (f := intC) (s := 1) (fun _ => rfl) (by omega) hlt
        have h0 := (hB.cell (p := ⟨b, off + k * 1 + 0, none⟩) hb).trans (hc 0 _ rfl)
        simp only [Nat.add_zero, Nat.mul_one] at h0
        clear hc
        rcases Int.lt_trichotomy T[k] t with h | h | h
        · have g1 : decide (T[k] < t) = true := decide_eq_true h
          have HR2 : Hid (∀ (j : Nat) (h : j < T.length), j < k + 1 → T[j] < t) := fun j hj hjk => by
            rcases Nat.lt_or_ge j k with h1 | h1
            · exact HR.out j hj h1
            · obtain rfl : j = k := by omega
              exact h
          clear h HR
          generalize T[k] = y at *
          go_wp2_with fail
          go_roundw
          case rel => exact ⟨k + 1, by omega, by go_num, hB, HR2⟩
          case measure => simp [intOf]; omega
        · have g1 : decide (T[k] < t) = false := decide_eq_false (by omega)
          have HP : Hid (PutPost (some ⟨b, off, none⟩) T t w (.returned (.slice (some ⟨b, off, none⟩) T.length c)) wr) := by
            have e : putL t T = T := by rw [HP0.out]; exact insU_in hlt HR.out h
            unfold PutPost; rw [e]; exact ⟨_, c, rfl, hr.ext hB, hcp, hB, fun _ h => .inl h⟩
          have g2 : (T[k] == t) = true := by simpa using h
          clear HR h
          generalize T[k] = y at *
          go_wp2_with fail
          go_ret
          exact HP.out
        · have g1 : decide (T[k] < t) = false := decide_eq_false (by omega)
          have HP : Hid (putL t T = T.take k ++ t :: T.drop k) := by
            show _ = _; rw [HP0.out]; exact insU_at hk HR.out (fun _ => h)
          have g2 : (T[k] == t) = false := by simp; omega
          clear HR h
          generalize T[k] = y at *
          go_wp2_with fail
          have hlk : (T.take k).length = k := by rw [List.length_take]; omega
          have hld : (T.drop k).length = T.length - k := List.length_drop ..
          have HS0 : Rd wr (some ⟨b, off, none⟩) (T.flatMap intC) := hr.ext hB
          have HS1 : Rd wr (subA (some ⟨b, off, none⟩) c 0 1) ((T.take k).flatMap intC) := by
            have h := Rd.cut (f := intC) (s := 1) (by omega) (fun _ => rfl) HS0 (cp := c) (i := 0) (n := k) (by omega) hcp
            rw [List.drop_zero] at h; exact h
          have HS2 : Rd wr (subA (some ⟨b, off, none⟩) c k 1) ((T.drop k).flatMap intC) := by
            have h := Rd.cut (f := intC) (s := 1) (by omega) (fun _ => rfl) HS0 (cp := c) (i := k) (n := T.length - k) (by omega) hcp
            rw [List.take_of_length_le (by simp)] at h; exact h
          have hb1 : ([] : List Int).length + (T.take k).length ≤ 9000 := by rw [hlk]; simp; omega
          have hb2 : (T.take k).length + [t].length ≤ 9000 := by rw [hlk]; simp; omega
          have hb3 : (T.take k ++ [t]).length + (T.drop k).length ≤ 9000 := by rw [List.length_append, hlk, hld]; simp; omega
          have hu := run_upto_i (some ⟨b, off, none⟩) c T.length k
          have hf := run_from_i (some ⟨b, off, none⟩) c T.length k
          have HB := Lib.hid hB
          have Hlk := Lib.hid hlk
          go_region_law ((first | (refine stepI rfl (.tmp 40) (.tmp 43) rfl wr.heap.size (.slice (some ⟨wr.heap.size, 0, none⟩) 0 0) [] rfl _ _ _ (T.take k) rfl hlk (own_empty (by first | exact World.alloc_heap_new _ _ | exact (Below.heap_alloc _ _ _ (by simp)).trans (World.alloc_heap_new _ _)) (by simp)) (HS1.ext (by repeat (first | exact Below.refl _ _ | refine ext_drew ?_ | refine ext_alloc ?_ _))) hb1 (by first | (simp; done) | (simp; omega)) ?_; intro v1 w6 o1 e1 g1 a1; have B1 := e1 wr rfl (by repeat (first | exact Below.refl _ _ | refine ext_drew ?_ | refine ext_alloc ?_ _)); have X1 : Rd w6 (some ⟨wr.heap.size + 1, 0, none⟩) ([t].flatMap intC) := grd_grown (by exact grd_blk (galloc_at _ _ _ (by simp)) rfl) g1 (fun a h => by cases h; simp [Value.ownBlock])) | (refine stepI rfl (.tmp 40) (.tmp 43) rfl wr.heap.size (.slice (some ⟨wr.heap.size + 1, 0, none⟩) 0 0) [] rfl _ _ _ (T.take k) rfl hlk (own_empty (by exact galloc_at _ _ _ (by simp)) (by simp)) (HS1.ext (by repeat (first | exact Below.refl _ _ | refine ext_drew ?_ | refine ext_alloc ?_ _))) hb1 (by first | (simp; done) | (simp; omega)) ?_; intro v1 w6 o1 e1 g1 a1; have B1 := e1 wr rfl (by repeat (first | exact Below.refl _ _ | refine ext_drew ?_ | refine ext_alloc ?_ _)); have X1 : Rd w6 (some ⟨wr.heap.size, 0, none⟩) ([t].flatMap intC) := grd_grown (by exact grd_blk ((Below.heap_alloc _ _ _ (by simp)).trans (World.alloc_heap_new _ _)) rfl) g1 (fun a h => by cases h; simp [Value.ownBlock])) | (refine stepI rfl (.tmp 40) (.tmp 43) rfl wr.heap.size (.slice (some ⟨wr.heap.size, 0, none⟩) 0 0) [] rfl _ _ _ (T.take k) rfl hlk (own_empty (by first | exact World.alloc_heap_new _ _ | exact (Below.heap_alloc _ _ _ (by simp)).trans (World.alloc_heap_new _ _)) (by simp)) (HS1.ext (by repeat (first | exact Below.refl _ _ | refine ext_drew ?_ | refine ext_alloc ?_ _))) hb1 (by first | (simp; done) | (simp; omega)) ?_; intro v1 w6 o1 e1 g1 a1; have B1 := e1 wr rfl (by repeat (first | exact Below.refl _ _ | refine ext_drew ?_ | refine ext_alloc ?_ _))) | (refine stepI rfl (.tmp 44) (.tmp 46) rfl wr.heap.size v1 (T.take k) rfl _ _ _ [t] rfl rfl o1 X1 hb2 B1.size ?_; intro v2 w7 o2 e2 g2 a2; have B2 := e2 wr rfl B1) | (refine stepI rfl (.tmp 44) (.tmp 46) rfl wr.heap.size v1 (T.take k) rfl _ _ _ [t] rfl rfl (o1.ext (by repeat (first | exact Below.refl _ _ | refine ext_drew ?_ | refine ext_alloc ?_ _))) (grd_new rfl) hb2 (by have := B1.size; first | omega | (simp; omega)) ?_; intro v2 w7 o2 e2 g2 a2; have B2 := e2 wr rfl (ext_trans B1 (by repeat (first | exact Below.refl _ _ | refine ext_drew ?_ | refine ext_alloc ?_ _)))) | (refine stepI rfl (.tmp 47) (.tmp 50) rfl wr.heap.size v2 (T.take k ++ [t]) rfl _ _ _ (T.drop k) rfl hld o2 (HS2.ext B2) hb3 B2.size ?_; intro v3 w8 o3 e3 g3 a3; have B3 := e3 wr rfl B2)))
          all_goals
            have o4 : OwnI w8 wr.heap.size v3 (putL t T) := by
              have e : putL t T = T.take k ++ [t] ++ T.drop k := by rw [HP.out]; simp
              rw [e]; exact o3
            obtain ⟨A3, c3, rfl, hle⟩ := own_room o4
            obtain ⟨A3', c3', e3', hrd, _⟩ := OwnL.form (by omega) o4
            obtain ⟨rfl, rfl⟩ : A3 = A3' ∧ c3 = c3' := by simpa using e3'
            have hfin : Hid (PutPost (some ⟨b, off, none⟩) T t w (.returned (.slice A3 (putL t T).length c3)) w8) := ⟨A3, c3, rfl, hrd, hle, ext_trans HB.out B3, fun a ha => .inr (Nat.le_trans HB.out.size (o4.lt a.block (by rw [ha]; rfl)).1)⟩
            clear hrd o1 o2 o3 o4 hle e3'
            go_wp2
            go_ret
            exact hfin.out
      · have hkl : ((k : Int) < (T.length : Int)) = False := by simp; omega
        have hke : decide ((k : Int) < (T.length : Int)) = false := by simp; omega
        have HP : Hid (putL t T = T.take k ++ t :: T.drop k) := by
          show _ = _; rw [HP0.out]; exact insU_at hk HR.out (fun h => absurd h hlt)
        clear HR
        go_wp2_with fail
        have hlk : (T.take k).length = k := by rw [List.length_take]; omega
        have hld : (T.drop k).length = T.length - k := List.length_drop ..
        have HS0 : Rd wr A (T.flatMap intC) := hr.ext hB
        have HS1 : Rd wr (subA A c 0 1) ((T.take k).flatMap intC) := by
          have h := Rd.cut (f := intC) (s := 1) (by omega) (fun _ => rfl) HS0 (cp := c) (i := 0) (n := k) (by omega) hcp
          rw [List.drop_zero] at h; exact h
        have HS2 : Rd wr (subA A c k 1) ((T.drop k).flatMap intC) := by
          have h := Rd.cut (f := intC) (s := 1) (by omega) (fun _ => rfl) HS0 (cp := c) (i := k) (n := T.length - k) (by omega) hcp
          rw [List.take_of_length_le (by simp)] at h; exact h
        have hb1 : ([] : List Int).length + (T.take k).length ≤ 9000 := by rw [hlk]; simp; omega
        have hb2 : (T.take k).length + [t].length ≤ 9000 := by rw [hlk]; simp; omega
        have hb3 : (T.take k ++ [t]).length + (T.drop k).length ≤ 9000 := by rw [List.length_append, hlk, hld]; simp; omega
        have hu := run_upto_i A c T.length k
        have hf := run_from_i A c T.length k
        have HB := Lib.hid hB
        have Hlk := Lib.hid hlk
        go_region_law ((first | (refine stepI rfl (.tmp 40) (.tmp 43) rfl wr.heap.size (.slice (some ⟨wr.heap.size, 0, none⟩) 0 0) [] rfl _ _ _ (T.take k) rfl hlk (own_empty (by first | exact World.alloc_heap_new _ _ | exact (Below.heap_alloc _ _ _ (by simp)).trans (World.alloc_heap_new _ _)) (by simp)) (HS1.ext (by repeat (first | exact Below.refl _ _ | refine ext_drew ?_ | refine ext_alloc ?_ _))) hb1 (by first | (simp; done) | (simp; omega)) ?_; intro v1 w6 o1 e1 g1 a1; have B1 := e1 wr rfl (by repeat (first | exact Below.refl _ _ | refine ext_drew ?_ | refine ext_alloc ?_ _)); have X1 : Rd w6 (some ⟨wr.heap.size + 1, 0, none⟩) ([t].flatMap intC) := grd_grown (by exact grd_blk (galloc_at _ _ _ (by simp)) rfl) g1 (fun a h => by cases h; simp [Value.ownBlock])) | (refine stepI rfl (.tmp 40) (.tmp 43) rfl wr.heap.size (.slice (some ⟨wr.heap.size + 1, 0, none⟩) 0 0) [] rfl _ _ _ (T.take k) rfl hlk (own_empty (by exact galloc_at _ _ _ (by simp)) (by simp)) (HS1.ext (by repeat (first | exact Below.refl _ _ | refine ext_drew ?_ | refine ext_alloc ?_ _))) hb1 (by first | (simp; done) | (simp; omega)) ?_; intro v1 w6 o1 e1 g1 a1; have B1 := e1 wr rfl (by repeat (first | exact Below.refl _ _ | refine ext_drew ?_ | refine ext_alloc ?_ _)); have X1 : Rd w6 (some ⟨wr.heap.size, 0, none⟩) ([t].flatMap intC) := grd_grown (by exact grd_blk ((Below.heap_alloc _ _ _ (by simp)).trans (World.alloc_heap_new _ _)) rfl) g1 (fun a h => by cases h; simp [Value.ownBlock])) | (refine stepI rfl (.tmp 40) (.tmp 43) rfl wr.heap.size (.slice (some ⟨wr.heap.size, 0, none⟩) 0 0) [] rfl _ _ _ (T.take k) rfl hlk (own_empty (by first | exact World.alloc_heap_new _ _ | exact (Below.heap_alloc _ _ _ (by simp)).trans (World.alloc_heap_new _ _)) (by simp)) (HS1.ext (by repeat (first | exact Below.refl _ _ | refine ext_drew ?_ | refine ext_alloc ?_ _))) hb1 (by first | (simp; done) | (simp; omega)) ?_; intro v1 w6 o1 e1 g1 a1; have B1 := e1 wr rfl (by repeat (first | exact Below.refl _ _ | refine ext_drew ?_ | refine ext_alloc ?_ _))) | (refine stepI rfl (.tmp 44) (.tmp 46) rfl wr.heap.size v1 (T.take k) rfl _ _ _ [t] rfl rfl o1 X1 hb2 B1.size ?_; intro v2 w7 o2 e2 g2 a2; have B2 := e2 wr rfl B1) | (refine stepI rfl (.tmp 44) (.tmp 46) rfl wr.heap.size v1 (T.take k) rfl _ _ _ [t] rfl rfl (o1.ext (by repeat (first | exact Below.refl _ _ | refine ext_drew ?_ | refine ext_alloc ?_ _))) (grd_new rfl) hb2 (by have := B1.size; first | omega | (simp; omega)) ?_; intro v2 w7 o2 e2 g2 a2; have B2 := e2 wr rfl (ext_trans B1 (by repeat (first | exact Below.refl _ _ | refine ext_drew ?_ | refine ext_alloc ?_ _)))) | (refine stepI rfl (.tmp 47) (.tmp 50) rfl wr.heap.size v2 (T.take k ++ [t]) rfl _ _ _ (T.drop k) rfl hld o2 (HS2.ext B2) hb3 B2.size ?_; intro v3 w8 o3 e3 g3 a3; have B3 := e3 wr rfl B2)))
        all_goals
          have o4 : OwnI w8 wr.heap.size v3 (putL t T) := by
            have e : putL t T = T.take k ++ [t] ++ T.drop k := by rw [HP.out]; simp
            rw [e]; exact o3
          obtain ⟨A3, c3, rfl, hle⟩ := own_room o4
          obtain ⟨A3', c3', e3', hrd, _⟩ := OwnL.form (by omega) o4
          obtain ⟨rfl, rfl⟩ : A3 = A3' ∧ c3 = c3' := by simpa using e3'
          have hfin : Hid (PutPost A T t w (.returned (.slice A3 (putL t T).length c3)) w8) := ⟨A3, c3, rfl, hrd, hle, ext_trans HB.out B3, fun a ha => .inr (Nat.le_trans HB.out.size (o4.lt a.block (by rw [ha]; rfl)).1)⟩
          clear hrd o1 o2 o3 o4 hle e3'
          go_wp2
          go_ret
          exact hfin.out
end Go.Proofs.Ytmindojbkedmlaa

/- Releases: the reference's times. -/
namespace Go.Proofs.Ytmindojbkedmlaa
open Go.RowKit Go.Han
attribute [local irreducible] wpStill wpQuiet
set_option maxRecDepth 100000

def timA (T : List Int) (h : House) : List Int := putL h.until_ (putL h.frm T)
def timF (b : Int) (T : List Int) (h : House) : List Int := if h.kind = 3 then putL (b + h.ms) (timA T h) else timA T h
def timL (l : List House) (b : Int) : List Int := l.foldl (timF b) [0]
theorem insU_len (t : Int) : ∀ (T : List Int), (insU t T).length ≤ T.length + 1
  | [] => Nat.le_refl _
  | a :: T => by
    rw [insU]
    split
    · simp
    · split
      · simp
      · have := insU_len t T; simp; omega
theorem putL_len (t : Int) (T : List Int) : (putL t T).length ≤ T.length + 1 := by
  unfold putL
  split
  · omega
  · exact insU_len t T
theorem timA_len (T : List Int) (h : House) : (timA T h).length ≤ T.length + 2 := by
  have h1 := putL_len h.until_ (putL h.frm T)
  have h2 := putL_len h.frm T
  unfold timA; omega
theorem timF_len (b : Int) (T : List Int) (h : House) : (timF b T h).length ≤ T.length + 3 := by
  have h1 := timA_len T h
  have h2 := putL_len (b + h.ms) (timA T h)
  unfold timF
  split <;> omega
theorem timFold_len (b : Int) : ∀ (l : List House) (T : List Int), (l.foldl (timF b) T).length ≤ T.length + 3 * l.length
  | [], T => by simp
  | h :: l, T => by
    have h1 := timFold_len b l (timF b T h)
    have h2 := timF_len b T h
    simp only [List.foldl_cons, List.length_cons]
    omega
theorem timL_take {l : List House} {b : Int} {k : Nat} (h : k < l.length) : timL (l.take (k + 1)) b = timF b (timL (l.take k) b) l[k] := by
  unfold timL
  rw [List.take_succ_eq_append_getElem h, List.foldl_append]; rfl
theorem ms_in {h : House} (hx : h.Ok) (hk : h.kind = 3) : 1 ≤ h.ms ∧ h.ms ≤ 1073741824 := by
  have := hx.m
  first | exact this.1 hk | (simp [hk] at this; omega) | omega
def TimPost (l : List House) (b : Int) (w : World) (e : Ending) (w' : World) : Prop := ∃ A c, e = .returned (.slice A (timL l b).length c) ∧ Rd w' A ((timL l b).flatMap intC) ∧ (timL l b).length ≤ c ∧ Below w.heap.size w w' ∧ NewB w.heap.size A
set_option maxHeartbeats 4000000 in
theorem times38_any (A : Option Addr) (c : Nat) (l : List House) (b0 : Int) (w : World) (hr : Rd w A (hflat l)) (hlen : l.length ≤ 1024) (hok : ∀ h ∈ l, h.Ok) (hb0 : 0 ≤ b0) (hb1 : b0 < 1099511627776) :
    Calls Try.prog 46 #[.slice A l.length c, .int .i64 b0] w (TimPost l b0 w) := by
  have HOK := Lib.hid hok
  have hs0 : Rd (w.alloc (.cells #[.int .i64 0] 3)) (some ⟨w.heap.size, 0, none⟩) (([0] : List Int).flatMap intC) := grd_new rfl
  obtain ⟨W, hW⟩ : ∃ W, w.alloc (.cells #[.int .i64 0] 3) = W := ⟨_, rfl⟩
  have hB : Below w.heap.size w W := by subst hW; exact ext_alloc (Below.refl _ _) _
  rw [hW] at hs0
  have Hs0 := Lib.hid hs0
  clear hok hs0
  go_enter Try.func46, Try.ntmps46
  go_wp2_with fail
  clear hW
  go_loopw [5, 6] (fun v i wr => ∃ (k : Nat) (A9 : Option Addr) (c9 : Nat), k ≤ l.length ∧ i = .int .i64 k ∧ v = .slice A9 (timL (l.take k) b0).length c9 ∧ Rd wr A9 ((timL (l.take k) b0).flatMap intC) ∧ (timL (l.take k) b0).length ≤ c9 ∧ Below w.heap.size w wr ∧ NewB w.heap.size A9) (fun _ i _ => l.length - (intOf i).toNat)
  case atStart => exact ⟨0, some ⟨w.heap.size, 0, none⟩, 1, Nat.zero_le _, rfl, rfl, Hs0.out, Nat.le_refl _, hB, fun a ha => by cases ha; exact Nat.le_refl _⟩
  case round =>
    obtain ⟨k, A9, c9, hk, rfl, rfl, hr9, hc9, hBr, hnb⟩ := hrel
    by_cases hlt : k < l.length
    · obtain ⟨b, off, rfl, hb, hc⟩ := hou_elem hr hlt
      have hft := timL_take (b := b0) hlt
      have hl9 : (timL (l.take k) b0).length ≤ 4000 := by have := timFold_len b0 (l.take k) [0]; rw [List.length_take] at this; simp only [timL]; simp at this; omega
      have hxo := HOK.out _ (List.getElem_mem hlt)
      obtain ⟨d0, d1, d2, d3, d4, d5, d6, d7, d8, d9⟩ := hc wr hBr
      generalize l[k] = h at *
      generalize timL (l.take k) b0 = T at *
      have Hft := Lib.hid hft
      have Hc := Lib.hid hc
      have hl1 := putL_len h.frm T
      have hl2 := timA_len T h
      have cP1 := Lib.hid (fun (W' : World) (hW : Below wr.heap.size wr W') => put38_any A9 c9 T h.frm W' (hr9.ext hW) hc9 (by omega))
      have h2a := Lib.hid hl1
      have h2b := Lib.hid hl2
      have hl9' := Lib.hid hl9
      have hBR := Lib.hid hBr
      clear hft hc hr9 hc9 hl1 hl2 hl9
      go_wp2_with fail
      go_region_law ((first
        | (have hmark := hq1; go_simp; refine (put38_any A1 c1 (putL h.frm T) h.until_ w1 hmark hn1 (by have := h2a.out; have := hl9'.out; omega)).mono ?_; rintro e w2 ⟨A2, c2, rfl, hq2, hn2, hb2, ht2⟩; have hnb2 := hnb1.on ht2 hB1.size)
        | (go_simp; refine (cP1.out _ (by first | exact Below.refl _ _ | exact ext_drew (Below.refl _ _))).mono ?_; rintro e w1 ⟨A1, c1, rfl, hq1, hn1, hb1', ht1⟩; have hnb1 : NewB w.heap.size A1 := hnb.on ht1 (by first | exact hBR.out.size | exact Nat.le_trans hBR.out.size (by simp)); have hB1 : Below w.heap.size w w1 := ext_trans hBR.out (by first | exact hb1' | exact ext_trans (ext_drew (Below.refl _ _)) hb1'); obtain ⟨e0, e1, e2, e3, e4, e5, e6, e7, e8, e9⟩ := Hc.out w1 hB1)))
      all_goals
        have hB2 := ext_trans hB1 hb2
        obtain ⟨f0, f1, f2, f3, f4, f5, f6, f7, f8, f9⟩ := Hc.out w2 hB2
        have hT2 : Rd w2 A2 ((timA T h).flatMap intC) ∧ (timA T h).length ≤ c2 := ⟨hq2, hn2⟩
        clear d0 d1 d2 d3 d4 d5 d6 d7 d8 d9 e0 e1 e2 e3 e4 e5 e6 e7 e8 e9 hq1 hq2 hn1 hn2 hb1' hb2 hB1
        have HT2 := Lib.hid hT2
        clear hT2
        rw [show putL h.until_ (putL h.frm T) = timA T h from rfl]
        by_cases hk3 : h.kind = 3
        · have g1 : (h.kind == 3) = true := by simp [hk3]
          have hms := ms_in hxo hk3
          have hw : IntKind.i64.wrap (b0 + h.ms) = b0 + h.ms := IntWalk.i64_in _ (by omega)
          have HN : Hid (timF b0 T h = putL (b0 + h.ms) (timA T h)) := by show _ = _; unfold timF; rw [if_pos hk3]
          have cP3 := Lib.hid (put38_any A2 c2 (timA T h) (b0 + h.ms) w2 HT2.out.1 HT2.out.2 (by have := h2b.out; have := hl9'.out; omega))
          clear hk3 hms
          go_wp2_with fail
          refine cP3.out.mono ?_
          rintro e w3 ⟨A3, c3, rfl, hq3, hn3, hb3, ht3⟩
          have hnb3 := hnb2.on ht3 hB2.size
          have Hq3 := Lib.hid hq3
          have Hn3 := Lib.hid hn3
          have hB3 := ext_trans hB2 hb3
          clear hq3 hn3 hb3 cP3 f0 f1 f2 f3 f4 f5 f6 f7 f8 f9
          go_wp2_with fail
          go_roundw
          case rel => exact ⟨k + 1, A3, c3, by omega, by go_num, by rw [Hft.out, HN.out], by rw [Hft.out, HN.out]; exact Hq3.out, by rw [Hft.out, HN.out]; exact Hn3.out, hB3, hnb3⟩
          case measure => simp [intOf]; omega
        · have g1 : (h.kind == 3) = false := by simp [hk3]
          have HN : Hid (timF b0 T h = timA T h) := by show _ = _; unfold timF; rw [if_neg hk3]
          clear hk3
          go_wp2_with fail
          go_roundw
          case rel => exact ⟨k + 1, A2, c2, by omega, by go_num, by rw [Hft.out, HN.out], by rw [Hft.out, HN.out]; exact HT2.out.1, by rw [Hft.out, HN.out]; exact HT2.out.2, hB2, hnb2⟩
          case measure => simp [intOf]; omega
    · obtain rfl : k = l.length := by omega
      rw [List.take_length] at hr9 hc9
      have hfin : Hid (TimPost l b0 w (.returned (.slice A9 (timL l b0).length c9)) wr) := ⟨A9, c9, rfl, hr9, hc9, hBr, hnb⟩
      rw [List.take_length]
      clear hr9 hc9
      go_wp2_with fail
      go_ret
      exact hfin.out
end Go.Proofs.Ytmindojbkedmlaa

/- Releases, plain: the times, in order and each once. -/
namespace Go.Proofs.Ytmindojbkedmlaa
open Go.RowKit Go.Han
theorem asc_putL {t : Int} {T : List Int} (h : T.Pairwise (fun a b => a < b)) : (putL t T).Pairwise (fun a b => a < b) := by
  unfold putL
  split
  · exact h
  · exact asc_insU _ h
theorem mem_putL {t x : Int} {T : List Int} : x ∈ putL t T ↔ (x = t ∧ 0 ≤ t ∧ t < 1099511627776) ∨ x ∈ T := by
  unfold putL
  split
  · rename_i h
    constructor
    · exact .inr
    · rintro (⟨_, h1, h2⟩ | h)
      · omega
      · exact h
  · rename_i h
    rw [mem_insU]
    constructor
    · rintro (rfl | h1)
      · exact .inl ⟨rfl, by omega, by omega⟩
      · exact .inr h1
    · rintro (⟨h1, _⟩ | h1)
      · exact .inl h1
      · exact .inr h1
def instB (b : Int) (h : House) (x : Int) : Prop := x = h.frm ∨ x = h.until_ ∨ (h.kind = 3 ∧ x = b + h.ms)
theorem mem_timF {b x : Int} {h : House} {T : List Int} : x ∈ timF b T h ↔ (instB b h x ∧ 0 ≤ x ∧ x < 1099511627776) ∨ x ∈ T := by
  unfold timF timA instB
  split
  · rename_i hk
    rw [mem_putL, mem_putL, mem_putL]
    constructor
    · rintro (⟨rfl, h1, h2⟩ | ⟨rfl, h1, h2⟩ | ⟨rfl, h1, h2⟩ | h1)
      · exact .inl ⟨.inr (.inr ⟨hk, rfl⟩), h1, h2⟩
      · exact .inl ⟨.inr (.inl rfl), h1, h2⟩
      · exact .inl ⟨.inl rfl, h1, h2⟩
      · exact .inr h1
    · rintro (⟨rfl | rfl | ⟨_, rfl⟩, h1, h2⟩ | h1)
      · exact .inr (.inr (.inl ⟨rfl, h1, h2⟩))
      · exact .inr (.inl ⟨rfl, h1, h2⟩)
      · exact .inl ⟨rfl, h1, h2⟩
      · exact .inr (.inr (.inr h1))
  · rename_i hk
    rw [mem_putL, mem_putL]
    constructor
    · rintro (⟨rfl, h1, h2⟩ | ⟨rfl, h1, h2⟩ | h1)
      · exact .inl ⟨.inr (.inl rfl), h1, h2⟩
      · exact .inl ⟨.inl rfl, h1, h2⟩
      · exact .inr h1
    · rintro (⟨rfl | rfl | ⟨h3, _⟩, h1, h2⟩ | h1)
      · exact .inr (.inl ⟨rfl, h1, h2⟩)
      · exact .inl ⟨rfl, h1, h2⟩
      · exact absurd h3 hk
      · exact .inr (.inr h1)
theorem mem_timFold {b x : Int} : ∀ {l : List House} {T : List Int}, x ∈ l.foldl (timF b) T ↔ ((∃ h ∈ l, instB b h x) ∧ 0 ≤ x ∧ x < 1099511627776) ∨ x ∈ T
  | [], T => by simp
  | h :: l, T => by
    rw [List.foldl_cons, mem_timFold, mem_timF]
    constructor
    · rintro (⟨⟨y, hy, h1⟩, h2⟩ | ⟨h1, h2⟩ | h1)
      · exact .inl ⟨⟨y, List.mem_cons_of_mem _ hy, h1⟩, h2⟩
      · exact .inl ⟨⟨h, List.mem_cons_self .., h1⟩, h2⟩
      · exact .inr h1
    · rintro (⟨⟨y, hy, h1⟩, h2⟩ | h1)
      · rcases List.mem_cons.1 hy with rfl | hy
        · exact .inr (.inl ⟨h1, h2⟩)
        · exact .inl ⟨⟨y, hy, h1⟩, h2⟩
      · exact .inr (.inr h1)
theorem asc_timFold {b : Int} : ∀ {l : List House} {T : List Int}, T.Pairwise (fun a b => a < b) → (l.foldl (timF b) T).Pairwise (fun a b => a < b)
  | [], _, h => h
  | x :: l, T, h => by
    rw [List.foldl_cons]
    refine asc_timFold ?_
    unfold timF timA
    split
    · exact asc_putL (asc_putL (asc_putL h))
    · exact asc_putL (asc_putL h)
theorem asc_timL (l : List House) (b : Int) : (timL l b).Pairwise (fun a b => a < b) := asc_timFold (by simp)
theorem mem_timL {l : List House} {b x : Int} : x ∈ timL l b ↔ ((∃ h ∈ l, instB b h x) ∧ 0 ≤ x ∧ x < 1099511627776) ∨ x = 0 := by
  unfold timL; rw [mem_timFold]; simp
end Go.Proofs.Ytmindojbkedmlaa

/- Releases, plain: the verdict does not change between two instants; steps, spans and the next instant say what the verdict is at every time. -/
namespace Go.Proofs.Ytmindojbkedmlaa
open Go.RowKit Go.Han

/-- A state that changes at some instants alone. -/
def Piece (v : Int → Int) (T : List Int) : Prop := ∀ t u, t ≤ u → (∀ x ∈ T, ¬(t < x ∧ x ≤ u)) → v t = v u
theorem Piece.tail {v : Int → Int} {t : Int} {T : List Int} (h : ∀ a b, t ≤ a → a ≤ b → (∀ x ∈ t :: T, ¬(a < x ∧ x ≤ b)) → v a = v b) : ∀ a b, t ≤ a → a ≤ b → (∀ x ∈ T, ¬(a < x ∧ x ≤ b)) → v a = v b :=
  fun a b h1 h2 h3 => h a b h1 h2 (fun x hx => by
    rcases List.mem_cons.1 hx with rfl | hx
    · omega
    · exact h3 x hx)
def inS (x : List Spn) (t : Int) : Prop := ∃ p ∈ x, p.frm ≤ t ∧ t < p.until_
/-- Spans as the code asks: apart from each other, from some time on. -/
def spnB : Int → List Spn → Bool
  | _, [] => true
  | last, p :: r => decide (last < p.frm) && (decide (0 ≤ p.frm) && (decide (p.frm < p.until_) && (decide (p.until_ ≤ 1099511627776) && spnB p.until_ r)))
theorem spnB_cons {last : Int} {p : Spn} {r : List Spn} : spnB last (p :: r) = true ↔ last < p.frm ∧ 0 ≤ p.frm ∧ p.frm < p.until_ ∧ p.until_ ≤ 1099511627776 ∧ spnB p.until_ r = true := by
  rw [spnB]; simp only [Bool.and_eq_true, decide_eq_true_eq]
theorem spnB_mono {a b : Int} (h : a ≤ b) : ∀ {x : List Spn}, spnB b x = true → spnB a x = true
  | [], _ => rfl
  | p :: r, e => by
    obtain ⟨h1, h2⟩ := spnB_cons.1 e
    exact spnB_cons.2 ⟨by omega, h2⟩
theorem spnB_low : ∀ {x : List Spn} {a : Int}, spnB a x = true → ∀ p ∈ x, a < p.frm ∧ 0 ≤ p.frm ∧ p.frm < p.until_ ∧ p.until_ ≤ 1099511627776
  | q :: r, a, e, p, hp => by
    obtain ⟨h1, h2, h3, h4, h5⟩ := spnB_cons.1 e
    rcases List.mem_cons.1 hp with rfl | hp
    · exact ⟨h1, h2, h3, h4⟩
    · have := spnB_low h5 p hp
      exact ⟨by omega, this.2⟩
/-- THE SPANS OF A TIMELINE, from a step on whose state is known. -/
theorem spans_say (v : Int → Int) : ∀ (T : List Int) (f t : Int), 0 ≤ f → f ≤ t → t < 1099511627776 → (∀ u, f ≤ u → u ≤ t → v u = v t) → (t :: T).Pairwise (fun a b => a < b) → (∀ x ∈ T, x < 1099511627776) →
    (∀ a b, t ≤ a → a ≤ b → (∀ x ∈ T, ¬(a < x ∧ x ≤ b)) → v a = v b) →
    (∀ u, f ≤ u → u < 1099511627776 → (inS (spansF (⟨f, v t⟩ :: stepsF v (v t) T)) u ↔ v u = 0)) ∧ (∀ last, last < f ∨ (last = f ∧ v t ≠ 0) → spnB last (spansF (⟨f, v t⟩ :: stepsF v (v t) T)) = true)
  | [], f, t, h0, hft, ht, hc, hp, hT, hv => by
    rw [stepsF, spansF]
    refine ⟨fun u h1 h2 => ?_, fun last hl => ?_⟩
    · have e : v u = v t := by
        by_cases h : u ≤ t
        · exact hc u h1 h
        · exact (hv t u (by omega) (by omega) (by simp)).symm
      rw [e]
      split
      · rename_i h
        exact ⟨fun _ => h, fun _ => ⟨_, List.mem_singleton.2 rfl, h1, h2⟩⟩
      · rename_i h
        exact ⟨fun ⟨p, hp, _⟩ => by simp at hp, fun h' => absurd h' h⟩
    · split
      · rename_i h; exact spnB_cons.2 ⟨by rcases hl with hl | ⟨_, hl⟩; exact hl; exact absurd h hl, h0, by show f < 1099511627776; omega, Int.le_refl _, rfl⟩
      · rfl
  | t' :: T, f, t, h0, hft, ht, hc, hp, hT, hv => by
    have hp' := hp
    rw [List.pairwise_cons] at hp'
    have htt : t < t' := hp'.1 t' (List.mem_cons_self ..)
    have ht' : t' < 1099511627776 := hT t' (List.mem_cons_self ..)
    have hgap : ∀ u, t ≤ u → u < t' → v u = v t := fun u h1 h2 => (hv t u (by omega) h1 (fun x hx => by
      rcases List.mem_cons.1 hx with rfl | hx
      · omega
      · have := (List.pairwise_cons.1 hp'.2).1 x hx; omega)).symm
    have hlow : ∀ u, f ≤ u → u < t' → v u = v t := fun u h1 h2 => by
      by_cases h : u ≤ t
      · exact hc u h1 h
      · exact hgap u (by omega) h2
    have hv' := Piece.tail (v := v) (t := t') (T := T) (fun a b h1 h2 h3 => hv a b (by omega) h2 h3)
    rw [stepsF]
    by_cases he : v t' = v t
    · rw [if_pos he]
      have ih := spans_say v T f t' h0 (by omega) ht' (fun u h1 h2 => by
        by_cases h : u < t'
        · rw [he]; exact hlow u h1 h
        · rw [show u = t' by omega]) hp'.2 (fun x hx => hT x (List.mem_cons_of_mem _ hx)) hv'
      rw [he] at ih
      exact ih
    · rw [if_neg he]
      have ih := spans_say v T t' t' (by omega) (Int.le_refl _) ht' (fun u h1 h2 => by rw [show u = t' by omega]) hp'.2 (fun x hx => hT x (List.mem_cons_of_mem _ hx)) hv'
      rw [spansF]
      generalize hS : spansF (⟨t', v t'⟩ :: stepsF v (v t') T) = S at ih
      obtain ⟨ih1, ih2⟩ := ih
      have hS1 := ih2 (t' - 1) (.inl (by omega))
      have hnot : ∀ u, u < t' → ¬ inS S u := by
        rintro u hu ⟨p, hp, h1, _⟩
        have := (spnB_low hS1 p hp).1
        omega
      refine ⟨fun u h1 h2 => ?_, fun last hl => ?_⟩
      · by_cases hu : u < t'
        · rw [hlow u h1 hu]
          split
          · rename_i h
            exact ⟨fun _ => h, fun _ => ⟨⟨f, t'⟩, by simp, h1, hu⟩⟩
          · rename_i h
            exact ⟨fun hs => absurd hs (hnot u hu), fun h' => absurd h' h⟩
        · rw [← ih1 u (by omega) h2]
          constructor
          · rintro ⟨p, hp, h3, h4⟩
            rcases List.mem_append.1 hp with hp | hp
            · split at hp
              · rw [List.mem_singleton] at hp
                subst hp
                simp only at h4
                omega
              · cases hp
            · exact ⟨p, hp, h3, h4⟩
          · rintro ⟨p, hp, h3⟩
            exact ⟨p, List.mem_append_right _ hp, h3⟩
      · split
        · rename_i h
          show spnB last (⟨f, t'⟩ :: S) = true
          exact spnB_cons.2 ⟨by rcases hl with hl | ⟨_, hl⟩; exact hl; exact absurd h hl, h0, by show f < t'; omega, by show t' ≤ 1099511627776; omega, ih2 t' (.inr ⟨rfl, fun h' => he (h'.trans h.symm)⟩)⟩
        · exact ih2 last (.inl (by rcases hl with hl | ⟨hl, _⟩ <;> omega))
/-- The state of the last step that is not later. -/
def ownF (o u : Int) (S : List Stp) : Int := S.foldl (fun o y => if y.at_ ≤ u then y.state else o) o
theorem ownF_late {u : Int} : ∀ {S : List Stp} {o : Int}, (∀ y ∈ S, u < y.at_) → ownF o u S = o
  | [], _, _ => rfl
  | y :: S, o, h => by
    show ownF (if y.at_ ≤ u then y.state else o) u S = o
    rw [if_neg (by have := h y (List.mem_cons_self ..); omega)]
    exact ownF_late fun z hz => h z (List.mem_cons_of_mem _ hz)
theorem steps_mem {v : Int → Int} : ∀ {T : List Int} {last : Int} {y : Stp}, y ∈ stepsF v last T → y.at_ ∈ T ∧ y.state = v y.at_
  | t :: T, last, y, h => by
    rw [stepsF] at h
    split at h
    · have := steps_mem h; exact ⟨List.mem_cons_of_mem _ this.1, this.2⟩
    · rcases List.mem_cons.1 h with rfl | h
      · exact ⟨List.mem_cons_self .., rfl⟩
      · have := steps_mem h; exact ⟨List.mem_cons_of_mem _ this.1, this.2⟩
theorem steps_say (v : Int → Int) : ∀ (T : List Int) (t : Int), (t :: T).Pairwise (fun a b => a < b) → (∀ a b, t ≤ a → a ≤ b → (∀ x ∈ T, ¬(a < x ∧ x ≤ b)) → v a = v b) →
    ∀ u, t ≤ u → ownF (v t) u (stepsF v (v t) T) = v u
  | [], t, hp, hv, u, hu => hv t u (Int.le_refl _) hu (by simp)
  | t' :: T, t, hp, hv, u, hu => by
    have hp' := hp
    rw [List.pairwise_cons] at hp'
    have htt : t < t' := hp'.1 t' (List.mem_cons_self ..)
    have hv' := Piece.tail (v := v) (t := t') (T := T) (fun a b h1 h2 h3 => hv a b (by omega) h2 h3)
    have hlate : ∀ x ∈ T, t' < x := fun x hx => (List.pairwise_cons.1 hp'.2).1 x hx
    have hgap : u < t' → v u = v t := fun h2 => (hv t u (by omega) hu (fun x hx => by
      rcases List.mem_cons.1 hx with rfl | hx
      · omega
      · have := hlate x hx; omega)).symm
    rw [stepsF]
    split
    · rename_i he
      by_cases h : u < t'
      · rw [hgap h]
        exact ownF_late fun y hy => by have := hlate _ (steps_mem hy).1; omega
      · have ih := steps_say v T t' hp'.2 hv' u (by omega)
        rw [he] at ih; exact ih
    · show ownF (if t' ≤ u then v t' else v t) u _ = v u
      by_cases h : u < t'
      · rw [if_neg (by omega), hgap h]
        exact ownF_late fun y hy => by have := hlate _ (steps_mem hy).1; omega
      · rw [if_pos (by omega)]
        exact steps_say v T t' hp'.2 hv' u (by omega)
/-- Steps in order, no two neighbours alike. -/
def stpB : Option Stp → List Stp → Bool
  | _, [] => true
  | none, y :: S => stpB (some y) S
  | some x, y :: S => decide (x.at_ < y.at_) && (decide (x.state ≠ y.state) && stpB (some y) S)
theorem steps_order (v : Int → Int) : ∀ (T : List Int) (f t : Int), f ≤ t → (t :: T).Pairwise (fun a b => a < b) → stpB (some ⟨f, v t⟩) (stepsF v (v t) T) = true
  | [], f, t, _, _ => rfl
  | t' :: T, f, t, hft, hp => by
    rw [List.pairwise_cons] at hp
    have htt : t < t' := hp.1 t' (List.mem_cons_self ..)
    rw [stepsF]
    split
    · rename_i he
      have ih := steps_order v T f t' (by omega) hp.2
      rw [he] at ih; exact ih
    · rename_i he
      rw [stpB]
      simp only [Bool.and_eq_true, decide_eq_true_eq]
      exact ⟨by show f < t'; omega, fun h => he h.symm, steps_order v T t' t' (Int.le_refl _) hp.2⟩
theorem next_some {t u : Int} : ∀ {x : List Spn} {a : Int}, spnB a x = true → nextF t x = some u → t ≤ u ∧ inS x u ∧ ∀ o, t ≤ o → o < u → ¬ inS x o
  | p :: r, a, h, e => by
    obtain ⟨h1, h2, h3, h4, h5⟩ := spnB_cons.1 h
    rw [nextF] at e
    split at e
    · rename_i hlt
      cases e
      refine ⟨Int.le_max_left .., ⟨p, List.mem_cons_self .., Int.le_max_right .., by omega⟩, ?_⟩
      rintro o ho1 ho2 ⟨q, hq, hq1, hq2⟩
      rcases List.mem_cons.1 hq with rfl | hq
      · omega
      · have := (spnB_low h5 q hq).1; omega
    · rename_i hlt
      obtain ⟨i1, ⟨q, hq, hq1⟩, i3⟩ := next_some h5 e
      refine ⟨i1, ⟨q, List.mem_cons_of_mem _ hq, hq1⟩, ?_⟩
      rintro o ho1 ho2 ⟨q, hq, hq1, hq2⟩
      rcases List.mem_cons.1 hq with rfl | hq
      · omega
      · exact i3 o ho1 ho2 ⟨q, hq, hq1, hq2⟩
theorem next_none {t : Int} : ∀ {x : List Spn}, nextF t x = none → ∀ o, t ≤ o → ¬ inS x o
  | [], _, o, _ => by rintro ⟨q, hq, _⟩; cases hq
  | p :: r, e, o, ho => by
    rw [nextF] at e
    split at e
    · cases e
    · rename_i hlt
      rintro ⟨q, hq, hq1, hq2⟩
      rcases List.mem_cons.1 hq with rfl | hq
      · omega
      · exact next_none e o ho ⟨q, hq, hq1, hq2⟩
/-- THE VERDICT CHANGES AT THE INSTANTS ALONE. -/
def vAt (l : List House) (s b g kn : Int) (t : Int) : Int := (verd l ⟨s, b, g, t, kn⟩).1
theorem holds_same {l : List House} {s b g kn t u : Int} (h : ∀ x ∈ l, ∀ i, instB b x i → ¬(t < i ∧ i ≤ u)) (htu : t ≤ u) (k : Int) (hk : k = 1 ∨ k = 2 ∨ k = 3) :
    holds l k ⟨s, b, g, t, kn⟩ = holds l k ⟨s, b, g, u, kn⟩ := by
  have hb : ∀ k, bound l k ⟨s, b, g, t, kn⟩ = bound l k ⟨s, b, g, u, kn⟩ := by
    intro k
    unfold bound
    refine List.filter_congr fun x hx => ?_
    have h1 := h x hx x.frm (.inl rfl)
    have h2 := h x hx x.until_ (.inr (.inl rfl))
    have e : inB x t = inB x u := by
      unfold inB
      rw [Bool.eq_iff_iff]
      simp only [Bool.and_eq_true, decide_eq_true_eq]
      omega
    unfold bindB covB aboutB
    simp only [e]
  unfold holds
  rw [hb k]
  refine List.filter_congr fun x hx => ?_
  unfold holdB
  rw [hb 5, hb 4]
  rcases hk with rfl | rfl | rfl
  · rfl
  · rfl
  · rw [if_neg (by decide), if_neg (by decide), if_neg (by decide), if_neg (by decide)]
    obtain ⟨hx1, hx2⟩ := List.mem_filter.1 hx
    have hk3 : x.kind = 3 := by
      unfold bindB at hx2
      simp only [Bool.and_eq_true, decide_eq_true_eq] at hx2
      exact hx2.1.1
    have h3 := h x hx1 (b + x.ms) (.inr (.inr ⟨hk3, rfl⟩))
    show decide (t < b + x.ms) = decide (u < b + x.ms)
    rw [Bool.eq_iff_iff]
    simp only [decide_eq_true_eq]
    omega
theorem verd_same {l : List House} {s b g kn t u : Int} (h : ∀ x ∈ l, ∀ i, instB b x i → ¬(t < i ∧ i ≤ u)) (htu : t ≤ u) : verd l ⟨s, b, g, t, kn⟩ = verd l ⟨s, b, g, u, kn⟩ := by
  unfold verd
  rw [holds_same h htu 1 (.inl rfl), holds_same h htu 2 (.inr (.inl rfl)), holds_same h htu 3 (.inr (.inr rfl))]
theorem vAt_piece {l : List House} {s b g kn t u : Int} (h0 : 0 ≤ t) (htu : t ≤ u) (hu : u < 1099511627776) (h : ∀ x ∈ timL l b, ¬(t < x ∧ x ≤ u)) : vAt l s b g kn t = vAt l s b g kn u := by
  unfold vAt
  rw [verd_same (fun x hx i hi hc => h i (mem_timL.2 (.inl ⟨⟨x, hx, hi⟩, by omega, by omega⟩)) hc) htu]
theorem verd_nonneg (l : List House) (a : Asked) : 0 ≤ (verd l a).1 ∧ (verd l a).1 ≤ 2 := by
  unfold verd
  split
  · simp
  · split
    · simp
    · split <;> simp
/-- The whole timeline of a word. -/
def stpL (l : List House) (s b g kn : Int) : List Stp := stepsF (vAt l s b g kn) (-1) (timL l b)
def spnL (l : List House) (s b g kn : Int) : List Spn := spansF (stpL l s b g kn)
theorem timL_zero (l : List House) (b : Int) : ∃ T, timL l b = 0 :: T ∧ ∀ x ∈ T, x < 1099511627776 := by
  have ha := asc_timL l b
  have h0 : (0 : Int) ∈ timL l b := mem_timL.2 (.inr rfl)
  have hpos : ∀ x ∈ timL l b, 0 ≤ x ∧ x < 1099511627776 := by
    intro x hx
    rcases mem_timL.1 hx with ⟨_, h⟩ | rfl
    · exact h
    · omega
  generalize timL l b = L at *
  cases L with
  | nil => cases h0
  | cons x T =>
    have hx : x = 0 := by
      rcases List.mem_cons.1 h0 with h | h
      · exact h.symm
      · have := (List.pairwise_cons.1 ha).1 0 h
        have := hpos x (List.mem_cons_self ..)
        omega
    subst hx
    exact ⟨T, rfl, fun y hy => (hpos y (List.mem_cons_of_mem _ hy)).2⟩
theorem stpL_eq (l : List House) (s b g kn : Int) : ∃ T, timL l b = 0 :: T ∧ (∀ x ∈ T, x < 1099511627776) ∧ stpL l s b g kn = ⟨0, vAt l s b g kn 0⟩ :: stepsF (vAt l s b g kn) (vAt l s b g kn 0) T := by
  obtain ⟨T, h1, h2⟩ := timL_zero l b
  refine ⟨T, h1, h2, ?_⟩
  unfold stpL
  rw [h1, stepsF, if_neg]
  have := (verd_nonneg l ⟨s, b, g, 0, kn⟩).1
  show ¬ vAt l s b g kn 0 = -1
  unfold vAt; omega
/-- The state, put still behind the last time. -/
def vCut (l : List House) (s b g kn : Int) (t : Int) : Int := vAt l s b g kn (min t 1099511627775)
theorem stepsF_congr {v v' : Int → Int} : ∀ {T : List Int} {last : Int}, (∀ x ∈ T, v x = v' x) → stepsF v last T = stepsF v' last T
  | [], _, _ => rfl
  | t :: T, last, h => by
    rw [stepsF, stepsF, h t (List.mem_cons_self ..), stepsF_congr fun x hx => h x (List.mem_cons_of_mem _ hx), stepsF_congr (last := v' t) fun x hx => h x (List.mem_cons_of_mem _ hx)]
theorem vCut_low {l : List House} {s b g kn t : Int} (h : t < 1099511627776) : vCut l s b g kn t = vAt l s b g kn t := by
  unfold vCut; rw [show min t 1099511627775 = t by omega]
theorem vCut_piece {l : List House} {s b g kn : Int} {T : List Int} (h1 : timL l b = 0 :: T) (h2 : ∀ x ∈ T, x < 1099511627776) : ∀ a c, 0 ≤ a → a ≤ c → (∀ x ∈ T, ¬(a < x ∧ x ≤ c)) → vCut l s b g kn a = vCut l s b g kn c := by
  intro a c h0 hac h
  unfold vCut
  refine vAt_piece (by omega) (by omega) (by omega) fun x hx hc => ?_
  rw [h1] at hx
  rcases List.mem_cons.1 hx with rfl | hx
  · omega
  · exact h x hx (by omega)
theorem stpL_cut (l : List House) (s b g kn : Int) : ∃ T, (0 :: T).Pairwise (fun a b => a < b) ∧ (∀ x ∈ T, x < 1099511627776) ∧ (∀ a c, 0 ≤ a → a ≤ c → (∀ x ∈ T, ¬(a < x ∧ x ≤ c)) → vCut l s b g kn a = vCut l s b g kn c) ∧
    stpL l s b g kn = ⟨0, vCut l s b g kn 0⟩ :: stepsF (vCut l s b g kn) (vCut l s b g kn 0) T := by
  obtain ⟨T, h1, h2, h3⟩ := stpL_eq l s b g kn
  refine ⟨T, by rw [← h1]; exact asc_timL l b, h2, vCut_piece h1 h2, ?_⟩
  rw [h3, vCut_low (by omega)]
  congr 1
  exact stepsF_congr fun x hx => (vCut_low (h2 x hx)).symm
/-- EVERY TIME: the spans are those in which the word shows. -/
theorem spnL_say (l : List House) (s b g kn : Int) : (∀ u, 0 ≤ u → u < 1099511627776 → (inS (spnL l s b g kn) u ↔ vAt l s b g kn u = 0)) ∧ spnB (-1) (spnL l s b g kn) = true := by
  obtain ⟨T, h1, h2, h3, h4⟩ := stpL_cut l s b g kn
  obtain ⟨i1, i2⟩ := spans_say (vCut l s b g kn) T 0 0 (by omega) (by omega) (by omega) (fun u a b => by rw [show u = 0 by omega]) h1 h2 h3
  unfold spnL
  rw [h4]
  exact ⟨fun u a b => by rw [i1 u a b, vCut_low b], i2 (-1) (.inl (by omega))⟩
theorem stpL_say (l : List House) (s b g kn : Int) (u : Int) (h0 : 0 ≤ u) (h1 : u < 1099511627776) (o : Int) : ownF o u (stpL l s b g kn) = vAt l s b g kn u := by
  obtain ⟨T, i1, i2, i3, i4⟩ := stpL_cut l s b g kn
  rw [i4]
  show ownF (if (0 : Int) ≤ u then vCut l s b g kn 0 else o) u _ = _
  rw [if_pos h0, steps_say (vCut l s b g kn) T 0 i1 i3 u h0, vCut_low h1]
theorem stpL_order (l : List House) (s b g kn : Int) : stpB none (stpL l s b g kn) = true ∧ (∃ x r, stpL l s b g kn = x :: r ∧ x.at_ = 0) ∧ ∀ y ∈ stpL l s b g kn, 0 ≤ y.at_ ∧ y.at_ < 1099511627776 := by
  obtain ⟨T, i1, i2, i3, i4⟩ := stpL_cut l s b g kn
  refine ⟨?_, ⟨_, _, i4, rfl⟩, ?_⟩
  · rw [i4]
    exact steps_order (vCut l s b g kn) T 0 0 (Int.le_refl _) i1
  · intro y hy
    have := (steps_mem hy).1
    rcases mem_timL.1 this with ⟨_, h⟩ | h
    · exact h
    · omega
end Go.Proofs.Ytmindojbkedmlaa

/- m[x] = c as a step of a region that draws its order. No program in sight. -/
namespace Go.Han
open Go.RowKit Go.Maps
theorem step_mapU {P : Program} {k : TypeId} {α β : Type} [DecidableEq α] {w : World} {ops : Array Oper} {o : Oper} {a : Act} {K : Act → World → Prop} {Q : Exit → Act → World → Prop} {E0 : Prop}
    (hgd : o.guard = none) (m x v : Operand) (t : TypeId) (ho : o.op = Op.mapUpdate t m x v) (e : TypeId) (KK : Keyed P k) (ht : P.underlying t = some (.map k e)) (S : KeyShape P k α) (E : ElemShape β) (b n : Nat) (f : α → Option β)
    (hm : a.eval m = .map (some b)) (hown : MapF w S E b n f) (hn : n < maxLen) (key : α) (c : β) (hx : a.eval x = S.val key) (hv : a.eval v = E.val c) (hgood : S.good key)
    (h : ∀ w', MapF w' S E b (n + 1) (fun y => if y = key then some c else f y) → w.grownBy w' (some b) → w'.heap.size = w.heap.size → K (a.put o.dst undef) w') :
    if Region.wanted o (yielded ops a.tmps) = true then Oper.wp P o a w K Q else E0 := by
  have hw : Region.wanted o (yielded ops a.tmps) = true := by simp [Region.wanted, hgd]
  rw [if_pos hw]
  obtain ⟨w', hrun, h1, h2, h3⟩ := hown.store _ KK ht hn key c hgood
  unfold Oper.wp
  simp [execOp, ho, hm, hx, hv, hrun, Result.andThen]
  exact h _ h1 h2 h3
/-- All orders meet again: behind the piece the frame and the world are the same. -/
theorem wp_meet {P : Program} {c : Code} {Q : Exit → Act → World → Prop} {a F : Act} {w w' : World} (h : c.wp P (Exit.then (fun a' v => a' = F ∧ v = w') (fun _ _ _ => False)) a w) (k : Q .normal F w') : c.wp P Q a w :=
  wp_mono h (fun e a' v hh => by
    cases e with
    | normal => obtain ⟨h2, h3⟩ := hh; subst h2 h3; exact k
    | _ => exact hh.elim)
end Go.Han
