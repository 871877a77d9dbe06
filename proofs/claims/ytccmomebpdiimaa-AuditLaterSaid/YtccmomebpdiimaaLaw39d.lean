/- Laws 39: AuditEnded. -/
import Derived.Test.YtccmomebpdiimaaLaw39c
namespace Go.Proofs.Ytccmomebpdiimaa
open Go.RowKit Go.Han
attribute [local irreducible] wpStill wpQuiet
set_option maxRecDepth 100000

theorem run_upto_s (A : Option Addr) (cp n k : Nat) (W : World) (h : k ≤ n) (hc : n ≤ cp) :
    (Instr.slice 23 (.slice A n cp) none (some (.int .i64 k)) none).run Try.prog W = .ok (.slice (subA A cp 0 5) k cp) W := by
  have e := run_slice_h (P := Try.prog) (w := W) 23 A n cp (by rw [Try.underlying23]; rfl) .i64 (k : Int) (by omega) (by omega)
  rw [e]
  have h2 : ((k : Int)).toNat = k := by omega
  rw [h2]
  have h3 : (Go.sizeOf (Try.prog.elem 23)).run Try.prog W = .ok 5 W := by kernel_rfl
  rw [h3]
  rfl
theorem run_from_s (A : Option Addr) (cp n k : Nat) (z : Int) (W : World) (hz : z = (k : Int)) (h : k ≤ n) :
    (Instr.slice 23 (.slice A n cp) (some (.int .i64 z)) none none).run Try.prog W = .ok (.slice (subA A cp k 5) (n - k) (cp - k)) W := by
  subst hz
  have e := run_slice_l (P := Try.prog) (w := W) 23 A n cp (by rw [Try.underlying23]; rfl) .i64 (k : Int) (by omega) (by omega)
  rw [e]
  have h2 : ((k : Int)).toNat = k := by omega
  rw [h2]
  have h3 : (Go.sizeOf (Try.prog.elem 23)).run Try.prog W = .ok 5 W := by kernel_rfl
  rw [h3]
  rfl
theorem info_sight : (Try.prog.info? 34).map (fun i => (i.zero, i.size, i.bytes)) = some (some (.agg #[.int .i64 0, .int .i64 0, .int .i64 0, .int .i64 0, .int .i64 0]), 5, 40) := by kernel_rfl
theorem sight_one (h : Sight) : ∀ u ∈ h.cells, u.oneCell' = true := by
  intro u hu
  simp [Sight.cells] at hu
  rcases hu with rfl | rfl | rfl | rfl | rfl <;> rfl
theorem sflat_one (l : List Sight) : ∀ u ∈ sflat l, u.oneCell' = true := by
  intro u hu
  obtain ⟨x, _, hx⟩ := List.mem_flatMap.1 hu
  exact sight_one x u hx
theorem sflat_len (l : List Sight) : (sflat l).length = l.length * 5 := flat_len Sight.cells 5 Sight.size_cells l
theorem sflat_app (a b : List Sight) : sflat (a ++ b) = sflat a ++ sflat b := by unfold sflat; rw [List.flatMap_append]
abbrev OwnS (w : World) (base : Nat) (v : Value) (l : List Sight) : Prop := OwnL Sight.cells 34 5 w base v l
theorem OwnS.app {w : World} {base : Nat} {v : Value} {l m : List Sight} (h : w.ownsRow base 34 5 v (l.length + m.length) (sflat l ++ sflat m)) : OwnS w base v (l ++ m) := by
  show w.ownsRow base 34 5 v (l ++ m).length ((l ++ m).flatMap Sight.cells)
  rw [List.length_append]
  have e : (l ++ m).flatMap Sight.cells = sflat l ++ sflat m := sflat_app l m
  rw [e]; exact h
theorem below_raw {w0 w w' : World} {base E sz n : Nat} {v : Value} {xs : List Value} (h : Below w0.heap.size w0 w) (ho : w.ownsRow base E sz v n xs) (hbase : w0.heap.size ≤ base) (hg : w.grownBy w' v.ownBlock) : Below w0.heap.size w0 w' :=
  ⟨hg.os.trans h.os, hg.tape.trans h.tape, hg.output.trans h.output, Nat.le_trans h.size hg.size, fun i hi => (hg.block i (Nat.lt_of_lt_of_le hi h.size) (fun e => by have := (World.ownsRow.lt ho i e.symm).1; omega)).trans (h.block i hi)⟩
theorem raw_ext {w w' : World} {base E sz n : Nat} {v : Value} {xs : List Value} (ho : w.ownsRow base E sz v n xs) (hb : Below w.heap.size w w') : w'.ownsRow base E sz v n xs :=
  ownsRow_of_block ho (fun g hg => hb.block g (World.ownsRow.lt ho g hg).2)
theorem sight_room {n : Nat} (h : n ≤ 5000) : n ≤ maxLen ∧ n * 40 ≤ 140737488355328 := by unfold maxLen; omega
/-! ### The plain law -/
def cutS (x : Sight) (t : Int) : Sight := { x with until_ := t }
def endS (s : List Sight) (i : Nat) (x : Sight) (t : Int) : List Sight := s.take i ++ (if x.frm < t then [cutS x t] else []) ++ s.drop (i + 1)
theorem cut_none {l : List House} {s : List Sight} {kn t no : Int} {i : Nat} {x : Sight} (h : FirstV l s kn i t no) (hx : s[i]? = some x) (u : Int) : forb l kn (cutS x t) u = none := by
  cases hf : forb l kn (cutS x t) u with
  | none => rfl
  | some n =>
    obtain ⟨h1, h2, h3, _⟩ := forb_in hf
    simp only [cutS] at h1 h2
    obtain ⟨y, hy, hg⟩ := h.hit
    rw [hx] at hy
    cases hy
    obtain ⟨_, g2, _, _⟩ := forb_in hg
    have h4 : forb l kn x u = some (verd l (askOf x u kn)).2 := forb_mk h1 (by omega) h3
    have := h.least i x u hx (by rw [h4]; rfl)
    omega
theorem end_mem {s : List Sight} {i : Nat} {x y : Sight} {t : Int} (h : y ∈ endS s i x t) : y ∈ s ∨ y = cutS x t := by
  unfold endS at h
  rcases List.mem_append.1 h with h | h
  · rcases List.mem_append.1 h with h | h
    · exact .inl (List.mem_of_mem_take h)
    · split at h
      · simp at h; exact .inr h
      · cases h
  · exact .inl (List.mem_of_mem_drop h)
theorem end_len {s : List Sight} {i : Nat} {x : Sight} {t : Int} (hi : i < s.length) : (endS s i x t).length ≤ s.length := by
  unfold endS
  rw [List.length_append, List.length_append, List.length_take, List.length_drop]
  split <;> simp <;> omega
theorem cut_ok {x : Sight} {t : Int} (hx : x.Ok) (h1 : x.frm < t) (h2 : t ≤ x.until_) : (cutS x t).Ok := by
  obtain ⟨a, b, c, d, e, f, g, i, j⟩ := hx
  exact ⟨a, b, c, d, e, f, g, h1, by simp only [cutS]; omega⟩
theorem end_ok {l : List House} {s : List Sight} {kn t no : Int} {i : Nat} {x : Sight} (hae : audE l s kn = 0) (h : FirstV l s kn i t no) (hx : s[i]? = some x) : audE l (endS s i x t) kn = 0 := by
  obtain ⟨h0, h1, h2, k0, k1⟩ := audE_ok hae
  obtain ⟨y, hy, hg⟩ := h.hit
  rw [hx] at hy
  cases hy
  obtain ⟨hi, _⟩ := List.getElem?_eq_some_iff.1 hx
  obtain ⟨_, g2, _, _⟩ := forb_in hg
  refine audE_mk h0 (Nat.le_trans (end_len hi) h1) (fun y hy => ?_) k0 k1
  unfold endS at hy
  rcases List.mem_append.1 hy with hy | hy
  · rcases List.mem_append.1 hy with hy | hy
    · exact h2 y (List.mem_of_mem_take hy)
    · split at hy
      · rename_i hlt
        simp at hy
        subst hy
        exact cut_ok (h2 x (List.mem_of_getElem? hx)) hlt (by omega)
      · cases hy
  · exact h2 y (List.mem_of_mem_drop hy)
theorem end_later {l : List House} {s : List Sight} {kn t no : Int} {i : Nat} {x : Sight} (h : FirstV l s kn i t no) (hx : s[i]? = some x) {j : Nat} {u n : Int} (k : FirstV l (endS s i x t) kn j u n) : t ≤ u := by
  obtain ⟨y, hy, hg⟩ := k.hit
  rcases end_mem (List.mem_of_getElem? hy) with hm | rfl
  · obtain ⟨m, hm⟩ := List.getElem?_of_mem hm
    have := h.least m y u hm (by rw [hg]; rfl)
    omega
  · rw [cut_none h hx u] at hg; cases hg
theorem cut_alone {l : List House} {s : List Sight} {kn t no : Int} {i : Nat} {x : Sight} (hae : audE l s kn = 0) (h : FirstV l s kn i t no) (hx : s[i]? = some x) (hlt : x.frm < t) : findR l [cutS x t] kn = (0, 0, 0, false) ∧ audE l [cutS x t] kn = 0 := by
  obtain ⟨h0, h1, h2, k0, k1⟩ := audE_ok hae
  obtain ⟨y, hy, hg⟩ := h.hit
  rw [hx] at hy
  cases hy
  obtain ⟨_, g2, _, _⟩ := forb_in hg
  have ha : audE l [cutS x t] kn = 0 := audE_mk h0 (by simp) (fun y hy => by simp at hy; subst hy; exact cut_ok (h2 x (List.mem_of_getElem? hx)) hlt (by omega)) k0 k1
  refine ⟨?_, ha⟩
  rcases findR_cases ha with ⟨h3, _⟩ | ⟨j, u, n, _, hV⟩
  · exact h3
  · obtain ⟨y, hy, hf⟩ := hV.hit
    have := List.mem_of_getElem? hy
    simp at this
    subst this
    rw [cut_none h hx u] at hf; cases hf

structure ArgsC (w : World) (A : Option Addr) (l : List House) (A2 : Option Addr) (c2 : Nat) (s : List Sight) : Prop where
  args : ArgsA w A l A2 s
  cap : s.length ≤ c2
  max : c2 ≤ 9223372036854775807
set_option maxHeartbeats 8000000 in
theorem AuditEnded_any (A : Option Addr) (c : Nat) (l : List House) (A2 : Option Addr) (c2 : Nat) (s : List Sight) (kn : Int) (w : World) (h0 : ArgsC w A l A2 c2 s) :
    Calls Try.prog 6 #[.slice A l.length c, .slice A2 s.length c2, .int .i64 kn] w fun e w' => e = .returned (.bool true) ∧ Below w.heap.size w w' := by
  obtain ⟨i0', hi0, iz0, is0, ib0⟩ := info_parts info_sight
  have h := h0.args
  have hcp := h0.cap
  have hcm := h0.max
  clear h0
  have cS := Lib.hid (sane39_any w)
  have cFew := Lib.hid (fun (w1 : World) => few_any A c l.length A2 c2 s.length w1)
  have H := Lib.hid h
  have hm2 := h.hm2
  clear h
  cases hf : (fewHB l.length && fewSB s.length)
  · rw [hf] at cFew
    clear hf hi0 iz0 is0 ib0
    go_enter Try.func6, Try.ntmps6
    go_wp2_with fail
    refine cS.out.mono ?_
    rintro e w1 ⟨rfl, hb1⟩
    go_wp2_with fail
    refine (cFew.out w1).mono ?_
    rintro e w' ⟨rfl, rfl⟩
    go_wp2_with fail
    go_ret
    exact ⟨rfl, hb1⟩
  rw [hf] at cFew
  clear hf
  by_cases hae : audE l s kn = 0
  · rcases findR_cases hae with ⟨hR, hN⟩ | ⟨i0, t0, n0, hR, hV⟩
    · have cF := Lib.hid (fun (W : World) (hW : Below w.heap.size w W) => find_is c c2 (H.out.ext hW) hR hae)
      clear hae hR hN hi0 iz0 is0 ib0
      go_enter Try.func6, Try.ntmps6
      go_wp2_with fail
      refine cS.out.mono ?_
      rintro e w1 ⟨rfl, hb1⟩
      go_wp2_with fail
      refine (cFew.out w1).mono ?_
      rintro e w' ⟨rfl, rfl⟩
      go_wp2_with fail
      refine (cF.out w1 hb1).mono ?_
      rintro e w2 ⟨rfl, hb2⟩
      go_wp2_with fail
      go_ret
      exact ⟨rfl, ext_trans hb1 hb2⟩
    · have cF := Lib.hid (fun (W : World) (hW : Below w.heap.size w W) => find_is c c2 (H.out.ext hW) hR hae)
      obtain ⟨hchk, hsl, hso, k0, k1⟩ := audE_ok hae
      obtain ⟨x, hx, hg⟩ := hV.hit
      obtain ⟨hi, hxe⟩ := List.getElem?_eq_some_iff.1 hx
      obtain ⟨g1, g2, _, _⟩ := forb_in hg
      have hEnd := end_ok hae hV hx
      have hLater := fun j u n k => end_later hV hx (j := j) (u := u) (n := n) k
      have hAlone := fun hlt => cut_alone hae hV hx hlt
      obtain ⟨b, off, rfl, hb, hc⟩ := sig_elem H.out.hs hi
      rw [hxe] at hc
      have Hc := Lib.hid hc
      have q1 : decide ((i0 : Int) < 0) = false := by simp
      have q2 : decide (s.length ≤ i0) = false := by simp; omega
      have q3 : decide (t0 < x.frm) = false := by simp; omega
      have q4 : decide (x.until_ ≤ t0) = false := by simp; omega
      have kk0 : (0 : Int) ≤ (i0 : Int) := by omega
      have kk1 : (i0 : Int) < s.length := by omega
      have HEnd := Lib.hid hEnd
      have HLater := Lib.hid hLater
      have HAlone := Lib.hid hAlone
      have hru := fun W => run_upto_s (some ⟨b, off, none⟩) c2 s.length i0 W (by omega) hcp
      have hrf := fun W => run_from_s (some ⟨b, off, none⟩) c2 s.length (i0 + 1) ((i0 : Int) + 1) W (by omega) (by omega)
      have HC1 : Hid (∀ W, Below w.heap.size w W → Rd W (subA (some ⟨b, off, none⟩) c2 0 5) (sflat (s.take i0))) := fun W hW => by
        have h := Rd.cut (by omega) Sight.size_cells (H.out.ext hW).hs (cp := c2) (i := 0) (n := i0) (by omega) hcp
        rw [List.drop_zero] at h; exact h
      have HC2 : Hid (∀ W, Below w.heap.size w W → Rd W (subA (some ⟨b, off, none⟩) c2 (i0 + 1) 5) (sflat (s.drop (i0 + 1)))) := fun W hW => by
        have h := Rd.cut (by omega) Sight.size_cells (H.out.ext hW).hs (cp := c2) (i := i0 + 1) (n := s.length - (i0 + 1)) (by omega) hcp
        rw [List.take_of_length_le (by simp)] at h; exact h
      have hlt1 : (s.take i0).length = i0 := by rw [List.length_take]; omega
      have hld : (s.drop (i0 + 1)).length = s.length - (i0 + 1) := List.length_drop
      have hlm := H.out.hm
      have Hlt1 := Lib.hid hlt1
      have Hld := Lib.hid hld
      clear hae hR hV hx hxe hg hEnd hLater hAlone hc hchk hso k0 k1 hlt1 hld
      go_enter Try.func6, Try.ntmps6
      go_wp2_with fail
      refine cS.out.mono ?_
      rintro e w1 ⟨rfl, hb1⟩
      go_wp2_with fail
      refine (cFew.out w1).mono ?_
      rintro e w' ⟨rfl, rfl⟩
      go_wp2_with fail
      refine (cF.out w1 hb1).mono ?_
      rintro e w2 ⟨rfl, hb2⟩
      have hB2 := ext_trans hb1 hb2
      clear cS cFew cF
      obtain ⟨d0, d1, d2, d3, d4⟩ := Hc.out w2 hB2
      have A1 := (sight_room (n := 0 + i0) (by omega)).1
      have A2 := (sight_room (n := 0 + i0) (by omega)).2
      have hr1 := HC1.out w2 hB2
      have Hr1 := Lib.hid hr1
      clear hr1
      have HF : Hid (∀ (W : World) (V : Value), Below w.heap.size w W → OwnS W w2.heap.size V (endS s i0 x t0) → ∃ A6 c6, V = .slice A6 (endS s i0 x t0).length c6 ∧
          Calls Try.prog 13 #[.slice A l.length c, .slice A6 (endS s i0 x t0).length c6, .int .i64 kn] W fun e w' => ∃ i u n f, e = .returned (.tuple #[.int .i64 i, .int .i64 u, .int .i64 n, .bool f, .int .i64 0]) ∧ Below W.heap.size W w' ∧ (f = false ∨ (f = true ∧ t0 ≤ u))) := fun W V hW ho => by
        obtain ⟨A6, c6, rfl, hr6, _⟩ := OwnL.form (by decide) ho
        have hae6 := HEnd.out
        have hlen := end_len (x := x) (t := t0) hi
        have ha : ArgsA W A l A6 (endS s i0 x t0) := ⟨(H.out.ext hW).hr, H.out.hm, hr6, Nat.le_trans hlen H.out.hm2⟩
        refine ⟨A6, c6, rfl, ?_⟩
        rcases findR_cases hae6 with ⟨hR6, _⟩ | ⟨j, u, n, hR6, hV6⟩
        · exact (find_is c c6 ha hR6 hae6).mono fun e w' ⟨h1, h2⟩ => ⟨_, _, _, _, h1, h2, .inl rfl⟩
        · exact (find_is c c6 ha hR6 hae6).mono fun e w' ⟨h1, h2⟩ => ⟨_, _, _, _, h1, h2, .inr ⟨rfl, HLater.out _ _ _ hV6⟩⟩
      have Hsl := Lib.hid hsl
      have hO1 : Hid (∀ (W : World) (V : Value), W.ownsRow w2.heap.size 34 5 V (0 + i0) ([] ++ sflat (s.take i0)) → ∃ A5 c5, V = .slice A5 i0 c5 ∧ W.ownsRow w2.heap.size 34 5 (.slice A5 i0 c5) i0 (sflat (s.take i0))) := fun W V hO => by
        have h1 : OwnS W w2.heap.size V (s.take i0) := by
          show W.ownsRow w2.heap.size 34 5 V (s.take i0).length (sflat (s.take i0))
          rw [Hlt1.out]; simpa using hO
        obtain ⟨A5, c5, e5, _⟩ := OwnL.form (by decide) h1
        rw [Hlt1.out] at e5
        subst e5
        refine ⟨A5, c5, rfl, ?_⟩
        have h2 := h1
        show W.ownsRow w2.heap.size 34 5 _ i0 (sflat (s.take i0))
        have h3 : W.ownsRow w2.heap.size 34 5 (.slice A5 i0 c5) (s.take i0).length (sflat (s.take i0)) := h2
        rw [Hlt1.out] at h3
        exact h3
      by_cases hlt : x.frm < t0
      · have q5 : decide (x.frm < t0) = true := by simpa using hlt
        have hend : endS s i0 x t0 = (s.take i0 ++ [cutS x t0]) ++ s.drop (i0 + 1) := by unfold endS; rw [if_pos hlt]
        have hfin : Hid (∀ (W : World) (V : Value), W.ownsRow w2.heap.size 34 5 V (i0 + 1 + (s.length - (i0 + 1))) ((sflat (s.take i0) ++ (cutS x t0).cells) ++ sflat (s.drop (i0 + 1))) → OwnS W w2.heap.size V (endS s i0 x t0)) := fun W V h => by
          rw [hend]
          refine OwnS.app ?_
          have e1 : (s.take i0 ++ [cutS x t0]).length = i0 + 1 := by rw [List.length_append, Hlt1.out]; rfl
          have e2 : sflat (s.take i0 ++ [cutS x t0]) = sflat (s.take i0) ++ (cutS x t0).cells := by rw [sflat_app]; simp [sflat]
          rw [e1, e2, Hld.out]; exact h
        have HA1 := Lib.hid (HAlone.out hlt)
        have A3 := (sight_room (n := i0 + 1) (by omega)).1
        have A4 := (sight_room (n := i0 + 1) (by omega)).2
        have A5 := (sight_room (n := i0 + 1 + (s.length - (i0 + 1))) (by omega)).1
        have A6 := (sight_room (n := i0 + 1 + (s.length - (i0 + 1))) (by omega)).2
        clear hend hlt HAlone
        go_wp2_with (at_builtin; refine wpList_append_rd rfl _ _ 23 rfl w2.heap.size 34 i0' _ 5 40 Try.underlying23 hi0 iz0 is0 ib0 rfl (by decide) (.slice none 0 0) 0 [] rfl (subA (some ⟨b, off, none⟩) c2 0 5) i0 c2 (sflat (s.take i0)) rfl (OwnL.nil Sight.cells _ _ _ _) (by rw [sflat_len, Hlt1.out]) Hr1.out (sflat_one _) A1 A2 (Nat.le_refl _) ?_; intro v5 w5 hown5 hgrow5 _; have hB5 := below_own hB2 (OwnL.nil Sight.cells 34 5 w2 w2.heap.size) hB2.size hgrow5; obtain ⟨e0, e1, e2, e3, e4⟩ := Hc.out w5 hB5; obtain ⟨A5', c5, rfl, hO5⟩ := hO1.out w5 v5 hown5)
        clear e0 e1 e2 e3 e4
        have hz5 := hgrow5.size
        have hO5' := Lib.hid hO5
        clear hO5 hown5
        obtain ⟨W5, hW5⟩ : ∃ W, W = w5.alloc (Obj.cells #[.int .i64 x.speaker, .int .i64 x.begun, .int .i64 x.lang, .int .i64 x.frm, .int .i64 t0] 34) := ⟨_, rfl⟩
        rw [← hW5]
        have hx5 : W5.heap[w5.heap.size]? = some (.cells #[.int .i64 x.speaker, .int .i64 x.begun, .int .i64 x.lang, .int .i64 x.frm, .int .i64 t0] 34 (0, 0)) := by rw [hW5]; exact World.alloc_heap_new _ _
        have hb55 : Below w5.heap.size w5 W5 := by rw [hW5]; exact ext_alloc (Below.refl w5.heap.size w5) _
        have hn5 : W5.heap.size = w5.heap.size + 1 := by rw [hW5]; simp
        rw [← hn5]
        clear hW5 hn5
        have hB55 := ext_trans hB5 hb55
        have hbA := ext_alloc (Below.refl W5.heap.size W5) (Obj.cells #[.int .i64 x.speaker, .int .i64 x.begun, .int .i64 x.lang, .int .i64 x.frm, .int .i64 t0] 34)
        have hrdA : Rd (W5.alloc (Obj.cells #[.int .i64 x.speaker, .int .i64 x.begun, .int .i64 x.lang, .int .i64 x.frm, .int .i64 t0] 34)) (some ⟨W5.heap.size, 0, none⟩) (sflat [cutS x t0]) := grd_blk (World.alloc_heap_new W5 _) rfl
        have hcA := find_is c 1 (A2 := some ⟨W5.heap.size, 0, none⟩) (s := [cutS x t0]) ⟨(H.out.ext (ext_trans hB55 hbA)).hr, H.out.hm, hrdA, by simp⟩ HA1.out.1 HA1.out.2
        rw [List.length_singleton] at hcA
        refine hcA.mono ?_
        rintro e w8 ⟨rfl, hb8⟩
        have hb58 : Below W5.heap.size W5 w8 := ext_trans (ext_alloc (Below.refl W5.heap.size W5) _) hb8
        have hB8 := ext_trans hB55 hb58
        have hx8 : w8.heap[w5.heap.size]? = some (.cells #[.int .i64 x.speaker, .int .i64 x.begun, .int .i64 x.lang, .int .i64 x.frm, .int .i64 t0] 34 (0, 0)) := (hb58.block _ (lt_block hx5)).trans hx5
        have hO8 := raw_ext hO5'.out (ext_trans hb55 hb58)
        have hz8 := Nat.le_trans hz5 (Nat.le_trans hb55.size hb58.size)
        have y0 : w8.cell? ⟨w5.heap.size, 0, none⟩ = some (.int .i64 x.speaker) := gblk hx8 0
        have y1 : w8.cell? ⟨w5.heap.size, 1, none⟩ = some (.int .i64 x.begun) := gblk hx8 1
        have y2 : w8.cell? ⟨w5.heap.size, 2, none⟩ = some (.int .i64 x.lang) := gblk hx8 2
        have y3 : w8.cell? ⟨w5.heap.size, 3, none⟩ = some (.int .i64 x.frm) := gblk hx8 3
        have y4 : w8.cell? ⟨w5.heap.size, 4, none⟩ = some (.int .i64 t0) := gblk hx8 4
        clear hx5 hb8 hb55 hb58 hB55
        go_wp2_with (at_builtin; first
          | (have hmark := hO9; (refine wpList_append_rd rfl _ _ 23 rfl w2.heap.size 34 i0' _ 5 40 Try.underlying23 hi0 iz0 is0 ib0 rfl (by decide) _ (i0 + 1) (sflat (s.take i0) ++ (cutS x t0).cells) rfl (subA (some ⟨b, off, none⟩) c2 (i0 + 1) 5) (s.length - (i0 + 1)) _ (sflat (s.drop (i0 + 1))) rfl hmark (by rw [sflat_len, Hld.out]) (HC2.out w9 hB9) (sflat_one _) A5 A6 hz9 ?_; intro v6 w6 hown6 hgrow6 _; have hB6 := below_raw hB9 hmark hB2.size hgrow6; obtain ⟨A6, c6, rfl, cF⟩ := HF.out w6 v6 hB6 (hfin.out w6 v6 hown6); clear hmark hO9))
          | ((refine wpList_append_rd rfl _ _ 23 rfl w2.heap.size 34 i0' _ 5 40 Try.underlying23 hi0 iz0 is0 ib0 rfl (by decide) _ i0 (sflat (s.take i0)) rfl (some ⟨w8.heap.size, 0, none⟩) 1 1 (cutS x t0).cells rfl (raw_ext hO8 (ext_alloc (Below.refl w8.heap.size w8) _)) rfl (grd_blk (World.alloc_heap_new w8 _) rfl) (sight_one _) A3 A4 (Nat.le_trans hz8 (by simp)) ?_; intro v9 w9 hO9 hgrow9 _; have hB9 := below_raw (ext_alloc hB8 _) (raw_ext hO8 (ext_alloc (Below.refl w8.heap.size w8) _)) hB2.size hgrow9; have hz9 := Nat.le_trans hz8 (Nat.le_trans (by simp) hgrow9.size); obtain ⟨A9, c9, rfl, _⟩ := SlOf.of_own hO9)))
        refine cF.mono ?_
        rintro e w7 ⟨i7, u7, n7, f7, rfl, hb7, hfl⟩
        rcases hfl with rfl | ⟨rfl, hu⟩
        · go_wp2_with fail
          go_ret
          exact ⟨rfl, ext_trans hB6 hb7⟩
        · have q6 : decide (t0 ≤ u7) = true := by simpa using hu
          clear hu
          go_wp2_with fail
          go_ret
          exact ⟨rfl, ext_trans hB6 hb7⟩
      · have q5 : decide (x.frm < t0) = false := by simpa using hlt
        have hend : endS s i0 x t0 = s.take i0 ++ s.drop (i0 + 1) := by unfold endS; rw [if_neg hlt, List.append_nil]
        have Hend := Lib.hid hend
        clear hend hlt
        have A3 := (sight_room (n := i0 + (s.length - (i0 + 1))) (by omega)).1
        have A4 := (sight_room (n := i0 + (s.length - (i0 + 1))) (by omega)).2
        go_wp2_with (at_builtin; first
          | (have hmark := hO5; (refine wpList_append_rd rfl _ _ 23 rfl w2.heap.size 34 i0' _ 5 40 Try.underlying23 hi0 iz0 is0 ib0 rfl (by decide) _ i0 (sflat (s.take i0)) rfl (subA (some ⟨b, off, none⟩) c2 (i0 + 1) 5) (s.length - (i0 + 1)) _ (sflat (s.drop (i0 + 1))) rfl hmark (by rw [sflat_len, Hld.out]) (HC2.out w5 hB5) (sflat_one _) A3 A4 hgrow5.size ?_; intro v6 w6 hown6 hgrow6 _; have hB6 := below_raw hB5 hmark hB2.size hgrow6; obtain ⟨A6, c6, rfl, cF⟩ := HF.out w6 v6 hB6 (by rw [Hend.out]; exact OwnS.app (by rw [Hlt1.out, Hld.out]; exact hown6)); clear hmark hO5))
          | ((refine wpList_append_rd rfl _ _ 23 rfl w2.heap.size 34 i0' _ 5 40 Try.underlying23 hi0 iz0 is0 ib0 rfl (by decide) (.slice none 0 0) 0 [] rfl (subA (some ⟨b, off, none⟩) c2 0 5) i0 c2 (sflat (s.take i0)) rfl (OwnL.nil Sight.cells _ _ _ _) (by rw [sflat_len, Hlt1.out]) Hr1.out (sflat_one _) A1 A2 (Nat.le_refl _) ?_; intro v5 w5 hown5 hgrow5 _; have hB5 := below_own hB2 (OwnL.nil Sight.cells 34 5 w2 w2.heap.size) hB2.size hgrow5; obtain ⟨e0, e1, e2, e3, e4⟩ := Hc.out w5 hB5; obtain ⟨A5, c5, rfl, hO5⟩ := hO1.out w5 v5 hown5)))
        refine cF.mono ?_
        rintro e w7 ⟨i7, u7, n7, f7, rfl, hb7, hfl⟩
        rcases hfl with rfl | ⟨rfl, hu⟩
        · go_wp2_with fail
          go_ret
          exact ⟨rfl, ext_trans hB6 hb7⟩
        · have q6 : decide (t0 ≤ u7) = true := by simpa using hu
          clear hu
          go_wp2_with fail
          go_ret
          exact ⟨rfl, ext_trans hB6 hb7⟩
  · have hR : findR l s kn = (0, 0, 0, false) := by unfold findR; rw [if_neg hae]
    have hne : (audE l s kn != 0) = true := by simpa using hae
    have cF := Lib.hid (fun (W : World) (hW : Below w.heap.size w W) => find_is c c2 (H.out.ext hW) hR (rfl : audE l s kn = _))
    generalize audE l s kn = ae at *
    clear hR hae hi0 iz0 is0 ib0
    go_enter Try.func6, Try.ntmps6
    go_wp2_with fail
    refine cS.out.mono ?_
    rintro e w1 ⟨rfl, hb1⟩
    go_wp2_with fail
    refine (cFew.out w1).mono ?_
    rintro e w' ⟨rfl, rfl⟩
    go_wp2_with fail
    refine (cF.out w1 hb1).mono ?_
    rintro e w2 ⟨rfl, hb2⟩
    go_wp2_with fail
    go_ret
    exact ⟨rfl, ext_trans hb1 hb2⟩
end Go.Proofs.Ytccmomebpdiimaa
