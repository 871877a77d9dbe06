/- The reference's package of displays: Play and Withdrawn. -/
import Derived.Test.YtneanannicacnaaDoorRef49e
namespace Go.Proofs.YtneanannicacnaaDoor
open Go.RowKit Go.Han
attribute [local irreducible] wpStill wpQuiet
set_option maxRecDepth 100000

theorem doE_run (s : List Spot) (c : Change) (hs : checkE s = 0) (hc : c.ok = true) : doE s c = if fitsB c s = false then 490 else if 1024 < (madeL c s).length then 2 else 0 := by
  unfold doE
  rw [hs, hc]; rfl
/-- A display that is made of a right one by a right change is right. -/
theorem made_right {s : List Spot} {c : Change} (hs : checkE s = 0) (hc : c.ok = true) (hf : fitsB c s = true) (hl : (madeL c s).length ≤ 1024) : checkE (madeL c s) = 0 := by
  obtain ⟨h1, h2, h3⟩ := (checkE_iff s).1 hs
  refine (checkE_iff _).2 ⟨hl, fun x hx => ?_, made_asc h3 hf⟩
  rcases made_mem h3 hf hx with rfl | hx
  · unfold Change.ok at hc
    cases h : c.spot.ok
    · rw [h, Bool.and_false] at hc; cases hc
    · rfl
  · exact h2 x hx
theorem upTo_drop (t : Int) (l : List Change) (k : Nat) (h : k < l.length) : upTo t (l.drop k) = if l[k].at_ ≤ t then l[k] :: upTo t (l.drop (k + 1)) else [] := by
  rw [List.drop_eq_getElem_cons h]; unfold upTo; rw [List.takeWhile_cons]; simp

def BothPost (l : List Change) (t : Int) (w : World) (e : Ending) (w' : World) : Prop :=
  Below w.heap.size w w' ∧ ((playE l t ≠ 0 ∧ e = .returned (.tuple #[.slice none 0 0, .int .i64 0, .int .i64 (playE l t)])) ∨ (playE l t = 0 ∧ ∃ v, e = .returned (.tuple #[v, .int .i64 (countW (upTo t l)), .int .i64 0]) ∧ Own w' w.heap.size v (playL l t)))

/-- Between two rounds. -/
def BothInv (l : List Change) (t : Int) (w : World) (x n i : Value) (wr : World) : Prop :=
  ∃ (k : Nat) (s : List Spot) (m : Nat), k ≤ l.length ∧ i = .int .i64 k ∧ n = .int .i64 m ∧ m ≤ k ∧ Own wr w.heap.size x s ∧ Below w.heap.size w wr ∧ checkE s = 0 ∧ runL [] (upTo t l) = runL s (upTo t (l.drop k)) ∧ countW (upTo t l) = m + countW (upTo t (l.drop k))
set_option maxHeartbeats 1000000 in
theorem both_any (A : Option Addr) (cp : Nat) (l : List Change) (t : Int) (w : World) (hr : Rd w A (cflat l)) (hm : l.length ≤ 9223372036854775807) :
    Calls Tryd.prog 58 #[.slice A l.length cp, .int .i64 t] w (BothPost l t w) := by
  go_enter Tryd.func58, Tryd.ntmps58
  go_wp2_with fail
  refine (changes49_any A cp l w hr hm).mono ?_
  rintro e w1 ⟨rfl, hb1⟩
  have hPE : Hid (playE l t = if changesE l ≠ 0 then changesE l else if timeB t = false then 1 else (runL [] (upTo t l)).1) := by
    show _ = _
    unfold playE changesE
    by_cases h : 4096 < l.length
    · rw [if_pos h, if_pos h]; rfl
    · rw [if_neg h, if_neg h]
      cases examFrom 0 l <;> simp
  have hCh : Hid (changesE l = 0 → l.length ≤ 4096 ∧ ∀ c ∈ l, c.ok = true) := by
    intro h
    unfold changesE at h
    by_cases h4 : 4096 < l.length
    · rw [if_pos h4] at h; omega
    · rw [if_neg h4] at h
      refine ⟨by omega, ?_⟩
      cases hx : examFrom 0 l
      · rw [hx] at h; simp at h
      · exact exam_ok 0 l hx
  by_cases hc : changesE l = 0
  · obtain ⟨hl4, hok⟩ := hCh.out hc
    have Hok := Lib.hid hok
    have HPE : Hid (playE l t = if timeB t = false then 1 else (runL [] (upTo t l)).1) := by show _ = _; rw [hPE.out, if_neg (by simp [hc])]
    rw [hc]
    clear hc hok hCh hPE
    go_wp2_with fail
    refine (time49_any _ _).mono ?_
    rintro e w' ⟨rfl, rfl⟩
    cases htb : timeB t
    · have hd : Hid (playE l t = 1) := by show _ = _; rw [HPE.out, htb]; rfl
      clear htb
      go_wp2_with fail
      go_ret3
      exact ⟨hb1, .inl ⟨by rw [hd.out]; decide, by rw [hd.out]; rfl⟩⟩
    · have HP : Hid (playE l t = (runL [] (upTo t l)).1) := by show _ = _; rw [HPE.out, htb]; rfl
      clear htb HPE
      have hz1 := hb1.size
      go_wp2_with fail
      go_loopw [8, 9, 10] (fun x n i wr => BothInv l t w x n i wr) (fun _ _ i _ => l.length - (intOf i).toNat)
      case atStart => exact ⟨0, [], 0, Nat.zero_le _, rfl, rfl, Nat.le_refl _, World.ownsRow_made w1 #[] 0 hz1 (Nat.zero_le _) rfl, hb1.alloc hz1 _, rfl, rfl, by simp⟩
      case round =>
        obtain ⟨k, s, m, hk, rfl, rfl, hmk, hown, hB, hck, hrun, hcw⟩ := hrel
        have Hck := Lib.hid hck
        have Hrun := Lib.hid hrun
        have Hcw := Lib.hid hcw
        have hz := hB.size
        clear hck hrun hcw
        have hend : upTo t (l.drop k) = [] → Hid (playE l t = 0 ∧ playL l t = s ∧ countW (upTo t l) = m) := by
          intro h
          have h1 := Hrun.out
          have h2 := Hcw.out
          rw [h] at h1 h2
          refine ⟨by rw [HP.out, h1]; rfl, by unfold playL; rw [h1]; rfl, by rw [h2]; rfl⟩
        by_cases hlt : k < l.length
        · obtain ⟨b, off, rfl, hb, hc⟩ := hr.elem Change.size_cells (by omega) hlt
          have d0 := (hB.cell (p := ⟨b, off + k * 5 + 0, none⟩) hb).trans (hc 0 _ rfl)
          have d1 := (hB.cell (p := ⟨b, off + k * 5 + 1, none⟩) hb).trans (hc 1 _ rfl)
          have d2 := (hB.cell (p := ⟨b, off + k * 5 + 2, none⟩) hb).trans (hc 2 _ rfl)
          have d3 := (hB.cell (p := ⟨b, off + k * 5 + 3, none⟩) hb).trans (hc 3 _ rfl)
          have d4 := (hB.cell (p := ⟨b, off + k * 5 + 4, none⟩) hb).trans (hc 4 _ rfl)
          have hc1 : Hid (∀ W, Below w.heap.size w W → W.cell? ⟨b, off + k * 5 + 1, none⟩ = some (.int .i64 l[k].kind)) := fun W hbW => (hbW.cell (p := ⟨b, off + k * 5 + 1, none⟩) hb).trans (hc 1 _ rfl)
          simp only [Nat.add_zero] at d0
          have Hup := Lib.hid (upTo_drop t l k hlt)
          have Hxo := Lib.hid (Hok.out l[k] (List.getElem_mem _))
          clear hc hr
          by_cases hle : l[k].at_ ≤ t
          · have hup2 := Hup.out
            rw [if_pos hle] at hup2
            have HU := Lib.hid hup2
            clear hup2 Hup hend
            generalize l[k] = c at *
            have Hd := Lib.hid (fun (A' : Option Addr) (cp' : Nat) (hr' : Rd wr A' (flat s)) (hl : s.length ≤ 9223372036854775807) => do49_any A' cp' s c wr hr' hl)
            obtain ⟨A', cp', rfl, hrd, _⟩ := own_form hown
            have hsl := ((checkE_iff s).1 Hck.out).1
            have hd := Hd.out A' cp' hrd (by omega)
            have hdE := Lib.hid (doE_run s c Hck.out Hxo.out)
            have Hc1 := hc1
            have hcv : c.val = .agg #[.int .i64 c.at_, .int .i64 c.kind, .int .i64 c.spot.id, .int .i64 c.spot.ver, .string c.spot.text] := rfl
            rw [hcv] at hd
            have HD := Lib.hid hd
            clear hd Hd hcv hsl
            go_wp2_with fail
            refine HD.out.mono ?_
            rintro e w2 ⟨hb2, h⟩
            have hB2 := hB.trans (hb2.mono hz)
            have hz2 := hb2.size
            rcases h with ⟨hn, rfl⟩ | ⟨hn, v', rfl, hown2⟩
            · have hPd : Hid (playE l t = doE s c) := by
                show _ = _
                rw [HP.out, Hrun.out, HU.out, runL_step]
                have h1 := hdE.out
                cases hf : fitsB c s
                · rw [hf] at h1; rw [h1]; rfl
                · rw [hf] at h1
                  simp only [Bool.true_eq_false, if_false] at h1 ⊢
                  by_cases hbig : 1024 < (madeL c s).length
                  · rw [if_pos hbig] at h1 ⊢; rw [h1]
                  · rw [if_neg hbig] at h1; exact absurd h1 hn
              have e1 : (doE s c == 0) = false := by simpa using hn
              have Hn := Lib.hid hn
              clear hn
              go_wp2_with fail
              go_ret3
              exact ⟨hB2, .inl ⟨by rw [hPd.out]; exact Hn.out, by rw [hPd.out]; rfl⟩⟩
            · obtain ⟨hf, hbig⟩ : fitsB c s = true ∧ (madeL c s).length ≤ 1024 := by
                have h1 := hdE.out
                rw [hn] at h1
                cases hf : fitsB c s
                · rw [hf] at h1; simp at h1
                · rw [hf] at h1
                  simp only [Bool.true_eq_false, if_false] at h1
                  by_cases hbig : 1024 < (madeL c s).length
                  · rw [if_pos hbig] at h1; omega
                  · exact ⟨rfl, by omega⟩
              have HR2 : Hid (runL [] (upTo t l) = runL (madeL c s) (upTo t (l.drop (k + 1)))) := by
                show _ = _
                rw [Hrun.out, HU.out, runL_step, hf, if_neg (by simp), if_neg (by omega)]
              have HK2 := Lib.hid (made_right Hck.out Hxo.out hf hbig)
              have HC2 : Hid (countW (upTo t l) = m + (if c.kind = 1 then 0 else 1) + countW (upTo t (l.drop (k + 1)))) := by
                show _ = _
                rw [Hcw.out, HU.out]
                unfold countW
                rw [List.filter_cons]
                by_cases h1 : c.kind = 1
                · simp [h1]
                · simp [h1]; omega
              have d1' := hc1.out w2 hB2
              obtain ⟨A2, cp2, rfl, _, _⟩ := own_form hown2
              have Ho2 := Lib.hid (own_base (b' := w.heap.size) hown2 hz)
              clear hf hbig hn hown2 d0 d1 d2 d3 d4
              by_cases h1 : c.kind = 1
              · have e1 : (c.kind != 1) = false := by simpa using h1
                have HC3 : Hid (countW (upTo t l) = m + countW (upTo t (l.drop (k + 1)))) := by show _ = _; rw [HC2.out, if_pos h1]; rfl
                clear h1
                go_wp2_with fail
                go_roundw
                case rel => exact ⟨k + 1, _, m, by omega, by go_num, rfl, by omega, Ho2.out, hB2, HK2.out, HR2.out, HC3.out⟩
                case measure => simp [intOf]; omega
              · have e1 : (c.kind != 1) = true := by simpa using h1
                have HC3 : Hid (countW (upTo t l) = (m + 1) + countW (upTo t (l.drop (k + 1)))) := by show _ = _; rw [HC2.out, if_neg h1]
                clear h1
                go_wp2_with fail
                go_roundw
                case rel => exact ⟨k + 1, _, m + 1, by omega, by go_num, by go_num, by omega, Ho2.out, hB2, HK2.out, HR2.out, HC3.out⟩
                case measure => simp [intOf]; omega
          · have hup2 := Hup.out
            rw [if_neg hle] at hup2
            have HE := hend hup2
            obtain ⟨p1, p2, p3⟩ := HE.out
            obtain ⟨A', cp', rfl, _, _⟩ := own_form hown
            have hfin : Hid (BothPost l t w (.returned (.tuple #[.slice A' s.length cp', .int .i64 m, .int .i64 0])) wr) := ⟨hB, .inr ⟨p1, _, by rw [p3], by rw [p2]; exact hown⟩⟩
            clear hup2 hend HE p1 p2 p3
            go_wp2_with fail
            go_ret3
            exact hfin.out
        · have HE := hend (by rw [List.drop_eq_nil_of_le (by omega)]; rfl)
          obtain ⟨p1, p2, p3⟩ := HE.out
          obtain ⟨A', cp', rfl, _, _⟩ := own_form hown
          have hfin : Hid (BothPost l t w (.returned (.tuple #[.slice A' s.length cp', .int .i64 m, .int .i64 0])) wr) := ⟨hB, .inr ⟨p1, _, by rw [p3], by rw [p2]; exact hown⟩⟩
          clear hend HE p1 p2 p3
          go_wp2_with fail
          go_ret3
          exact hfin.out
  · have hd : Hid (playE l t = changesE l) := by show _ = _; rw [hPE.out, if_pos hc]
    have e1 : (changesE l == 0) = false := by simpa using hc
    have Hc := Lib.hid hc
    clear hc
    go_wp2_with fail
    go_ret3
    exact ⟨hb1, .inl ⟨by rw [hd.out]; exact Hc.out, by rw [hd.out]; rfl⟩⟩

theorem Play49_any (A : Option Addr) (cp : Nat) (l : List Change) (t : Int) (w : World) (hr : Rd w A (cflat l)) (hm : l.length ≤ 9223372036854775807) :
    Calls Tryd.prog 24 #[.slice A l.length cp, .int .i64 t] w (PlayTop l t w) := by
  go_enter Tryd.func24, Tryd.ntmps24
  go_wp2_with fail
  refine (both_any A cp l t w hr hm).mono ?_
  rintro e w1 ⟨hb1, ⟨hn, rfl⟩ | ⟨hn, v, rfl, hown⟩⟩
  · have hfin : Hid (PlayTop l t w (.returned (.tuple #[.slice none 0 0, .int .i64 (playE l t)])) w1) := ⟨hb1, .inl ⟨hn, rfl⟩⟩
    clear hn
    go_wp2_with fail
    go_ret2
    exact hfin.out
  · have hfin : Hid (PlayTop l t w (.returned (.tuple #[v, .int .i64 0])) w1) := ⟨hb1, .inr ⟨hn, v, rfl, hown⟩⟩
    clear hn
    go_wp2_with fail
    go_ret2
    exact hfin.out
theorem Withdrawn49_any (A : Option Addr) (cp : Nat) (l : List Change) (t : Int) (w : World) (hr : Rd w A (cflat l)) (hm : l.length ≤ 9223372036854775807) :
    Calls Tryd.prog 26 #[.slice A l.length cp, .int .i64 t] w (WdTop l t w) := by
  go_enter Tryd.func26, Tryd.ntmps26
  go_wp2_with fail
  refine (both_any A cp l t w hr hm).mono ?_
  rintro e w1 ⟨hb1, ⟨hn, rfl⟩ | ⟨hn, v, rfl, hown⟩⟩
  · have hfin : Hid (WdTop l t w (.returned (.tuple #[.int .i64 0, .int .i64 (playE l t)])) w1) := ⟨hb1, by rw [if_neg hn]⟩
    clear hn
    go_wp2_with fail
    go_ret2
    exact hfin.out
  · have hfin : Hid (WdTop l t w (.returned (.tuple #[.int .i64 (countW (upTo t l)), .int .i64 0])) w1) := ⟨hb1, by rw [if_pos hn, hn]⟩
    clear hn
    go_wp2_with fail
    go_ret2
    exact hfin.out
end Go.Proofs.YtneanannicacnaaDoor
