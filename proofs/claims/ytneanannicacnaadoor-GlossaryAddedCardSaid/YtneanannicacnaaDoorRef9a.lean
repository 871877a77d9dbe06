/- The reference's package of texts: the code point with which a string begins. -/
import Derived.Test.YtneanannicacnaaDoorBase
import Derived.Test.YtneanannicacnaaDoorUtf9
import Derived.Deep.RegionWith
namespace Go.Proofs.YtneanannicacnaaDoor
open Go.RowKit Go.Han
set_option maxRecDepth 100000

theorem long_any (b : Nat) (h : b < 256) (w : World) : Calls Tryd.prog 140 #[.int .i64 b] w fun e w' =>
    e = .returned (.tuple #[.int .i64 (longR b).1, .int .i64 (longR b).2]) ∧ w = w' := by
  by_cases c1 : b < 128
  · have H : Hid (longR b = (1, b)) := by unfold longR; rw [if_pos c1]; rfl
    go_enter Tryd.func140, Tryd.ntmps140
    go_wp2
    go_ret2
    exact ⟨by rw [H.out]; rfl, rfl⟩
  by_cases c2 : 192 ≤ b ∧ b < 224
  · have H : Hid (longR b = (2, b - 192)) := by unfold longR; rw [if_neg c1, if_pos c2]; rfl
    have e : (b : Int) - 192 = ((b - 192 : Nat) : Int) := by omega
    have E := Lib.hid e
    obtain ⟨g1, g2⟩ := c2
    clear e
    go_enter Tryd.func140, Tryd.ntmps140
    go_wp2
    go_ret2
    exact ⟨by rw [H.out, E.out]; rfl, rfl⟩
  by_cases c3 : 224 ≤ b ∧ b < 240
  · have H : Hid (longR b = (3, b - 224)) := by unfold longR; rw [if_neg c1, if_neg c2, if_pos c3]; rfl
    have e : (b : Int) - 224 = ((b - 224 : Nat) : Int) := by omega
    have E := Lib.hid e
    obtain ⟨g1, g2⟩ := c3
    clear e c2
    go_enter Tryd.func140, Tryd.ntmps140
    go_wp2
    go_ret2
    exact ⟨by rw [H.out, E.out]; rfl, rfl⟩
  by_cases c4 : 240 ≤ b ∧ b < 248
  · have H : Hid (longR b = (4, b - 240)) := by unfold longR; rw [if_neg c1, if_neg c2, if_neg c3, if_pos c4]; rfl
    have e : (b : Int) - 240 = ((b - 240 : Nat) : Int) := by omega
    have E := Lib.hid e
    obtain ⟨g1, g2⟩ := c4
    clear e c2 c3
    go_enter Tryd.func140, Tryd.ntmps140
    go_wp2
    go_ret2
    exact ⟨by rw [H.out, E.out]; rfl, rfl⟩
  · have H : Hid (longR b = (0, 0)) := by unfold longR; rw [if_neg c1, if_neg c2, if_neg c3, if_neg c4]; rfl
    have g : (128 ≤ b ∧ b < 192) ∨ 248 ≤ b := by omega
    clear c1 c2 c3 c4
    rcases g with ⟨g1, g2⟩ | g
    all_goals
      go_enter Tryd.func140, Tryd.ntmps140
      go_wp2
      go_ret2
      exact ⟨by rw [H.out]; rfl, rfl⟩

theorem point9_any (r : Int) (w : World) : Calls Tryd.prog 141 #[.int .i64 r] w fun e w' => e = .returned (.bool (pointB r)) ∧ w = w' := by
  go_enter Tryd.func141, Tryd.ntmps141
  go_wp2
  all_goals go_ret
  all_goals (refine ⟨?_, rfl⟩; simp [pointB, *] <;> omega)

theorem cell_alloc_any (w : World) (cs : Array Value) (t j : Nat) : (w.alloc (.cells cs t)).cell? ⟨w.heap.size, j, none⟩ = cs[j]? := by
  unfold World.cell?
  rw [World.alloc_heap_new]
  rfl
def u8s (l : List UInt8) : List Value := l.map fun c => Value.int .u8 c.toNat
def BytesPost (r : Nat) (w : World) (e : Ending) (w' : World) : Prop :=
  Below w.heap.size w w' ∧ ∃ b, e = .returned (.slice (some ⟨b, 0, none⟩) (bytesR r).length (bytesR r).length) ∧ b < w'.heap.size ∧ ∀ j u, (u8s (bytesR r))[j]? = some u → w'.cell? ⟨b, j, none⟩ = some u
theorem bytes_done (r n : Nat) (w : World) (vs : Array Value) (hn : (bytesR r).length = n) (hv : u8s (bytesR r) = vs.toList) :
    BytesPost r w (.returned (.slice (some ⟨w.heap.size, 0, none⟩) n n)) (w.alloc (.cells vs 5)) := by
  refine ⟨(Below.refl _ _).alloc (Nat.le_refl _) _, w.heap.size, by rw [hn], by simp, fun j u hu => ?_⟩
  rw [cell_alloc_any]
  rw [hv] at hu
  simpa using hu
theorem bytes9_any (r : Nat) (h : r ≤ 1114111) (w : World) : Calls Tryd.prog 142 #[.int .i64 r] w (BytesPost r w) := by
  by_cases c1 : r < 128
  · have H : Hid (bytesR r = [UInt8.ofNat r]) := by unfold bytesR; rw [if_pos c1]; rfl
    have HV : Hid (u8s (bytesR r) = [.int .u8 r]) := by rw [H.out]; simp [u8s, u8_nat r (by omega), Hid]
    go_enter Tryd.func142, Tryd.ntmps142
    go_wp2
    go_ret
    exact bytes_done r 1 w _ (by rw [H.out]; rfl) HV.out
  by_cases c2 : r < 2048
  · have H : Hid (bytesR r = [UInt8.ofNat (192 + r / 64), UInt8.ofNat (128 + r % 64)]) := by unfold bytesR; rw [if_neg c1, if_pos c2]; rfl
    have HV : Hid (u8s (bytesR r) = [.int .u8 (192 + (r : Int) / 64), .int .u8 (128 + (r : Int) % 64)]) := by
      rw [H.out]; simp only [u8s, List.map_cons, List.map_nil, u8_nat (192 + r / 64) (by omega), u8_nat (128 + r % 64) (by omega)]; rfl
    go_enter Tryd.func142, Tryd.ntmps142
    go_wp2
    go_ret
    exact bytes_done r 2 w _ (by rw [H.out]; rfl) HV.out
  by_cases c3 : r < 65536
  · have H : Hid (bytesR r = [UInt8.ofNat (224 + r / 4096), UInt8.ofNat (128 + r / 64 % 64), UInt8.ofNat (128 + r % 64)]) := by unfold bytesR; rw [if_neg c1, if_neg c2, if_pos c3]; rfl
    have HV : Hid (u8s (bytesR r) = [.int .u8 (224 + (r : Int) / 4096), .int .u8 (128 + (r : Int) / 64 % 64), .int .u8 (128 + (r : Int) % 64)]) := by
      rw [H.out]; simp only [u8s, List.map_cons, List.map_nil, u8_nat (224 + r / 4096) (by omega), u8_nat (128 + r / 64 % 64) (by omega), u8_nat (128 + r % 64) (by omega)]; rfl
    have d1 : decide ((r : Int) < 128) = false := by simp; omega
    have d2 : decide ((r : Int) < 2048) = false := by simp; omega
    have d3 : decide ((r : Int) < 65536) = true := by simp; omega
    have g1 : (r : Int) / 4096 ≤ 15 := by omega
    have g2 : (0 : Int) ≤ (r : Int) / 4096 := by omega
    clear c1 c2 c3 h
    go_enter Tryd.func142, Tryd.ntmps142
    go_wp2
    go_ret
    exact bytes_done r 3 w _ (by rw [H.out]; rfl) HV.out
  · have H : Hid (bytesR r = [UInt8.ofNat (240 + r / 262144), UInt8.ofNat (128 + r / 4096 % 64), UInt8.ofNat (128 + r / 64 % 64), UInt8.ofNat (128 + r % 64)]) := by unfold bytesR; rw [if_neg c1, if_neg c2, if_neg c3]; rfl
    have HV : Hid (u8s (bytesR r) = [.int .u8 (240 + (r : Int) / 262144), .int .u8 (128 + (r : Int) / 4096 % 64), .int .u8 (128 + (r : Int) / 64 % 64), .int .u8 (128 + (r : Int) % 64)]) := by
      rw [H.out]; simp only [u8s, List.map_cons, List.map_nil, u8_nat (240 + r / 262144) (by omega), u8_nat (128 + r / 4096 % 64) (by omega), u8_nat (128 + r / 64 % 64) (by omega), u8_nat (128 + r % 64) (by omega)]; rfl
    have d1 : decide ((r : Int) < 128) = false := by simp; omega
    have d2 : decide ((r : Int) < 2048) = false := by simp; omega
    have d3 : decide ((r : Int) < 65536) = false := by simp; omega
    have g1 : (r : Int) / 262144 ≤ 4 := by omega
    have g2 : (0 : Int) ≤ (r : Int) / 262144 := by omega
    clear c1 c2 c3 h
    go_enter Tryd.func142, Tryd.ntmps142
    go_wp2
    go_ret
    exact bytes_done r 4 w _ (by rw [H.out]; rfl) HV.out

def FirstPost (l : List UInt8) (w : World) (e : Ending) (w' : World) : Prop :=
  Below w.heap.size w w' ∧ e = .returned (.tuple #[.int .i64 (firstR l).1, .int .i64 (firstR l).2])
theorem below_drewN (w : World) (n : Nat) : Below w.heap.size w (w.drewN n) := by
  induction n with
  | zero => exact Below.refl _ _
  | succ n ih => exact ih.drew
theorem get_byteAt (s : ByteArray) (k : Nat) (h : k < s.size) : s[k].toNat = byteAt s.data.toList k := by
  unfold byteAt
  cases s with
  | mk d =>
    show (d[k]).toNat = _
    have : k < d.size := h
    simp [this]
theorem acc_step (l : List UInt8) (k : Nat) : accR l (k + 1) = accR l k * 64 + byteAt l (k + 1) - 128 := rfl
theorem long_bd (b : Nat) (h : b < 256) : (longR b).1 ≤ 4 ∧ (longR b).2 < 128 := by
  unfold longR
  repeat' split
  all_goals (refine ⟨?_, ?_⟩ <;> simp <;> omega)
theorem byteAt_lt (l : List UInt8) (k : Nat) : byteAt l k < 256 := (l[k]?.getD 0).toNat_lt
theorem goes_step (l : List UInt8) (k : Nat) : goesR l (k + 1) = (goesR l k && contB (byteAt l (k + 1))) := rfl
theorem goes_mono (l : List UInt8) (k n : Nat) (h : k ≤ n) (hg : goesR l n = true) : goesR l k = true := by
  induction n with
  | zero => obtain rfl : k = 0 := by omega
            rfl
  | succ n ih =>
    rcases Nat.lt_or_ge k (n + 1) with h1 | h1
    · rw [goes_step, Bool.and_eq_true] at hg
      exact ih (by omega) hg.1
    · obtain rfl : k = n + 1 := by omega
      exact hg
theorem acc_bd (l : List UInt8) : ∀ k, goesR l k = true → accR l k < 128 * 64 ^ k
  | 0, _ => by have := (long_bd _ (byteAt_lt l 0)).2; show (longR (byteAt l 0)).2 < _; omega
  | k + 1, h => by
    rw [goes_step, Bool.and_eq_true] at h
    have ih := acc_bd l k h.1
    have : 128 ≤ byteAt l (k + 1) ∧ byteAt l (k + 1) < 192 := by simpa [contB] using h.2
    rw [acc_step, Nat.pow_succ]
    omega
theorem acc_lt (l : List UInt8) (k : Nat) (hk : k ≤ 3) (h : goesR l k = true) : accR l k < 33554432 := by
  have := acc_bd l k h
  have h2 : 64 ^ k ≤ 64 ^ 3 := Nat.pow_le_pow_right (by decide) hk
  have h3 : 64 ^ 3 = 262144 := by decide
  omega

set_option maxHeartbeats 1000000 in
theorem first_any (s : ByteArray) (hs : s.data.toList ≠ []) (w : World) : Calls Tryd.prog 125 #[.string s] w (FirstPost s.data.toList w) := by
  have hz : 0 < s.size := by rw [Lib.size_eq]; exact List.length_pos_iff.2 hs
  have hz1 : (0 : Int) < (s.size : Int) := by omega
  have h0 : s[0].toNat < 256 := s[0].toNat_lt
  have E0 := Lib.hid (get_byteAt s 0 hz)
  have Hf : Hid (firstR s.data.toList = if (longR (byteAt s.data.toList 0)).1 = 0 ∨ s.data.toList.length < (longR (byteAt s.data.toList 0)).1 then (0, 0) else if goesR s.data.toList ((longR (byteAt s.data.toList 0)).1 - 1) then lastR s.data.toList (longR (byteAt s.data.toList 0)).1 else (0, 0)) := rfl
  have hbd := long_bd _ (byteAt_lt s.data.toList 0)
  have hA0 : Hid (accR s.data.toList 0 = (longR (byteAt s.data.toList 0)).2) := rfl
  have hg0 : goesR s.data.toList 0 = true := rfl
  have hgb : ∀ k : Nat, k < s.size → s[k]?.isSome := fun k h => by simp [h]
  clear hgb
  go_enter Tryd.func125, Tryd.ntmps125
  go_wp2_with fail
  refine (long_any _ h0 _).mono ?_
  rintro e w' ⟨rfl, rfl⟩
  rw [E0.out]
  generalize hlo : longR (byteAt s.data.toList 0) = nr at *
  clear hlo
  obtain ⟨n, r⟩ := nr
  simp only at hbd
  obtain ⟨hn4, hr⟩ := hbd
  have hsz := Lib.size_eq s
  by_cases hn0 : n = 0 ∨ s.size < n
  · have Hx : Hid (firstR s.data.toList = (0, 0)) := by show _ = _; rw [Hf.out, if_pos (by rw [← hsz]; exact hn0)]
    clear Hf hA0 hg0 hsz
    have hb : (n = 0) ∨ (¬ n = 0 ∧ s.size < n) := by omega
    clear hn0
    rcases hb with rfl | ⟨g1, g2⟩
    · go_wp2
      go_ret2
      exact ⟨Below.refl _ _, by rw [Hx.out]; rfl⟩
    · have g3 : ((n : Int) == 0) = false := by simpa using g1
      have g4 : (s.size : Int) < (n : Int) := by omega
      go_wp2
      go_ret2
      exact ⟨Below.refl _ _, by rw [Hx.out]; rfl⟩
  · have Hx : Hid (firstR s.data.toList = if goesR s.data.toList (n - 1) then lastR s.data.toList n else (0, 0)) := by show _ = _; rw [Hf.out, if_neg (by rw [← hsz]; exact hn0)]
    have g1 : ¬ n = 0 := by omega
    have g3 : ((n : Int) == 0) = false := by simpa using g1
    have g4 : ¬ (s.size : Int) < (n : Int) := by omega
    have g5 : decide (s.size < n) = false := by simp; omega
    clear Hf hsz hn0
    go_wp2_with fail
    go_loop [2, 3, 5, 6, 7] (fun _ _ r i _ => ∃ k : Nat, k + 1 ≤ n ∧ i = .int .i64 ((k : Int) + 1) ∧ r = .int .i64 (accR s.data.toList k) ∧ Hid (goesR s.data.toList k = true)) (fun _ _ _ i _ => n - (intOf i).toNat)
    case atStart => exact ⟨0, by omega, rfl, by rw [hA0.out], hg0⟩
    case round =>
      obtain ⟨k, hk, rfl, rfl, HG⟩ := hrel
      have hrk := acc_lt s.data.toList k (by omega) HG.out
      clear hg0
      by_cases hlt : k + 1 < n
      · have hks : k + 1 < s.size := by omega
        have hb256 := byteAt_lt s.data.toList (k + 1)
        have EK := Lib.hid (get_byteAt s (k + 1) hks)
        have hb0 : s[k + 1].toNat < 256 := s[k + 1].toNat_lt
        rcases (show s[k + 1].toNat < 128 ∨ (¬ s[k + 1].toNat < 128 ∧ 192 ≤ s[k + 1].toNat) ∨ (¬ s[k + 1].toNat < 128 ∧ ¬ 192 ≤ s[k + 1].toNat) by omega) with c1 | ⟨c1, c2⟩ | ⟨c1, c2⟩
        · have Hy : Hid (firstR s.data.toList = (0, 0)) := by
            show _ = _
            rw [Hx.out, if_neg]
            intro hgo
            have h2 := goes_mono s.data.toList (k + 1) (n - 1) (by omega) hgo
            rw [goes_step, ← EK.out, Bool.and_eq_true] at h2
            have : 128 ≤ s[k + 1].toNat ∧ s[k + 1].toNat < 192 := by simpa [contB] using h2.2
            omega
          go_wp2
          go_ret2
          exact ⟨Below.refl _ _, by rw [Hy.out]; rfl⟩
        · have Hy : Hid (firstR s.data.toList = (0, 0)) := by
            show _ = _
            rw [Hx.out, if_neg]
            intro hgo
            have h2 := goes_mono s.data.toList (k + 1) (n - 1) (by omega) hgo
            rw [goes_step, ← EK.out, Bool.and_eq_true] at h2
            have : 128 ≤ s[k + 1].toNat ∧ s[k + 1].toNat < 192 := by simpa [contB] using h2.2
            omega
          go_wp2
          go_ret2
          exact ⟨Below.refl _ _, by rw [Hy.out]; rfl⟩
        · have HG2 : Hid (goesR s.data.toList (k + 1) = true) := by
            show _ = _
            rw [goes_step, HG.out, ← EK.out]; simp [contB]; omega
          have HA : Hid ((accR s.data.toList (k + 1) : Int) = accR s.data.toList k * 64 + s[k + 1].toNat - 128) := by
            show _ = _
            rw [acc_step, ← EK.out]; omega
          go_wp2
          go_round
          case rel => exact ⟨k + 1, by omega, by go_num, by rw [HA.out], HG2⟩
          case measure => simp [intOf]; omega
      · obtain rfl : n = k + 1 := by omega
        have Hy : Hid (firstR s.data.toList = lastR s.data.toList (k + 1)) := by
          show _ = _
          rw [Hx.out, Nat.add_sub_cancel, HG.out]; rfl
        have Hl : Hid (lastR s.data.toList (k + 1) = if pointB (accR s.data.toList k) && (bytesR (accR s.data.toList k) == s.data.toList.take (k + 1)) then (accR s.data.toList k, k + 1) else (0, 0)) := rfl
        have hks : ((k : Int) + 1) ≤ s.size := by omega
        have hks2 : k + 1 ≤ s.size := by omega
        clear hA0 Hx HG E0 h0 hlt
        generalize accR s.data.toList k = a at *
        cases hp : pointB a
        · have Hz : Hid (firstR s.data.toList = (0, 0)) := by show _ = _; rw [Hy.out, Hl.out, hp]; rfl
          have cp := point9_any a
          rw [hp] at cp
          clear Hy Hl hp
          go_wp2_with fail
          go_quiet ((go_at_call 141; exact Calls.quiet_of_same ((cp _).mono fun _ _ h => ⟨h.1, h.2.symm⟩)))
          go_wp2
          go_ret2
          exact ⟨below_drewN _ _, by rw [Hz.out]; rfl⟩
        · have cp := point9_any a
          rw [hp] at cp
          have ha : a ≤ 1114111 := by simp [pointB] at hp; omega
          have hconv := fun (W : World) (b : Nat) (hc : ∀ j u, (u8s (bytesR a))[j]? = some u → W.cell? ⟨b, j, none⟩ = some u) => run_convert_bytes_back (P := Tryd.prog) W 133 9 5 ⟨b, 0, none⟩ (bytesR a).length (bytesR a) Tryd.underlying133 Tryd.underlying5 Tryd.underlying9
            (fun j hj => by
              have := hc j (.int .u8 ((bytesR a)[j].toNat)) (by simp [u8s, hj])
              rwa [show (⟨b, 0, none⟩ : Addr).add j = ⟨b, j, none⟩ from by unfold Addr.add; split <;> simp_all])
          have Hl2 : Hid (firstR s.data.toList = if (bytesR a == s.data.toList.take (k + 1)) then (a, k + 1) else (0, 0)) := by show _ = _; rw [Hy.out, Hl.out, hp, Bool.true_and]
          clear Hl Hy hp
          have Hfin : Hid (∀ t : Bool, (!bytesR a == (s.extract 0 (k + 1)).toList) = t → firstR s.data.toList = if t then (0, 0) else (a, k + 1)) := by
            show ∀ _, _
            intro t ht
            rw [Hl2.out, ← ht, ByteArray.toList_eq, Lib.extract_data]
            simp only [List.drop_zero, Nat.sub_zero]
            cases bytesR a == List.take (k + 1) s.data.toList <;> rfl
          clear Hl2
          go_wp2_with fail
          go_region_with (first | (go_at_call 141; refine (cp _).mono ?_; rintro e w' ⟨rfl, rfl⟩) | (go_at_call 142; refine (bytes9_any a ha _).mono ?_; rintro e w2 ⟨hb2, b, rfl, hblt, hcell⟩; have hcv := hconv w2 b hcell; clear hcell))
          all_goals go_wp2_with fail
          all_goals go_ret2
          all_goals (have hx := Hfin.out _ (by assumption))
          all_goals (refine ⟨?_, by rw [hx]; rfl⟩)
          all_goals (refine ext_trans ?_ hb2; repeat (first | exact Below.refl _ _ | refine ext_drew ?_))
end Go.Proofs.YtneanannicacnaaDoor
