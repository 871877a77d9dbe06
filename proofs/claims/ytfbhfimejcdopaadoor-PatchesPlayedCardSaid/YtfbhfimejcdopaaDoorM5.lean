/- Texts of this claim, one after the other: Ref9a, Ref9b, Disp10, Disp11, Disp12, Ref49a. -/
import Derived.Test.YtfbhfimejcdopaaDoorM1
import Derived.Test.YtfbhfimejcdopaaDoorM4
import Derived.Test.YtfbhfimejcdopaaDoorM2
import Derived.Deep.RegionWith
import Derived.RangeFuncBox
/- The reference's package of texts: the code point with which a string begins. -/
namespace Go.Proofs.YtfbhfimejcdopaaDoor
open Go.RowKit Go.Han
set_option maxRecDepth 100000

theorem long_any (b : Nat) (h : b < 256) (w : World) : Calls Tryd.prog 156 #[.int .i64 b] w fun e w' =>
    e = .returned (.tuple #[.int .i64 (longR b).1, .int .i64 (longR b).2]) ∧ w = w' := by
  by_cases c1 : b < 128
  · have H : Hid (longR b = (1, b)) := by unfold longR; rw [if_pos c1]; rfl
    go_enter Tryd.func156, Tryd.ntmps156
    go_wp2
    go_ret2
    exact ⟨by rw [H.out]; rfl, rfl⟩
  by_cases c2 : 192 ≤ b ∧ b < 224
  · have H : Hid (longR b = (2, b - 192)) := by unfold longR; rw [if_neg c1, if_pos c2]; rfl
    have e : (b : Int) - 192 = ((b - 192 : Nat) : Int) := by omega
    have E := Lib.hid e
    obtain ⟨g1, g2⟩ := c2
    clear e
    go_enter Tryd.func156, Tryd.ntmps156
    go_wp2
    go_ret2
    exact ⟨by rw [H.out, E.out]; rfl, rfl⟩
  by_cases c3 : 224 ≤ b ∧ b < 240
  · have H : Hid (longR b = (3, b - 224)) := by unfold longR; rw [if_neg c1, if_neg c2, if_pos c3]; rfl
    have e : (b : Int) - 224 = ((b - 224 : Nat) : Int) := by omega
    have E := Lib.hid e
    obtain ⟨g1, g2⟩ := c3
    clear e c2
    go_enter Tryd.func156, Tryd.ntmps156
    go_wp2
    go_ret2
    exact ⟨by rw [H.out, E.out]; rfl, rfl⟩
  by_cases c4 : 240 ≤ b ∧ b < 248
  · have H : Hid (longR b = (4, b - 240)) := by unfold longR; rw [if_neg c1, if_neg c2, if_neg c3, if_pos c4]; rfl
    have e : (b : Int) - 240 = ((b - 240 : Nat) : Int) := by omega
    have E := Lib.hid e
    obtain ⟨g1, g2⟩ := c4
    clear e c2 c3
    go_enter Tryd.func156, Tryd.ntmps156
    go_wp2
    go_ret2
    exact ⟨by rw [H.out, E.out]; rfl, rfl⟩
  · have H : Hid (longR b = (0, 0)) := by unfold longR; rw [if_neg c1, if_neg c2, if_neg c3, if_neg c4]; rfl
    have g : (128 ≤ b ∧ b < 192) ∨ 248 ≤ b := by omega
    clear c1 c2 c3 c4
    rcases g with ⟨g1, g2⟩ | g
    all_goals
      go_enter Tryd.func156, Tryd.ntmps156
      go_wp2
      go_ret2
      exact ⟨by rw [H.out]; rfl, rfl⟩

theorem point9_any (r : Int) (w : World) : Calls Tryd.prog 157 #[.int .i64 r] w fun e w' => e = .returned (.bool (pointB r)) ∧ w = w' := by
  go_enter Tryd.func157, Tryd.ntmps157
  go_wp2
  all_goals go_ret
  all_goals (refine ⟨?_, rfl⟩; simp [pointB, *] <;> omega)

theorem cell_alloc_any (w : World) (cs : Array Value) (t j : Nat) : (w.alloc (.cells cs t)).cell? ⟨w.heap.size, j, none⟩ = cs[j]? := by
  unfold World.cell?
  rw [World.alloc_heap_new]
  rfl
def u8s (l : List UInt8) : List Value := l.map fun c => Value.int .u8 c.toNat
def BytesPost (r : Nat) (w : World) (e : Ending) (w' : World) : Prop :=
  Below w.heap.size w w' ∧ ∃ b, e = .returned (.slice (some ⟨b, 0, none⟩) (bytesR r).length (bytesR r).length) ∧ b < w'.heap.size ∧ ∀ j u, (u8s (bytesR r))[j]? = some u → w'.cell? ⟨b, j, none⟩ = some u
theorem bytes_done (r n : Nat) (w : World) (vs : Array Value) (hn : (bytesR r).length = n) (hv : u8s (bytesR r) = vs.toList) :
    BytesPost r w (.returned (.slice (some ⟨w.heap.size, 0, none⟩) n n)) (w.alloc (.cells vs 5)) := by
  refine ⟨(Below.refl _ _).alloc (Nat.le_refl _) _, w.heap.size, by rw [hn], by simp, fun j u hu => ?_⟩
  rw [cell_alloc_any]
  rw [hv] at hu
  simpa using hu
theorem bytes9_any (r : Nat) (h : r ≤ 1114111) (w : World) : Calls Tryd.prog 158 #[.int .i64 r] w (BytesPost r w) := by
  by_cases c1 : r < 128
  · have H : Hid (bytesR r = [UInt8.ofNat r]) := by unfold bytesR; rw [if_pos c1]; rfl
    have HV : Hid (u8s (bytesR r) = [.int .u8 r]) := by rw [H.out]; simp [u8s, u8_nat r (by omega), Hid]
    go_enter Tryd.func158, Tryd.ntmps158
    go_wp2
    go_ret
    exact bytes_done r 1 w _ (by rw [H.out]; rfl) HV.out
  by_cases c2 : r < 2048
  · have H : Hid (bytesR r = [UInt8.ofNat (192 + r / 64), UInt8.ofNat (128 + r % 64)]) := by unfold bytesR; rw [if_neg c1, if_pos c2]; rfl
    have HV : Hid (u8s (bytesR r) = [.int .u8 (192 + (r : Int) / 64), .int .u8 (128 + (r : Int) % 64)]) := by
      rw [H.out]; simp only [u8s, List.map_cons, List.map_nil, u8_nat (192 + r / 64) (by omega), u8_nat (128 + r % 64) (by omega)]; rfl
    go_enter Tryd.func158, Tryd.ntmps158
    go_wp2
    go_ret
    exact bytes_done r 2 w _ (by rw [H.out]; rfl) HV.out
  by_cases c3 : r < 65536
  · have H : Hid (bytesR r = [UInt8.ofNat (224 + r / 4096), UInt8.ofNat (128 + r / 64 % 64), UInt8.ofNat (128 + r % 64)]) := by unfold bytesR; rw [if_neg c1, if_neg c2, if_pos c3]; rfl
    have HV : Hid (u8s (bytesR r) = [.int .u8 (224 + (r : Int) / 4096), .int .u8 (128 + (r : Int) / 64 % 64), .int .u8 (128 + (r : Int) % 64)]) := by
      rw [H.out]; simp only [u8s, List.map_cons, List.map_nil, u8_nat (224 + r / 4096) (by omega), u8_nat (128 + r / 64 % 64) (by omega), u8_nat (128 + r % 64) (by omega)]; rfl
    have d1 : decide ((r : Int) < 128) = false := by simp; omega
    have d2 : decide ((r : Int) < 2048) = false := by simp; omega
    have d3 : decide ((r : Int) < 65536) = true := by simp; omega
    have g1 : (r : Int) / 4096 ≤ 15 := by omega
    have g2 : (0 : Int) ≤ (r : Int) / 4096 := by omega
    clear c1 c2 c3 h
    go_enter Tryd.func158, Tryd.ntmps158
    go_wp2
    go_ret
    exact bytes_done r 3 w _ (by rw [H.out]; rfl) HV.out
  · have H : Hid (bytesR r = [UInt8.ofNat (240 + r / 262144), UInt8.ofNat (128 + r / 4096 % 64), UInt8.ofNat (128 + r / 64 % 64), UInt8.ofNat (128 + r % 64)]) := by unfold bytesR; rw [if_neg c1, if_neg c2, if_neg c3]; rfl
    have HV : Hid (u8s (bytesR r) = [.int .u8 (240 + (r : Int) / 262144), .int .u8 (128 + (r : Int) / 4096 % 64), .int .u8 (128 + (r : Int) / 64 % 64), .int .u8 (128 + (r : Int) % 64)]) := by
      rw [H.out]; simp only [u8s, List.map_cons, List.map_nil, u8_nat (240 + r / 262144) (by omega), u8_nat (128 + r / 4096 % 64) (by omega), u8_nat (128 + r / 64 % 64) (by omega), u8_nat (128 + r % 64) (by omega)]; rfl
    have d1 : decide ((r : Int) < 128) = false := by simp; omega
    have d2 : decide ((r : Int) < 2048) = false := by simp; omega
    have d3 : decide ((r : Int) < 65536) = false := by simp; omega
    have g1 : (r : Int) / 262144 ≤ 4 := by omega
    have g2 : (0 : Int) ≤ (r : Int) / 262144 := by omega
    clear c1 c2 c3 h
    go_enter Tryd.func158, Tryd.ntmps158
    go_wp2
    go_ret
    exact bytes_done r 4 w _ (by rw [H.out]; rfl) HV.out

def FirstPost (l : List UInt8) (w : World) (e : Ending) (w' : World) : Prop :=
  Below w.heap.size w w' ∧ e = .returned (.tuple #[.int .i64 (firstR l).1, .int .i64 (firstR l).2])
theorem below_drewN (w : World) (n : Nat) : Below w.heap.size w (w.drewN n) := by
  induction n with
  | zero => exact Below.refl _ _
  | succ n ih => exact ih.drew
theorem get_byteAt (s : ByteArray) (k : Nat) (h : k < s.size) : s[k].toNat = byteAt s.data.toList k := by
  unfold byteAt
  cases s with
  | mk d =>
    show (d[k]).toNat = _
    have : k < d.size := h
    simp [this]
theorem acc_step (l : List UInt8) (k : Nat) : accR l (k + 1) = accR l k * 64 + byteAt l (k + 1) - 128 := rfl
theorem long_bd (b : Nat) (h : b < 256) : (longR b).1 ≤ 4 ∧ (longR b).2 < 128 := by
  unfold longR
  repeat' split
  all_goals (refine ⟨?_, ?_⟩ <;> simp <;> omega)
theorem byteAt_lt (l : List UInt8) (k : Nat) : byteAt l k < 256 := (l[k]?.getD 0).toNat_lt
theorem goes_step (l : List UInt8) (k : Nat) : goesR l (k + 1) = (goesR l k && contB (byteAt l (k + 1))) := rfl
theorem goes_mono (l : List UInt8) (k n : Nat) (h : k ≤ n) (hg : goesR l n = true) : goesR l k = true := by
  induction n with
  | zero => obtain rfl : k = 0 := by omega
            rfl
  | succ n ih =>
    rcases Nat.lt_or_ge k (n + 1) with h1 | h1
    · rw [goes_step, Bool.and_eq_true] at hg
      exact ih (by omega) hg.1
    · obtain rfl : k = n + 1 := by omega
      exact hg
theorem acc_bd (l : List UInt8) : ∀ k, goesR l k = true → accR l k < 128 * 64 ^ k
  | 0, _ => by have := (long_bd _ (byteAt_lt l 0)).2; show (longR (byteAt l 0)).2 < _; omega
  | k + 1, h => by
    rw [goes_step, Bool.and_eq_true] at h
    have ih := acc_bd l k h.1
    have : 128 ≤ byteAt l (k + 1) ∧ byteAt l (k + 1) < 192 := by simpa [contB] using h.2
    rw [acc_step, Nat.pow_succ]
    omega
theorem acc_lt (l : List UInt8) (k : Nat) (hk : k ≤ 3) (h : goesR l k = true) : accR l k < 33554432 := by
  have := acc_bd l k h
  have h2 : 64 ^ k ≤ 64 ^ 3 := Nat.pow_le_pow_right (by decide) hk
  have h3 : 64 ^ 3 = 262144 := by decide
  omega

set_option maxHeartbeats 1000000 in
theorem first_any (s : ByteArray) (hs : s.data.toList ≠ []) (w : World) : Calls Tryd.prog 119 #[.string s] w (FirstPost s.data.toList w) := by
  have hz : 0 < s.size := by rw [Lib.size_eq]; exact List.length_pos_iff.2 hs
  have hz1 : (0 : Int) < (s.size : Int) := by omega
  have h0 : s[0].toNat < 256 := s[0].toNat_lt
  have E0 := Lib.hid (get_byteAt s 0 hz)
  have Hf : Hid (firstR s.data.toList = if (longR (byteAt s.data.toList 0)).1 = 0 ∨ s.data.toList.length < (longR (byteAt s.data.toList 0)).1 then (0, 0) else if goesR s.data.toList ((longR (byteAt s.data.toList 0)).1 - 1) then lastR s.data.toList (longR (byteAt s.data.toList 0)).1 else (0, 0)) := rfl
  have hbd := long_bd _ (byteAt_lt s.data.toList 0)
  have hA0 : Hid (accR s.data.toList 0 = (longR (byteAt s.data.toList 0)).2) := rfl
  have hg0 : goesR s.data.toList 0 = true := rfl
  have hgb : ∀ k : Nat, k < s.size → s[k]?.isSome := fun k h => by simp [h]
  clear hgb
  go_enter Tryd.func119, Tryd.ntmps119
  go_wp2_with fail
  refine (long_any _ h0 _).mono ?_
  rintro e w' ⟨rfl, rfl⟩
  rw [E0.out]
  generalize hlo : longR (byteAt s.data.toList 0) = nr at *
  clear hlo
  obtain ⟨n, r⟩ := nr
  simp only at hbd
  obtain ⟨hn4, hr⟩ := hbd
  have hsz := Lib.size_eq s
  by_cases hn0 : n = 0 ∨ s.size < n
  · have Hx : Hid (firstR s.data.toList = (0, 0)) := by show _ = _; rw [Hf.out, if_pos (by rw [← hsz]; exact hn0)]
    clear Hf hA0 hg0 hsz
    have hb : (n = 0) ∨ (¬ n = 0 ∧ s.size < n) := by omega
    clear hn0
    rcases hb with rfl | ⟨g1, g2⟩
    · go_wp2
      go_ret2
      exact ⟨Below.refl _ _, by rw [Hx.out]; rfl⟩
    · have g3 : ((n : Int) == 0) = false := by simpa using g1
      have g4 : (s.size : Int) < (n : Int) := by omega
      go_wp2
      go_ret2
      exact ⟨Below.refl _ _, by rw [Hx.out]; rfl⟩
  · have Hx : Hid (firstR s.data.toList = if goesR s.data.toList (n - 1) then lastR s.data.toList n else (0, 0)) := by show _ = _; rw [Hf.out, if_neg (by rw [← hsz]; exact hn0)]
    have g1 : ¬ n = 0 := by omega
    have g3 : ((n : Int) == 0) = false := by simpa using g1
    have g4 : ¬ (s.size : Int) < (n : Int) := by omega
    have g5 : decide (s.size < n) = false := by simp; omega
    clear Hf hsz hn0
    go_wp2_with fail
    go_loop [2, 3, 5, 6, 7] (fun _ _ r i _ => ∃ k : Nat, k + 1 ≤ n ∧ i = .int .i64 ((k : Int) + 1) ∧ r = .int .i64 (accR s.data.toList k) ∧ Hid (goesR s.data.toList k = true)) (fun _ _ _ i _ => n - (intOf i).toNat)
    case atStart => exact ⟨0, by omega, rfl, by rw [hA0.out], hg0⟩
    case round =>
      obtain ⟨k, hk, rfl, rfl, HG⟩ := hrel
      have hrk := acc_lt s.data.toList k (by omega) HG.out
      clear hg0
      by_cases hlt : k + 1 < n
      · have hks : k + 1 < s.size := by omega
        have hb256 := byteAt_lt s.data.toList (k + 1)
        have EK := Lib.hid (get_byteAt s (k + 1) hks)
        have hb0 : s[k + 1].toNat < 256 := s[k + 1].toNat_lt
        rcases (show s[k + 1].toNat < 128 ∨ (¬ s[k + 1].toNat < 128 ∧ 192 ≤ s[k + 1].toNat) ∨ (¬ s[k + 1].toNat < 128 ∧ ¬ 192 ≤ s[k + 1].toNat) by omega) with c1 | ⟨c1, c2⟩ | ⟨c1, c2⟩
        · have Hy : Hid (firstR s.data.toList = (0, 0)) := by
            show _ = _
            rw [Hx.out, if_neg]
            intro hgo
            have h2 := goes_mono s.data.toList (k + 1) (n - 1) (by omega) hgo
            rw [goes_step, ← EK.out, Bool.and_eq_true] at h2
            have : 128 ≤ s[k + 1].toNat ∧ s[k + 1].toNat < 192 := by simpa [contB] using h2.2
            omega
          go_wp2
          go_ret2
          exact ⟨Below.refl _ _, by rw [Hy.out]; rfl⟩
        · have Hy : Hid (firstR s.data.toList = (0, 0)) := by
            show _ = _
            rw [Hx.out, if_neg]
            intro hgo
            have h2 := goes_mono s.data.toList (k + 1) (n - 1) (by omega) hgo
            rw [goes_step, ← EK.out, Bool.and_eq_true] at h2
            have : 128 ≤ s[k + 1].toNat ∧ s[k + 1].toNat < 192 := by simpa [contB] using h2.2
            omega
          go_wp2
          go_ret2
          exact ⟨Below.refl _ _, by rw [Hy.out]; rfl⟩
        · have HG2 : Hid (goesR s.data.toList (k + 1) = true) := by
            show _ = _
            rw [goes_step, HG.out, ← EK.out]; simp [contB]; omega
          have HA : Hid ((accR s.data.toList (k + 1) : Int) = accR s.data.toList k * 64 + s[k + 1].toNat - 128) := by
            show _ = _
            rw [acc_step, ← EK.out]; omega
          go_wp2
          go_round
          case rel => exact ⟨k + 1, by omega, by go_num, by rw [HA.out], HG2⟩
          case measure => simp [intOf]; omega
      · obtain rfl : n = k + 1 := by omega
        have Hy : Hid (firstR s.data.toList = lastR s.data.toList (k + 1)) := by
          show _ = _
          rw [Hx.out, Nat.add_sub_cancel, HG.out]; rfl
        have Hl : Hid (lastR s.data.toList (k + 1) = if pointB (accR s.data.toList k) && (bytesR (accR s.data.toList k) == s.data.toList.take (k + 1)) then (accR s.data.toList k, k + 1) else (0, 0)) := rfl
        have hks : ((k : Int) + 1) ≤ s.size := by omega
        have hks2 : k + 1 ≤ s.size := by omega
        clear hA0 Hx HG E0 h0 hlt
        generalize accR s.data.toList k = a at *
        cases hp : pointB a
        · have Hz : Hid (firstR s.data.toList = (0, 0)) := by show _ = _; rw [Hy.out, Hl.out, hp]; rfl
          have cp := point9_any a
          rw [hp] at cp
          clear Hy Hl hp
          go_wp2_with fail
          go_quiet ((go_at_call 157; exact Calls.quiet_of_same ((cp _).mono fun _ _ h => ⟨h.1, h.2.symm⟩)))
          go_wp2
          go_ret2
          exact ⟨below_drewN _ _, by rw [Hz.out]; rfl⟩
        · have cp := point9_any a
          rw [hp] at cp
          have ha : a ≤ 1114111 := by simp [pointB] at hp; omega
          have hconv := fun (W : World) (b : Nat) (hc : ∀ j u, (u8s (bytesR a))[j]? = some u → W.cell? ⟨b, j, none⟩ = some u) => run_convert_bytes_back (P := Tryd.prog) W 191 9 5 ⟨b, 0, none⟩ (bytesR a).length (bytesR a) Tryd.underlying191 Tryd.underlying5 Tryd.underlying9
            (fun j hj => by
              have := hc j (.int .u8 ((bytesR a)[j].toNat)) (by simp [u8s, hj])
              rwa [show (⟨b, 0, none⟩ : Addr).add j = ⟨b, j, none⟩ from by unfold Addr.add; split <;> simp_all])
          have Hl2 : Hid (firstR s.data.toList = if (bytesR a == s.data.toList.take (k + 1)) then (a, k + 1) else (0, 0)) := by show _ = _; rw [Hy.out, Hl.out, hp, Bool.true_and]
          clear Hl Hy hp
          have Hfin : Hid (∀ t : Bool, (!bytesR a == (s.extract 0 (k + 1)).toList) = t → firstR s.data.toList = if t then (0, 0) else (a, k + 1)) := by
            show ∀ _, _
            intro t ht
            rw [Hl2.out, ← ht, ByteArray.toList_eq, Lib.extract_data]
            simp only [List.drop_zero, Nat.sub_zero]
            cases bytesR a == List.take (k + 1) s.data.toList <;> rfl
          clear Hl2
          go_wp2_with fail
          go_region_with (first | (go_at_call 157; refine (cp _).mono ?_; rintro e w' ⟨rfl, rfl⟩) | (go_at_call 158; refine (bytes9_any a ha _).mono ?_; rintro e w2 ⟨hb2, b, rfl, hblt, hcell⟩; have hcv := hconv w2 b hcell; clear hcell))
          all_goals go_wp2_with fail
          all_goals go_ret2
          all_goals (have hx := Hfin.out _ (by assumption))
          all_goals (refine ⟨?_, by rw [hx]; rfl⟩)
          all_goals (refine ext_trans ?_ hb2; repeat (first | exact Below.refl _ _ | refine ext_drew ?_))
end Go.Proofs.YtfbhfimejcdopaaDoor

/- The reference's package of texts: the code points of a string, and whether it is a word. -/
namespace Go.Proofs.YtfbhfimejcdopaaDoor
open Go.RowKit Go.Han
set_option maxRecDepth 100000

theorem ownsRow_ext {w w' : World} {base e size n : Nat} {v : Value} {xs : List Value} (h : w.ownsRow base e size v n xs) (hb : Below w.heap.size w w') : w'.ownsRow base e size v n xs :=
  ownsRow_of_block h fun g hg => hb.block g (h.lt g hg).2
def KindPost (r : Int) (w : World) (e : Ending) (w' : World) : Prop :=
  w = w' ∧ ∃ k x : Int, e = .returned (.tuple #[.int .i64 k, .int .i64 x]) ∧ (k == 1) = spaceB r
set_option maxHeartbeats 1000000 in
theorem kind_any (r : Int) (w : World) : Calls Tryd.prog 120 #[.int .i64 r] w (KindPost r w) := by
  cases hp : pointB r
  · have hs : Hid (spaceB r = false) := by
      show _ = _
      have : ¬ (r = 9 ∨ r = 10 ∨ r = 13 ∨ r = 32) := by
        rintro (rfl | rfl | rfl | rfl) <;> cases hp
      simp [spaceB]; omega
    go_enter Tryd.func120, Tryd.ntmps120
    go_wp2_with fail
    refine (point9_any _ _).mono ?_
    rintro e w' ⟨rfl, rfl⟩
    go_wp2
    go_ret2
    exact ⟨rfl, 0, 90, rfl, hs.out.symm⟩
  · cases hs : spaceB r
    · have Hs := Lib.hid hs
      have n1 : (r == 9) = false := by simp [spaceB] at hs ⊢; omega
      have n2 : (r == 10) = false := by simp [spaceB] at hs ⊢; omega
      have n3 : (r == 13) = false := by simp [spaceB] at hs ⊢; omega
      have n4 : (r == 32) = false := by simp [spaceB] at hs ⊢; omega
      clear hs
      go_enter Tryd.func120, Tryd.ntmps120
      go_wp2_with fail
      refine (point9_any _ _).mono ?_
      rintro e w' ⟨rfl, rfl⟩
      go_wp2
      all_goals go_ret2
      all_goals exact ⟨rfl, _, _, rfl, by rw [Hs.out]; rfl⟩
    · have Hs := Lib.hid hs
      have h4 : r = 32 ∨ r = 9 ∨ r = 10 ∨ r = 13 := by simp [spaceB] at hs; omega
      clear hs hp
      rcases h4 with rfl | rfl | rfl | rfl
      all_goals
        go_enter Tryd.func120, Tryd.ntmps120
        go_wp2_with fail
        refine (point9_any _ _).mono ?_
        rintro e w' ⟨rfl, rfl⟩
        go_wp2
        go_ret2
        exact ⟨rfl, 1, 0, rfl, by rw [Hs.out]; rfl⟩
theorem space9_any (r : Int) (w : World) : Calls Tryd.prog 79 #[.int .i64 r] w fun e w' => e = .returned (.bool (spaceB r)) ∧ w = w' := by
  go_enter Tryd.func79, Tryd.ntmps79
  go_wp2_with fail
  refine (kind_any _ _).mono ?_
  rintro e w' ⟨rfl, k, x, rfl, h⟩
  have H := Lib.hid h
  clear h
  go_wp2
  go_ret
  exact ⟨by rw [← H.out]; rfl, rfl⟩

def Runes9Inv (s : ByteArray) (w : World) (s0 out : Value) (wr : World) : Prop :=
  ∃ (pre : List Nat) (s' : ByteArray), s0 = .string s' ∧ wr.ownsRow w.heap.size 3 1 out pre.length (pre.map fun r : Nat => .int .i64 (r : Int)) ∧ Below w.heap.size w wr ∧
    (runes s.data.toList).1 = pre ++ (runes s'.data.toList).1 ∧ (runes s.data.toList).2 = (runes s'.data.toList).2 ∧ pre.length + s'.size ≤ 4096
def sizeOf (v : Value) : Nat := match v with | .string s => s.size | _ => 0
set_option maxHeartbeats 1000000 in
theorem runes9_any (s : ByteArray) (w : World) : Calls Tryd.prog 78 #[.string s] w (RunesPost s w) := by
  obtain ⟨i0, hi0, iz0, iz1, iz2⟩ := info_parts info_int
  by_cases hs : s.size ≤ 4096
  · have h1 : ¬ (4096 : Int) < (s.size : Int) := by omega
    go_enter Tryd.func78, Tryd.ntmps78
    go_wp2_with fail
    go_loopw [0, 4, 5, 6] (fun s0 out _ _ wr => Runes9Inv s w s0 out wr) (fun s0 _ _ _ _ => sizeOf s0)
    case atStart => exact ⟨[], s, rfl, World.ownsRow_made w #[] 0 (Nat.le_refl _) (Nat.zero_le _) rfl, (Below.refl _ _).alloc (Nat.le_refl _) _, rfl, rfl, by simpa using hs⟩
    case round =>
      obtain ⟨pre, s', rfl, hown, hB, hr1, hr2, hlen⟩ := hrel
      have H1 := Lib.hid hr1
      have H2 := Lib.hid hr2
      have hBs := hB.size
      clear hr1 hr2
      by_cases hs' : s'.data.toList = []
      · have hz : s'.size = 0 := by rw [Lib.size_eq, hs']; rfl
        have hz1 : ¬ (0 : Int) < (s'.size : Int) := by omega
        have hz2 : decide ((0 : Int) < (s'.size : Int)) = false := by simpa using hz1
        have hsl := SlOf.of_own hown
        have e1 := H1.out
        have e2 := H2.out
        rw [hs', runes_nil] at e1 e2
        simp only [List.append_nil] at e1
        obtain ⟨A, c, rfl, hn, hm, hl2, hrd⟩ := hsl
        have E1 := Lib.hid e1
        have E2 := Lib.hid e2
        clear hz hs' hl2 e1 e2 H1 H2
        go_wp2_with fail
        go_ret2
        exact ⟨hB, .inr (.inr ⟨hs, E2.out, A, c, by rw [E1.out]; rfl, by rw [E1.out]; exact hrd⟩)⟩
      · have hz : 0 < s'.size := by rw [Lib.size_eq]; exact List.length_pos_iff.2 hs'
        have hz1 : (0 : Int) < (s'.size : Int) := by omega
        have hz2 : decide ((0 : Int) < (s'.size : Int)) = true := by simpa using hz1
        have hfd := Lib.hid (firstR_dec s'.data.toList hs')
        have hstep := Lib.hid (runes_step s'.data.toList hs')
        have hrg := dec_range s'.data.toList hs'
        have hge := dec_ge1 s'.data.toList
        have hne := Lib.hid hs'
        clear hs'
        go_wp2_with fail
        refine (first_any s' hne.out wr).mono ?_
        rintro e w1 ⟨hb1, rfl⟩
        have hB1 : Below w.heap.size w w1 := hB.trans (hb1.mono hBs)
        have hBs1 := hB1.size
        have hown1 := ownsRow_ext hown hb1
        rw [hfd.out]
        generalize dec s'.data.toList = d at *
        obtain ⟨r, n⟩ := d
        simp only at hrg hge
        cases hbad : badB (r, n)
        · have e1 := H1.out
          have e2 := H2.out
          have st := hstep.out
          rw [if_neg (by simp [hbad])] at st
          rw [st] at e1 e2
          have E1 := Lib.hid e1
          have E2 := Lib.hid e2
          have XL := Lib.hid (extract_list s' n)
          have hsz := Lib.size_eq s'
          have hxs : (s'.extract n s'.size).size = s'.size - n := by rw [Lib.size_eq, XL.out, List.length_drop, ← hsz]
          have XS := Lib.hid hxs
          have hns : n ≤ s'.size := by rw [hsz]; exact hrg.2.1
          have hns2 : (n : Int) ≤ s'.size := by omega
          have hn0 : ((n : Int) == 0) = false := by simp; omega
          clear e1 e2 st hbad hstep hfd H1 H2 hsz hxs hown hne
          simp only [Bool.false_eq_true, if_false]
          have A1 : (pre.length + 1) ≤ maxLen := by unfold maxLen; omega
          have A2 : (pre.length + 1) * 8 ≤ 140737488355328 := by omega
          have A3 : w.heap.size ≤ (w1.alloc (.cells #[.int .i64 r] 3)).heap.size := by simp; omega
          have A4 : ∀ u ∈ [Value.int .i64 (r : Int)], u.oneCell' = true := by simp [Value.oneCell']
          go_wp2_with (at_builtin; refine wpList_append_own _ rfl _ _ 30 rfl w.heap.size 3 i0 (.int .i64 0) 1 8 Tryd.underlying30 hi0 iz0 iz1 iz2 rfl (by decide) _ _ _ rfl (hown1.alloc _) ⟨w1.heap.size, 0, none⟩ 1 1 [.int .i64 r] rfl rfl (cell_one_new _ _ _) A4 A1 A2 A3 ?_; intro v' w2 hown' hgrow _; clear A1 A2 A3)
          go_roundw
          case rel =>
            refine ⟨pre ++ [r], s'.extract n s'.size, rfl, by simpa using hown', ?_, ?_, ?_, ?_⟩
            · exact (hB1.alloc hBs1 _).grown hgrow (by simp; omega) (fun k hk => (hown1.lt k hk).1)
            · rw [E1.out, XL.out]; simp
            · rw [E2.out, XL.out]
            · rw [XS.out]; simp; omega
          case measure => show (s'.extract n s'.size).size < s'.size; rw [XS.out]; omega
        · have e2 := H2.out
          have st := hstep.out
          rw [if_pos hbad] at st
          rw [st] at e2
          have E2 := Lib.hid e2
          clear e2 st hbad hstep hfd H1 H2
          simp only [if_true]
          go_wp2_with fail
          go_ret2
          exact ⟨hB1, .inr (.inl ⟨hs, E2.out, rfl⟩)⟩
  · have h1 : (4096 : Int) < (s.size : Int) := by omega
    go_enter Tryd.func78, Tryd.ntmps78
    go_wp2_with fail
    go_ret2
    exact ⟨Below.refl _ _, .inl ⟨by omega, rfl⟩⟩

set_option maxHeartbeats 1000000 in
theorem word9_any (s : ByteArray) (w : World) : Calls Tryd.prog 42 #[.string s] w fun e w' => e = .returned (.bool (wordB s)) ∧ Below w.heap.size w w' := by
  by_cases h0 : s.size < 1
  · have H : Hid (wordB s = false) := by unfold wordB; rw [decide_eq_false (show ¬ 0 < s.size by omega)]; simp [Hid]
    have g1 : (s.size : Int) < 1 := by omega
    have g2 : s.size = 0 := by omega
    go_enter Tryd.func42, Tryd.ntmps42
    go_wp2_with fail
    go_ret
    exact ⟨by rw [H.out]; rfl, Below.refl _ _⟩
  by_cases h64 : 64 < s.size
  · have H : Hid (wordB s = false) := by unfold wordB; rw [decide_eq_false (show ¬ s.size ≤ 64 by omega)]; rfl
    have g1 : ¬ (s.size : Int) < 1 := by omega
    have g2 : (64 : Int) < s.size := by omega
    go_enter Tryd.func42, Tryd.ntmps42
    go_wp2_with fail
    go_ret
    exact ⟨by rw [H.out]; rfl, Below.refl _ _⟩
  have g1 : ¬ (s.size : Int) < 1 := by omega
  have g2 : ¬ (64 : Int) < s.size := by omega
  have H : Hid (wordB s = ((runes s.data.toList).2 && !(runes s.data.toList).1.any fun r => spaceB (r : Int))) := by unfold wordB; rw [decide_eq_true (show s.size ≤ 64 by omega), decide_eq_true (show 0 < s.size by omega)]; rfl
  have hlen : (runes s.data.toList).1.length ≤ 64 := by have := runes_length s.data.toList; have := Lib.size_eq s; omega
  go_enter Tryd.func42, Tryd.ntmps42
  go_wp2_with fail
  refine (runes9_any s w).mono ?_
  rintro e w1 ⟨hb1, h⟩
  have hz := hb1.size
  rcases h with ⟨hs, he⟩ | ⟨hs, hok, he⟩ | ⟨hs, hok, A, c, he, hrd⟩
  · omega
  · subst he
    have H2 : Hid (wordB s = false) := by show _ = _; rw [H.out, hok]; rfl
    clear hok H
    go_wp2_with fail
    go_ret
    exact ⟨by rw [H2.out]; rfl, hb1⟩
  · subst he
    have H2 : Hid (wordB s = !(runes s.data.toList).1.any fun r => spaceB (r : Int)) := by show _ = _; rw [H.out, hok]; rfl
    clear hok H
    generalize (runes s.data.toList).1 = l at *
    go_wp2_with fail
    go_loopw [5] (fun i wr => ∃ k : Nat, k ≤ l.length ∧ i = .int .i64 k ∧ Hid (∀ x ∈ l.take k, spaceB (x : Nat) = false) ∧ wr = w1) (fun i _ => l.length - (intOf i).toNat)
    case atStart => exact ⟨0, Nat.zero_le _, rfl, by simp [Hid], rfl⟩
    case round =>
      obtain ⟨k, hk, rfl, HR, rfl⟩ := hrel
      by_cases hlt : k < l.length
      · obtain ⟨b, off, rfl, hb, hc⟩ := hrd.at_ (k := k) (by simpa using hlt)
        have hck : wr.cell? ⟨b, off + k, none⟩ = some (.int .i64 (l[k] : Nat)) := hc k _ (by simp [hlt])
        clear hc hrd
        go_wp2_with fail
        refine (space9_any _ _).mono ?_
        rintro e w' ⟨rfl, rfl⟩
        cases hsp : spaceB (l[k] : Nat)
        · have HS := Lib.hid hsp
          clear hsp
          go_wp2_with fail
          go_roundw
          case rel =>
            refine ⟨k + 1, by omega, by go_num, ?_, trivial⟩
            intro x hx
            rw [List.take_succ_eq_append_getElem hlt, List.mem_append] at hx
            rcases hx with hx | hx
            · exact HR.out x hx
            · simp at hx; rw [hx]; exact HS.out
          case measure => simp [intOf]; omega
        · have H3 : Hid (wordB s = false) := by
            show _ = _
            rw [H2.out, Bool.not_eq_false', List.any_eq_true]
            exact ⟨l[k], List.getElem_mem _, hsp⟩
          clear hsp H2
          go_wp2_with fail
          go_ret
          exact ⟨by rw [H3.out]; rfl, hb1⟩
      · have H3 : Hid (wordB s = true) := by
          show _ = _
          obtain rfl : k = l.length := by omega
          rw [H2.out, Bool.not_eq_true', List.any_eq_false]
          intro x hx
          simp [HR.out x (by simpa using hx)]
        clear H2 HR
        go_wp2_with fail
        go_ret
        exact ⟨by rw [H3.out]; rfl, hb1⟩
end Go.Proofs.YtfbhfimejcdopaaDoor

/- Package display: play. -/
namespace Go.Proofs.YtfbhfimejcdopaaDoor
open Go.RowKit Go.Han
attribute [local irreducible] wpStill wpQuiet
attribute [local go_sem] Oper.semAt_some

/-- A function value that is told of each change made. -/
structure Told (P : Program) (g : Nat) (lb : Array Value) (T : Nat → Prop) (C : List Change → World → Prop) : Prop where
  enter : ∀ args w, (callFunc g args).run P w = .ok (.enter g args) w
  keep : ∀ pre W W', (∀ k, T k → k < W.heap.size → W'.heap[k]? = W.heap[k]?) → C pre W → C pre W'
  call : ∀ pre (c : Change) W, pre.length ≤ 4096 → C pre W → Calls P g (#[c.val] ++ lb) W fun e w' => e = .returned (.tuple #[]) ∧ Only T W w' ∧ C (pre ++ [c]) w'

def PlayPost (T : Nat → Prop) (C : List Change → World → Prop) (l : List Change) (t : Int) (w : World) (e : Ending) (w' : World) : Prop :=
  Only T w w' ∧ ((playE l t ≠ 0 ∧ e = .panicked (errChain (playE l t)) ∧ ∃ pre, C pre w') ∨ (playE l t = 0 ∧ (∃ v, e = .returned v ∧ Own w' w.heap.size v (playL l t)) ∧ C (upTo t l) w'))

theorem own_base {w : World} {b b' : Nat} {v : Value} {l : List Spot} (h : Own w b v l) (hb : b' ≤ b) : Own w b' v l := by
  refine ⟨h.1, ?_⟩
  rcases h.2 with h | ⟨g, c, cur, h1, h2, h3⟩
  · exact .inl h
  · exact .inr ⟨g, c, cur, h1, Nat.le_trans hb h2, h3⟩
theorem cflat_ne {l : List Change} (h : l ≠ []) : cflat l ≠ [] := by
  cases l with
  | nil => exact absurd rfl h
  | cons c l => simp [cflat, Change.cells]
theorem until_any (A : Option Addr) (n cp : Nat) (t : Int) (w : World) : Calls Tryd.prog 104 #[.slice A n cp, .int .i64 t] w fun e w' =>
    e = .returned (.func (.func 145) #[] #[.pointer (some ⟨w.heap.size, 0, none⟩), .pointer (some ⟨w.heap.size + 1, 0, none⟩)]) ∧ (w.alloc (.cells #[.slice A n cp] 46)).alloc (.cells #[.int .i64 t] 3) = w' := by
  have hmf : ∀ (fn : Fn) (first cap : Array Value) (w : World), (Instr.makeFunc fn first cap).run Tryd.prog w = .ok (.func fn first cap) w := fun _ _ _ _ => rfl
  go_enter Tryd.func104, Tryd.ntmps104
  go_wp2
  go_ret
  exact ⟨rfl, rfl⟩

/-- Between two rounds of play's loop: n0 is the number of blocks before the call, B that before the loop. -/
structure PlayInv (g : Nat) (lb : Array Value) (T : Nat → Prop) (C : List Change → World → Prop) (w0 : World) (n0 B : Nat) (own : Nat → Prop) (pre : List Change) (W : World) (v : Value) (s : List Spot) : Prop where
  run : runL [] pre = (0, s)
  asc : Asc s
  len : s.length ≤ 1024
  own_iff : ∀ k, own k ↔ (k = n0 + 1 ∨ v.ownBlock = some k ∨ T k)
  told : W.heap[n0]? = some (.cells #[.func (.func g) #[] lb] 98 (0, 0))
  x : W.heap[n0 + 1]? = some (.cells #[v] 45 (0, 0))
  by_ : W.heap[n0 + 3]? = some (.cells #[.map (some (n0 + 2))] 138 (0, 0))
  map : KMap W (n0 + 2)
  row : Own W B v s
  only : Only T w0 W
  told_at : C pre W
def PlayI (g : Nat) (lb : Array Value) (T : Nat → Prop) (C : List Change → World → Prop) (w0 : World) (n0 B : Nat) (own : Nat → Prop) (pre : List Change) (W : World) : Prop := ∃ v s, PlayInv g lb T C w0 n0 B own pre W v s

theorem play_stable {P : Program} (g : Nat) (lb : Array Value) (T : Nat → Prop) (C : List Change → World → Prop) (hT : Told P g lb T C) (w0 : World) (n0 B : Nat) (hn : n0 + 3 < B) (hw : w0.heap.size ≤ B) (hTB : ∀ k, T k → k < B) : Stable B (fun _ => False) (PlayI g lb T C w0 n0 B) := by
  rintro own pre W W' ⟨v, s, h⟩ st
  refine ⟨v, s, h.run, h.asc, h.len, h.own_iff, (st.block _ (lt_block h.told) (.inl ⟨by omega, id⟩)).trans h.told, (st.block _ (lt_block h.x) (.inl ⟨by omega, id⟩)).trans h.x, (st.block _ (lt_block h.by_) (.inl ⟨by omega, id⟩)).trans h.by_, (st.block _ (lt_block h.map) (.inl ⟨by omega, id⟩)).trans h.map, ?_, ?_, ?_⟩
  · exact ownsRow_of_block h.row fun g hg => st.block g (own_lt h.row g hg) (.inr ((h.own_iff g).2 (.inr (.inl hg))))
  · refine ⟨st.os.trans h.only.os, st.tape.trans h.only.tape, st.output.trans h.only.output, Nat.le_trans h.only.size st.size, fun i hi hn => (st.block i (Nat.lt_of_lt_of_le hi h.only.size) (.inl ⟨by omega, id⟩)).trans (h.only.block i hi hn)⟩
  · exact hT.keep pre W W' (fun k hk hlt => st.block k hlt (.inl ⟨hTB k hk, id⟩)) h.told_at

theorem cell_blk {w : World} {b t : Nat} {cs : Array Value} {fr : Nat × Nat} (h : w.heap[b]? = some (.cells cs t fr)) (j : Nat) : w.cell? ⟨b, j, none⟩ = cs[j]? := by
  simp [World.cell?, h]
theorem only_grown {M : Nat → Prop} {a b c : World} {row : Option Nat} (h : Only M a b) (k : b.grownBy c row) (hr : ∀ i, row = some i → a.heap.size ≤ i ∨ M i) : Only M a c :=
  ⟨k.os.trans h.os, k.tape.trans h.tape, k.output.trans h.output, Nat.le_trans h.size k.size, fun i hi hn => (k.block i (Nat.lt_of_lt_of_le hi h.size) (fun e => by
    rcases hr i e.symm with h1 | h1
    · omega
    · exact hn h1)).trans (h.block i hi hn)⟩
theorem exam_ok : ∀ (last : Int) (l : List Change), examFrom last l = true → ∀ c ∈ l, c.ok = true
  | _, [], _, c, hc => by cases hc
  | last, x :: l, h, c, hc => by
    simp only [examFrom, Bool.and_eq_true] at h
    rcases List.mem_cons.1 hc with rfl | hc
    · exact h.1.1
    · exact exam_ok x.at_ l h.2 c hc
theorem upTo_mem {t : Int} {l : List Change} {c : Change} (h : c ∈ upTo t l) : c ∈ l := List.takeWhile_subset _ h
theorem own_ge {w : World} {base : Nat} {v : Value} {l : List Spot} (h : Own w base v l) : ∀ g, v.ownBlock = some g → base ≤ g := fun g hg => (h.lt g hg).1
theorem own_not {w : World} {base b t : Nat} {v : Value} {l : List Spot} {cs : Array Value} (h : Own w base v l) (hb : w.heap[b]? = some (.cells cs t (0, 0))) (ht : t ≠ 52) : v.ownBlock ≠ some b := by
  intro hg
  rcases h.2 with ⟨rfl, _⟩ | ⟨g, c, cur, rfl, _, hc, _⟩
  · cases hg
  · simp [Value.ownBlock] at hg
    subst hg
    rw [hb] at hc
    injection hc with hc
    injection hc with _ hc
    exact ht hc

set_option maxRecDepth 100000 in
set_option maxHeartbeats 4000000 in
theorem play_any (g : Nat) (lb : Array Value) (T : Nat → Prop) (C : List Change → World → Prop) (hT : Told Tryd.prog g lb T C) (A : Option Addr) (cp : Nat) (l : List Change) (t : Int) (w : World) (hU : Tabs w) (hr : Rd w A (cflat l)) (hm : l.length ≤ 9223372036854775807)
    (hTR : ∀ k, T k → k < w.heap.size ∧ (l ≠ [] → ∀ a, A = some a → k ≠ a.block) ∧ k ≠ 0 ∧ k ≠ 1) (hC : C [] w) :
    Calls Tryd.prog 60 #[.slice A l.length cp, .int .i64 t, .func (.func g) #[] lb] w (PlayPost T C l t w) := by
  refine calls_of_wpAt Tryd.func60 rfl ?_
  simp only [Tryd.ntmps60, List.size_toArray, List.length_cons, List.length_nil, Nat.reduceAdd, Nat.reduceSub, Array.replicate_succ, Array.replicate_zero, List.push_toArray, List.append_toArray, List.nil_append, List.cons_append]
  obtain ⟨W1, hW1⟩ : ∃ W1, (w.alloc (.cells #[.func (.func g) #[] lb] 98)).alloc (.cells #[.slice none 0 0] 45) = W1 := ⟨_, rfl⟩
  have hB1 : Below w.heap.size w W1 := by rw [← hW1]; exact ((Below.refl _ _).alloc (Nat.le_refl _) _).alloc (by simp) _
  have hC' : ∀ W', Below w.heap.size w W' → ∃ pre, C pre W' := fun W' hb => ⟨[], hT.keep [] w W' (fun k _ hk => hb.block k hk) hC⟩
  refine wpAt_seq_wp fun K1 hK1 => ?_
  go_wp2
  refine wpAt_seq_wp fun K2 hK2 => ?_
  by_cases hl : l.length ≤ 4096
  · go_wp2_with fail
    refine (need_t _ _ _ (by simp; omega)).mono ?_
    rintro e w' ⟨rfl, rfl⟩
    go_wp2
    refine wpAt_seq_wp fun K3 hK3 => ?_
    go_wp2_with fail
    refine (kinds_any W1).mono ?_
    rintro e W2 ⟨rfl, hW2⟩
    go_wp2
    refine wpAt_seq_wp fun K4 hK4 => ?_
    go_wp2
    refine wpAt_seq_wp fun K5 hK5 => ?_
    obtain ⟨W3, hW3⟩ : ∃ W3, W2.alloc (.cells #[.map (some W1.heap.size)] 138) = W3 := ⟨_, rfl⟩
    have hB2 : Below w.heap.size w W2 := by rw [← hW2]; exact hB1.alloc hB1.size _
    have hB3 : Below w.heap.size w W3 := by rw [← hW3]; exact hB2.alloc hB2.size _
    have hg2 : KMap W2 W1.heap.size := by rw [← hW2]; exact World.alloc_heap_new _ _
    have hz1 : W1.heap.size = w.heap.size + 2 := by rw [← hW1]; simp
    have hz2 : W2.heap.size = w.heap.size + 3 := by rw [← hW2]; simp [hz1]
    have hz3 : W3.heap.size = w.heap.size + 4 := by rw [← hW3]; simp [hz2]
    have hb7 : W3.heap[w.heap.size + 3]? = some (.cells #[.map (some W1.heap.size)] 138 (0, 0)) := by rw [← hW3, ← hz2]; exact World.alloc_heap_new _ _
    have hg3 : KMap W3 W1.heap.size := hg2.ext (by rw [← hW3]; exact (Below.refl _ _).alloc (Nat.le_refl _) _)
    rw [hz1] at hW3 hb7 hg3
    go_wp2
    simp only [hz1, hz2]
    go_loopw [8, 19] (fun la i wr => ∃ (k : Nat) (last : Int), k ≤ l.length ∧ i = .int .i64 k ∧ la = .int .i64 last ∧ Below W3.heap.size W3 wr ∧ Hid (examFrom 0 l = examFrom last (l.drop k))) (fun _ i _ => l.length - (intOf i).toNat)
    case atStart => exact ⟨0, _, Nat.zero_le _, rfl, rfl, Below.refl _ _, rfl⟩
    case round =>
      obtain ⟨k, last, hk, rfl, rfl, hB, HR⟩ := hrel
      have hz := hB.size
      have hb7' := (hB.block _ (by omega)).trans hb7
      have c7 := cell_one hb7'
      have hgr := hg3.ext hB
      have hTr : Tabs wr := utf_ext hU (ext_trans hB3 hB)
      by_cases hlt : k < l.length
      · obtain ⟨b, off, rfl, hb, hc⟩ := hr.elem Change.size_cells (by omega) hlt
        have hBw := ext_trans hB3 hB
        have d0 := (hBw.cell (p := ⟨b, off + k * 5 + 0, none⟩) hb).trans (hc 0 _ rfl)
        have d1 := (hBw.cell (p := ⟨b, off + k * 5 + 1, none⟩) hb).trans (hc 1 _ rfl)
        have d2 := (hBw.cell (p := ⟨b, off + k * 5 + 2, none⟩) hb).trans (hc 2 _ rfl)
        have d3 := (hBw.cell (p := ⟨b, off + k * 5 + 3, none⟩) hb).trans (hc 3 _ rfl)
        have d4 := (hBw.cell (p := ⟨b, off + k * 5 + 4, none⟩) hb).trans (hc 4 _ rfl)
        simp only [Nat.add_zero] at d0
        have hex : Hid (examFrom last (l.drop k) = (l[k].ok && decide (last ≤ l[k].at_) && examFrom l[k].at_ (l.drop (k + 1)))) := by
          show _ = _
          rw [List.drop_eq_getElem_cons hlt]; rfl
        clear hc
        generalize l[k] = x at *
        obtain ⟨xt, xk, ⟨xi, xv, xs⟩⟩ := x
        obtain ⟨W4, hW4⟩ : ∃ W4, wr.alloc (.cells #[.int .i64 xt, .int .i64 xk, .int .i64 xi, .int .i64 xv, .string xs] 54) = W4 := ⟨_, rfl⟩
        have hb4 : Below wr.heap.size wr W4 := by rw [← hW4]; exact (Below.refl _ _).alloc (Nat.le_refl _) _
        have hz4 : W4.heap.size = wr.heap.size + 1 := by rw [← hW4]; simp
        have f0 : W4.cell? ⟨wr.heap.size, 0, none⟩ = some (.int .i64 xt) := by rw [← hW4]; simp [go_sem]
        have f1 : W4.cell? ⟨wr.heap.size, 1, none⟩ = some (.int .i64 xk) := by rw [← hW4]; simp [go_sem]
        have f2 : W4.cell? ⟨wr.heap.size, 2, none⟩ = some (.int .i64 xi) := by rw [← hW4]; simp [go_sem]
        have f3 : W4.cell? ⟨wr.heap.size, 3, none⟩ = some (.int .i64 xv) := by rw [← hW4]; simp [go_sem]
        have f4 : W4.cell? ⟨wr.heap.size, 4, none⟩ = some (.string xs) := by rw [← hW4]; simp [go_sem]
        have c74 := cell_one ((hb4.block _ (by omega)).trans hb7')
        have hB4 := ext_trans hB hb4
        have hex' := Lib.hid (examine_any ⟨xt, xk, ⟨xi, xv, xs⟩⟩ (w.heap.size + 2) W4 (utf_ext hTr hb4) (hgr.ext hb4))
        simp only [Change.val] at hex'
        clear c7
        go_wp2_with fail
        refine hex'.out.mono ?_
        rintro e W5 ⟨hb5, h5⟩
        have hB5 := ext_trans hB4 hb5
        have hz5 := hb5.size
        obtain ⟨hc5, _⟩ := bcell hb5
        rw [← hc5 _ _ (by omega)] at f0 f1 f2 f3 f4 c74
        clear d0 d1 d2 d3 d4 hc5 hex'
        rcases h5 with ⟨ho, rfl⟩ | ⟨ho, rfl⟩
        · have hok : Hid (Change.ok ⟨xt, xk, ⟨xi, xv, xs⟩⟩ = true) := by
            show _ = _
            cases h : Change.ok ⟨xt, xk, ⟨xi, xv, xs⟩⟩
            · rw [h] at ho; cases ho
            · rfl
          clear ho
          by_cases hge : last ≤ xt
          · go_wp2_with fail
            refine (need_t _ _ _ (by simp)).mono ?_
            rintro e w' ⟨rfl, rfl⟩
            go_wp2
            go_roundw
            case rel =>
              refine ⟨k + 1, xt, by omega, by go_num, rfl, hB5, ?_⟩
              show examFrom 0 l = _
              rw [HR.out, hex.out, hok.out]; simp [hge]
            case measure => simp [intOf]; omega
          · go_wp2_with fail
            refine (need_f _ _ _ (by simp; omega)).mono ?_
            rintro e w' ⟨rfl, rfl⟩
            have hE : playE l t = 490 := by
              unfold playE
              have hd : decide (last ≤ xt) = false := by simpa using hge
              rw [if_neg (by omega), if_pos (by rw [HR.out, hex.out]; simp only [hd, Bool.and_false, Bool.false_and])]
            exact ⟨Only.of_below (ext_trans hB3 hB5), .inl ⟨by rw [hE]; decide, by rw [hE], hC' _ (ext_trans hB3 hB5)⟩⟩
        · have hE : playE l t = 490 := by
            unfold playE
            rw [if_neg (by omega), if_pos]
            rw [HR.out, hex.out]
            cases h : Change.ok ⟨xt, xk, ⟨xi, xv, xs⟩⟩
            · simp
            · rw [h] at ho; simp at ho
          have hE2 : (if Change.ok ⟨xt, xk, ⟨xi, xv, xs⟩⟩ then 0 else 490 : Int) = 490 := by
            cases h : Change.ok ⟨xt, xk, ⟨xi, xv, xs⟩⟩
            · rfl
            · rw [h] at ho; simp at ho
          rw [hE2]
          exact ⟨Only.of_below (ext_trans hB3 hB5), .inl ⟨by rw [hE]; decide, by rw [hE], hC' _ (ext_trans hB3 hB5)⟩⟩
      · have hex0 : examFrom 0 l = true := by
          have : k = l.length := by omega
          rw [HR.out, this, List.drop_length]; rfl
        have Hex0 := Lib.hid hex0
        clear HR hex0
        go_wp2
        refine wpAt_seq_wp fun K6 hK6 => ?_
        go_wp2_with fail
        refine (time_any _ _).mono ?_
        rintro e w' ⟨rfl, rfl⟩
        cases htb : timeB t
        · go_wp2_with fail
          refine (need_f _ _ _ rfl).mono ?_
          rintro e w' ⟨rfl, rfl⟩
          have hE : playE l t = 1 := by unfold playE; rw [if_neg (by omega), Hex0.out, htb]; rfl
          exact ⟨Only.of_below (ext_trans hB3 hB), .inl ⟨by rw [hE]; decide, by rw [hE], hC' _ (ext_trans hB3 hB)⟩⟩
        · have Htb := Lib.hid htb
          clear htb
          go_wp2_with fail
          refine (need_t _ _ _ rfl).mono ?_
          rintro e w' ⟨rfl, rfl⟩
          go_wp2
          refine wpAt_seq ?_
          refine wpAt_seq_wp fun K7 hK7 => ?_
          go_wp2_with fail
          refine (until_any _ _ _ _ _).mono ?_
          rintro e w' ⟨rfl, rfl⟩
          go_wp2
          refine wpAt_block ?_
          obtain ⟨W6, hW6⟩ : ∃ W6, (wr.alloc (.cells #[.slice A l.length cp] 46)).alloc (.cells #[.int .i64 t] 3) = W6 := ⟨_, rfl⟩
          have hz6 : W6.heap.size = wr.heap.size + 2 := by rw [← hW6]; simp
          have hB6 : Below wr.heap.size wr W6 := by rw [← hW6]; exact ((Below.refl _ _).alloc (Nat.le_refl _) _).alloc (by simp) _
          have hB06 := ext_trans (ext_trans hB3 hB) hB6
          have q1 : W6.heap[wr.heap.size]? = some (.cells #[.slice A l.length cp] 46 (0, 0)) := by
            rw [← hW6]; exact (Below.heap_alloc _ _ _ (by simp)).trans (World.alloc_heap_new _ _)
          have q2 : W6.heap[wr.heap.size + 1]? = some (.cells #[.int .i64 t] 3 (0, 0)) := by
            rw [← hW6]; have := World.alloc_heap_new (wr.alloc (.cells #[.slice A l.length cp] 46)) (.cells #[.int .i64 t] 3); rwa [World.size_alloc] at this
          rw [hW6]
          have hit := until1 (wr.heap.size) (wr.heap.size + 1) A cp l t W6 q1 q2 (hr.ext hB06) (by omega)
          have k0 : W1.heap[w.heap.size]? = some (.cells #[.func (.func g) #[] lb] 98 (0, 0)) := by
            rw [← hW1]; exact (Below.heap_alloc _ _ _ (by simp)).trans (World.alloc_heap_new _ _)
          have k1 : W1.heap[w.heap.size + 1]? = some (.cells #[.slice none 0 0] 45 (0, 0)) := by
            rw [← hW1]; have := World.alloc_heap_new (w.alloc (.cells #[.func (.func g) #[] lb] 98)) (.cells #[.slice none 0 0] 45); rwa [World.size_alloc] at this
          have hB12 : Below W1.heap.size W1 W2 := by rw [← hW2]; exact (Below.refl _ _).alloc (Nat.le_refl _) _
          have hB23 : Below W2.heap.size W2 W3 := by rw [← hW3]; exact (Below.refl _ _).alloc (Nat.le_refl _) _
          have hB16 : Below W1.heap.size W1 W6 := ext_trans (ext_trans hB12 hB23) (ext_trans hB hB6)
          have k06 := (hB16.block _ (by omega)).trans k0
          have k16 := (hB16.block _ (by omega)).trans k1
          have hB36 := ext_trans hB hB6
          have k36 := (hB36.block _ (by omega)).trans hb7
          have g36 := hg3.ext hB36
          have hTB : ∀ k, T k → k < W6.heap.size := fun k hk => by have := (hTR k hk).1; omega
          have hRB : ∀ k, (k = wr.heap.size ∨ k = wr.heap.size + 1 ∨ (l ≠ [] ∧ ∃ a, A = some a ∧ k = a.block)) → k < W6.heap.size := by
            rintro k (rfl | rfl | ⟨hne, a, rfl, rfl⟩)
            · omega
            · omega
            · rcases hr with h | ⟨b, off, h, hb, _⟩
              · exact absurd h (cflat_ne hne)
              · cases h; have := hB06.size; simp; omega
          clear hW6
          refine wp_rangeP (xs := upTo t l) (pe := none) (R := fun k => k = wr.heap.size ∨ k = wr.heap.size + 1 ∨ (l ≠ [] ∧ ∃ a, A = some a ∧ k = a.block)) (M := fun _ => False) (w0 := W6) Tryd.func60 rfl
            (enters_of Tryd.func145 (by kernel_rfl) rfl) hit (fun k hk => ⟨hRB k hk, rfl⟩) (fun _ => rfl)
            (PlayI g lb T C w w.heap.size W6.heap.size) (fun _ _ _ _ => False) (fun ch W => Only T w W ∧ (∃ pre, C pre W) ∧ ∃ n, n ≠ 0 ∧ ch = errChain n ∧ (runL [] (upTo t l)).1 = n)
            (play_stable g lb T C hT w w.heap.size W6.heap.size (by omega) (by omega) hTB) (fun _ _ _ _ _ h _ => h) (fun k => k = w.heap.size + 1 ∨ T k) ?_ ?_
            (fun x a' own pre W => ∃ (b : Nat) (own1 : Nat → Prop), a' = { tmps := #[.slice A l.length cp, .int .i64 t, .func (.func g) #[] lb, undef, undef, .pointer (some ⟨w.heap.size, 0, none⟩), .pointer (some ⟨w.heap.size + 1, 0, none⟩), .pointer (some ⟨w.heap.size + 3, 0, none⟩), .int .i64 last, undef, u10, .pointer (some ⟨b, 0, none⟩), .slice A l.length cp, .int .i64 l.length, .bool (decide ((l.length : Int) ≤ 4096)), .tuple #[], .map (some (w.heap.size + 2)), .slice A l.length cp, .int .i64 l.length, .int .i64 k, .bool false, u21, u22, u23, u24, u25, u26, u27, u28, u29, u30, u31, u32, u33, .int .i64 t, .bool true, .tuple #[], .slice A l.length cp, .int .i64 t, .func (.func 145) #[] #[.pointer (some ⟨wr.heap.size, 0, none⟩), .pointer (some ⟨wr.heap.size + 1, 0, none⟩)], x.val, undef, undef, undef, undef, undef, undef, undef, undef], defers := [] } ∧ (∀ k, own k ↔ own1 k ∨ k = b) ∧ W.heap[b]? = some (.cells x.cells.toArray 54 (0, 0)) ∧ PlayI g lb T C w w.heap.size W6.heap.size own1 pre W)
            ?_ ?_ ?_ ?_ ?_ ?_ ?_
          · rintro k (rfl | hk)
            · refine ⟨by omega, ?_⟩
              rintro (h | h | ⟨hne, a, rfl, h⟩)
              · omega
              · omega
              · rcases hr with h2 | ⟨b, off, h2, hb, _⟩
                · exact absurd h2 (cflat_ne hne)
                · cases h2; simp at h; omega
            · refine ⟨hTB k hk, ?_⟩
              have := hTR k hk
              rintro (h | h | ⟨hne, a, ha, h⟩)
              · omega
              · omega
              · exact this.2.1 hne a ha h
          · refine ⟨.slice none 0 0, [], rfl, asc_nil, Nat.zero_le _, fun k => by simp [Value.ownBlock], k06, k16, k36, g36, World.ownsRow_nil _ _ _ _, Only.of_below hB06, hT.keep [] w W6 (fun k hk hlt => hB06.block k hlt) hC⟩
          · rintro x a' own pre W W' ⟨b, own1, ha, ho, hb, hI⟩ st
            exact ⟨b, own1, ha, ho, (st.block b (lt_block hb) (.inr ((ho b).2 (.inr rfl)))).trans hb, play_stable g lb T C hT w w.heap.size W6.heap.size (by omega) (by omega) hTB own1 pre W W' hI ⟨st.os, st.tape, st.output, st.size, fun k hk h => st.block k hk (h.imp id (fun h => (ho k).2 (.inl h)))⟩⟩
          · rintro l1 own pre x W hI hl1 hl2 ho hpre
            refine wpIn_mono (Q := Exit.then (fun a' W' => ∃ own', BodyStep own own' W W' ∧ ∃ (b : Nat) (own1 : Nat → Prop), a' = { tmps := #[.slice A l.length cp, .int .i64 t, .func (.func g) #[] lb, undef, undef, .pointer (some ⟨w.heap.size, 0, none⟩), .pointer (some ⟨w.heap.size + 1, 0, none⟩), .pointer (some ⟨w.heap.size + 3, 0, none⟩), .int .i64 last, undef, u10, .pointer (some ⟨b, 0, none⟩), .slice A l.length cp, .int .i64 l.length, .bool (decide ((l.length : Int) ≤ 4096)), .tuple #[], .map (some (w.heap.size + 2)), .slice A l.length cp, .int .i64 l.length, .int .i64 k, .bool false, u21, u22, u23, u24, u25, u26, u27, u28, u29, u30, u31, u32, u33, .int .i64 t, .bool true, .tuple #[], .slice A l.length cp, .int .i64 t, .func (.func 145) #[] #[.pointer (some ⟨wr.heap.size, 0, none⟩), .pointer (some ⟨wr.heap.size + 1, 0, none⟩)], x.val, undef, undef, undef, undef, undef, undef, undef, undef], defers := [] } ∧ (∀ k, own' k ↔ own1 k ∨ k = b) ∧ W'.heap[b]? = some (.cells x.cells.toArray 54 (0, 0)) ∧ PlayI g lb T C w w.heap.size W6.heap.size own1 pre W') (fun _ _ _ => False)) ?_ (fun e a w h => h)
            have hlv : ∀ k, own k → k < W.heap.size := fun k hk => (ho k hk).2.1
            obtain ⟨xt, xk, ⟨xi, xv, xs⟩⟩ := x
            simp only [Change.val, Change.cells]
            gi_wp2
            refine ⟨fun k => own k ∨ k = W.heap.size, BodyStep.turn ((BodyStep.refl hlv).alloc _) ?_ ?_, W.heap.size, own, rfl, fun k => Iff.rfl, World.alloc_heap_new _ _, ?_⟩
            · rintro k (h | h)
              · exact .inl h
              · exact .inr (by omega)
            · rintro k (h | h)
              · have := hlv k h; simp; omega
              · simp; omega
            · exact play_stable g lb T C hT w w.heap.size W6.heap.size (by omega) (by omega) hTB own pre W _ hI ((IterStep.refl _ _ _ _).alloc _)
          · rintro l1 own pre x a' W ⟨b, own1, rfl, hoi, hb, v, s, h⟩ hl1 hl2 ho hpre
            have hlv : ∀ k, own k → k < W.heap.size := fun k hk => (ho k hk).2.1
            have hxl : x ∈ l := upTo_mem (hpre.subset (by simp))
            have hxok := ok_kind (exam_ok _ _ Hex0.out x hxl)
            have hBW : W6.heap.size ≤ W.heap.size := by omega
            have hp := Lib.hid (perform_any W6.heap.size (w.heap.size + 2) v s x W h.row h.asc h.len hBW h.map hxok)
            have cx := cell_one h.x
            have fx := frozen_one h.x 0
            have cby := cell_one h.by_
            obtain ⟨xt, xk, ⟨xi, xv, xs⟩⟩ := x
            simp only [Change.val, Change.cells] at hb hp ⊢
            have d0 : W.cell? ⟨b, 0, none⟩ = some (.int .i64 xt) := cell_blk hb 0
            have d1 : W.cell? ⟨b, 1, none⟩ = some (.int .i64 xk) := cell_blk hb 1
            have d2 : W.cell? ⟨b, 2, none⟩ = some (.int .i64 xi) := cell_blk hb 2
            have d3 : W.cell? ⟨b, 3, none⟩ = some (.int .i64 xv) := cell_blk hb 3
            have d4 : W.cell? ⟨b, 4, none⟩ = some (.string xs) := cell_blk hb 4
            have hCp : ∀ w1, W.grownBy w1 v.ownBlock → ∃ pre, C pre w1 := fun w1 hg => ⟨pre, hT.keep pre W w1 (fun i hi hlt => hg.block i hlt (fun e => by have := own_ge h.row i e.symm; have := hTB i hi; omega)) h.told_at⟩
            gi_wp2_with fail
            refine ⟨trivial, rfl, (callsIn_wide.2 hp.out).mono ?_⟩
            rintro e w1 (⟨hok, rfl, hg⟩ | ⟨hok, hln, rfl, hg⟩ | ⟨hok, hln, v', rfl, hown', hg, hvb⟩)
            · refine ⟨rfl, ⟨own, (BodyStep.refl hlv).grown hg (fun i hi => .inl ((hoi i).2 (.inl ((h.own_iff i).2 (.inr (.inl hi))))))⟩, only_grown h.only hg (fun i hi => .inl (by have := own_ge h.row i hi; omega)), hCp w1 hg, 490, by decide, rfl, ?_⟩
              obtain ⟨rest, hrest⟩ := hpre
              rw [← hrest, List.append_assoc, runL_app _ _ _ _ h.run, List.singleton_append, runL_step, if_pos hok]
            · refine ⟨rfl, ⟨own, (BodyStep.refl hlv).grown hg (fun i hi => .inl ((hoi i).2 (.inl ((h.own_iff i).2 (.inr (.inl hi))))))⟩, only_grown h.only hg (fun i hi => .inl (by have := own_ge h.row i hi; omega)), hCp w1 hg, 2, by decide, rfl, ?_⟩
              obtain ⟨rest, hrest⟩ := hpre
              rw [← hrest, List.append_assoc, runL_app _ _ _ _ h.run, List.singleton_append, runL_step, if_neg (by simp [hok]), if_pos hln]
            · obtain ⟨A', cp', rfl, hrd', hnil'⟩ := own_form hown'
              have hvB : ∀ i, v.ownBlock = some i → W6.heap.size ≤ i := own_ge h.row
              have hvne : ∀ i, i < W6.heap.size → some i ≠ v.ownBlock := fun i hi e => by have := hvB i e.symm; omega
              have hsz1 := hg.size
              have t1 := (hg.block _ (lt_block h.told) (hvne _ (by omega))).trans h.told
              have x1 := (hg.block _ (lt_block h.x) (hvne _ (by omega))).trans h.x
              have y1 := (hg.block _ (lt_block h.by_) (hvne _ (by omega))).trans h.by_
              have m1 := (hg.block _ (lt_block h.map) (hvne _ (by omega))).trans h.map
              have b1 := (hg.block _ (lt_block hb) (Ne.symm (own_not h.row hb (by decide)))).trans hb
              obtain ⟨W3, hW3'⟩ : ∃ W3, w1.setCell ⟨w.heap.size + 1, 0, none⟩ (.slice A' (madeL ⟨xt, xk, ⟨xi, xv, xs⟩⟩ s).length cp') = W3 := ⟨_, rfl⟩
              have hkeep : ∀ i, i ≠ w.heap.size + 1 → W3.heap[i]? = w1.heap[i]? := fun i hi => by rw [← hW3']; exact Below.heap_setCell _ _ _ _ hi
              have x3 : W3.heap[w.heap.size + 1]? = some (.cells #[.slice A' (madeL ⟨xt, xk, ⟨xi, xv, xs⟩⟩ s).length cp'] 45 (0, 0)) := by rw [← hW3']; exact set_one x1 _
              have hsz3 : W3.heap.size = w1.heap.size := by rw [← hW3']; simp [World.setCell]
              have t3 := (hkeep _ (by omega)).trans t1
              have y3 := (hkeep _ (by omega)).trans y1
              have m3 := (hkeep _ (by omega)).trans m1
              have hbne : b ≠ w.heap.size + 1 := by
                rintro rfl
                rw [h.x] at hb
                simp at hb
              have b3 := (hkeep _ hbne).trans b1
              have hC3 : C pre W3 := hT.keep pre W W3 (fun i hi hlt => (hkeep i (by have := (hTR i hi).1; omega)).trans (hg.block i hlt (hvne i (by have := (hTR i hi).1; omega)))) h.told_at
              have e0 : W3.cell? ⟨b, 0, none⟩ = some (.int .i64 xt) := cell_blk b3 0
              have e1 : W3.cell? ⟨b, 1, none⟩ = some (.int .i64 xk) := cell_blk b3 1
              have e2 : W3.cell? ⟨b, 2, none⟩ = some (.int .i64 xi) := cell_blk b3 2
              have e3 : W3.cell? ⟨b, 3, none⟩ = some (.int .i64 xv) := cell_blk b3 3
              have e4 : W3.cell? ⟨b, 4, none⟩ = some (.string xs) := cell_blk b3 4
              have ct := cell_one t3
              have cx1 := cell_one x1
              have fx1 := frozen_one x1 0
              have hpl : pre.length ≤ 4096 := by
                have h1 := hpre.length_le
                have h2 := (List.takeWhile_prefix (l := l) (fun c : Change => decide (c.at_ ≤ t))).length_le
                simp [upTo] at h1; omega
              have HC := Lib.hid (hT.call pre ⟨xt, xk, ⟨xi, xv, xs⟩⟩ W3 hpl hC3)
              have eg := hT.enter
              have hfin : Hid (∀ w4, Only T W3 w4 → C (pre ++ [⟨xt, xk, ⟨xi, xv, xs⟩⟩]) w4 → ∃ own', BodyStep own own' W w4 ∧ PlayI g lb T C w w.heap.size W6.heap.size own' (pre ++ [⟨xt, xk, ⟨xi, xv, xs⟩⟩]) w4) := by
                intro w4 ho4 hc4
                have hTn : ∀ i, w.heap.size ≤ i → ¬ T i := fun i hi ht => by have := (hTR i ht).1; omega
                have hk4 : ∀ i o, w.heap.size ≤ i → W3.heap[i]? = some o → w4.heap[i]? = some o := fun i o hi h => (ho4.block i (lt_block h) (hTn i hi)).trans h
                have hoA : ∀ i, (Value.slice A' (madeL ⟨xt, xk, ⟨xi, xv, xs⟩⟩ s).length cp').ownBlock = some i → W6.heap.size ≤ i ∧ i < w1.heap.size := fun i hi => hown'.lt i hi
                refine ⟨fun i => i = w.heap.size + 1 ∨ (Value.slice A' (madeL ⟨xt, xk, ⟨xi, xv, xs⟩⟩ s).length cp').ownBlock = some i ∨ T i, ?_, _, madeL ⟨xt, xk, ⟨xi, xv, xs⟩⟩ s, ?_, made_asc h.asc hok, hln, fun i => Iff.rfl, hk4 _ _ (Nat.le_refl _) t3, hk4 _ _ (by omega) x3, hk4 _ _ (by omega) y3, hk4 _ _ (by omega) m3, ?_, ?_, hc4⟩
                · have ox : own (w.heap.size + 1) := (hoi _).2 (.inl ((h.own_iff _).2 (.inl rfl)))
                  have s1 : BodyStep own own W W3 := by
                    rw [← hW3']
                    exact ((BodyStep.refl hlv).grown hg (fun i hi => .inl ((hoi i).2 (.inl ((h.own_iff i).2 (.inr (.inl hi))))))).setCell (p := ⟨w.heap.size + 1, 0, none⟩) (.inl ox) _
                  refine ⟨ho4.os.trans s1.os, ho4.tape.trans s1.tape, ho4.output.trans s1.output, Nat.le_trans s1.size ho4.size, fun i hi hn => (ho4.block i (Nat.lt_of_lt_of_le hi s1.size) (fun ht => hn ((hoi i).2 (.inl ((h.own_iff i).2 (.inr (.inr ht))))))).trans (s1.block i hi hn), ?_, ?_⟩
                  · rintro i (rfl | hi | hi)
                    · exact .inl ox
                    · rcases hvb with e | ⟨j, e, hj⟩
                      · exact .inl ((hoi i).2 (.inl ((h.own_iff i).2 (.inr (.inl (e.symm.trans hi))))))
                      · rw [hi] at e; cases e; exact .inr hj
                    · exact .inl ((hoi i).2 (.inl ((h.own_iff i).2 (.inr (.inr hi)))))
                  · rintro i (rfl | hi | hi)
                    · have := lt_block x3; have := ho4.size; omega
                    · have := (hoA i hi).2; have := ho4.size; omega
                    · have := hTB i hi; have := ho4.size; omega
                · rw [runL_app _ _ _ _ h.run, runL_step, if_neg (by simp [hok]), if_neg (by omega)]; rfl
                · refine ownsRow_of_block hown' fun i hi => ?_
                  have := hoA i hi
                  rw [ho4.block i (by omega) (hTn i (by omega)), ← hW3', Below.heap_setCell _ _ _ _ (by show i ≠ w.heap.size + 1; omega)]
                · have o1 := only_grown h.only hg (fun i hi => .inl (by have := hvB i hi; omega))
                  have o3 : Only T w W3 := by rw [← hW3']; exact o1.setCell (p := ⟨w.heap.size + 1, 0, none⟩) (.inr (by simp)) _
                  exact o3.trans ho4
              clear hkeep hb d0 d1 d2 d3 d4 cx fx cby t1 y1 m1 b1 hp
              gi_wp2_with fail
              refine ⟨trivial, rfl, (callsIn_wide.2 HC.out).mono ?_⟩
              rintro e w4 ⟨rfl, ho4, hc4⟩
              have hf := hfin.out w4 ho4 hc4
              clear hfin HC
              gi_wp2
              exact hf
          · rintro D own W hD hpn ⟨v, s, h⟩ hdef
            have cx := cell_one h.x
            have fx := frozen_one h.x 0
            obtain ⟨A', cp', rfl, _, _⟩ := own_form h.row
            have hE : playE l t = 0 := by unfold playE; rw [if_neg (by omega), Hex0.out, Htb.out, h.run]; rfl
            have hL : playL l t = s := by unfold playL; rw [h.run]
            have x4 := (World.putObj_heap_other (w := W.setCell ⟨w.heap.size + 1, 0, none⟩ (.slice A' s.length cp')) (r := D) (k := w.heap.size + 1) (o := .deferred none) (by omega)).trans (set_one h.x (.slice A' s.length cp'))
            have hoA : ∀ i, (Value.slice A' s.length cp').ownBlock = some i → W6.heap.size ≤ i ∧ i < W.heap.size := fun i hi => h.row.lt i hi
            have hdef2 : (W.setCell ⟨w.heap.size + 1, 0, none⟩ (.slice A' s.length cp')).heap[D]? = some (.deferred (some [])) := (Below.heap_setCell _ _ _ _ (by show D ≠ w.heap.size + 1; omega)).trans hdef
            refine wpAt_wp ?_
            go_wp2
            refine leavesM_ret hdef2 (v := .slice A' s.length cp') ?_ ⟨?_, .inr ⟨hE, ⟨_, rfl, ?_⟩, ?_⟩⟩
            · simp [results, Tryd.results60, go_sem, cell_one x4]
            · have o1 : Only T w (W.setCell ⟨w.heap.size + 1, 0, none⟩ (.slice A' s.length cp')) := h.only.setCell (p := ⟨w.heap.size + 1, 0, none⟩) (.inr (by simp)) _
              exact o1.of_below' (putObj_below _ (B := D) _ (Nat.le_refl _)) (fun i hi _ => by omega)
            · rw [hL]
              have o1 : (W.setCell ⟨w.heap.size + 1, 0, none⟩ (.slice A' s.length cp')).ownsRow W6.heap.size 52 3 (.slice A' s.length cp') s.length (flat s) := ownsRow_of_block h.row fun i hi => Below.heap_setCell _ _ _ _ (by have := (hoA i hi).1; show i ≠ w.heap.size + 1; omega)
              exact own_base (b := W6.heap.size) (ownsRow_putObj o1 _ hdef2 rfl) (by omega)
            · refine hT.keep _ W _ (fun i hi hlt => ?_) h.told_at
              have := hTR i hi
              rw [World.putObj_heap_other (by omega), Below.heap_setCell _ _ _ _ (by show i ≠ w.heap.size + 1; omega)]
          · rintro D own c pre W _ _ h
            exact h.elim
          · rintro D ch W hD ⟨ho, ⟨pre, hcp⟩, n, hn, rfl, hr⟩ hdef
            have hE : playE l t = n := by unfold playE; rw [if_neg (by omega), Hex0.out, Htb.out]; exact hr
            exact leavesM_panic hdef ⟨ho.of_below' (putObj_below _ (B := D) _ (Nat.le_refl _)) (fun i hi _ => by omega), .inl ⟨by rw [hE]; exact hn, by rw [hE], pre, hT.keep pre W _ (fun i hi hlt => World.putObj_heap_other (by have := hTB i hi; omega)) hcp⟩⟩
          · rintro D own ch W hD hpn
            cases hpn
  · go_wp2_with fail
    refine (need_f _ _ _ (by simp; omega)).mono ?_
    rintro e w' ⟨rfl, rfl⟩
    have hE : playE l t = 2 := by unfold playE; rw [if_pos (by omega)]
    refine ⟨Only.of_below hB1, .inl ⟨by rw [hE]; decide, by rw [hE], hC' _ hB1⟩⟩
end Go.Proofs.YtfbhfimejcdopaaDoor

/- Package display: Play. -/
namespace Go.Proofs.YtfbhfimejcdopaaDoor
open Go.RowKit Go.Han
attribute [local irreducible] wpStill wpQuiet
set_option maxRecDepth 100000

def PlayTop (l : List Change) (t : Int) (w : World) (e : Ending) (w' : World) : Prop :=
  Below w.heap.size w w' ∧ ((playE l t ≠ 0 ∧ e = .returned (.tuple #[.slice none 0 0, .int .i64 (playE l t)])) ∨ (playE l t = 0 ∧ ∃ v, e = .returned (.tuple #[v, .int .i64 0]) ∧ Own w' w.heap.size v (playL l t)))

theorem told_none : Told Tryd.prog 61 #[] (fun _ => False) (fun _ _ => True) := by
  refine ⟨enters_of Tryd.func61 (by kernel_rfl) rfl, fun _ _ _ _ _ => trivial, fun pre c W _ _ => ?_⟩
  obtain ⟨xt, xk, ⟨xi, xv, xs⟩⟩ := c
  simp only [Change.val, Array.append_empty]
  go_enter Tryd.func61, Tryd.ntmps61
  go_wp2
  go_end0
  exact ⟨rfl, (Only.refl _ _).alloc _, trivial⟩

theorem Play_any (A : Option Addr) (cp : Nat) (l : List Change) (t : Int) (w : World) (hU : Tabs w) (hr : Rd w A (cflat l)) (hm : l.length ≤ 9223372036854775807) :
    Calls Tryd.prog 28 #[.slice A l.length cp, .int .i64 t] w (PlayTop l t w) := by
  obtain ⟨W1, hW1⟩ : ∃ W1, w.alloc (.cells #[.int .i64 0] 31) = W1 := ⟨_, rfl⟩
  have hb0 : W1.heap[w.heap.size]? = some (.cells #[.int .i64 0] 31 (0, 0)) := by rw [← hW1]; exact World.alloc_heap_new _ _
  have hB1 : Below w.heap.size w W1 := by rw [← hW1]; exact (Below.refl _ _).alloc (Nat.le_refl _) _
  have hz1 : W1.heap.size = w.heap.size + 1 := by rw [← hW1]; simp
  go_enter_defers Tryd.func28, Tryd.ntmps28
  go_wp2_with fail
  refine (play_any 61 #[] (fun _ => False) (fun _ _ => True) told_none A cp l t W1 (utf_ext hU hB1) (hr.ext hB1) hm (fun k hk => hk.elim) trivial).mono ?_
  rintro e w2 ⟨ho, h⟩
  have hB12 : Below W1.heap.size W1 w2 := ho.below (fun k hk => hk.elim)
  have hB2 := ext_trans hB1 hB12
  have hb02 : w2.heap[w.heap.size]? = _ := (hB12.block _ (by omega)).trans hb0
  rcases h with ⟨hn, rfl, _⟩ | ⟨hn, ⟨v, rfl, hown⟩, _⟩
  · refine leaves_cons (f := 59) (args := #[.pointer (some ⟨w.heap.size, 0, none⟩)]) (by simp) (by simp [go_sem]) ?_
    refine (caught_pan _ _ _ _ hb02).mono ?_
    rintro e u' w'' ⟨rfl, rfl, rfl⟩
    simp [Leaves, settle, results, Tryd.results28, go_sem, cell_one hb02]
    exact ⟨hB2.setCell (p := ⟨w.heap.size, 0, none⟩) (Nat.le_refl _) _, .inl ⟨hn, rfl⟩⟩
  · have c0 := cell_one hb02
    have f0 := frozen_one hb02 0
    obtain ⟨A', cp', rfl, _, _⟩ := own_form hown
    have hfin : Hid (PlayTop l t w (.returned (.tuple #[.slice A' (playL l t).length cp', .int .i64 0])) (w2.setCell ⟨w.heap.size, 0, none⟩ (.int .i64 0))) := by
      refine ⟨hB2.setCell (p := ⟨w.heap.size, 0, none⟩) (Nat.le_refl _) _, .inr ⟨hn, _, rfl, ?_⟩⟩
      refine own_base (b := W1.heap.size) (ownsRow_of_block hown fun i hi => Below.heap_setCell _ _ _ _ (by have := (hown.lt i hi).1; show i ≠ w.heap.size; omega)) (by omega)
    clear hn hown hb0 hW1 ho
    go_wp2
    refine leaves_cons (f := 59) (args := #[.pointer (some ⟨w.heap.size, 0, none⟩)]) (by simp) (by simp [go_sem]) ?_
    refine (caught_ret _ _).mono ?_
    rintro e u' w'' ⟨rfl, rfl, rfl⟩
    simp [Leaves, settle, results, Tryd.results28, go_sem, c0]
    exact hfin.out
end Go.Proofs.YtfbhfimejcdopaaDoor

/- Package display: Withdrawn. -/
namespace Go.Proofs.YtfbhfimejcdopaaDoor
open Go.RowKit Go.Han
attribute [local irreducible] wpStill wpQuiet
set_option maxRecDepth 100000

/-- How many changes withdraw something. -/
def countW (l : List Change) : Nat := (l.filter fun c => !(c.kind == 1)).length
theorem countW_le (l : List Change) : countW l ≤ l.length := List.length_filter_le _ _
theorem countW_app (l l' : List Change) : countW (l ++ l') = countW l + countW l' := by unfold countW; rw [List.filter_append, List.length_append]

def WdTop (l : List Change) (t : Int) (w : World) (e : Ending) (w' : World) : Prop :=
  Below w.heap.size w w' ∧ e = .returned (.tuple #[.int .i64 (if playE l t = 0 then countW (upTo t l) else 0), .int .i64 (playE l t)])

def CellN (b : Nat) (pre : List Change) (W : World) : Prop := W.heap[b]? = some (.cells #[.int .i64 (countW pre)] 3 (0, 0))
theorem told_count (b : Nat) : Told Tryd.prog 63 #[.pointer (some ⟨b, 0, none⟩)] (fun k => k = b) (CellN b) := by
  refine ⟨enters_of Tryd.func63 (by kernel_rfl) rfl, fun pre W W' h hc => (h b rfl (lt_block hc)).trans hc, fun pre c W hp hc => ?_⟩
  obtain ⟨xt, xk, ⟨xi, xv, xs⟩⟩ := c
  have hle := countW_le pre
  have c1 := cell_one hc
  have f1 := frozen_one hc 0
  have hlt := lt_block hc
  have hb1 : ∀ o, (W.alloc o).heap[b]? = some (.cells #[.int .i64 (countW pre)] 3 (0, 0)) := fun o => (Below.heap_alloc _ _ _ hlt).trans hc
  by_cases hk : xk = 1
  · subst hk
    have e : Hid (countW (pre ++ [⟨xt, 1, ⟨xi, xv, xs⟩⟩]) = countW pre) := by show _ = _; rw [countW_app]; rfl
    have hb2 := Lib.hid (hb1 (.cells #[.int .i64 xt, .int .i64 1, .int .i64 xi, .int .i64 xv, .string xs] 54))
    clear hb1 hc
    simp only [Change.val]
    go_enter Tryd.func63, Tryd.ntmps63
    go_wp2
    go_end0
    refine ⟨rfl, (Only.refl _ _).alloc _, ?_⟩
    unfold CellN
    rw [e.out]
    exact hb2.out
  · have hk1 : (xk == 1) = false := by simpa using hk
    have e : Hid ((countW (pre ++ [⟨xt, xk, ⟨xi, xv, xs⟩⟩]) : Int) = countW pre + 1) := by
      show _ = _
      rw [countW_app]
      simp [countW, hk]
    have hb2 := Lib.hid hc
    clear hb1 hc
    simp only [Change.val]
    go_enter Tryd.func63, Tryd.ntmps63
    go_wp2
    go_end0
    refine ⟨rfl, ((Only.refl (fun k => k = b) W).setCell (p := ⟨b, 0, none⟩) (.inl rfl) _).alloc _, ?_⟩
    unfold CellN
    rw [e.out]
    exact (Below.heap_alloc _ _ _ (by simpa [World.setCell] using hlt)).trans (set_one hb2.out _)

theorem wd1_zero (b1 b2 : Nat) (u : FrameMode) (w : World) (h1 : w.heap[b1]? = some (.cells #[.int .i64 0] 31 (0, 0))) :
    CallsD Tryd.prog 62 #[.pointer (some ⟨b1, 0, none⟩), .pointer (some ⟨b2, 0, none⟩)] u w fun e u' w' => u' = u ∧ e = .returned (.tuple #[]) ∧ w' = w := by
  have c1 := cell_one h1
  refine callsD_of_wp (R := fun e w' => e = .returned (.tuple #[]) ∧ w' = w) Tryd.func62 rfl ?_
  simp only [Tryd.ntmps62, List.size_toArray, List.length_cons, List.length_nil, Nat.reduceAdd, Nat.reduceSub, Array.replicate_succ, Array.replicate_zero, List.push_toArray, List.append_toArray, List.nil_append, List.cons_append]
  go_wp2
  go_end0
  exact ⟨rfl, rfl⟩
theorem wd1_err (b1 b2 : Nat) (n : Int) (v : Value) (hn : n ≠ 0) (u : FrameMode) (w : World) (h1 : w.heap[b1]? = some (.cells #[.int .i64 n] 31 (0, 0))) (h2 : w.heap[b2]? = some (.cells #[v] 3 (0, 0))) :
    CallsD Tryd.prog 62 #[.pointer (some ⟨b1, 0, none⟩), .pointer (some ⟨b2, 0, none⟩)] u w fun e u' w' => u' = u ∧ e = .returned (.tuple #[]) ∧ w' = w.setCell ⟨b2, 0, none⟩ (.int .i64 0) := by
  have c1 := cell_one h1
  have c2 := cell_one h2
  have f2 := frozen_one h2 0
  have hn1 : (n == 0) = false := by simpa using hn
  clear hn
  refine callsD_of_wp (R := fun e w' => e = .returned (.tuple #[]) ∧ w' = w.setCell ⟨b2, 0, none⟩ (.int .i64 0)) Tryd.func62 rfl ?_
  simp only [Tryd.ntmps62, List.size_toArray, List.length_cons, List.length_nil, Nat.reduceAdd, Nat.reduceSub, Array.replicate_succ, Array.replicate_zero, List.push_toArray, List.append_toArray, List.nil_append, List.cons_append]
  go_wp2
  go_end0
  exact ⟨rfl, rfl⟩

set_option maxHeartbeats 400000 in
theorem Withdrawn_any (A : Option Addr) (cp : Nat) (l : List Change) (t : Int) (w : World) (hU : Tabs w) (hr : Rd w A (cflat l)) (hm : l.length ≤ 9223372036854775807) :
    Calls Tryd.prog 29 #[.slice A l.length cp, .int .i64 t] w (WdTop l t w) := by
  have hmf : ∀ (fn : Fn) (first cap : Array Value) (w : World), (Instr.makeFunc fn first cap).run Tryd.prog w = .ok (.func fn first cap) w := fun _ _ _ _ => rfl
  obtain ⟨W1, hW1⟩ : ∃ W1, (w.alloc (.cells #[.int .i64 0] 3)).alloc (.cells #[.int .i64 0] 31) = W1 := ⟨_, rfl⟩
  have hn0 : W1.heap[w.heap.size]? = some (.cells #[.int .i64 0] 3 (0, 0)) := by rw [← hW1]; exact (Below.heap_alloc _ _ _ (by simp)).trans (World.alloc_heap_new _ _)
  have he0 : W1.heap[w.heap.size + 1]? = some (.cells #[.int .i64 0] 31 (0, 0)) := by
    rw [← hW1]; have := World.alloc_heap_new (w.alloc (.cells #[.int .i64 0] 3)) (.cells #[.int .i64 0] 31); rwa [World.size_alloc] at this
  have hB1 : Below w.heap.size w W1 := by rw [← hW1]; exact ((Below.refl _ _).alloc (Nat.le_refl _) _).alloc (by simp) _
  have hz1 : W1.heap.size = w.heap.size + 2 := by rw [← hW1]; simp
  go_enter_defers Tryd.func29, Tryd.ntmps29
  go_wp2_with fail
  refine (play_any 63 #[.pointer (some ⟨w.heap.size, 0, none⟩)] (fun k => k = w.heap.size) (CellN w.heap.size) (told_count _) A cp l t W1 (utf_ext hU hB1) (hr.ext hB1) hm ?_ hn0).mono ?_
  · rintro k rfl
    have hlt := utf_lt hU
    refine ⟨by omega, fun hne a ha e => ?_, fun e => by have := hlt _ (.inl e); omega, fun e => by have := hlt _ (.inr e); omega⟩
    rcases hr with h | ⟨b, off, h, hb, _⟩
    · exact absurd h (cflat_ne hne)
    · rw [h] at ha; cases ha; simp at e; omega
  rintro e w2 ⟨ho, h⟩
  have hB2 : Below w.heap.size w w2 := ⟨ho.os.trans hB1.os, ho.tape.trans hB1.tape, ho.output.trans hB1.output, Nat.le_trans hB1.size ho.size, fun k hk => (ho.block k (by omega) (by omega)).trans (hB1.block k hk)⟩
  have he2 : w2.heap[w.heap.size + 1]? = _ := (ho.block _ (by omega) (by omega)).trans he0
  have hz2 := ho.size
  rcases h with ⟨hn, rfl, pre, hv2⟩ | ⟨hn, ⟨v, rfl, _⟩, hc⟩
  · obtain ⟨v2, hv2⟩ : ∃ v2, w2.heap[w.heap.size]? = some (.cells #[v2] 3 (0, 0)) := ⟨_, hv2⟩
    have hfin : Hid (WdTop l t w (.returned (.tuple #[.int .i64 0, .int .i64 (playE l t)])) ((w2.setCell ⟨w.heap.size + 1, 0, none⟩ (.int .i64 (playE l t))).setCell ⟨w.heap.size, 0, none⟩ (.int .i64 0))) := by
      refine ⟨(hB2.setCell (p := ⟨w.heap.size + 1, 0, none⟩) (by simp) _).setCell (p := ⟨w.heap.size, 0, none⟩) (Nat.le_refl _) _, ?_⟩
      rw [if_neg hn]
    have hnE := hn
    generalize playE l t = E at *
    refine leaves_cons (f := 59) (args := #[.pointer (some ⟨w.heap.size + 1, 0, none⟩)]) (by simp) (by simp [go_sem]) ?_
    refine (caught_pan _ _ _ _ he2).mono ?_
    rintro e u' w'' ⟨rfl, rfl, rfl⟩
    have e3 := set_one he2 (.int .i64 E)
    have n3 := (Below.heap_setCell w2 ⟨w.heap.size + 1, 0, none⟩ (.int .i64 E) w.heap.size (by simp)).trans hv2
    refine leaves_cons (f := 62) (args := #[.pointer (some ⟨w.heap.size + 1, 0, none⟩), .pointer (some ⟨w.heap.size, 0, none⟩)]) (by simp [settle]) (by simp [go_sem]) ?_
    refine (wd1_err _ _ E v2 hnE _ _ e3 n3).mono ?_
    rintro e u' w'' ⟨rfl, rfl, rfl⟩
    have n4 := cell_one (set_one n3 (.int .i64 0))
    have e4 := cell_one ((Below.heap_setCell (w2.setCell ⟨w.heap.size + 1, 0, none⟩ (.int .i64 E)) ⟨w.heap.size, 0, none⟩ (.int .i64 0) (w.heap.size + 1) (by simp)).trans e3)
    simp [Leaves, settle, results, Tryd.results29, go_sem, n4, e4]
    exact hfin.out
  · have c0 := cell_one hc
    have f0 := frozen_one hc 0
    have c1 := cell_one he2
    have f1 := frozen_one he2 0
    have hfin : Hid (WdTop l t w (.returned (.tuple #[.int .i64 (countW (upTo t l)), .int .i64 0])) ((w2.setCell ⟨w.heap.size, 0, none⟩ (.int .i64 (countW (upTo t l)))).setCell ⟨w.heap.size + 1, 0, none⟩ (.int .i64 0))) := by
      refine ⟨(hB2.setCell (p := ⟨w.heap.size, 0, none⟩) (Nat.le_refl _) _).setCell (p := ⟨w.heap.size + 1, 0, none⟩) (by simp) _, ?_⟩
      rw [if_pos hn, hn]
    have n3 := (Below.heap_setCell (w2.setCell ⟨w.heap.size, 0, none⟩ (.int .i64 (countW (upTo t l)))) ⟨w.heap.size + 1, 0, none⟩ (.int .i64 0) w.heap.size (by simp)).trans (set_one hc (.int .i64 (countW (upTo t l))))
    have e3 := set_one ((Below.heap_setCell w2 ⟨w.heap.size, 0, none⟩ (.int .i64 (countW (upTo t l))) (w.heap.size + 1) (by simp)).trans he2) (.int .i64 0)
    clear hn hn0 he0 ho
    go_wp2
    refine leaves_cons (f := 59) (args := #[.pointer (some ⟨w.heap.size + 1, 0, none⟩)]) (by simp) (by simp [go_sem]) ?_
    refine (caught_ret _ _).mono ?_
    rintro e u' w'' ⟨rfl, rfl, rfl⟩
    refine leaves_cons (f := 62) (args := #[.pointer (some ⟨w.heap.size + 1, 0, none⟩), .pointer (some ⟨w.heap.size, 0, none⟩)]) (by simp [settle]) (by simp [go_sem]) ?_
    refine (wd1_zero _ _ _ _ e3).mono ?_
    rintro e u' w'' ⟨rfl, rfl, rfl⟩
    simp [Leaves, settle, results, Tryd.results29, go_sem, cell_one n3, cell_one e3]
    exact hfin.out
end Go.Proofs.YtfbhfimejcdopaaDoor

/- The reference's package of displays: what is right, searching, comparing. -/
namespace Go.Proofs.YtfbhfimejcdopaaDoor
open Go.RowKit Go.Han
attribute [local irreducible] wpStill wpQuiet
set_option maxRecDepth 100000

theorem run_neq_spot (a b a' b' : Int) (s s' : ByteArray) (w : World) : (binOp .neq 52 (.agg #[.int .i64 a, .int .i64 b, .string s]) (.agg #[.int .i64 a', .int .i64 b', .string s'])).run Tryd.prog w = .ok (.bool (!((⟨a, b, s⟩ : Spot) == ⟨a', b', s'⟩))) w := by
  have hb := spot_beq ⟨a, b, s⟩ a' b' s'
  rw [Bool.true_and] at hb
  rw [hb]
  by_cases e1 : a = a'
  · by_cases e2 : b = b'
    · by_cases e3 : s.toList = s'.toList
      · simp [go_sem, e1, e2, e3]
      · simp [go_sem, e1, e2, e3]
    · simp [go_sem, e1, e2]
  · simp [go_sem, e1]
theorem run_equalIn_spot (a b a' b' : Int) (s s' : ByteArray) (w : World) : (Op.equalIn 10000 52 (.agg #[.int .i64 a, .int .i64 b, .string s]) (.agg #[.int .i64 a', .int .i64 b', .string s'])).run Tryd.prog w = .ok ((⟨a, b, s⟩ : Spot) == ⟨a', b', s'⟩) w := by
  have hb := spot_beq ⟨a, b, s⟩ a' b' s'
  rw [Bool.true_and] at hb
  rw [hb]
  by_cases e1 : a = a'
  · by_cases e2 : b = b'
    · by_cases e3 : s.toList = s'.toList
      · simp [go_sem, e1, e2, e3]
      · simp [go_sem, e1, e2, e3]
    · simp [go_sem, e1, e2]
  · simp [go_sem, e1]

def findR (l : List Spot) (n : Int) : Int := match l.findIdx? (fun x => x.id == n) with | some k => (k : Int) | none => -1
theorem findR_at (l : List Spot) (n : Int) (k : Nat) (hk : k < l.length) (h : ∀ (j : Nat) (hj : j < l.length), j < k → l[j].id ≠ n) (he : l[k].id = n) : findR l n = k := by
  unfold findR
  have : l.findIdx? (fun x => x.id == n) = some k := by
    rw [List.findIdx?_eq_some_iff_getElem]
    exact ⟨hk, by simpa using he, fun j hj => by simpa using h j (by omega) hj⟩
  rw [this]
theorem findR_none (l : List Spot) (n : Int) (h : ∀ (j : Nat) (hj : j < l.length), l[j].id ≠ n) : findR l n = -1 := by
  unfold findR
  have : l.findIdx? (fun x => x.id == n) = none := by
    rw [List.findIdx?_eq_none_iff]
    intro x hx
    obtain ⟨j, hj, rfl⟩ := List.mem_iff_getElem.1 hx
    simpa using h j hj
  rw [this]
theorem find49_any (A : Option Addr) (c : Nat) (l : List Spot) (n : Int) (w : World) (hr : Rd w A (flat l)) (hm : l.length ≤ 9223372036854775807) :
    Calls Tryd.prog 58 #[.slice A l.length c, .int .i64 n] w fun e w' => e = .returned (.int .i64 (findR l n)) ∧ w = w' := by
  go_enter Tryd.func58, Tryd.ntmps58
  go_wp2_with fail
  go_loop [5] (fun i => ∃ k : Nat, k ≤ l.length ∧ i = .int .i64 k ∧ Hid (∀ (j : Nat) (hj : j < l.length), j < k → l[j].id ≠ n)) (fun i => l.length - (intOf i).toNat)
  case atStart => exact ⟨0, Nat.zero_le _, rfl, fun j hj h => by omega⟩
  case round =>
    obtain ⟨k, hk, rfl, HR⟩ := hrel
    by_cases hlt : k < l.length
    · obtain ⟨b, off, rfl, hb, hc⟩ := hr.elem Spot.size_cells (by omega) hlt
      have h1 := hc 0 _ rfl
      simp only [Nat.add_zero] at h1
      clear hc hr
      by_cases he : l[k].id = n
      · have HF := Lib.hid (findR_at l n k hlt HR.out he)
        have he2 : (l[k].id == n) = true := by simpa using he
        clear he HR
        go_wp2_with fail
        go_ret
        exact ⟨by rw [HF.out]; rfl, rfl⟩
      · have HN := Lib.hid he
        have he2 : (l[k].id == n) = false := by simpa using he
        clear he
        go_wp2_with fail
        go_round
        case rel =>
          refine ⟨k + 1, by omega, by go_num, fun j hj hjk => ?_⟩
          rcases Nat.lt_or_ge j k with h | h
          · exact HR.out j hj h
          · obtain rfl : j = k := by omega
            exact HN.out
        case measure => simp [intOf]; omega
    · have HF := Lib.hid (findR_none l n (fun j hj => HR.out j hj (by omega)))
      clear HR
      go_wp2_with fail
      go_ret
      exact ⟨by rw [HF.out]; rfl, rfl⟩

set_option maxHeartbeats 400000 in
theorem same49_any (A B : Option Addr) (c d : Nat) (l l' : List Spot) (w : World) (hr : Rd w A (flat l)) (hr' : Rd w B (flat l')) (hm : l.length ≤ 9223372036854775807) :
    Calls Tryd.prog 25 #[.slice A l.length c, .slice B l'.length d] w fun e w' => e = .returned (.bool (decide (l = l'))) ∧ Below w.heap.size w w' := by
  by_cases hl : l.length = l'.length
  · have hne : ((l.length : Int) != (l'.length : Int)) = false := by simp [hl]
    have Hl := Lib.hid hl
    clear hl
    go_enter Tryd.func25, Tryd.ntmps25
    go_wp2_with fail
    go_loopw [5] (fun i wr => ∃ k : Nat, k ≤ l.length ∧ i = .int .i64 k ∧ Below w.heap.size w wr ∧ Hid (l.take k = l'.take k)) (fun i _ => l.length - (intOf i).toNat)
    case atStart => exact ⟨0, Nat.zero_le _, rfl, Below.refl _ _, rfl⟩
    case round =>
      obtain ⟨k, hk, rfl, hB, HR⟩ := hrel
      by_cases hlt : k < l.length
      · have hlt' : k < l'.length := by have := Hl.out; omega
        obtain ⟨b, off, rfl, hb, hc⟩ := hr.elem Spot.size_cells (by omega) hlt
        obtain ⟨b', off', rfl, hb', hc'⟩ := hr'.elem Spot.size_cells (by omega) hlt'
        have h1 := (hB.cell (p := ⟨b, off + k * 3 + 0, none⟩) hb).trans (hc 0 _ rfl)
        have h2 := (hB.cell (p := ⟨b, off + k * 3 + 1, none⟩) hb).trans (hc 1 _ rfl)
        have h3 := (hB.cell (p := ⟨b, off + k * 3 + 2, none⟩) hb).trans (hc 2 _ rfl)
        have h1' := (hB.cell (p := ⟨b', off' + k * 3 + 0, none⟩) hb').trans (hc' 0 _ rfl)
        have h2' := (hB.cell (p := ⟨b', off' + k * 3 + 1, none⟩) hb').trans (hc' 1 _ rfl)
        have h3' := (hB.cell (p := ⟨b', off' + k * 3 + 2, none⟩) hb').trans (hc' 2 _ rfl)
        simp only [Nat.add_zero] at h1 h1'
        have hq := fun (w : World) => run_equalIn_spot l[k].id l[k].ver l'[k].id l'[k].ver l[k].text l'[k].text w
        have htk : l.take (k + 1) = l.take k ++ [l[k]] := List.take_succ_eq_append_getElem hlt
        have htk' : l'.take (k + 1) = l'.take k ++ [l'[k]] := List.take_succ_eq_append_getElem hlt'
        have Htk := Lib.hid htk
        have Htk' := Lib.hid htk'
        have hf : Hid (l = l' → l[k] = l'[k]) := by rintro rfl; rfl
        clear hc hr hc' hr' htk htk'
        generalize l[k] = x at *
        generalize l'[k] = y at *
        obtain ⟨a, v, s⟩ := x
        obtain ⟨a', v', s'⟩ := y
        simp only at hq h1 h2 h3 h1' h2' h3'
        cases hxy : ((⟨a, v, s⟩ : Spot) == ⟨a', v', s'⟩)
        · rw [hxy] at hq
          have HF : Hid (decide (l = l') = false) := decide_eq_false (fun h => by have := hf.out h; rw [this] at hxy; simp at hxy)
          clear hxy
          go_wp2_with fail
          go_still (by kernel_rfl)
          go_wp2
          go_ret
          exact ⟨by rw [HF.out]; rfl, hB.drew⟩
        · rw [hxy] at hq
          have HE : Hid ((⟨a, v, s⟩ : Spot) = ⟨a', v', s'⟩) := by show _ = _; simpa using hxy
          clear hxy
          go_wp2_with fail
          go_still (by kernel_rfl)
          go_wp2
          go_roundw
          case rel => exact ⟨k + 1, by omega, by go_num, hB.drew, by show _ = _; rw [Htk.out, Htk'.out, HR.out, HE.out]⟩
          case measure => simp [intOf]; omega
      · have HF : Hid (decide (l = l') = true) := by
          refine decide_eq_true ?_
          obtain rfl : k = l.length := by omega
          have h := HR.out
          rw [List.take_length, List.take_of_length_le (by have := Hl.out; omega)] at h
          exact h
        clear HR
        go_wp2_with fail
        go_ret
        exact ⟨by rw [HF.out]; rfl, hB⟩
  · have hne : ((l.length : Int) != (l'.length : Int)) = true := by simp; omega
    have HF : Hid (decide (l = l') = false) := decide_eq_false (fun h => hl (by rw [h]))
    clear hl
    go_enter Tryd.func25, Tryd.ntmps25
    go_wp2_with fail
    go_ret
    exact ⟨by rw [HF.out]; rfl, Below.refl _ _⟩
end Go.Proofs.YtfbhfimejcdopaaDoor
