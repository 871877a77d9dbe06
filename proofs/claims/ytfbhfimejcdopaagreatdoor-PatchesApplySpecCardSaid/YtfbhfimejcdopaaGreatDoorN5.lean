/- Texts of this claim, one after the other: Ref9a, Ref9b, Ref49a, Pat1, KeysI, Pat2, Pat3, Pat4, Ref49k. -/
import Derived.Test.YtfbhfimejcdopaaGreatDoorN1
import Derived.Test.YtfbhfimejcdopaaGreatDoorN4
import Derived.Test.YtfbhfimejcdopaaGreatDoorN2
import Derived.Test.YtfbhfimejcdopaaGreatDoorIter
import Derived.Deep.RegionWith
import Derived.BigQuiet
import Derived.Shelf.SlMaps.Clone
import Derived.Shelf.SlIterI.Sorted
import Derived.Shelf.SlIterI.Nil
import Derived.Stop.RegionWithIn
import Derived.Sort.QuietTacIn
import Derived.Deep.Draws
import Derived.IntWalk
/- The reference's package of texts: the code point with which a string begins. -/
namespace Go.Proofs.YtfbhfimejcdopaaGreatDoor
open Go.RowKit Go.Han
set_option maxRecDepth 100000

theorem long_any (b : Nat) (h : b < 256) (w : World) : Calls Tryz.prog 102 #[.int .i64 b] w fun e w' =>
    e = .returned (.tuple #[.int .i64 (longR b).1, .int .i64 (longR b).2]) ∧ w = w' := by
  by_cases c1 : b < 128
  · have H : Hid (longR b = (1, b)) := by unfold longR; rw [if_pos c1]; rfl
    go_enter Tryz.func102, Tryz.ntmps102
    go_wp2
    go_ret2
    exact ⟨by rw [H.out]; rfl, rfl⟩
  by_cases c2 : 192 ≤ b ∧ b < 224
  · have H : Hid (longR b = (2, b - 192)) := by unfold longR; rw [if_neg c1, if_pos c2]; rfl
    have e : (b : Int) - 192 = ((b - 192 : Nat) : Int) := by omega
    have E := Lib.hid e
    obtain ⟨g1, g2⟩ := c2
    clear e
    go_enter Tryz.func102, Tryz.ntmps102
    go_wp2
    go_ret2
    exact ⟨by rw [H.out, E.out]; rfl, rfl⟩
  by_cases c3 : 224 ≤ b ∧ b < 240
  · have H : Hid (longR b = (3, b - 224)) := by unfold longR; rw [if_neg c1, if_neg c2, if_pos c3]; rfl
    have e : (b : Int) - 224 = ((b - 224 : Nat) : Int) := by omega
    have E := Lib.hid e
    obtain ⟨g1, g2⟩ := c3
    clear e c2
    go_enter Tryz.func102, Tryz.ntmps102
    go_wp2
    go_ret2
    exact ⟨by rw [H.out, E.out]; rfl, rfl⟩
  by_cases c4 : 240 ≤ b ∧ b < 248
  · have H : Hid (longR b = (4, b - 240)) := by unfold longR; rw [if_neg c1, if_neg c2, if_neg c3, if_pos c4]; rfl
    have e : (b : Int) - 240 = ((b - 240 : Nat) : Int) := by omega
    have E := Lib.hid e
    obtain ⟨g1, g2⟩ := c4
    clear e c2 c3
    go_enter Tryz.func102, Tryz.ntmps102
    go_wp2
    go_ret2
    exact ⟨by rw [H.out, E.out]; rfl, rfl⟩
  · have H : Hid (longR b = (0, 0)) := by unfold longR; rw [if_neg c1, if_neg c2, if_neg c3, if_neg c4]; rfl
    have g : (128 ≤ b ∧ b < 192) ∨ 248 ≤ b := by omega
    clear c1 c2 c3 c4
    rcases g with ⟨g1, g2⟩ | g
    all_goals
      go_enter Tryz.func102, Tryz.ntmps102
      go_wp2
      go_ret2
      exact ⟨by rw [H.out]; rfl, rfl⟩

theorem point9_any (r : Int) (w : World) : Calls Tryz.prog 103 #[.int .i64 r] w fun e w' => e = .returned (.bool (pointB r)) ∧ w = w' := by
  go_enter Tryz.func103, Tryz.ntmps103
  go_wp2
  all_goals go_ret
  all_goals (refine ⟨?_, rfl⟩; simp [pointB, *] <;> omega)

theorem cell_alloc_any (w : World) (cs : Array Value) (t j : Nat) : (w.alloc (.cells cs t)).cell? ⟨w.heap.size, j, none⟩ = cs[j]? := by
  unfold World.cell?
  rw [World.alloc_heap_new]
  rfl
def u8s (l : List UInt8) : List Value := l.map fun c => Value.int .u8 c.toNat
def BytesPost (r : Nat) (w : World) (e : Ending) (w' : World) : Prop :=
  Below w.heap.size w w' ∧ ∃ b, e = .returned (.slice (some ⟨b, 0, none⟩) (bytesR r).length (bytesR r).length) ∧ b < w'.heap.size ∧ ∀ j u, (u8s (bytesR r))[j]? = some u → w'.cell? ⟨b, j, none⟩ = some u
theorem bytes_done (r n : Nat) (w : World) (vs : Array Value) (hn : (bytesR r).length = n) (hv : u8s (bytesR r) = vs.toList) :
    BytesPost r w (.returned (.slice (some ⟨w.heap.size, 0, none⟩) n n)) (w.alloc (.cells vs 5)) := by
  refine ⟨(Below.refl _ _).alloc (Nat.le_refl _) _, w.heap.size, by rw [hn], by simp, fun j u hu => ?_⟩
  rw [cell_alloc_any]
  rw [hv] at hu
  simpa using hu
theorem bytes9_any (r : Nat) (h : r ≤ 1114111) (w : World) : Calls Tryz.prog 104 #[.int .i64 r] w (BytesPost r w) := by
  by_cases c1 : r < 128
  · have H : Hid (bytesR r = [UInt8.ofNat r]) := by unfold bytesR; rw [if_pos c1]; rfl
    have HV : Hid (u8s (bytesR r) = [.int .u8 r]) := by rw [H.out]; simp [u8s, u8_nat r (by omega), Hid]
    go_enter Tryz.func104, Tryz.ntmps104
    go_wp2
    go_ret
    exact bytes_done r 1 w _ (by rw [H.out]; rfl) HV.out
  by_cases c2 : r < 2048
  · have H : Hid (bytesR r = [UInt8.ofNat (192 + r / 64), UInt8.ofNat (128 + r % 64)]) := by unfold bytesR; rw [if_neg c1, if_pos c2]; rfl
    have HV : Hid (u8s (bytesR r) = [.int .u8 (192 + (r : Int) / 64), .int .u8 (128 + (r : Int) % 64)]) := by
      rw [H.out]; simp only [u8s, List.map_cons, List.map_nil, u8_nat (192 + r / 64) (by omega), u8_nat (128 + r % 64) (by omega)]; rfl
    go_enter Tryz.func104, Tryz.ntmps104
    go_wp2
    go_ret
    exact bytes_done r 2 w _ (by rw [H.out]; rfl) HV.out
  by_cases c3 : r < 65536
  · have H : Hid (bytesR r = [UInt8.ofNat (224 + r / 4096), UInt8.ofNat (128 + r / 64 % 64), UInt8.ofNat (128 + r % 64)]) := by unfold bytesR; rw [if_neg c1, if_neg c2, if_pos c3]; rfl
    have HV : Hid (u8s (bytesR r) = [.int .u8 (224 + (r : Int) / 4096), .int .u8 (128 + (r : Int) / 64 % 64), .int .u8 (128 + (r : Int) % 64)]) := by
      rw [H.out]; simp only [u8s, List.map_cons, List.map_nil, u8_nat (224 + r / 4096) (by omega), u8_nat (128 + r / 64 % 64) (by omega), u8_nat (128 + r % 64) (by omega)]; rfl
    have d1 : decide ((r : Int) < 128) = false := by simp; omega
    have d2 : decide ((r : Int) < 2048) = false := by simp; omega
    have d3 : decide ((r : Int) < 65536) = true := by simp; omega
    have g1 : (r : Int) / 4096 ≤ 15 := by omega
    have g2 : (0 : Int) ≤ (r : Int) / 4096 := by omega
    clear c1 c2 c3 h
    go_enter Tryz.func104, Tryz.ntmps104
    go_wp2
    go_ret
    exact bytes_done r 3 w _ (by rw [H.out]; rfl) HV.out
  · have H : Hid (bytesR r = [UInt8.ofNat (240 + r / 262144), UInt8.ofNat (128 + r / 4096 % 64), UInt8.ofNat (128 + r / 64 % 64), UInt8.ofNat (128 + r % 64)]) := by unfold bytesR; rw [if_neg c1, if_neg c2, if_neg c3]; rfl
    have HV : Hid (u8s (bytesR r) = [.int .u8 (240 + (r : Int) / 262144), .int .u8 (128 + (r : Int) / 4096 % 64), .int .u8 (128 + (r : Int) / 64 % 64), .int .u8 (128 + (r : Int) % 64)]) := by
      rw [H.out]; simp only [u8s, List.map_cons, List.map_nil, u8_nat (240 + r / 262144) (by omega), u8_nat (128 + r / 4096 % 64) (by omega), u8_nat (128 + r / 64 % 64) (by omega), u8_nat (128 + r % 64) (by omega)]; rfl
    have d1 : decide ((r : Int) < 128) = false := by simp; omega
    have d2 : decide ((r : Int) < 2048) = false := by simp; omega
    have d3 : decide ((r : Int) < 65536) = false := by simp; omega
    have g1 : (r : Int) / 262144 ≤ 4 := by omega
    have g2 : (0 : Int) ≤ (r : Int) / 262144 := by omega
    clear c1 c2 c3 h
    go_enter Tryz.func104, Tryz.ntmps104
    go_wp2
    go_ret
    exact bytes_done r 4 w _ (by rw [H.out]; rfl) HV.out

def FirstPost (l : List UInt8) (w : World) (e : Ending) (w' : World) : Prop :=
  Below w.heap.size w w' ∧ e = .returned (.tuple #[.int .i64 (firstR l).1, .int .i64 (firstR l).2])
theorem below_drewN (w : World) (n : Nat) : Below w.heap.size w (w.drewN n) := by
  induction n with
  | zero => exact Below.refl _ _
  | succ n ih => exact ih.drew
theorem get_byteAt (s : ByteArray) (k : Nat) (h : k < s.size) : s[k].toNat = byteAt s.data.toList k := by
  unfold byteAt
  cases s with
  | mk d =>
    show (d[k]).toNat = _
    have : k < d.size := h
    simp [this]
theorem acc_step (l : List UInt8) (k : Nat) : accR l (k + 1) = accR l k * 64 + byteAt l (k + 1) - 128 := rfl
theorem long_bd (b : Nat) (h : b < 256) : (longR b).1 ≤ 4 ∧ (longR b).2 < 128 := by
  unfold longR
  repeat' split
  all_goals (refine ⟨?_, ?_⟩ <;> simp <;> omega)
theorem byteAt_lt (l : List UInt8) (k : Nat) : byteAt l k < 256 := (l[k]?.getD 0).toNat_lt
theorem goes_step (l : List UInt8) (k : Nat) : goesR l (k + 1) = (goesR l k && contB (byteAt l (k + 1))) := rfl
theorem goes_mono (l : List UInt8) (k n : Nat) (h : k ≤ n) (hg : goesR l n = true) : goesR l k = true := by
  induction n with
  | zero => obtain rfl : k = 0 := by omega
            rfl
  | succ n ih =>
    rcases Nat.lt_or_ge k (n + 1) with h1 | h1
    · rw [goes_step, Bool.and_eq_true] at hg
      exact ih (by omega) hg.1
    · obtain rfl : k = n + 1 := by omega
      exact hg
theorem acc_bd (l : List UInt8) : ∀ k, goesR l k = true → accR l k < 128 * 64 ^ k
  | 0, _ => by have := (long_bd _ (byteAt_lt l 0)).2; show (longR (byteAt l 0)).2 < _; omega
  | k + 1, h => by
    rw [goes_step, Bool.and_eq_true] at h
    have ih := acc_bd l k h.1
    have : 128 ≤ byteAt l (k + 1) ∧ byteAt l (k + 1) < 192 := by simpa [contB] using h.2
    rw [acc_step, Nat.pow_succ]
    omega
theorem acc_lt (l : List UInt8) (k : Nat) (hk : k ≤ 3) (h : goesR l k = true) : accR l k < 33554432 := by
  have := acc_bd l k h
  have h2 : 64 ^ k ≤ 64 ^ 3 := Nat.pow_le_pow_right (by decide) hk
  have h3 : 64 ^ 3 = 262144 := by decide
  omega

set_option maxHeartbeats 1000000 in
theorem first_any (s : ByteArray) (hs : s.data.toList ≠ []) (w : World) : Calls Tryz.prog 88 #[.string s] w (FirstPost s.data.toList w) := by
  have hz : 0 < s.size := by rw [Lib.size_eq]; exact List.length_pos_iff.2 hs
  have hz1 : (0 : Int) < (s.size : Int) := by omega
  have h0 : s[0].toNat < 256 := s[0].toNat_lt
  have E0 := Lib.hid (get_byteAt s 0 hz)
  have Hf : Hid (firstR s.data.toList = if (longR (byteAt s.data.toList 0)).1 = 0 ∨ s.data.toList.length < (longR (byteAt s.data.toList 0)).1 then (0, 0) else if goesR s.data.toList ((longR (byteAt s.data.toList 0)).1 - 1) then lastR s.data.toList (longR (byteAt s.data.toList 0)).1 else (0, 0)) := rfl
  have hbd := long_bd _ (byteAt_lt s.data.toList 0)
  have hA0 : Hid (accR s.data.toList 0 = (longR (byteAt s.data.toList 0)).2) := rfl
  have hg0 : goesR s.data.toList 0 = true := rfl
  have hgb : ∀ k : Nat, k < s.size → s[k]?.isSome := fun k h => by simp [h]
  clear hgb
  go_enter Tryz.func88, Tryz.ntmps88
  go_wp2_with fail
  refine (long_any _ h0 _).mono ?_
  rintro e w' ⟨rfl, rfl⟩
  rw [E0.out]
  generalize hlo : longR (byteAt s.data.toList 0) = nr at *
  clear hlo
  obtain ⟨n, r⟩ := nr
  simp only at hbd
  obtain ⟨hn4, hr⟩ := hbd
  have hsz := Lib.size_eq s
  by_cases hn0 : n = 0 ∨ s.size < n
  · have Hx : Hid (firstR s.data.toList = (0, 0)) := by show _ = _; rw [Hf.out, if_pos (by rw [← hsz]; exact hn0)]
    clear Hf hA0 hg0 hsz
    have hb : (n = 0) ∨ (¬ n = 0 ∧ s.size < n) := by omega
    clear hn0
    rcases hb with rfl | ⟨g1, g2⟩
    · go_wp2
      go_ret2
      exact ⟨Below.refl _ _, by rw [Hx.out]; rfl⟩
    · have g3 : ((n : Int) == 0) = false := by simpa using g1
      have g4 : (s.size : Int) < (n : Int) := by omega
      go_wp2
      go_ret2
      exact ⟨Below.refl _ _, by rw [Hx.out]; rfl⟩
  · have Hx : Hid (firstR s.data.toList = if goesR s.data.toList (n - 1) then lastR s.data.toList n else (0, 0)) := by show _ = _; rw [Hf.out, if_neg (by rw [← hsz]; exact hn0)]
    have g1 : ¬ n = 0 := by omega
    have g3 : ((n : Int) == 0) = false := by simpa using g1
    have g4 : ¬ (s.size : Int) < (n : Int) := by omega
    have g5 : decide (s.size < n) = false := by simp; omega
    clear Hf hsz hn0
    go_wp2_with fail
    go_loop [2, 3, 5, 6, 7] (fun _ _ r i _ => ∃ k : Nat, k + 1 ≤ n ∧ i = .int .i64 ((k : Int) + 1) ∧ r = .int .i64 (accR s.data.toList k) ∧ Hid (goesR s.data.toList k = true)) (fun _ _ _ i _ => n - (intOf i).toNat)
    case atStart => exact ⟨0, by omega, rfl, by rw [hA0.out], hg0⟩
    case round =>
      obtain ⟨k, hk, rfl, rfl, HG⟩ := hrel
      have hrk := acc_lt s.data.toList k (by omega) HG.out
      clear hg0
      by_cases hlt : k + 1 < n
      · have hks : k + 1 < s.size := by omega
        have hb256 := byteAt_lt s.data.toList (k + 1)
        have EK := Lib.hid (get_byteAt s (k + 1) hks)
        have hb0 : s[k + 1].toNat < 256 := s[k + 1].toNat_lt
        rcases (show s[k + 1].toNat < 128 ∨ (¬ s[k + 1].toNat < 128 ∧ 192 ≤ s[k + 1].toNat) ∨ (¬ s[k + 1].toNat < 128 ∧ ¬ 192 ≤ s[k + 1].toNat) by omega) with c1 | ⟨c1, c2⟩ | ⟨c1, c2⟩
        · have Hy : Hid (firstR s.data.toList = (0, 0)) := by
            show _ = _
            rw [Hx.out, if_neg]
            intro hgo
            have h2 := goes_mono s.data.toList (k + 1) (n - 1) (by omega) hgo
            rw [goes_step, ← EK.out, Bool.and_eq_true] at h2
            have : 128 ≤ s[k + 1].toNat ∧ s[k + 1].toNat < 192 := by simpa [contB] using h2.2
            omega
          go_wp2
          go_ret2
          exact ⟨Below.refl _ _, by rw [Hy.out]; rfl⟩
        · have Hy : Hid (firstR s.data.toList = (0, 0)) := by
            show _ = _
            rw [Hx.out, if_neg]
            intro hgo
            have h2 := goes_mono s.data.toList (k + 1) (n - 1) (by omega) hgo
            rw [goes_step, ← EK.out, Bool.and_eq_true] at h2
            have : 128 ≤ s[k + 1].toNat ∧ s[k + 1].toNat < 192 := by simpa [contB] using h2.2
            omega
          go_wp2
          go_ret2
          exact ⟨Below.refl _ _, by rw [Hy.out]; rfl⟩
        · have HG2 : Hid (goesR s.data.toList (k + 1) = true) := by
            show _ = _
            rw [goes_step, HG.out, ← EK.out]; simp [contB]; omega
          have HA : Hid ((accR s.data.toList (k + 1) : Int) = accR s.data.toList k * 64 + s[k + 1].toNat - 128) := by
            show _ = _
            rw [acc_step, ← EK.out]; omega
          go_wp2
          go_round
          case rel => exact ⟨k + 1, by omega, by go_num, by rw [HA.out], HG2⟩
          case measure => simp [intOf]; omega
      · obtain rfl : n = k + 1 := by omega
        have Hy : Hid (firstR s.data.toList = lastR s.data.toList (k + 1)) := by
          show _ = _
          rw [Hx.out, Nat.add_sub_cancel, HG.out]; rfl
        have Hl : Hid (lastR s.data.toList (k + 1) = if pointB (accR s.data.toList k) && (bytesR (accR s.data.toList k) == s.data.toList.take (k + 1)) then (accR s.data.toList k, k + 1) else (0, 0)) := rfl
        have hks : ((k : Int) + 1) ≤ s.size := by omega
        have hks2 : k + 1 ≤ s.size := by omega
        clear hA0 Hx HG E0 h0 hlt
        generalize accR s.data.toList k = a at *
        cases hp : pointB a
        · have Hz : Hid (firstR s.data.toList = (0, 0)) := by show _ = _; rw [Hy.out, Hl.out, hp]; rfl
          have cp := point9_any a
          rw [hp] at cp
          clear Hy Hl hp
          go_wp2_with fail
          go_quiet ((go_at_call 103; exact Calls.quiet_of_same ((cp _).mono fun _ _ h => ⟨h.1, h.2.symm⟩)))
          go_wp2
          go_ret2
          exact ⟨below_drewN _ _, by rw [Hz.out]; rfl⟩
        · have cp := point9_any a
          rw [hp] at cp
          have ha : a ≤ 1114111 := by simp [pointB] at hp; omega
          have hconv := fun (W : World) (b : Nat) (hc : ∀ j u, (u8s (bytesR a))[j]? = some u → W.cell? ⟨b, j, none⟩ = some u) => run_convert_bytes_back (P := Tryz.prog) W 137 9 5 ⟨b, 0, none⟩ (bytesR a).length (bytesR a) Tryz.underlying137 Tryz.underlying5 Tryz.underlying9
            (fun j hj => by
              have := hc j (.int .u8 ((bytesR a)[j].toNat)) (by simp [u8s, hj])
              rwa [show (⟨b, 0, none⟩ : Addr).add j = ⟨b, j, none⟩ from by unfold Addr.add; split <;> simp_all])
          have Hl2 : Hid (firstR s.data.toList = if (bytesR a == s.data.toList.take (k + 1)) then (a, k + 1) else (0, 0)) := by show _ = _; rw [Hy.out, Hl.out, hp, Bool.true_and]
          clear Hl Hy hp
          have Hfin : Hid (∀ t : Bool, (!bytesR a == (s.extract 0 (k + 1)).toList) = t → firstR s.data.toList = if t then (0, 0) else (a, k + 1)) := by
            show ∀ _, _
            intro t ht
            rw [Hl2.out, ← ht, ByteArray.toList_eq, Lib.extract_data]
            simp only [List.drop_zero, Nat.sub_zero]
            cases bytesR a == List.take (k + 1) s.data.toList <;> rfl
          clear Hl2
          go_wp2_with fail
          go_region_with (first | (go_at_call 103; refine (cp _).mono ?_; rintro e w' ⟨rfl, rfl⟩) | (go_at_call 104; refine (bytes9_any a ha _).mono ?_; rintro e w2 ⟨hb2, b, rfl, hblt, hcell⟩; have hcv := hconv w2 b hcell; clear hcell))
          all_goals go_wp2_with fail
          all_goals go_ret2
          all_goals (have hx := Hfin.out _ (by assumption))
          all_goals (refine ⟨?_, by rw [hx]; rfl⟩)
          all_goals (refine ext_trans ?_ hb2; repeat (first | exact Below.refl _ _ | refine ext_drew ?_))
end Go.Proofs.YtfbhfimejcdopaaGreatDoor

/- The reference's package of texts: the code points of a string, and whether it is a word. -/
namespace Go.Proofs.YtfbhfimejcdopaaGreatDoor
open Go.RowKit Go.Han
set_option maxRecDepth 100000

theorem ownsRow_ext {w w' : World} {base e size n : Nat} {v : Value} {xs : List Value} (h : w.ownsRow base e size v n xs) (hb : Below w.heap.size w w') : w'.ownsRow base e size v n xs :=
  ownsRow_of_block h fun g hg => hb.block g (h.lt g hg).2
def KindPost (r : Int) (w : World) (e : Ending) (w' : World) : Prop :=
  w = w' ∧ ∃ k x : Int, e = .returned (.tuple #[.int .i64 k, .int .i64 x]) ∧ (k == 1) = spaceB r
set_option maxHeartbeats 1000000 in
theorem kind_any (r : Int) (w : World) : Calls Tryz.prog 89 #[.int .i64 r] w (KindPost r w) := by
  cases hp : pointB r
  · have hs : Hid (spaceB r = false) := by
      show _ = _
      have : ¬ (r = 9 ∨ r = 10 ∨ r = 13 ∨ r = 32) := by
        rintro (rfl | rfl | rfl | rfl) <;> cases hp
      simp [spaceB]; omega
    go_enter Tryz.func89, Tryz.ntmps89
    go_wp2_with fail
    refine (point9_any _ _).mono ?_
    rintro e w' ⟨rfl, rfl⟩
    go_wp2
    go_ret2
    exact ⟨rfl, 0, 90, rfl, hs.out.symm⟩
  · cases hs : spaceB r
    · have Hs := Lib.hid hs
      have n1 : (r == 9) = false := by simp [spaceB] at hs ⊢; omega
      have n2 : (r == 10) = false := by simp [spaceB] at hs ⊢; omega
      have n3 : (r == 13) = false := by simp [spaceB] at hs ⊢; omega
      have n4 : (r == 32) = false := by simp [spaceB] at hs ⊢; omega
      clear hs
      go_enter Tryz.func89, Tryz.ntmps89
      go_wp2_with fail
      refine (point9_any _ _).mono ?_
      rintro e w' ⟨rfl, rfl⟩
      go_wp2
      all_goals go_ret2
      all_goals exact ⟨rfl, _, _, rfl, by rw [Hs.out]; rfl⟩
    · have Hs := Lib.hid hs
      have h4 : r = 32 ∨ r = 9 ∨ r = 10 ∨ r = 13 := by simp [spaceB] at hs; omega
      clear hs hp
      rcases h4 with rfl | rfl | rfl | rfl
      all_goals
        go_enter Tryz.func89, Tryz.ntmps89
        go_wp2_with fail
        refine (point9_any _ _).mono ?_
        rintro e w' ⟨rfl, rfl⟩
        go_wp2
        go_ret2
        exact ⟨rfl, 1, 0, rfl, by rw [Hs.out]; rfl⟩
theorem space9_any (r : Int) (w : World) : Calls Tryz.prog 70 #[.int .i64 r] w fun e w' => e = .returned (.bool (spaceB r)) ∧ w = w' := by
  go_enter Tryz.func70, Tryz.ntmps70
  go_wp2_with fail
  refine (kind_any _ _).mono ?_
  rintro e w' ⟨rfl, k, x, rfl, h⟩
  have H := Lib.hid h
  clear h
  go_wp2
  go_ret
  exact ⟨by rw [← H.out]; rfl, rfl⟩

def Runes9Inv (s : ByteArray) (w : World) (s0 out : Value) (wr : World) : Prop :=
  ∃ (pre : List Nat) (s' : ByteArray), s0 = .string s' ∧ wr.ownsRow w.heap.size 3 1 out pre.length (pre.map fun r : Nat => .int .i64 (r : Int)) ∧ Below w.heap.size w wr ∧
    (runes s.data.toList).1 = pre ++ (runes s'.data.toList).1 ∧ (runes s.data.toList).2 = (runes s'.data.toList).2 ∧ pre.length + s'.size ≤ 4096
def sizeOf (v : Value) : Nat := match v with | .string s => s.size | _ => 0
set_option maxHeartbeats 1000000 in
theorem runes9_any (s : ByteArray) (w : World) : Calls Tryz.prog 69 #[.string s] w (RunesPost s w) := by
  obtain ⟨i0, hi0, iz0, iz1, iz2⟩ := info_parts info_int
  by_cases hs : s.size ≤ 4096
  · have h1 : ¬ (4096 : Int) < (s.size : Int) := by omega
    go_enter Tryz.func69, Tryz.ntmps69
    go_wp2_with fail
    go_loopw [0, 4, 5, 6] (fun s0 out _ _ wr => Runes9Inv s w s0 out wr) (fun s0 _ _ _ _ => sizeOf s0)
    case atStart => exact ⟨[], s, rfl, World.ownsRow_made w #[] 0 (Nat.le_refl _) (Nat.zero_le _) rfl, (Below.refl _ _).alloc (Nat.le_refl _) _, rfl, rfl, by simpa using hs⟩
    case round =>
      obtain ⟨pre, s', rfl, hown, hB, hr1, hr2, hlen⟩ := hrel
      have H1 := Lib.hid hr1
      have H2 := Lib.hid hr2
      have hBs := hB.size
      clear hr1 hr2
      by_cases hs' : s'.data.toList = []
      · have hz : s'.size = 0 := by rw [Lib.size_eq, hs']; rfl
        have hz1 : ¬ (0 : Int) < (s'.size : Int) := by omega
        have hz2 : decide ((0 : Int) < (s'.size : Int)) = false := by simpa using hz1
        have hsl := SlOf.of_own hown
        have e1 := H1.out
        have e2 := H2.out
        rw [hs', runes_nil] at e1 e2
        simp only [List.append_nil] at e1
        obtain ⟨A, c, rfl, hn, hm, hl2, hrd⟩ := hsl
        have E1 := Lib.hid e1
        have E2 := Lib.hid e2
        clear hz hs' hl2 e1 e2 H1 H2
        go_wp2_with fail
        go_ret2
        exact ⟨hB, .inr (.inr ⟨hs, E2.out, A, c, by rw [E1.out]; rfl, by rw [E1.out]; exact hrd⟩)⟩
      · have hz : 0 < s'.size := by rw [Lib.size_eq]; exact List.length_pos_iff.2 hs'
        have hz1 : (0 : Int) < (s'.size : Int) := by omega
        have hz2 : decide ((0 : Int) < (s'.size : Int)) = true := by simpa using hz1
        have hfd := Lib.hid (firstR_dec s'.data.toList hs')
        have hstep := Lib.hid (runes_step s'.data.toList hs')
        have hrg := dec_range s'.data.toList hs'
        have hge := dec_ge1 s'.data.toList
        have hne := Lib.hid hs'
        clear hs'
        go_wp2_with fail
        refine (first_any s' hne.out wr).mono ?_
        rintro e w1 ⟨hb1, rfl⟩
        have hB1 : Below w.heap.size w w1 := hB.trans (hb1.mono hBs)
        have hBs1 := hB1.size
        have hown1 := ownsRow_ext hown hb1
        rw [hfd.out]
        generalize dec s'.data.toList = d at *
        obtain ⟨r, n⟩ := d
        simp only at hrg hge
        cases hbad : badB (r, n)
        · have e1 := H1.out
          have e2 := H2.out
          have st := hstep.out
          rw [if_neg (by simp [hbad])] at st
          rw [st] at e1 e2
          have E1 := Lib.hid e1
          have E2 := Lib.hid e2
          have XL := Lib.hid (extract_list s' n)
          have hsz := Lib.size_eq s'
          have hxs : (s'.extract n s'.size).size = s'.size - n := by rw [Lib.size_eq, XL.out, List.length_drop, ← hsz]
          have XS := Lib.hid hxs
          have hns : n ≤ s'.size := by rw [hsz]; exact hrg.2.1
          have hns2 : (n : Int) ≤ s'.size := by omega
          have hn0 : ((n : Int) == 0) = false := by simp; omega
          clear e1 e2 st hbad hstep hfd H1 H2 hsz hxs hown hne
          simp only [Bool.false_eq_true, if_false]
          have A1 : (pre.length + 1) ≤ maxLen := by unfold maxLen; omega
          have A2 : (pre.length + 1) * 8 ≤ 140737488355328 := by omega
          have A3 : w.heap.size ≤ (w1.alloc (.cells #[.int .i64 r] 3)).heap.size := by simp; omega
          have A4 : ∀ u ∈ [Value.int .i64 (r : Int)], u.oneCell' = true := by simp [Value.oneCell']
          go_wp2_with (at_builtin; refine wpList_append_own _ rfl _ _ 61 rfl w.heap.size 3 i0 (.int .i64 0) 1 8 Tryz.underlying61 hi0 iz0 iz1 iz2 rfl (by decide) _ _ _ rfl (hown1.alloc _) ⟨w1.heap.size, 0, none⟩ 1 1 [.int .i64 r] rfl rfl (cell_one_new _ _ _) A4 A1 A2 A3 ?_; intro v' w2 hown' hgrow _; clear A1 A2 A3)
          go_roundw
          case rel =>
            refine ⟨pre ++ [r], s'.extract n s'.size, rfl, by simpa using hown', ?_, ?_, ?_, ?_⟩
            · exact (hB1.alloc hBs1 _).grown hgrow (by simp; omega) (fun k hk => (hown1.lt k hk).1)
            · rw [E1.out, XL.out]; simp
            · rw [E2.out, XL.out]
            · rw [XS.out]; simp; omega
          case measure => show (s'.extract n s'.size).size < s'.size; rw [XS.out]; omega
        · have e2 := H2.out
          have st := hstep.out
          rw [if_pos hbad] at st
          rw [st] at e2
          have E2 := Lib.hid e2
          clear e2 st hbad hstep hfd H1 H2
          simp only [if_true]
          go_wp2_with fail
          go_ret2
          exact ⟨hB1, .inr (.inl ⟨hs, E2.out, rfl⟩)⟩
  · have h1 : (4096 : Int) < (s.size : Int) := by omega
    go_enter Tryz.func69, Tryz.ntmps69
    go_wp2_with fail
    go_ret2
    exact ⟨Below.refl _ _, .inl ⟨by omega, rfl⟩⟩

set_option maxHeartbeats 1000000 in
theorem word9_any (s : ByteArray) (w : World) : Calls Tryz.prog 52 #[.string s] w fun e w' => e = .returned (.bool (wordB s)) ∧ Below w.heap.size w w' := by
  by_cases h0 : s.size < 1
  · have H : Hid (wordB s = false) := by unfold wordB; rw [decide_eq_false (show ¬ 0 < s.size by omega)]; simp [Hid]
    have g1 : (s.size : Int) < 1 := by omega
    have g2 : s.size = 0 := by omega
    go_enter Tryz.func52, Tryz.ntmps52
    go_wp2_with fail
    go_ret
    exact ⟨by rw [H.out]; rfl, Below.refl _ _⟩
  by_cases h64 : 64 < s.size
  · have H : Hid (wordB s = false) := by unfold wordB; rw [decide_eq_false (show ¬ s.size ≤ 64 by omega)]; rfl
    have g1 : ¬ (s.size : Int) < 1 := by omega
    have g2 : (64 : Int) < s.size := by omega
    go_enter Tryz.func52, Tryz.ntmps52
    go_wp2_with fail
    go_ret
    exact ⟨by rw [H.out]; rfl, Below.refl _ _⟩
  have g1 : ¬ (s.size : Int) < 1 := by omega
  have g2 : ¬ (64 : Int) < s.size := by omega
  have H : Hid (wordB s = ((runes s.data.toList).2 && !(runes s.data.toList).1.any fun r => spaceB (r : Int))) := by unfold wordB; rw [decide_eq_true (show s.size ≤ 64 by omega), decide_eq_true (show 0 < s.size by omega)]; rfl
  have hlen : (runes s.data.toList).1.length ≤ 64 := by have := runes_length s.data.toList; have := Lib.size_eq s; omega
  go_enter Tryz.func52, Tryz.ntmps52
  go_wp2_with fail
  refine (runes9_any s w).mono ?_
  rintro e w1 ⟨hb1, h⟩
  have hz := hb1.size
  rcases h with ⟨hs, he⟩ | ⟨hs, hok, he⟩ | ⟨hs, hok, A, c, he, hrd⟩
  · omega
  · subst he
    have H2 : Hid (wordB s = false) := by show _ = _; rw [H.out, hok]; rfl
    clear hok H
    go_wp2_with fail
    go_ret
    exact ⟨by rw [H2.out]; rfl, hb1⟩
  · subst he
    have H2 : Hid (wordB s = !(runes s.data.toList).1.any fun r => spaceB (r : Int)) := by show _ = _; rw [H.out, hok]; rfl
    clear hok H
    generalize (runes s.data.toList).1 = l at *
    go_wp2_with fail
    go_loopw [5] (fun i wr => ∃ k : Nat, k ≤ l.length ∧ i = .int .i64 k ∧ Hid (∀ x ∈ l.take k, spaceB (x : Nat) = false) ∧ wr = w1) (fun i _ => l.length - (intOf i).toNat)
    case atStart => exact ⟨0, Nat.zero_le _, rfl, by simp [Hid], rfl⟩
    case round =>
      obtain ⟨k, hk, rfl, HR, rfl⟩ := hrel
      by_cases hlt : k < l.length
      · obtain ⟨b, off, rfl, hb, hc⟩ := hrd.at_ (k := k) (by simpa using hlt)
        have hck : wr.cell? ⟨b, off + k, none⟩ = some (.int .i64 (l[k] : Nat)) := hc k _ (by simp [hlt])
        clear hc hrd
        go_wp2_with fail
        refine (space9_any _ _).mono ?_
        rintro e w' ⟨rfl, rfl⟩
        cases hsp : spaceB (l[k] : Nat)
        · have HS := Lib.hid hsp
          clear hsp
          go_wp2_with fail
          go_roundw
          case rel =>
            refine ⟨k + 1, by omega, by go_num, ?_, trivial⟩
            intro x hx
            rw [List.take_succ_eq_append_getElem hlt, List.mem_append] at hx
            rcases hx with hx | hx
            · exact HR.out x hx
            · simp at hx; rw [hx]; exact HS.out
          case measure => simp [intOf]; omega
        · have H3 : Hid (wordB s = false) := by
            show _ = _
            rw [H2.out, Bool.not_eq_false', List.any_eq_true]
            exact ⟨l[k], List.getElem_mem _, hsp⟩
          clear hsp H2
          go_wp2_with fail
          go_ret
          exact ⟨by rw [H3.out]; rfl, hb1⟩
      · have H3 : Hid (wordB s = true) := by
          show _ = _
          obtain rfl : k = l.length := by omega
          rw [H2.out, Bool.not_eq_true', List.any_eq_false]
          intro x hx
          simp [HR.out x (by simpa using hx)]
        clear H2 HR
        go_wp2_with fail
        go_ret
        exact ⟨by rw [H3.out]; rfl, hb1⟩
end Go.Proofs.YtfbhfimejcdopaaGreatDoor

/- The reference's package of displays: what is right, searching, comparing. -/
namespace Go.Proofs.YtfbhfimejcdopaaGreatDoor
open Go.RowKit Go.Han
attribute [local irreducible] wpStill wpQuiet
set_option maxRecDepth 100000

theorem run_neq_spot (a b a' b' : Int) (s s' : ByteArray) (w : World) : (binOp .neq 37 (.agg #[.int .i64 a, .int .i64 b, .string s]) (.agg #[.int .i64 a', .int .i64 b', .string s'])).run Tryz.prog w = .ok (.bool (!((⟨a, b, s⟩ : Spot) == ⟨a', b', s'⟩))) w := by
  have hb := spot_beq ⟨a, b, s⟩ a' b' s'
  rw [Bool.true_and] at hb
  rw [hb]
  by_cases e1 : a = a'
  · by_cases e2 : b = b'
    · by_cases e3 : s.toList = s'.toList
      · simp [go_sem, e1, e2, e3]
      · simp [go_sem, e1, e2, e3]
    · simp [go_sem, e1, e2]
  · simp [go_sem, e1]
theorem run_equalIn_spot (a b a' b' : Int) (s s' : ByteArray) (w : World) : (Op.equalIn 10000 37 (.agg #[.int .i64 a, .int .i64 b, .string s]) (.agg #[.int .i64 a', .int .i64 b', .string s'])).run Tryz.prog w = .ok ((⟨a, b, s⟩ : Spot) == ⟨a', b', s'⟩) w := by
  have hb := spot_beq ⟨a, b, s⟩ a' b' s'
  rw [Bool.true_and] at hb
  rw [hb]
  by_cases e1 : a = a'
  · by_cases e2 : b = b'
    · by_cases e3 : s.toList = s'.toList
      · simp [go_sem, e1, e2, e3]
      · simp [go_sem, e1, e2, e3]
    · simp [go_sem, e1, e2]
  · simp [go_sem, e1]

def findR (l : List Spot) (n : Int) : Int := match l.findIdx? (fun x => x.id == n) with | some k => (k : Int) | none => -1
theorem findR_at (l : List Spot) (n : Int) (k : Nat) (hk : k < l.length) (h : ∀ (j : Nat) (hj : j < l.length), j < k → l[j].id ≠ n) (he : l[k].id = n) : findR l n = k := by
  unfold findR
  have : l.findIdx? (fun x => x.id == n) = some k := by
    rw [List.findIdx?_eq_some_iff_getElem]
    exact ⟨hk, by simpa using he, fun j hj => by simpa using h j (by omega) hj⟩
  rw [this]
theorem findR_none (l : List Spot) (n : Int) (h : ∀ (j : Nat) (hj : j < l.length), l[j].id ≠ n) : findR l n = -1 := by
  unfold findR
  have : l.findIdx? (fun x => x.id == n) = none := by
    rw [List.findIdx?_eq_none_iff]
    intro x hx
    obtain ⟨j, hj, rfl⟩ := List.mem_iff_getElem.1 hx
    simpa using h j hj
  rw [this]
theorem find49_any (A : Option Addr) (c : Nat) (l : List Spot) (n : Int) (w : World) (hr : Rd w A (flat l)) (hm : l.length ≤ 9223372036854775807) :
    Calls Tryz.prog 37 #[.slice A l.length c, .int .i64 n] w fun e w' => e = .returned (.int .i64 (findR l n)) ∧ w = w' := by
  go_enter Tryz.func37, Tryz.ntmps37
  go_wp2_with fail
  go_loop [5] (fun i => ∃ k : Nat, k ≤ l.length ∧ i = .int .i64 k ∧ Hid (∀ (j : Nat) (hj : j < l.length), j < k → l[j].id ≠ n)) (fun i => l.length - (intOf i).toNat)
  case atStart => exact ⟨0, Nat.zero_le _, rfl, fun j hj h => by omega⟩
  case round =>
    obtain ⟨k, hk, rfl, HR⟩ := hrel
    by_cases hlt : k < l.length
    · obtain ⟨b, off, rfl, hb, hc⟩ := hr.elem Spot.size_cells (by omega) hlt
      have h1 := hc 0 _ rfl
      simp only [Nat.add_zero] at h1
      clear hc hr
      by_cases he : l[k].id = n
      · have HF := Lib.hid (findR_at l n k hlt HR.out he)
        have he2 : (l[k].id == n) = true := by simpa using he
        clear he HR
        go_wp2_with fail
        go_ret
        exact ⟨by rw [HF.out]; rfl, rfl⟩
      · have HN := Lib.hid he
        have he2 : (l[k].id == n) = false := by simpa using he
        clear he
        go_wp2_with fail
        go_round
        case rel =>
          refine ⟨k + 1, by omega, by go_num, fun j hj hjk => ?_⟩
          rcases Nat.lt_or_ge j k with h | h
          · exact HR.out j hj h
          · obtain rfl : j = k := by omega
            exact HN.out
        case measure => simp [intOf]; omega
    · have HF := Lib.hid (findR_none l n (fun j hj => HR.out j hj (by omega)))
      clear HR
      go_wp2_with fail
      go_ret
      exact ⟨by rw [HF.out]; rfl, rfl⟩

set_option maxHeartbeats 400000 in
theorem same49_any (A B : Option Addr) (c d : Nat) (l l' : List Spot) (w : World) (hr : Rd w A (flat l)) (hr' : Rd w B (flat l')) (hm : l.length ≤ 9223372036854775807) :
    Calls Tryz.prog 15 #[.slice A l.length c, .slice B l'.length d] w fun e w' => e = .returned (.bool (decide (l = l'))) ∧ Below w.heap.size w w' := by
  by_cases hl : l.length = l'.length
  · have hne : ((l.length : Int) != (l'.length : Int)) = false := by simp [hl]
    have Hl := Lib.hid hl
    clear hl
    go_enter Tryz.func15, Tryz.ntmps15
    go_wp2_with fail
    go_loopw [5] (fun i wr => ∃ k : Nat, k ≤ l.length ∧ i = .int .i64 k ∧ Below w.heap.size w wr ∧ Hid (l.take k = l'.take k)) (fun i _ => l.length - (intOf i).toNat)
    case atStart => exact ⟨0, Nat.zero_le _, rfl, Below.refl _ _, rfl⟩
    case round =>
      obtain ⟨k, hk, rfl, hB, HR⟩ := hrel
      by_cases hlt : k < l.length
      · have hlt' : k < l'.length := by have := Hl.out; omega
        obtain ⟨b, off, rfl, hb, hc⟩ := hr.elem Spot.size_cells (by omega) hlt
        obtain ⟨b', off', rfl, hb', hc'⟩ := hr'.elem Spot.size_cells (by omega) hlt'
        have h1 := (hB.cell (p := ⟨b, off + k * 3 + 0, none⟩) hb).trans (hc 0 _ rfl)
        have h2 := (hB.cell (p := ⟨b, off + k * 3 + 1, none⟩) hb).trans (hc 1 _ rfl)
        have h3 := (hB.cell (p := ⟨b, off + k * 3 + 2, none⟩) hb).trans (hc 2 _ rfl)
        have h1' := (hB.cell (p := ⟨b', off' + k * 3 + 0, none⟩) hb').trans (hc' 0 _ rfl)
        have h2' := (hB.cell (p := ⟨b', off' + k * 3 + 1, none⟩) hb').trans (hc' 1 _ rfl)
        have h3' := (hB.cell (p := ⟨b', off' + k * 3 + 2, none⟩) hb').trans (hc' 2 _ rfl)
        simp only [Nat.add_zero] at h1 h1'
        have hq := fun (w : World) => run_equalIn_spot l[k].id l[k].ver l'[k].id l'[k].ver l[k].text l'[k].text w
        have htk : l.take (k + 1) = l.take k ++ [l[k]] := List.take_succ_eq_append_getElem hlt
        have htk' : l'.take (k + 1) = l'.take k ++ [l'[k]] := List.take_succ_eq_append_getElem hlt'
        have Htk := Lib.hid htk
        have Htk' := Lib.hid htk'
        have hf : Hid (l = l' → l[k] = l'[k]) := by rintro rfl; rfl
        clear hc hr hc' hr' htk htk'
        generalize l[k] = x at *
        generalize l'[k] = y at *
        obtain ⟨a, v, s⟩ := x
        obtain ⟨a', v', s'⟩ := y
        simp only at hq h1 h2 h3 h1' h2' h3'
        cases hxy : ((⟨a, v, s⟩ : Spot) == ⟨a', v', s'⟩)
        · rw [hxy] at hq
          have HF : Hid (decide (l = l') = false) := decide_eq_false (fun h => by have := hf.out h; rw [this] at hxy; simp at hxy)
          clear hxy
          go_wp2_with fail
          go_still (by kernel_rfl)
          go_wp2
          go_ret
          exact ⟨by rw [HF.out]; rfl, hB.drew⟩
        · rw [hxy] at hq
          have HE : Hid ((⟨a, v, s⟩ : Spot) = ⟨a', v', s'⟩) := by show _ = _; simpa using hxy
          clear hxy
          go_wp2_with fail
          go_still (by kernel_rfl)
          go_wp2
          go_roundw
          case rel => exact ⟨k + 1, by omega, by go_num, hB.drew, by show _ = _; rw [Htk.out, Htk'.out, HR.out, HE.out]⟩
          case measure => simp [intOf]; omega
      · have HF : Hid (decide (l = l') = true) := by
          refine decide_eq_true ?_
          obtain rfl : k = l.length := by omega
          have h := HR.out
          rw [List.take_length, List.take_of_length_le (by have := Hl.out; omega)] at h
          exact h
        clear HR
        go_wp2_with fail
        go_ret
        exact ⟨by rw [HF.out]; rfl, hB⟩
  · have hne : ((l.length : Int) != (l'.length : Int)) = true := by simp; omega
    have HF : Hid (decide (l = l') = false) := decide_eq_false (fun h => hl (by rw [h]))
    clear hl
    go_enter Tryz.func15, Tryz.ntmps15
    go_wp2_with fail
    go_ret
    exact ⟨by rw [HF.out]; rfl, Below.refl _ _⟩
end Go.Proofs.YtfbhfimejcdopaaGreatDoor

/- Package patches: maps from ids to spots: index, Clone, Copy. -/
namespace Go.Proofs.YtfbhfimejcdopaaGreatDoor
open Go.RowKit Go.Han
attribute [local irreducible] wpStill wpQuiet
set_option maxRecDepth 100000

def idS : KeyShape Tryz.prog 3 Int := intShape Tryz.underlying3
theorem keyed_id : Maps.Keyed Tryz.prog 3 := Maps.int_keyed Tryz.underlying3
theorem spot_inj (x y : Spot) (h : x.val = y.val) : x = y := by
  obtain ⟨c, d, s⟩ := x
  obtain ⟨c', d', s'⟩ := y
  simp [Spot.val] at h
  obtain ⟨rfl, rfl, rfl⟩ := h
  rfl
def spE : ElemShape Spot := ⟨Spot.val, spot_inj⟩
theorem good_id {n : Int} (h : idB n = true) : idS.good n := by
  unfold idB at h
  simp at h
  show (Lit.int .i64 n).wf = true
  simp [Lit.wf, IntKind.min, IntKind.max, IntKind.signed, IntKind.bits]; omega
theorem zero_spot (w : World) : (zeroValue 37).run Tryz.prog w = .ok (spE.val ⟨0, 0, ⟨#[]⟩⟩) w := by kernel_rfl
theorem ok_idB {x : Spot} (h : x.ok = true) : idB x.id = true := by
  unfold Spot.ok at h
  simp only [Bool.and_eq_true] at h
  exact h.1.1

theorem id51_any (x : Spot) (w : World) : Calls Tryz.prog 31 #[.agg #[.int .i64 x.id, .int .i64 x.ver, .string x.text]] w fun e w' => e = .returned (.int .i64 x.id) ∧ w.alloc (.cells #[.int .i64 x.id, .int .i64 x.ver, .string x.text] 37) = w' := by
  go_enter Tryz.func31, Tryz.ntmps31
  go_wp2
  go_ret
  exact ⟨rfl, rfl⟩
def IdIn (y : Spot) (f : Int → Option Spot) (k b : Nat) (w5 : World) (e : Ending) (w' : World) : Prop :=
  ∃ w9, e = .returned (.int .i64 y.id) ∧ Below w5.heap.size w5 w' ∧ (Instr.mapUpdate 56 (.map (some w5.heap.size)) (.int .i64 y.id) (.agg #[.int .i64 y.id, .int .i64 y.ver, .string y.text])).run Tryz.prog w' = .ok () w9 ∧
    MapF w9 idS spE w5.heap.size (k + 1) (fun n => if n = y.id then some y else f n) ∧ w'.grownBy w9 (some w5.heap.size) ∧ w9.heap.size = w'.heap.size ∧ w'.cell? ⟨b, 0, none⟩ = some (.int .i64 y.id) ∧ w'.cell? ⟨b, 1, none⟩ = some (.int .i64 y.ver) ∧ w'.cell? ⟨b, 2, none⟩ = some (.string y.text)

set_option maxHeartbeats 4000000 in
theorem index_any (A : Option Addr) (cp : Nat) (l : List Spot) (w : World) (hr : Rd w A (flat l)) (hc : checkE l = 0) :
    Calls Tryz.prog 30 #[.slice A l.length cp, .func (.func 31) #[] #[]] w fun e w' => e = .returned (.map (some w.heap.size)) ∧ MapF w' idS spE w.heap.size l.length (fun n => getS n l) ∧ Below w.heap.size w w' := by
  have hmm := @run_makeMap Tryz.prog
  obtain ⟨hl, hok, hasc⟩ := (checkE_iff l).1 hc
  have Hr := Lib.hid hr
  have Hok := Lib.hid hok
  have Hasc := Lib.hid hasc
  clear hr hok hasc hc
  go_enter Tryz.func30, Tryz.ntmps30
  go_wp2_with fail
  go_loopw [11] (fun i wr => ∃ k : Nat, k ≤ l.length ∧ i = .int .i64 k ∧ Below w.heap.size w wr ∧ MapF wr idS spE w.heap.size k (fun n => getS n (l.take k))) (fun i _ => l.length - (intOf i).toNat)
  case atStart => exact ⟨0, Nat.zero_le _, rfl, ext_alloc (Below.refl _ _) _, MapF.made _ _ _⟩
  case round =>
    obtain ⟨k, hk, rfl, hB, hmap⟩ := hrel
    by_cases hlt : k < l.length
    · obtain ⟨b, off, rfl, hb, hcl⟩ := Hr.out.elem Spot.size_cells (by omega) hlt
      have d0 := (hB.cell (p := ⟨b, off + k * 3 + 0, none⟩) hb).trans (hcl 0 _ rfl)
      have d1 := (hB.cell (p := ⟨b, off + k * 3 + 1, none⟩) hb).trans (hcl 1 _ rfl)
      have d2 := (hB.cell (p := ⟨b, off + k * 3 + 2, none⟩) hb).trans (hcl 2 _ rfl)
      simp only [Nat.add_zero] at d0
      have hgd : idS.good l[k].id := good_id (ok_idB (Hok.out _ (List.getElem_mem hlt)))
      have htk : l.take (k + 1) = l.take k ++ [l[k]] := List.take_succ_eq_append_getElem hlt
      have hno : getS l[k].id (l.take k) = none := by
        refine getS_none (fun x hx => ?_)
        obtain ⟨j, hj, rfl⟩ := List.getElem_of_mem hx
        rw [List.length_take] at hj
        rw [List.getElem_take]
        have := Hasc.out j k (by omega) hlt (by omega)
        omega
      clear hcl
      generalize l[k] = y at *
      have Hfun : Hid (∀ n, idS.good n → getS n (l.take (k + 1)) = if n = y.id then some y else getS n (l.take k)) := by
        intro n _
        rw [htk, getS_app]
        by_cases e : n = y.id
        · subst e; rw [if_pos rfl, hno, getS_cons, if_pos rfl]; rfl
        · rw [if_neg e, getS_cons, if_neg (fun h => e h.symm), getS_nil]; cases getS n (l.take k) <;> rfl
      have Hgd := Lib.hid hgd
      have HMAP := Lib.hid hmap
      have Hkm : Hid (k < maxLen) := by show k < maxLen; unfold maxLen; omega
      obtain ⟨w7, hw7⟩ : ∃ w7, wr.alloc (.cells #[.int .i64 y.id, .int .i64 y.ver, .string y.text] 37) = w7 := ⟨_, rfl⟩
      have hB7 : Below wr.heap.size wr w7 := by rw [← hw7]; exact ext_alloc (Below.refl _ _) _
      have hx7 : w7.heap[wr.heap.size]? = some (.cells #[.int .i64 y.id, .int .i64 y.ver, .string y.text] 37 (0, 0)) := by rw [← hw7]; exact World.alloc_heap_new _ _
      have hB57 := ext_trans hB hB7
      have cA7 : Hid (∀ W, Below w7.heap.size w7 W → Calls Tryz.prog 31 #[.agg #[.int .i64 y.id, .int .i64 y.ver, .string y.text]] W (IdIn y (fun n => getS n (l.take k)) k wr.heap.size w)) := by
        intro W hbW
        have hW5 : Below w.heap.size w W := ext_trans hB57 hbW
        refine (id51_any y W).mono ?_
        rintro e w8 ⟨rfl, rfl⟩
        have hb8 : Below W.heap.size W (W.alloc (.cells #[.int .i64 y.id, .int .i64 y.ver, .string y.text] 37)) := ext_alloc (Below.refl _ _) _
        have hbb := ext_trans hbW hb8
        have hm8 : MapF (W.alloc (.cells #[.int .i64 y.id, .int .i64 y.ver, .string y.text] 37)) idS spE w.heap.size k (fun n => getS n (l.take k)) := HMAP.out.of_block ((ext_trans hB7 hbb).block _ HMAP.out.lt)
        obtain ⟨w9, hrun, hm9, hg9, hs9⟩ := hm8.store _ keyed_id Tryz.underlying56 Hkm.out y.id y Hgd.out
        have hx8 := (hbb.block _ (lt_block hx7)).trans hx7
        exact ⟨w9, rfl, ext_trans hW5 hb8, hrun, hm9, hg9, hs9, gblk hx8 0, gblk hx8 1, gblk hx8 2⟩
      have p0 := gblk hx7 0
      have p1 := gblk hx7 1
      have p2 := gblk hx7 2
      clear hmap htk hno hgd
      go_wp2_with fail
      go_region_with (go_at_call 31; refine (cA7.out _ ?_).mono ?_; (repeat (first | exact Below.refl _ _ | refine ext_drew ?_ | refine ext_alloc ?_ _)); rintro e w8 ⟨w9, rfl, hb8, hrun8, hm8, hg8, hs8, q0, q1, q2⟩)
      all_goals
        have hB9 : Below w.heap.size w w9 := ⟨hg8.os.trans hb8.os, hg8.tape.trans hb8.tape, hg8.output.trans hb8.output, Nat.le_trans hb8.size hg8.size, fun i hi => (hg8.block i (Nat.lt_of_lt_of_le hi hb8.size) (by simp; omega)).trans (hb8.block i hi)⟩
        have hm9 := hm8.congr Hfun.out
        clear q0 q1 q2 hrun8
        go_wp2_with fail
        go_roundw
        case rel => exact ⟨k + 1, by omega, by go_num, hB9, hm9⟩
        case measure => simp [intOf]; omega
    · obtain rfl : k = l.length := by omega
      rw [List.take_length] at hmap
      go_wp2_with fail
      go_ret
      exact ⟨rfl, hmap, hB⟩

set_option maxHeartbeats 2000000 in
theorem cloneM_any (b n : Nat) (f : Int → Option Spot) (w : World) (hm : MapF w idS spE b n f) :
    Calls Tryz.prog 32 #[.map (some b)] w fun e w' => e = .returned (.map (some w.heap.size)) ∧ MapF w' idS spE w.heap.size n f ∧ Below w.heap.size w w' := by
  obtain ⟨D, ⟨es, clock, hb, h2⟩, h3⟩ := hm
  have hq := fun w => run_eql_map_nil_sl (P := Tryz.prog) w 56 _ _ (some b) Tryz.underlying56
  go_enter Tryz.func32, Tryz.ntmps32
  go_wp2
  rw [run_callFunc_extern Tryz.func47 (by kernel_rfl) (by kernel_rfl) (by kernel_rfl) (e := Extern.MapsClone.clone) (by kernel_rfl), run_maps_clone_sl w 56 hb]
  simp only [Result.andThen]
  rw [Oper.upon_value]
  go_wp2
  rw [run_typeAssert_map_sl _ 56 _ _ _ _ Tryz.underlying56]
  simp only [Result.andThen]
  rw [Oper.upon_value]
  go_wp2
  go_ret
  exact ⟨rfl, ⟨D, ⟨es, clock, World.alloc_heap_new _ _, h2⟩, h3⟩, ext_alloc (Below.refl _ _) _⟩
end Go.Proofs.YtfbhfimejcdopaaGreatDoor

/- The keys of a map with int keys, sorted: what they are, by what the map holds. No program in sight. -/
namespace Go.Han
open Go.RowKit Go.Maps

theorem intKeys_facts {H : Type} {P : Program} {k : TypeId} {R : Value → Option (DataW H × List MemPlace)} {w : World} {b n : Nat} {D0 : DataW H} (hown : w.ownsMap P k R b n D0) (K : Keyed P k) (hk : P.underlying k = some (.int .i64)) :
    (intKeys D0).Nodup ∧ ∀ x, x ∈ intKeys D0 ↔ has D0 (.int .i64 x) = true := by
  obtain ⟨es, hD, hpw, _⟩ := hown.entries K
  obtain ⟨es', hD', hko⟩ := hown.keysOf
  obtain rfl : es = es' := by rw [hD] at hD'; simpa using hD'
  subst hD
  have hkx : ∀ p ∈ es, ∃ x, p.1 = .int .i64 x := fun p hp => by
    obtain ⟨v, hv⟩ := hko p hp
    obtain ⟨x, _, hx, _⟩ := Maps.keyOf_i64 hk hv
    exact ⟨x, hx⟩
  refine ⟨?_, fun x => ?_⟩
  · show (es.map fun p => Go.intOf p.1).Nodup
    refine List.pairwise_map.2 (hpw.imp_of_mem fun {p q} hp' hq' hne e => hne ?_)
    obtain ⟨a, ha⟩ := hkx p hp'
    obtain ⟨b, hb⟩ := hkx q hq'
    rw [ha, hb] at e ⊢
    exact congrArg _ e
  · rw [has_eq, List.any_eq_true]
    show x ∈ (es.map fun p => Go.intOf p.1) ↔ _
    rw [List.mem_map]
    constructor
    · rintro ⟨p, hp', rfl⟩
      obtain ⟨a, ha⟩ := hkx p hp'
      exact ⟨p, hp', by rw [ha]; simp [Lit.sameKey, Go.intOf]⟩
    · rintro ⟨p, hp', hs⟩
      obtain ⟨a, ha⟩ := hkx p hp'
      rw [ha] at hs
      exact ⟨p, hp', by rw [ha]; simpa [Lit.sameKey, Go.intOf] using hs⟩
theorem sort_asc {l : List Int} (h : l.Nodup) : (l.mergeSort (fun x y => decide (x ≤ y))).Pairwise (fun a b => a < b) := by
  have tr : ∀ a b c : Int, decide (a ≤ b) = true → decide (b ≤ c) = true → decide (a ≤ c) = true := fun a b c h1 h2 => by simp at *; omega
  have to : ∀ a b : Int, (decide (a ≤ b) || decide (b ≤ a)) = true := fun a b => by simp; omega
  have h1 := List.pairwise_mergeSort tr to l
  have h2 : (l.mergeSort (fun x y => decide (x ≤ y))).Nodup := (List.mergeSort_perm l _).nodup_iff.2 h
  refine (h1.and h2).imp (fun hab => ?_)
  have := hab.1
  simp at this
  have := hab.2
  omega
/-- The sorted keys. -/
structure SortedKeys (P : Program) {k : TypeId} (hk : P.underlying k = some (.int .i64)) {β : Type} (f : Int → Option β) (T : List Int) : Prop where
  asc : T.Pairwise (fun a b => a < b)
  mem : ∀ x, x ∈ T ↔ ((intShape hk).good x ∧ (f x).isSome = true)
theorem sorted_keys {β : Type} {P : Program} {k : TypeId} (hk : P.underlying k = some (.int .i64)) {E : ElemShape β} {w : World} {b n : Nat} {D : DataW β} {f : Int → Option β} (hown : w.ownsMap P k E.read b n D) (hf : HoldsAt (intShape hk) D f) {ss : List Int} (hp : ss.Perm (intKeys D)) :
    SortedKeys P hk f (ss.mergeSort (fun x y => decide (x ≤ y))) := by
  obtain ⟨h1, h2⟩ := intKeys_facts hown (Maps.int_keyed hk) hk
  have h3 := intKeys_wf hown hk
  have hnd : ss.Nodup := hp.nodup_iff.2 h1
  refine ⟨sort_asc hnd, fun x => ?_⟩
  rw [List.mem_mergeSort, hp.mem_iff, h2 x]
  constructor
  · intro h
    have hg : (Lit.int .i64 x).wf = true := h3 x ((h2 x).2 h)
    refine ⟨hg, ?_⟩
    cases hx : f x with
    | none => have := (hf x hg).1 hx; change has D (.int .i64 x) = false at this; rw [this] at h; cases h
    | some c => rfl
  · rintro ⟨hg, hs⟩
    obtain ⟨c, hc⟩ := Option.isSome_iff_exists.1 hs
    exact ((hf x hg).2 c hc).1
end Go.Han

/- Package patches: the sorted ids of a map; maps.Copy. -/
namespace Go.Proofs.YtfbhfimejcdopaaGreatDoor
open Go.RowKit Go.Han Go.Maps Go.Shelf
attribute [local irreducible] wpStill wpQuiet
set_option maxRecDepth 100000

theorem keysM_any (mb : Option Nat) (w : World) : Calls Tryz.prog 35 #[.map mb] w fun e w' => e = .returned (.func (.func 50) #[] #[.pointer (some ⟨w.heap.size, 0, none⟩)]) ∧ w.alloc (.cells #[.map mb] 56) = w' := by
  have hmf : ∀ (fn : Fn) (first cap : Array Value) (w : World), (Instr.makeFunc fn first cap).run Tryz.prog w = .ok (.func fn first cap) w := fun _ _ _ _ => rfl
  go_enter Tryz.func35, Tryz.ntmps35
  go_wp2
  go_ret
  exact ⟨rfl, rfl⟩
theorem sortsA (m : Nat) : AnyZI.SortsIn Tryz.prog Tryz.sortedA_ren Fence.wide m :=
  ⟨fun blk off cap ss W hH hblk hsz => callsIn_wide.2 (AnyM.slices_Sort_int Tryz.sortA blk off cap ss W hH hblk hsz),
   fun p cap W => callsIn_wide.2 (AnyM.slices_Sort_int_none Tryz.sortA p cap W)⟩
def SortPost (f : Int → Option Spot) (w : World) (e : Ending) (w' : World) : Prop :=
  Below w.heap.size w w' ∧ ∃ v T, e = .returned v ∧ SortedKeys Tryz.prog Tryz.underlying3 f T ∧ w'.ownsRow w.heap.size 3 1 v T.length (T.map fun x => Value.int .i64 x)
theorem sortedM_any (b n g : Nat) (f : Int → Option Spot) (w : World) (hm : MapF w idS spE b n f) (hn : n ≤ 100000) (hg : w.heap[g]? = some (.cells #[.map (some b)] 56 (0, 0))) :
    Calls Tryz.prog 34 #[.func (.func 50) #[] #[.pointer (some ⟨g, 0, none⟩)]] w (SortPost f w) := by
  obtain ⟨D, hown, hf⟩ := hm
  have hsz := hown.size_le
  have hseq : SeqGives Fence.wide 2 Tryz.prog 50 #[.pointer (some ⟨g, 0, none⟩)] encZ (fun ss => ss.Perm (intKeys D)) (Maps.size D) w :=
    AnyZI.keys_gives (ρ := Tryz.keysA_ren) { Tryz.keysA with } Fence.wide _ trivial rfl (by omega) g b n D _ (lt_block hg) (by rw [gblk hg]; rfl) hown
  have cS := AnyZI.sorted_in Tryz.sortedA Fence.wide 5 trivial trivial trivial trivial rfl (by omega) (sortsA _) (enters_of Tryz.func49 (by kernel_rfl) rfl) 50 #[.pointer (some ⟨g, 0, none⟩)] trivial (enters_of Tryz.func50 (by kernel_rfl) rfl) _ _ (by unfold maxLen; omega) (by omega) _ hseq
  change CallsIn _ _ Tryz.prog 34 _ _ _ at cS
  refine ((callsIn_wide (n := 5)).1 cS).mono ?_
  rintro e w' ⟨v, ss, rfl, hp, hrow, _, hb⟩
  refine ⟨hb, v, _, rfl, sorted_keys Tryz.underlying3 hown hf hp, ?_⟩
  rw [List.length_mergeSort]
  exact hrow
end Go.Proofs.YtfbhfimejcdopaaGreatDoor

/- Package patches: maps.Copy at maps from ids to spots. -/
namespace Go.Han
open Go.RowKit Go.Maps
section
variable {α β : Type} {P : Program} {k : TypeId} (w : World) {ops : Array Oper} {rest : List Oper} {o : Oper} {a : Act} {Q : Exit → Act → World → Prop}
/-- range m, with how many entries are to come. -/
theorem wpList_range_f2 (hg : o.guard = none) (m : Operand) (t : TypeId) (hop : o.op = Op.range t m) (e : TypeId) (K : Keyed P k) (ht : P.underlying t = some (.map k e)) (S : KeyShape P k α) (E : ElemShape β) (b n : Nat) (f : α → Option β)
    (hm : a.eval m = .map (some b)) (hown : MapF w S E b n f)
    (hK : ∀ w' cnt, cnt ≤ n → RangeF w' S E b w.heap.size n f (fun x => (f x).isSome) cnt → w.grownBy w' none → w'.heap.size = w.heap.size + 1 → wpList P ops Q rest (a.put o.dst (.pointer (some ⟨w.heap.size, 0, none⟩))) w') :
    wpList P ops Q (o :: rest) a w := by
  obtain ⟨D, h1, h2⟩ := hown
  have hsz := h1.size_le
  refine wpList_range_own w hg m t hop k e K ht E.read b n D hm h1 fun w' hr hgr hs => hK w' _ hsz ⟨D, Maps.has D, hr, h2, fun x hx => ?_, fun l hl => ?_⟩ hgr hs
  · obtain ⟨g1, g2⟩ := h2 x hx
    show (f x).isSome = _
    cases hf : f x with
    | none => exact (g1 hf).symm
    | some c => exact ((g2 c hf).1).symm
  · obtain ⟨es', clock, _, F, _, hD⟩ := h1
    subst hD
    obtain ⟨p, hp, hpk⟩ := List.any_eq_true.1 hl
    obtain ⟨y, hy, rfl⟩ := List.mem_map.1 (mem_sorted.1 hp)
    obtain ⟨z, hz⟩ := F.reads y hy
    have hk' := WideElems.rd_key hz
    have e1 : (WideElems.rg P k E.read y).1 = z.1 := by rw [WideElems.rg_of hz]
    obtain ⟨x, hx, _, hl'⟩ := S.inv _ _ hk'
    exact ⟨x, hx, by rw [← hl', ← e1]; exact (WideAt.sameKey_eq hpk).symm⟩
end
end Go.Han
namespace Go.Proofs.YtfbhfimejcdopaaGreatDoor
open Go.RowKit Go.Han
attribute [local irreducible] wpStill wpQuiet
set_option maxRecDepth 100000

def mergeF (fd fs : Int → Option Spot) (left : Int → Bool) (n : Int) : Option Spot := if left n = true then fd n else (fs n).or (fd n)
theorem mergeF_step {fd fs : Int → Option Spot} {left : Int → Bool} {x : Int} {c : Spot} (hl : left x = true) (hf : fs x = some c) (n : Int) :
    mergeF fd fs (fun y => left y && !decide (y = x)) n = if n = x then some c else mergeF fd fs left n := by
  unfold mergeF
  by_cases e : n = x
  · subst e
    rw [if_pos rfl, if_neg (by simp), hf]; rfl
  · rw [if_neg e]
    simp [e]
set_option maxHeartbeats 4000000 in
theorem copyM_any (bd bs nd ns : Nat) (fd fs : Int → Option Spot) (w : World) (hd : MapF w idS spE bd nd fd) (hs : MapF w idS spE bs ns fs) (hne : bd ≠ bs) (hroom : nd + ns ≤ 100000) :
    Calls Tryz.prog 33 #[.map (some bd), .map (some bs)] w fun e w' => e = .returned (.tuple #[]) ∧ MapF w' idS spE bd (nd + ns) (fun n => (fs n).or (fd n)) ∧ MapF w' idS spE bs ns fs ∧ w.grownBy w' (some bd) := by
  have hbd := hd.lt
  have hbs := hs.lt
  go_enter Tryz.func33, Tryz.ntmps33
  go_wp2_with (at_range; refine wpList_range_f2 _ rfl _ 56 rfl 37 keyed_id Tryz.underlying56 idS spE bs ns _ rfl hs ?_; intro w7 cnt0 hcnt hrg0 hg0 hs0)
  go_frame
  go_loopw [8] (fun _ wr => ∃ left cnt m, RangeF wr idS spE bs w.heap.size ns fs left cnt ∧ m + cnt ≤ nd + ns ∧ MapF wr idS spE bd m (mergeF fd fs left) ∧ w.grownBy wr (some bd)) (fun _ wr => wr.rangeLeft bs w.heap.size)
  case atStart =>
    refine ⟨_, _, nd, hrg0, by omega, (hd.of_block (hg0.block bd hbd (by simp))).congr (fun x _ => ?_), ⟨hg0.os, hg0.tape, hg0.output, by omega, fun i hi _ => hg0.block i hi (by simp)⟩⟩
    show (if (fs x).isSome = true then fd x else (fs x).or (fd x)) = fd x
    cases h : fs x
    · rfl
    · rfl
  case round =>
    obtain ⟨left, cnt, m, hrg, hmc, hm, hgw⟩ := hrel
    go_wp2_with (at_next; refine wpList_next_f _ rfl _ rfl keyed_id idS spE bs w.heap.size ns _ left cnt (fun x => .int .i64 x) (fun c => .agg #[.int .i64 c.id, .int .i64 c.ver, .string c.text]) (fun _ => rfl) (fun _ => rfl) rfl hrg ?_ ?_)
    · intro hl0
      have hm2 : MapF wr idS spE bd (nd + ns) (fun n => (fs n).or (fd n)) := (hm.mono (by omega)).congr (fun x hx => by unfold mergeF; rw [hl0 x hx]; rfl)
      have hbs2 := hrg.owns
      clear hl0
      go_wp2_with fail
      go_end0
      exact ⟨rfl, hm2, hbs2, hgw⟩
    · intro x c w8 cnt1 hgx hlx hfx hrg1 hlt1 hg1 hs1 hen
      have hrlt := hrg.lt
      have hmlt := hm.lt
      have hm8 : MapF w8 idS spE bd m (mergeF fd fs left) := hm.of_block (hg1.block bd hmlt (by simp; omega))
      have hmx := hm8.of_block (w' := w8.alloc (.cells #[.int .i64 c.id, .int .i64 c.ver, .string c.text] 37)) (Below.heap_alloc _ _ _ hm8.lt)
      have hkm : m < maxLen := by unfold maxLen; omega
      have hst := fun n => mergeF_step (fd := fd) hlx hfx n
      have Hlt1 := Lib.hid hlt1
      have Hrl := Lib.hid hrg.left_eq
      have Hst := Lib.hid hst
      have HRG := Lib.hid hrg1
      have hz8 : w.heap.size < w8.heap.size := by omega
      have hbd8 : bd < w8.heap.size := by omega
      have HG : Hid (w.grownBy (w8.alloc (.cells #[.int .i64 c.id, .int .i64 c.ver, .string c.text] 37)) (some bd)) := ⟨hg1.os.trans hgw.os, hg1.tape.trans hgw.tape, hg1.output.trans hgw.output, by have := hgw.size; simp; omega, fun i hi hne => by
        have h1 : i < wr.heap.size := by have := hgw.size; omega
        exact (Below.heap_alloc _ _ _ (by omega)).trans ((hg1.block i h1 (by simp; omega)).trans (hgw.block i hi hne))⟩
      clear hfx hlx hrg hlt1 hst hrg1 hgw hg1 hm hm8
      go_wp2_with (at_mapUpdate; refine wpList_mapUpdate_f _ rfl _ _ _ 56 rfl 37 keyed_id Tryz.underlying56 idS spE bd m _ rfl hmx hkm x c rfl rfl hgx ?_; intro w9 hm9 hg9 hs9)
      have hm10 := hm9.congr (fun y _ => Hst.out y)
      have hr9 : RangeF w9 idS spE bs w.heap.size ns fs (fun y => left y && !decide (y = x)) cnt1 := (HRG.out.kept (below_grownBy (ext_alloc (Below.refl _ _) _) none) (by simp) (by simp)).kept hg9 (by simp; omega) (by simp; omega)
      go_frame
      go_roundw
      case rel => exact ⟨_, cnt1, m + 1, hr9, by have := Hlt1.out; omega, hm10, ⟨hg9.os.trans HG.out.os, hg9.tape.trans HG.out.tape, hg9.output.trans HG.out.output, by have := HG.out.size; omega, fun i hi hne => (hg9.block i (Nat.lt_of_lt_of_le hi HG.out.size) hne).trans (HG.out.block i hi hne)⟩⟩
      case measure => rw [hr9.left_eq, Hrl.out]; exact Hlt1.out
end Go.Proofs.YtfbhfimejcdopaaGreatDoor

/- Package patches: pairs, the spots of two displays by their ids, as an iterator. -/
namespace Go.Proofs.YtfbhfimejcdopaaGreatDoor
open Go.RowKit Go.Han
attribute [local irreducible] wpStill wpQuiet
attribute [local go_sem] Oper.semAt_some
set_option maxRecDepth 100000

structure PairV where
  old : Spot
  now : Spot
  was : Bool
  is_ : Bool
def spot0 : Spot := ⟨0, 0, ⟨#[]⟩⟩
def pairOf (a b : List Spot) (n : Int) : PairV := ⟨(getS n a).getD spot0, (getS n b).getD spot0, (getS n a).isSome, (getS n b).isSome⟩
def encP (p : PairV) : Array Value := #[.agg #[.int .i64 p.old.id, .int .i64 p.old.ver, .string p.old.text, .int .i64 p.now.id, .int .i64 p.now.ver, .string p.now.text, .bool p.was, .bool p.is_]]
def PairV.cells (p : PairV) : List Value := [.int .i64 p.old.id, .int .i64 p.old.ver, .string p.old.text, .int .i64 p.now.id, .int .i64 p.now.ver, .string p.now.text, .bool p.was, .bool p.is_]
theorem pairs_any (A : Option Addr) (n cp : Nat) (B : Option Addr) (m d : Nat) (w : World) : Calls Tryz.prog 20 #[.slice A n cp, .slice B m d] w fun e w' =>
    e = .returned (.func (.func 29) #[] #[.pointer (some ⟨w.heap.size, 0, none⟩), .pointer (some ⟨w.heap.size + 1, 0, none⟩)]) ∧ (w.alloc (.cells #[.slice A n cp] 22)).alloc (.cells #[.slice B m d] 22) = w' := by
  have hmf : ∀ (fn : Fn) (first cap : Array Value) (w : World), (Instr.makeFunc fn first cap).run Tryz.prog w = .ok (.func fn first cap) w := fun _ _ _ _ => rfl
  go_enter Tryz.func20, Tryz.ntmps20
  go_wp2
  go_ret
  exact ⟨rfl, rfl⟩
/-- The sorted ids of both are the union. -/
theorem sorted_union {a b : List Spot} (ha : checkE a = 0) (hb : checkE b = 0) {T : List Int} (h : SortedKeys Tryz.prog Tryz.underlying3 (fun n => (getS n b).or (getS n a)) T) : T = unionI a b := by
  obtain ⟨_, oka, sa⟩ := (checkE_iff a).1 ha
  obtain ⟨_, okb, sb⟩ := (checkE_iff b).1 hb
  refine isU_uniq (a := a) (b := b) ⟨h.asc, fun n => ?_⟩ (diff_union 0 a b sa sb).1
  rw [h.mem n]
  have e : ((getS n b).or (getS n a)).isSome = true ↔ (getS n a).isSome = true ∨ (getS n b).isSome = true := by
    cases getS n a <;> cases getS n b <;> simp
  rw [e]
  refine ⟨And.right, fun hh => ⟨?_, hh⟩⟩
  rcases hh with hh | hh
  · obtain ⟨x, hx, rfl⟩ := getS_isSome hh; exact good_id (ok_idB (oka x hx))
  · obtain ⟨x, hx, rfl⟩ := getS_isSome hh; exact good_id (ok_idB (okb x hx))
theorem union_good {a b : List Spot} (ha : checkE a = 0) (hb : checkE b = 0) {n : Int} (hn : n ∈ unionI a b) : idS.good n := by
  obtain ⟨_, oka, sa⟩ := (checkE_iff a).1 ha
  obtain ⟨_, okb, sb⟩ := (checkE_iff b).1 hb
  rcases ((diff_union 0 a b sa sb).1.mem n).1 hn with hh | hh
  · obtain ⟨x, hx, rfl⟩ := getS_isSome hh; exact good_id (ok_idB (oka x hx))
  · obtain ⟨x, hx, rfl⟩ := getS_isSome hh; exact good_id (ok_idB (okb x hx))
theorem union_le {a b : List Spot} (ha : checkE a = 0) (hb : checkE b = 0) : (unionI a b).length ≤ 2048 := by
  obtain ⟨la, oka, sa⟩ := (checkE_iff a).1 ha
  obtain ⟨lb, okb, sb⟩ := (checkE_iff b).1 hb
  have := union_len (diff_union 0 a b sa sb).1
  omega
theorem below_grow1 {W w w1 : World} {bd : Nat} (h : Below W.heap.size W w) (g : w.grownBy w1 (some bd)) (hb : W.heap.size ≤ bd) : Below W.heap.size W w1 :=
  h.grown g h.size (fun k hk => by cases hk; exact hb)

theorem row_form {w : World} {base E : Nat} {v : Value} {T : List Int} (h : w.ownsRow base E 1 v T.length (T.map fun x => Value.int .i64 x)) :
    ∃ A cap, v = .slice A T.length cap ∧ ∀ (k : Nat) (hk : k < T.length), ∃ g, A = some ⟨g, 0, none⟩ ∧ base ≤ g ∧ g < w.heap.size ∧ w.cell? ⟨g, k, none⟩ = some (.int .i64 T[k]) := by
  rcases h.2 with ⟨rfl, hn⟩ | ⟨g, cap, cur, rfl, hb, hc, _, _, hsz, ht⟩
  · exact ⟨none, 0, by rw [hn], fun k hk => by omega⟩
  · refine ⟨_, cap, rfl, fun k hk => ⟨g, rfl, hb, lt_block hc, ?_⟩⟩
    rw [gblk hc]
    have h1 : (cur.toList.take (T.length * 1))[k]? = (T.map fun x => Value.int .i64 x)[k]? := by rw [ht]
    rw [List.getElem?_take, if_pos (by omega)] at h1
    simpa [hk] using h1
def PInv (W : World) (s6 : Nat) (R : Nat → Prop) (w6 : World) (J : (Nat → Prop) → List PairV → World → Prop) (a b : List Spot) (T : List Int) (i : Value) (wr : World) : Prop :=
  ∃ (own : Nat → Prop) (k : Nat), k ≤ T.length ∧ i = .int .i64 k ∧ J own ((T.take k).map (pairOf a b)) wr ∧ (∀ j, own j → ¬ R j) ∧ (∀ j, own j → j < wr.heap.size) ∧ (∀ j, own j → j < W.heap.size ∨ s6 ≤ j) ∧ s6 ≤ wr.heap.size ∧ (∀ j, (R j ∨ (W.heap.size ≤ j ∧ j < s6)) → wr.heap[j]? = w6.heap[j]?)
def pcells (o s : Option Spot) : Array Value := #[.int .i64 (o.getD spot0).id, .int .i64 (o.getD spot0).ver, .string (o.getD spot0).text, .int .i64 (s.getD spot0).id, .int .i64 (s.getD spot0).ver, .string (s.getD spot0).text, .bool o.isSome, .bool s.isSome]

set_option maxHeartbeats 1000000 in
theorem pairs1 (b1 b2 : Nat) (A B : Option Addr) (cpA cpB : Nat) (a b : List Spot) (R : Nat → Prop) (w0 : World)
    (hK : ∀ W : World, (∀ k, R k → W.heap[k]? = w0.heap[k]?) → W.heap[b1]? = some (.cells #[.slice A a.length cpA] 22 (0, 0)) ∧ W.heap[b2]? = some (.cells #[.slice B b.length cpB] 22 (0, 0)) ∧ Rd W A (flat a) ∧ Rd W B (flat b)) (ha : checkE a = 0) (hb : checkE b = 0) :
    IterC Tryz.prog 29 #[.pointer (some ⟨b1, 0, none⟩), .pointer (some ⟨b2, 0, none⟩)] encP R (fun _ => False) ((unionI a b).map (pairOf a b)) none w0 := by
  intro l' B0 J Jx Jp own₀ W hR hown hB0 hlive hJ hJx hY h0
  refine (callsIn_wide (n := 0)).1 ?_
  refine callsIn_of_wp Tryz.func29 rfl trivial ?_
  simp only [Tryz.ntmps29, List.size_toArray, List.length_cons, List.length_nil, Nat.reduceAdd, Nat.reduceSub, Array.replicate_succ, Array.replicate_zero, List.push_toArray, List.append_toArray, List.nil_append, List.cons_append]
  have hRB : ∀ k, R k → k < B0 := fun k hk => (hR k hk).1
  obtain ⟨k1, k2, kA, kB⟩ := hK W (fun k hk => (hR k hk).2)
  have c1 := cell_one k1
  have c2 := cell_one k2
  have n1 := lt_block k1
  have n2 := lt_block k2
  have cA := Lib.hid (fun W' (h : Below W.heap.size W W') => index_any A cpA a W' (kA.ext h) ha)
  have cB := Lib.hid (fun W' (h : Below W.heap.size W W') => index_any B cpB b W' (kB.ext h) hb)
  have HY := Lib.hid hY
  have HJ := Lib.hid hJ
  have HRB := Lib.hid hRB
  have hla := ((checkE_iff a).1 ha).1
  have hlb := ((checkE_iff b).1 hb).1
  have HSU := Lib.hid (fun T h => sorted_union ha hb (T := T) h)
  have HUG := Lib.hid (fun n => union_good ha hb (n := n))
  have HUL := Lib.hid (union_le ha hb)
  have H0 := Lib.hid h0
  have Hown := Lib.hid hown
  have Hlive := Lib.hid hlive
  clear hK hR hY hJx hJ hRB k1 k2 kA kB ha hb h0 hown hlive
  gi_wp2_with fail
  gi_region_with (first | (have hmark := hm1; refine ⟨trivial, rfl, (callsIn_wide.2 (cB.out _ ?_)).mono ?_⟩; (repeat (first | exact HB1 | refine ext_drew ?_)); rintro e w2 ⟨rfl, hm2, hb2⟩; have HB2 : Below W.heap.size W w2 := ext_trans (by repeat (first | exact HB1 | refine ext_drew ?_)) hb2; have hm12 := hm1.of_block (hb2.block _ hm1.lt); clear hmark) | (refine ⟨trivial, rfl, (callsIn_wide.2 (cA.out _ ?_)).mono ?_⟩; (repeat (first | exact Below.refl _ _ | refine ext_drew ?_)); rintro e w1 ⟨rfl, hm1, hb1⟩; have HB1 : Below W.heap.size W w1 := ext_trans (by repeat (first | exact Below.refl _ _ | refine ext_drew ?_)) hb1; have y2 := (HB1.cell (p := ⟨b2, 0, none⟩) n2).trans c2))
  all_goals
    have hs1 := HB1.size
    have hs2 := hb2.size
    have hl1 : W.heap.size < w1.heap.size := hm1.lt
    have hl2 : w1.heap.size < w2.heap.size := hm2.lt
    have cC := Lib.hid (cloneM_any W.heap.size a.length (fun n => getS n a) w2 hm12)
    have HM2 := Lib.hid hm2
    have HM12 := Lib.hid hm12
    clear y2 hm12 hm1 hm2
    gi_wp2_with fail
    refine ⟨trivial, rfl, (callsIn_wide.2 cC.out).mono ?_⟩
    rintro e w3 ⟨rfl, hm3, hb3⟩
    have hs3 := hb3.size
    have hl3 : w2.heap.size < w3.heap.size := hm3.lt
    have cP := Lib.hid (copyM_any w2.heap.size w1.heap.size a.length b.length (fun n => getS n a) (fun n => getS n b) w3 hm3 (HM2.out.of_block (hb3.block _ HM2.out.lt)) (by omega) (by omega))
    have HM12' := Lib.hid (HM12.out.of_block (hb3.block _ HM12.out.lt))
    have HB3 := ext_trans HB2 hb3
    clear hm3 HM2 HM12 cC
    gi_wp2_with fail
    refine ⟨trivial, rfl, (callsIn_wide.2 cP.out).mono ?_⟩
    rintro e w4 ⟨rfl, hm4, hm42, hg4⟩
    have hs4 := hg4.size
    have HM41 := Lib.hid (HM12'.out.of_block (hg4.block _ HM12'.out.lt (by simp; omega)))
    have HM42 := Lib.hid hm42
    have HM4 := Lib.hid hm4
    have HB4 : Below W.heap.size W w4 := HB3.grown hg4 HB3.size (fun k hk => by cases hk; omega)
    clear hm4 hm42 cP HM12'
    gi_wp2_with fail
    refine ⟨trivial, rfl, (callsIn_wide.2 (keysM_any (some w2.heap.size) w4)).mono ?_⟩
    rintro e w5 ⟨rfl, hw5⟩
    have hb5 : Below w4.heap.size w4 w5 := by rw [← hw5]; exact ext_alloc (Below.refl _ _) _
    have hs5 : w5.heap.size = w4.heap.size + 1 := by rw [← hw5]; simp
    have hx5 : w5.heap[w4.heap.size]? = some (.cells #[.map (some w2.heap.size)] 56 (0, 0)) := by rw [← hw5]; exact World.alloc_heap_new _ _
    have cS := Lib.hid (sortedM_any w2.heap.size (a.length + b.length) w4.heap.size (fun n => (getS n b).or (getS n a)) w5 (HM4.out.of_block (hb5.block _ HM4.out.lt)) (by omega) hx5)
    clear hw5 hx5
    gi_wp2_with fail
    refine ⟨trivial, rfl, (callsIn_wide.2 cS.out).mono ?_⟩
    rintro e w6 ⟨hb6, v, T, rfl, hsk, hrow⟩
    obtain rfl : T = unionI a b := HSU.out T hsk
    have hs6 := hb6.size
    obtain ⟨AT, cT, rfl, hel⟩ := row_form hrow
    have Hel := Lib.hid hel
    have hb46 := ext_trans hb5 hb6
    have HM61 := Lib.hid (HM41.out.of_block (hb46.block _ HM41.out.lt))
    have HM62 := Lib.hid (HM42.out.of_block (hb46.block _ HM42.out.lt))
    have HB6 := ext_trans HB4 hb46
    have hul : (unionI a b).length ≤ 2048 := HUL.out
    clear hel hrow hsk HM41 HM42 HM4 cS
    have hs06 : W.heap.size ≤ w6.heap.size := by omega
    gi_wp2_with fail
    gi_loopw [23] (fun i wr => PInv W w6.heap.size R w6 J a b (unionI a b) i wr) (fun i _ => (unionI a b).length - (intOf i).toNat)
    case atStart =>
      have hwo : W.os = w6.os ∧ W.tape = w6.tape := ⟨HB6.os.symm, HB6.tape.symm⟩
      refine ⟨own₀, 0, Nat.zero_le _, rfl, HJ.out own₀ [] W w6 H0.out ⟨HB6.os, HB6.tape, HB6.output, HB6.size, fun j hj _ => HB6.block j hj⟩, Hown.out, fun j hj => Nat.lt_of_lt_of_le (Hlive.out j hj) hs06, fun j hj => .inl (Hlive.out j hj), Nat.le_refl _, fun j _ => rfl⟩
    case round =>
      obtain ⟨own, k, hk, rfl, hj, hdis, hliv, hout, hsz, hkeep⟩ := hrel
      by_cases hlt : k < (unionI a b).length
      · obtain ⟨g, rfl, hbg, hgl, hcg⟩ := Hel.out k hlt
        have x0 := (World.cell?_of_block (w := w6) (a := ⟨g, k, none⟩) (hkeep g (.inr ⟨by omega, hgl⟩))).trans hcg
        have hmem := List.getElem_mem hlt
        have hgood := HUG.out _ hmem
        have htk : (unionI a b).take (k + 1) = (unionI a b).take k ++ [(unionI a b)[k]] := List.take_succ_eq_append_getElem hlt
        have hpre : ((unionI a b).take k).map (pairOf a b) ++ [pairOf a b (unionI a b)[k]] <+: (unionI a b).map (pairOf a b) := by
          refine ⟨((unionI a b).drop (k + 1)).map (pairOf a b), ?_⟩
          have e : [pairOf a b (unionI a b)[k]] = [(unionI a b)[k]].map (pairOf a b) := rfl
          rw [e, ← List.map_append, ← htk, ← List.map_append, List.take_append_drop]
        have hm1 := HM61.out.of_block (hkeep W.heap.size (.inr ⟨Nat.le_refl _, by omega⟩))
        have hm2 := HM62.out.of_block (hkeep w1.heap.size (.inr ⟨by omega, by omega⟩))
        have Htk := Lib.hid htk
        have Hpre := Lib.hid hpre
        have Hkeep := Lib.hid hkeep
        clear hmem htk hcg hpre hkeep
        generalize (unionI a b)[k] = n at *
        obtain ⟨o1, ho1⟩ : ∃ o, getS n a = o := ⟨_, rfl⟩
        obtain ⟨o2, ho2⟩ : ∃ o, getS n b = o := ⟨_, rfl⟩
        have HP : Hid (pairOf a b n = ⟨o1.getD spot0, o2.getD spot0, o1.isSome, o2.isSome⟩) := by show _ = _; unfold pairOf; rw [ho1, ho2]
        have hl1 : ∀ W', Below wr.heap.size wr W' → (Instr.lookup 56 (.map (some W.heap.size)) (.int .i64 n) true).run Tryz.prog W' = .ok (.tuple #[.agg #[.int .i64 (o1.getD spot0).id, .int .i64 (o1.getD spot0).ver, .string (o1.getD spot0).text], .bool o1.isSome]) W' := by
          intro W' hb'
          rw [← ho1]
          exact run_lookup_f W' keyed_id Tryz.underlying56 idS spE spot0 (zero_spot W') (hm1.of_block (hb'.block _ hm1.lt)) n hgood
        have hl2 : ∀ W', Below wr.heap.size wr W' → (Instr.lookup 56 (.map (some w1.heap.size)) (.int .i64 n) true).run Tryz.prog W' = .ok (.tuple #[.agg #[.int .i64 (o2.getD spot0).id, .int .i64 (o2.getD spot0).ver, .string (o2.getD spot0).text], .bool o2.isSome]) W' := by
          intro W' hb'
          rw [← ho2]
          exact run_lookup_f W' keyed_id Tryz.underlying56 idS spE spot0 (zero_spot W') (hm2.of_block (hb'.block _ hm2.lt)) n hgood
        clear ho1 ho2 hm1 hm2 hgood
        generalize o1.getD spot0 = y1 at *
        generalize o2.getD spot0 = y2 at *
        generalize o1.isSome = q1 at *
        generalize o2.isSome = q2 at *
        have HL2 := Lib.hid hl2
        have e1 := hl1 _ (ext_alloc (Below.refl wr.heap.size wr) (.cells #[.int .i64 0, .int .i64 0, .string ⟨#[]⟩, .int .i64 0, .int .i64 0, .string ⟨#[]⟩, .bool false, .bool false] 48))
        have e2 := hl2 _ (ext_alloc (Below.refl wr.heap.size wr) (.cells #[.int .i64 y1.id, .int .i64 y1.ver, .string y1.text, .int .i64 0, .int .i64 0, .string ⟨#[]⟩, .bool q1, .bool false] 48))
        have hj2 := HJ.out own _ wr (wr.alloc (.cells #[.int .i64 y1.id, .int .i64 y1.ver, .string y1.text, .int .i64 y2.id, .int .i64 y2.ver, .string y2.text, .bool q1, .bool q2] 48)) hj (IterStep.alloc (IterStep.refl _ _ _ _) _)
        obtain ⟨fn, tmps, assign, body, hy, hRd⟩ := HY.out own _ (pairOf a b n) _ hj2 Hpre.out hdis (fun j hj => by simp; have := hliv j hj; omega)
        rw [HP.out] at hy
        change (Instr.yield l' #[.agg #[.int .i64 y1.id, .int .i64 y1.ver, .string y1.text, .int .i64 y2.id, .int .i64 y2.ver, .string y2.text, .bool q1, .bool q2]]).run _ _ = _ at hy
        clear hl1 hl2 hj2 HL2
        gi_wp2_with fail
        refine ⟨rfl, hRd.mono ?_⟩
        rintro e W3 (⟨own', hbs, (⟨rfl, hj3⟩ | ⟨rfl, hjx⟩)⟩ | ⟨ch, rfl, hjp⟩)
        · clear e1 e2 hy hRd
          have hsz3 := hbs.size
          have hown3 := hbs.owns
          have hblk : ∀ j, j < wr.heap.size → ¬ own j → W3.heap[j]? = wr.heap[j]? := fun j h1 h2 => (hbs.block j (by simp; omega) h2).trans (Below.heap_alloc _ _ _ h1)
          simp only [World.size_alloc] at hsz3 hown3
          gi_wp2_with fail
          go_roundw
          case rel =>
            refine ⟨own', k + 1, by omega, by go_num, by rw [Htk.out]; rw [List.map_append]; exact hj3, fun j hjo hjR => ?_, fun j hjo => hbs.live j hjo, fun j hjo => ?_, by omega, fun j hjj => ?_⟩
            · rcases hown3 j hjo with h | h
              · exact hdis j h hjR
              · have := HRB.out j hjR; omega
            · rcases hown3 j hjo with h | h
              · exact hout j h
              · exact .inr (by omega)
            · have hj1 : j < wr.heap.size := by
                rcases hjj with h | h
                · have := HRB.out j h; omega
                · omega
              have hj2 : ¬ own j := fun ho => by
                rcases hjj with h | h
                · exact hdis j ho h
                · rcases hout j ho with h1 | h1 <;> omega
              rw [hblk j hj1 hj2]
              exact Hkeep.out j hjj
          case measure => simp [intOf]; omega
        · gi_wp2_with fail
          refine bodyPost_ret (results_none rfl _ _ _) rfl ?_
          exact .inr (.inl ⟨⟨_, rfl⟩, own', _, Hpre.out, hjx⟩)
        · exact ⟨rfl, .inr (.inr (.inl ⟨ch, rfl, hjp⟩))⟩
      · obtain rfl : k = (unionI a b).length := by omega
        rw [List.take_length] at hj
        gi_wp2_with fail
        go_end0
        exact .inl ⟨rfl, ⟨_, rfl⟩, own, hj⟩
end Go.Proofs.YtfbhfimejcdopaaGreatDoor

/- The reference's package of displays: sizes. -/
namespace Go.Proofs.YtfbhfimejcdopaaGreatDoor
open Go.RowKit Go.Han
attribute [local irreducible] wpStill wpQuiet
set_option maxRecDepth 100000

/-- Whether there are few spots, or too many. -/
def fewB (l : List Spot) : Bool := (l.take 70).all (fun x => decide (x.text.size ≤ 200)) && (decide (l.length ≤ 60) || (decide (1024 < l.length) && decide (l.length ≤ 1100)))
theorem few49_any (A : Option Addr) (c : Nat) (l : List Spot) (w : World) (hr : Rd w A (flat l)) (hm : l.length ≤ 9223372036854775807) :
    Calls Tryz.prog 17 #[.slice A l.length c] w fun e w' => e = .returned (.bool (fewB l)) ∧ w = w' := by
  have Hf : Hid (fewB l = ((l.take 70).all (fun x => decide (x.text.size ≤ 200)) && (decide (l.length ≤ 60) || (decide (1024 < l.length) && decide (l.length ≤ 1100))))) := rfl
  go_enter Tryz.func17, Tryz.ntmps17
  go_wp2_with fail
  go_loop [3] (fun i => ∃ k : Nat, k ≤ l.length ∧ k ≤ 70 ∧ i = .int .i64 k ∧ Hid (∀ (j : Nat) (hj : j < l.length), j < k → l[j].text.size ≤ 200)) (fun i => l.length - (intOf i).toNat)
  case atStart => exact ⟨0, Nat.zero_le _, Nat.zero_le _, rfl, fun j hj h => by omega⟩
  case round =>
    obtain ⟨k, hk, hk7, rfl, HR⟩ := hrel
    have hend : (k = l.length ∨ k = 70) → Hid (fewB l = (decide (l.length ≤ 60) || (decide (1024 < l.length) && decide (l.length ≤ 1100)))) := by
      intro h
      show _ = _
      rw [Hf.out]
      have : (l.take 70).all (fun x => decide (x.text.size ≤ 200)) = true := by
        rw [List.all_eq_true]
        intro x hx
        obtain ⟨j, hj, rfl⟩ := List.mem_iff_getElem.1 hx
        simp at hj
        rw [List.getElem_take]
        simpa using HR.out j (by omega) (by omega)
      rw [this, Bool.true_and]
    by_cases hlt : k < l.length
    · by_cases h70 : k < 70
      · obtain ⟨b, off, rfl, hb, hc⟩ := hr.elem Spot.size_cells (by omega) hlt
        have h3 := hc 2 _ rfl
        clear hc hr hend
        by_cases hs : l[k].text.size ≤ 200
        · have HS := Lib.hid hs
          have hs1 : ¬ (200 : Int) < l[k].text.size := by omega
          clear hs
          go_wp2_with fail
          go_round
          case rel =>
            refine ⟨k + 1, by omega, by omega, by go_num, fun j hj hjk => ?_⟩
            rcases Nat.lt_or_ge j k with h | h
            · exact HR.out j hj h
            · obtain rfl : j = k := by omega
              exact HS.out
          case measure => simp [intOf]; omega
        · have hs1 : (200 : Int) < l[k].text.size := by omega
          have HF : Hid (fewB l = false) := by
            show _ = _
            rw [Hf.out]
            have : (l.take 70).all (fun x => decide (x.text.size ≤ 200)) = false := by
              rw [List.all_eq_false]
              exact ⟨l[k], List.mem_take_iff_getElem.2 ⟨k, by omega, rfl⟩, by simpa using hs⟩
            rw [this, Bool.false_and]
          clear hs
          go_wp2_with fail
          go_ret
          exact ⟨by rw [HF.out]; rfl, rfl⟩
      · have HF := hend (.inr (by omega))
        clear hend HR hr
        by_cases g1 : l.length ≤ 60
        · omega
        have d1 : decide (l.length ≤ 60) = false := by simpa using g1
        have d7 : decide (k < 70) = false := by simpa using h70
        have i7 : ¬ (k : Int) < 70 := by omega
        have i1 : ¬ (l.length : Int) ≤ 60 := by omega
        by_cases g2 : 1024 < l.length
        · go_wp2
          all_goals go_ret
          all_goals (refine ⟨?_, rfl⟩; rw [HF.out]; first | (simp [*]; done) | (simp [*]; omega))
        · have i2 : ¬ (1024 : Int) < l.length := by omega
          go_wp2
          all_goals go_ret
          all_goals (refine ⟨?_, rfl⟩; rw [HF.out]; first | (simp [*]; done) | (simp [*]; omega))
    · have HF := hend (.inl (by omega))
      clear hend HR hr
      by_cases g1 : l.length ≤ 60
      · go_wp2
        all_goals go_ret
        all_goals (refine ⟨?_, rfl⟩; rw [HF.out]; first | (simp [*]; done) | (simp [*]; omega))
      · have i1 : ¬ (l.length : Int) ≤ 60 := by omega
        by_cases g2 : 1024 < l.length
        · go_wp2
          all_goals go_ret
          all_goals (refine ⟨?_, rfl⟩; rw [HF.out]; first | (simp [*]; done) | (simp [*]; omega))
        · have i2 : ¬ (1024 : Int) < l.length := by omega
          go_wp2
          all_goals go_ret
          all_goals (refine ⟨?_, rfl⟩; rw [HF.out]; first | (simp [*]; done) | (simp [*]; omega))

/-- Whether there are few changes, or too many. -/
def fewC (l : List Change) : Bool := (l.take 110).all (fun x => decide (x.spot.text.size ≤ 200)) && (decide (l.length ≤ 100) || (decide (4096 < l.length) && decide (l.length ≤ 4200)))
theorem fewc49_any (A : Option Addr) (c : Nat) (l : List Change) (w : World) (hr : Rd w A (cflat l)) (hm : l.length ≤ 9223372036854775807) :
    Calls Tryz.prog 10 #[.slice A l.length c] w fun e w' => e = .returned (.bool (fewC l)) ∧ w = w' := by
  have Hf : Hid (fewC l = ((l.take 110).all (fun x => decide (x.spot.text.size ≤ 200)) && (decide (l.length ≤ 100) || (decide (4096 < l.length) && decide (l.length ≤ 4200))))) := rfl
  go_enter Tryz.func10, Tryz.ntmps10
  go_wp2_with fail
  go_loop [3] (fun i => ∃ k : Nat, k ≤ l.length ∧ k ≤ 110 ∧ i = .int .i64 k ∧ Hid (∀ (j : Nat) (hj : j < l.length), j < k → l[j].spot.text.size ≤ 200)) (fun i => l.length - (intOf i).toNat)
  case atStart => exact ⟨0, Nat.zero_le _, Nat.zero_le _, rfl, fun j hj h => by omega⟩
  case round =>
    obtain ⟨k, hk, hk7, rfl, HR⟩ := hrel
    have hend : (k = l.length ∨ k = 110) → Hid (fewC l = (decide (l.length ≤ 100) || (decide (4096 < l.length) && decide (l.length ≤ 4200)))) := by
      intro h
      show _ = _
      rw [Hf.out]
      have : (l.take 110).all (fun x => decide (x.spot.text.size ≤ 200)) = true := by
        rw [List.all_eq_true]
        intro x hx
        obtain ⟨j, hj, rfl⟩ := List.mem_iff_getElem.1 hx
        simp at hj
        rw [List.getElem_take]
        simpa using HR.out j (by omega) (by omega)
      rw [this, Bool.true_and]
    by_cases hlt : k < l.length
    · by_cases h70 : k < 110
      · obtain ⟨b, off, rfl, hb, hc⟩ := hr.elem Change.size_cells (by omega) hlt
        have h3 := hc 4 _ rfl
        clear hc hr hend
        by_cases hs : l[k].spot.text.size ≤ 200
        · have HS := Lib.hid hs
          have hs1 : ¬ (200 : Int) < l[k].spot.text.size := by omega
          clear hs
          go_wp2_with fail
          go_round
          case rel =>
            refine ⟨k + 1, by omega, by omega, by go_num, fun j hj hjk => ?_⟩
            rcases Nat.lt_or_ge j k with h | h
            · exact HR.out j hj h
            · obtain rfl : j = k := by omega
              exact HS.out
          case measure => simp [intOf]; omega
        · have hs1 : (200 : Int) < l[k].spot.text.size := by omega
          have HF : Hid (fewC l = false) := by
            show _ = _
            rw [Hf.out]
            have : (l.take 110).all (fun x => decide (x.spot.text.size ≤ 200)) = false := by
              rw [List.all_eq_false]
              exact ⟨l[k], List.mem_take_iff_getElem.2 ⟨k, by omega, rfl⟩, by simpa using hs⟩
            rw [this, Bool.false_and]
          clear hs
          go_wp2_with fail
          go_ret
          exact ⟨by rw [HF.out]; rfl, rfl⟩
      · have HF := hend (.inr (by omega))
        clear hend HR hr
        by_cases g1 : l.length ≤ 100
        · omega
        have d1 : decide (l.length ≤ 100) = false := by simpa using g1
        have d7 : decide (k < 110) = false := by simpa using h70
        have i7 : ¬ (k : Int) < 110 := by omega
        have i1 : ¬ (l.length : Int) ≤ 100 := by omega
        by_cases g2 : 4096 < l.length
        · go_wp2
          all_goals go_ret
          all_goals (refine ⟨?_, rfl⟩; rw [HF.out]; first | (simp [*]; done) | (simp [*]; omega))
        · have i2 : ¬ (4096 : Int) < l.length := by omega
          go_wp2
          all_goals go_ret
          all_goals (refine ⟨?_, rfl⟩; rw [HF.out]; first | (simp [*]; done) | (simp [*]; omega))
    · have HF := hend (.inl (by omega))
      clear hend HR hr
      by_cases g1 : l.length ≤ 100
      · go_wp2
        all_goals go_ret
        all_goals (refine ⟨?_, rfl⟩; rw [HF.out]; first | (simp [*]; done) | (simp [*]; omega))
      · have i1 : ¬ (l.length : Int) ≤ 100 := by omega
        by_cases g2 : 4096 < l.length
        · go_wp2
          all_goals go_ret
          all_goals (refine ⟨?_, rfl⟩; rw [HF.out]; first | (simp [*]; done) | (simp [*]; omega))
        · have i2 : ¬ (4096 : Int) < l.length := by omega
          go_wp2
          all_goals go_ret
          all_goals (refine ⟨?_, rfl⟩; rw [HF.out]; first | (simp [*]; done) | (simp [*]; omega))


end Go.Proofs.YtfbhfimejcdopaaGreatDoor
