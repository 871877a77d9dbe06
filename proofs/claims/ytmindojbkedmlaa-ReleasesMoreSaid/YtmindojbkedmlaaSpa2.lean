/- Package spans: the states of two lists, as an iterator. -/
import Derived.Test.YtmindojbkedmlaaSpa1
import Derived.Test.YtmindojbkedmlaaM3
import Derived.Test.YtmindojbkedmlaaM4
import Derived.Stop.RegionWithIn
import Derived.Sort.QuietTacIn
import Derived.Deep.Draws
namespace Go.Proofs.Ytmindojbkedmlaa
open Go.RowKit Go.Han
attribute [local irreducible] wpStill wpQuiet
attribute [local go_sem] Oper.semAt_some
set_option maxRecDepth 100000

theorem wpIn_meet {F : Fence} {n : Nat} {P : Program} {c : Code} {Q : Exit → Act → World → Prop} {a aF : Act} {w w' : World} (h : c.wpIn F n P (Exit.then (fun a' v => a' = aF ∧ v = w') (fun _ _ _ => False)) a w) (k : Q .normal aF w') : c.wpIn F n P Q a w :=
  wpIn_mono h (fun e a' v hh => by
    cases e with
    | normal => obtain ⟨h2, h3⟩ := hh; subst h2 h3; exact k
    | _ => exact hh.elim)
def encV (s : StV) : Array Value := #[.agg #[.int .i64 s.frm, .bool s.a, .bool s.b]]
def oddB (n : Nat) : Bool := decide (n % 2 = 1)
theorem oddB_succ (n : Nat) : oddB (n + 1) = !oddB n := by unfold oddB; rw [Bool.eq_iff_iff]; simp; omega
theorem tmod_odd (n : Nat) : ((n : Int) % 2 == 1) = oddB n := by
  unfold oddB
  rw [Bool.eq_iff_iff]; simp; omega
theorem states_any (A : Option Addr) (n c : Nat) (B : Option Addr) (m d : Nat) (w : World) : Calls Try.prog 59 #[.slice A n c, .slice B m d] w fun e w' =>
    e = .returned (.func (.func 94) #[] #[.pointer (some ⟨w.heap.size, 0, none⟩), .pointer (some ⟨w.heap.size + 1, 0, none⟩)]) ∧ (w.alloc (.cells #[.slice A n c] 34)).alloc (.cells #[.slice B m d] 34) = w' := by
  have hmf : ∀ (fn : Fn) (first cap : Array Value) (w : World), (Instr.makeFunc fn first cap).run Try.prog w = .ok (.func fn first cap) w := fun _ _ _ _ => rfl
  go_enter Try.func59, Try.ntmps59
  go_wp2
  go_ret
  exact ⟨rfl, rfl⟩
def StatR (s t : SpS) (b1 b2 : Nat) (j : Nat) : Prop := j = b1 ∨ j = b2 ∨ (nflat s.xs ≠ [] ∧ ∃ a, s.addr = some a ∧ j = a.block) ∨ (nflat t.xs ≠ [] ∧ ∃ a, t.addr = some a ∧ j = a.block)
structure StatAt (s t : SpS) (b1 b2 : Nat) (w : World) : Prop where
  h1 : w.heap[b1]? = some (.cells #[.slice s.addr s.xs.length s.cap] 34 (0, 0))
  h2 : w.heap[b2]? = some (.cells #[.slice t.addr t.xs.length t.cap] 34 (0, 0))
  hs : s.Ok w
  ht : t.Ok w
theorem stat_same {s t : SpS} {b1 b2 : Nat} {w0 W : World} (h : StatAt s t b1 b2 w0) (hs : ∀ j, StatR s t b1 b2 j → W.heap[j]? = w0.heap[j]?) : StatAt s t b1 b2 W :=
  ⟨(hs _ (.inl rfl)).trans h.h1, (hs _ (.inr (.inl rfl))).trans h.h2, ⟨rd_same h.hs.rd fun hx a ha => hs _ (.inr (.inr (.inl ⟨hx, a, ha, rfl⟩))), h.hs.chk, h.hs.len⟩, ⟨rd_same h.ht.rd fun hx a ha => hs _ (.inr (.inr (.inr ⟨hx, a, ha, rfl⟩))), h.ht.chk, h.ht.len⟩⟩
theorem stat_alive {s t : SpS} {b1 b2 : Nat} {w0 : World} (h : StatAt s t b1 b2 w0) : Alive w0 (StatR s t b1 b2) := by
  rintro j (rfl | rfl | ⟨hx, a, ha, rfl⟩ | ⟨hx, a, ha, rfl⟩)
  · exact lt_block h.h1
  · exact lt_block h.h2
  · rcases h.hs.rd with hh | ⟨b, off, he, hb, _⟩
    · exact absurd hh hx
    · rw [ha] at he; cases he; exact hb
  · rcases h.ht.rd with hh | ⟨b, off, he, hb, _⟩
    · exact absurd hh hx
    · rw [ha] at he; cases he; exact hb
theorem bl_drop_nil {x : List Spn} {i : Nat} : (bl x).drop i = [] ↔ x.length * 2 ≤ i := by rw [List.drop_eq_nil_iff, bl_len]
theorem asc_drop {B : List Int} (h : AscB B) (i : Nat) : AscB (B.drop i) := ⟨h.1.sublist (List.drop_sublist i B), fun v hv => h.2 v (List.mem_of_mem_drop hv)⟩
set_option maxHeartbeats 8000000 in
theorem states1 (s t : SpS) (b1 b2 : Nat) (w0 : World) (hat : StatAt s t b1 b2 w0) :
    IterN Try.prog 94 #[.pointer (some ⟨b1, 0, none⟩), .pointer (some ⟨b2, 0, none⟩)] encV (StatR s t b1 b2) (fun _ => False) (stL (bl s.xs) (bl t.xs) false false) w0 := by
  intro l' B0 J Jx own₀ W hR hown hB0 hlive hJ hJx hY h0
  refine (callsIn_wide (n := 0)).1 ?_
  refine callsIn_of_wp Try.func94 rfl trivial ?_
  simp only [Try.ntmps94, List.size_toArray, List.length_cons, List.length_nil, Nat.reduceAdd, Nat.reduceSub, Array.replicate_succ, Array.replicate_zero, List.push_toArray, List.append_toArray, List.nil_append, List.cons_append]
  have hal := stat_alive hat
  have hI0 : ItInv w0 B0 (StatR s t b1 b2) J [] W := ⟨own₀, h0, fun j hj => (hR j hj).2, hown, hlive, hB0⟩
  have hx : AscB (bl s.xs) := (bl_asc hat.hs.chk).1
  have hy : AscB (bl t.xs) := (bl_asc hat.ht.chk).1
  have lx := hat.hs.len
  have ly := hat.ht.len
  have HY := Lib.hid hY
  have HJ := Lib.hid hJ
  have Hal := Lib.hid hal
  have Hat := Lib.hid hat
  have HX1 := Lib.hid hx
  have HX2 := Lib.hid hy
  clear hR hY hJ hJx h0 hown hlive hal hat hx hy
  gi_wp2
  gi_loopw [4, 5] (fun vi vk wr => ∃ (i k : Nat) (pre : List StV), vi = .int .i64 i ∧ vk = .int .i64 k ∧ i ≤ s.xs.length * 2 ∧ k ≤ t.xs.length * 2 ∧ ItInv w0 B0 (StatR s t b1 b2) J pre wr ∧ Hid (stL (bl s.xs) (bl t.xs) false false = pre ++ stL ((bl s.xs).drop i) ((bl t.xs).drop k) (oddB i) (oddB k))) (fun vi vk _ => s.xs.length * 2 + t.xs.length * 2 - (intOf vi).toNat - (intOf vk).toNat)
  case atStart => exact ⟨0, 0, [], rfl, rfl, Nat.zero_le _, Nat.zero_le _, hI0, rfl⟩
  case round =>
    obtain ⟨i, k, pre, rfl, rfl, hi, hk, hI, HS⟩ := hrel
    have hRw : ∀ j, StatR s t b1 b2 j → wr.heap[j]? = w0.heap[j]? := by obtain ⟨_, _, h, _⟩ := hI; exact h
    have hat := stat_same Hat.out hRw
    have y1 := cell_one hat.h1
    have y2 := cell_one hat.h2
    have wx : IntKind.i64.wrap (2 * (s.xs.length : Int)) = 2 * (s.xs.length : Int) := IntWalk.i64_in _ (by omega)
    have wy : IntKind.i64.wrap (2 * (t.xs.length : Int)) = 2 * (t.xs.length : Int) := IntWalk.i64_in _ (by omega)
    by_cases hdone : s.xs.length * 2 ≤ i ∧ t.xs.length * 2 ≤ k
    · have q1 : decide ((i : Int) < 2 * (s.xs.length : Int)) = false := by simp; omega
      have q2 : decide ((k : Int) < 2 * (t.xs.length : Int)) = false := by simp; omega
      have HD : Hid (stL (bl s.xs) (bl t.xs) false false = pre) := by show _ = _; rw [HS.out, bl_drop_nil.2 hdone.1, bl_drop_nil.2 hdone.2, stL_nil, List.append_nil]
      clear hat hRw HS hdone hi hk
      gi_wp2
      go_end0
      obtain ⟨own, hj, _⟩ := hI
      exact .inl ⟨rfl, ⟨_, rfl⟩, own, by rw [HD.out]; exact hj⟩
    · have hne : ¬ ((bl s.xs).drop i = [] ∧ (bl t.xs).drop k = []) := fun h => hdone ⟨bl_drop_nil.1 h.1, bl_drop_nil.1 h.2⟩
      have hst := stL_step (oddB i) (oddB k) (asc_drop HX1.out i) (asc_drop HX2.out k) hne
      have hu : i = s.xs.length * 2 → hdB ((bl s.xs).drop i) = 1099511627777 := fun h => bl_end (by omega)
      have hv : k = t.xs.length * 2 → hdB ((bl t.xs).drop k) = 1099511627777 := fun h => bl_end (by omega)
      have hmin := min_le (asc_drop HX1.out i) (asc_drop HX2.out k) hne
      rw [List.tail_drop, List.tail_drop] at hst
      have cA := Lib.hid (fun W' (hW : Below wr.heap.size wr W') => border_any s.addr s.cap s.xs i W' (hat.hs.rd.ext hW) (by omega) (by omega))
      have cB := Lib.hid (fun W' (hW : Below wr.heap.size wr W') => border_any t.addr t.cap t.xs k W' (hat.ht.rd.ext hW) (by omega) (by omega))
      generalize hdB ((bl s.xs).drop i) = u at *
      generalize hdB ((bl t.xs).drop k) = v at *
      have hcnd : (i < s.xs.length * 2) ∨ (¬ i < s.xs.length * 2 ∧ k < t.xs.length * 2) := by omega
      have HSt := Lib.hid hst
      have HI := Lib.hid hI
      have Hu := Lib.hid hu
      have Hv := Lib.hid hv
      have Hm := Lib.hid hmin
      clear hat hRw hdone hne hst hI hu hv hmin
      have rst : ∀ (b : Bool) , True := fun _ => trivial
      rcases hcnd with hc | ⟨hc1, hc2⟩
      · have q1 : decide ((i : Int) < 2 * (s.xs.length : Int)) = true := by simp; omega
        clear hc
        gi_wp2_with fail
        apply wpIn_meet (w' := wr.drew)
        · gi_region_with (first | (have hmark := hm1; refine ⟨trivial, rfl, (callsIn_wide.2 (cB.out _ ?_)).mono ?_⟩; (repeat (first | exact Below.refl _ _ | refine ext_drew ?_)); rintro e w2 ⟨rfl, rfl⟩) | (refine ⟨trivial, rfl, (callsIn_wide.2 (cA.out _ ?_)).mono ?_⟩; (repeat (first | exact Below.refl _ _ | refine ext_drew ?_)); rintro e w1 ⟨rfl, rfl⟩; have hm1 : True := trivial))
          all_goals exact ⟨rfl, rfl⟩
        have hbV : Below wr.heap.size wr wr.drew := ext_drew (Below.refl _ _)
        have cA2 := Lib.hid (cA.out _ hbV)
        have cB2 := Lib.hid (cB.out _ hbV)
        have z1 : wr.drew.cell? ⟨b1, 0, none⟩ = some (.slice s.addr s.xs.length s.cap) := y1
        have z2 : wr.drew.cell? ⟨b2, 0, none⟩ = some (.slice t.addr t.xs.length t.cap) := y2
        have HIV := Lib.hid (HI.out.ext HJ.out Hal.out hbV)
        clear cA cB y1 y2 HI q1
        try clear q2
        generalize wr.drew = V at *
        clear hbV
        have htd1 := tmod_odd i
        have htd2 := tmod_odd k
        have hts1 := tmod_odd (i + 1)
        have hts2 := tmod_odd (k + 1)
        rw [oddB_succ] at hts1 hts2
        rw [show ((i + 1 : Nat) : Int) = (i : Int) + 1 by omega] at hts1
        rw [show ((k + 1 : Nat) : Int) = (k : Int) + 1 by omega] at hts2
        by_cases hpu : u = min u v
        · have e1 : (u == min u v) = true := by simpa using hpu
          have hi2 : i + 1 ≤ s.xs.length * 2 := by
            rcases Nat.lt_or_ge i (s.xs.length * 2) with h | h
            · exact h
            · have := Hu.out (by omega); have := Hm.out; omega
          by_cases hpv : v = min u v
          · have e2 : (v == min u v) = true := by simpa using hpv
            have hk2 : k + 1 ≤ t.xs.length * 2 := by
              rcases Nat.lt_or_ge k (t.xs.length * 2) with h | h
              · exact h
              · have := Hv.out (by omega); have := Hm.out; omega
            have HN : Hid (stL (bl s.xs) (bl t.xs) false false = (pre ++ [⟨min u v, !oddB i, !oddB k⟩]) ++ stL ((bl s.xs).drop (i + 1)) ((bl t.xs).drop (k + 1)) (!oddB i) (!oddB k)) := by
              have h := HSt.out
              rw [if_pos hpu, if_pos hpv, decide_eq_true hpu, decide_eq_true hpv, bnot_ne, bnot_ne] at h
              show _ = _
              rw [HS.out, h, List.append_assoc]
              rfl
            have Hpre : Hid (pre ++ [⟨min u v, !oddB i, !oddB k⟩] <+: stL (bl s.xs) (bl t.xs) false false) := by show _ <+: _; rw [HN.out]; exact List.prefix_append _ _
            have HN2 : Hid (stL (bl s.xs) (bl t.xs) false false = (pre ++ [⟨min u v, !oddB i, !oddB k⟩]) ++ stL ((bl s.xs).drop (i + 1)) ((bl t.xs).drop (k + 1)) (oddB (i + 1)) (oddB (k + 1))) := by
              show _ = _
              rw [HN.out, show oddB (i + 1) = (!oddB i) by first | rfl | exact oddB_succ _, show oddB (k + 1) = (!oddB k) by first | rfl | exact oddB_succ _]
            generalize min u v = m at *
            clear HS HSt hpu hpv Hu Hv Hm HN
            generalize hoi : oddB i = oi at htd1 hts1 Hpre HN2 ⊢
            generalize hok : oddB k = ok at htd2 hts2 Hpre HN2 ⊢
            have HOI := Lib.hid hoi
            have HOK := Lib.hid hok
            clear hoi hok
            gi_wp2_with fail
            refine ⟨trivial, rfl, (callsIn_wide.2 cA2.out).mono ?_⟩
            rintro e w' ⟨rfl, rfl⟩
            gi_wp2_with fail
            refine ⟨trivial, rfl, (callsIn_wide.2 cB2.out).mono ?_⟩
            rintro e w' ⟨rfl, rfl⟩
            clear cA2 cB2 z1 z2
            obtain ⟨own, hj, hkeep, hdis, hliv, hBs⟩ := HIV.out
            obtain ⟨fn, tmps, assign, body, hyy, hRd⟩ := HY.out own _ ⟨m, !oi, !ok⟩ V hj Hpre.out hdis hliv
            change (Instr.yield l' #[.agg #[.int .i64 m, .bool (!oi), .bool (!ok)]]).run _ _ = _ at hyy
            have Hkeep := Lib.hid hkeep
            have Hdis := Lib.hid hdis
            clear hkeep hdis hj HIV
            gi_wp2_with fail
            refine ⟨rfl, hRd.mono ?_⟩
            rintro e W3 (⟨own', hbs, (⟨rfl, hj3⟩ | ⟨rfl, hjx⟩)⟩ | ⟨ch, rfl, hjp⟩)
            · have hI3 : Hid (ItInv w0 B0 (StatR s t b1 b2) J (pre ++ [⟨m, !oi, !ok⟩]) W3) := ItInv.body hj3 hbs Hal.out Hkeep.out Hdis.out hBs
              clear hyy hRd hbs hj3 htd1 htd2 hts1 hts2
              gi_wp2_with fail
              go_roundw
              case rel => exact ⟨i + 1, k + 1, _, by go_num, by go_num, by omega, by omega, hI3.out, by first | exact HN2 | (rw [HOI.out]; exact HN2) | (rw [HOK.out]; exact HN2)⟩
              case measure => simp [intOf]; omega
            · clear htd1 htd2 hts1 hts2
              gi_wp2_with fail
              refine bodyPost_ret (results_none rfl _ _ _) rfl ?_
              exact .inr (.inl ⟨⟨_, rfl⟩, own', _, Hpre.out, hjx⟩)
            · exact hjp.elim
          · have e2 : (v == min u v) = false := by simpa using hpv
            have HN : Hid (stL (bl s.xs) (bl t.xs) false false = (pre ++ [⟨min u v, !oddB i, oddB k⟩]) ++ stL ((bl s.xs).drop (i + 1)) ((bl t.xs).drop (k)) (!oddB i) (oddB k)) := by
              have h := HSt.out
              rw [if_pos hpu, if_neg hpv, decide_eq_true hpu, decide_eq_false hpv, bnot_ne, bid_ne] at h
              show _ = _
              rw [HS.out, h, List.append_assoc]
              rfl
            have Hpre : Hid (pre ++ [⟨min u v, !oddB i, oddB k⟩] <+: stL (bl s.xs) (bl t.xs) false false) := by show _ <+: _; rw [HN.out]; exact List.prefix_append _ _
            have HN2 : Hid (stL (bl s.xs) (bl t.xs) false false = (pre ++ [⟨min u v, !oddB i, oddB k⟩]) ++ stL ((bl s.xs).drop (i + 1)) ((bl t.xs).drop (k)) (oddB (i + 1)) (oddB (k))) := by
              show _ = _
              rw [HN.out, show oddB (i + 1) = (!oddB i) by first | rfl | exact oddB_succ _, show oddB (k) = (oddB k) by first | rfl | exact oddB_succ _]
            generalize min u v = m at *
            clear HS HSt hpu hpv Hu Hv Hm HN
            generalize hoi : oddB i = oi at htd1 hts1 Hpre HN2 ⊢
            generalize hok : oddB k = ok at htd2 hts2 Hpre HN2 ⊢
            have HOI := Lib.hid hoi
            have HOK := Lib.hid hok
            clear hoi hok
            gi_wp2_with fail
            refine ⟨trivial, rfl, (callsIn_wide.2 cA2.out).mono ?_⟩
            rintro e w' ⟨rfl, rfl⟩
            gi_wp2_with fail
            refine ⟨trivial, rfl, (callsIn_wide.2 cB2.out).mono ?_⟩
            rintro e w' ⟨rfl, rfl⟩
            clear cA2 cB2 z1 z2
            obtain ⟨own, hj, hkeep, hdis, hliv, hBs⟩ := HIV.out
            obtain ⟨fn, tmps, assign, body, hyy, hRd⟩ := HY.out own _ ⟨m, !oi, ok⟩ V hj Hpre.out hdis hliv
            change (Instr.yield l' #[.agg #[.int .i64 m, .bool (!oi), .bool (ok)]]).run _ _ = _ at hyy
            have Hkeep := Lib.hid hkeep
            have Hdis := Lib.hid hdis
            clear hkeep hdis hj HIV
            gi_wp2_with fail
            refine ⟨rfl, hRd.mono ?_⟩
            rintro e W3 (⟨own', hbs, (⟨rfl, hj3⟩ | ⟨rfl, hjx⟩)⟩ | ⟨ch, rfl, hjp⟩)
            · have hI3 : Hid (ItInv w0 B0 (StatR s t b1 b2) J (pre ++ [⟨m, !oi, ok⟩]) W3) := ItInv.body hj3 hbs Hal.out Hkeep.out Hdis.out hBs
              clear hyy hRd hbs hj3 htd1 htd2 hts1 hts2
              gi_wp2_with fail
              go_roundw
              case rel => exact ⟨i + 1, k, _, by go_num, by go_num, by omega, by omega, hI3.out, by first | exact HN2 | (rw [HOI.out]; exact HN2) | (rw [HOK.out]; exact HN2)⟩
              case measure => simp [intOf]; omega
            · clear htd1 htd2 hts1 hts2
              gi_wp2_with fail
              refine bodyPost_ret (results_none rfl _ _ _) rfl ?_
              exact .inr (.inl ⟨⟨_, rfl⟩, own', _, Hpre.out, hjx⟩)
            · exact hjp.elim
        · have e1 : (u == min u v) = false := by simpa using hpu
          have hpv : v = min u v := by omega
          have e2 : (v == min u v) = true := by simpa using hpv
          have hk2 : k + 1 ≤ t.xs.length * 2 := by
            rcases Nat.lt_or_ge k (t.xs.length * 2) with h | h
            · exact h
            · have := Hv.out (by omega); have := Hm.out; omega
          have HN : Hid (stL (bl s.xs) (bl t.xs) false false = (pre ++ [⟨min u v, oddB i, !oddB k⟩]) ++ stL ((bl s.xs).drop (i)) ((bl t.xs).drop (k + 1)) (oddB i) (!oddB k)) := by
            have h := HSt.out
            rw [if_neg hpu, if_pos hpv, decide_eq_false hpu, decide_eq_true hpv, bid_ne, bnot_ne] at h
            show _ = _
            rw [HS.out, h, List.append_assoc]
            rfl
          have Hpre : Hid (pre ++ [⟨min u v, oddB i, !oddB k⟩] <+: stL (bl s.xs) (bl t.xs) false false) := by show _ <+: _; rw [HN.out]; exact List.prefix_append _ _
          have HN2 : Hid (stL (bl s.xs) (bl t.xs) false false = (pre ++ [⟨min u v, oddB i, !oddB k⟩]) ++ stL ((bl s.xs).drop (i)) ((bl t.xs).drop (k + 1)) (oddB (i)) (oddB (k + 1))) := by
            show _ = _
            rw [HN.out, show oddB (i) = (oddB i) by first | rfl | exact oddB_succ _, show oddB (k + 1) = (!oddB k) by first | rfl | exact oddB_succ _]
          generalize min u v = m at *
          clear HS HSt hpu hpv Hu Hv Hm HN
          generalize hoi : oddB i = oi at htd1 hts1 Hpre HN2 ⊢
          generalize hok : oddB k = ok at htd2 hts2 Hpre HN2 ⊢
          have HOI := Lib.hid hoi
          have HOK := Lib.hid hok
          clear hoi hok
          gi_wp2_with fail
          refine ⟨trivial, rfl, (callsIn_wide.2 cA2.out).mono ?_⟩
          rintro e w' ⟨rfl, rfl⟩
          gi_wp2_with fail
          refine ⟨trivial, rfl, (callsIn_wide.2 cB2.out).mono ?_⟩
          rintro e w' ⟨rfl, rfl⟩
          clear cA2 cB2 z1 z2
          obtain ⟨own, hj, hkeep, hdis, hliv, hBs⟩ := HIV.out
          obtain ⟨fn, tmps, assign, body, hyy, hRd⟩ := HY.out own _ ⟨m, oi, !ok⟩ V hj Hpre.out hdis hliv
          change (Instr.yield l' #[.agg #[.int .i64 m, .bool (oi), .bool (!ok)]]).run _ _ = _ at hyy
          have Hkeep := Lib.hid hkeep
          have Hdis := Lib.hid hdis
          clear hkeep hdis hj HIV
          gi_wp2_with fail
          refine ⟨rfl, hRd.mono ?_⟩
          rintro e W3 (⟨own', hbs, (⟨rfl, hj3⟩ | ⟨rfl, hjx⟩)⟩ | ⟨ch, rfl, hjp⟩)
          · have hI3 : Hid (ItInv w0 B0 (StatR s t b1 b2) J (pre ++ [⟨m, oi, !ok⟩]) W3) := ItInv.body hj3 hbs Hal.out Hkeep.out Hdis.out hBs
            clear hyy hRd hbs hj3 htd1 htd2 hts1 hts2
            gi_wp2_with fail
            go_roundw
            case rel => exact ⟨i, k + 1, _, by go_num, by go_num, by omega, by omega, hI3.out, by first | exact HN2 | (rw [HOI.out]; exact HN2) | (rw [HOK.out]; exact HN2)⟩
            case measure => simp [intOf]; omega
          · clear htd1 htd2 hts1 hts2
            gi_wp2_with fail
            refine bodyPost_ret (results_none rfl _ _ _) rfl ?_
            exact .inr (.inl ⟨⟨_, rfl⟩, own', _, Hpre.out, hjx⟩)
          · exact hjp.elim
      · have q1 : decide ((i : Int) < 2 * (s.xs.length : Int)) = false := by simp; omega
        have q2 : decide ((k : Int) < 2 * (t.xs.length : Int)) = true := by simp; omega
        clear hc1 hc2
        gi_wp2_with fail
        apply wpIn_meet (w' := wr.drew)
        · gi_region_with (first | (have hmark := hm1; refine ⟨trivial, rfl, (callsIn_wide.2 (cB.out _ ?_)).mono ?_⟩; (repeat (first | exact Below.refl _ _ | refine ext_drew ?_)); rintro e w2 ⟨rfl, rfl⟩) | (refine ⟨trivial, rfl, (callsIn_wide.2 (cA.out _ ?_)).mono ?_⟩; (repeat (first | exact Below.refl _ _ | refine ext_drew ?_)); rintro e w1 ⟨rfl, rfl⟩; have hm1 : True := trivial))
          all_goals exact ⟨rfl, rfl⟩
        have hbV : Below wr.heap.size wr wr.drew := ext_drew (Below.refl _ _)
        have cA2 := Lib.hid (cA.out _ hbV)
        have cB2 := Lib.hid (cB.out _ hbV)
        have z1 : wr.drew.cell? ⟨b1, 0, none⟩ = some (.slice s.addr s.xs.length s.cap) := y1
        have z2 : wr.drew.cell? ⟨b2, 0, none⟩ = some (.slice t.addr t.xs.length t.cap) := y2
        have HIV := Lib.hid (HI.out.ext HJ.out Hal.out hbV)
        clear cA cB y1 y2 HI q1
        try clear q2
        generalize wr.drew = V at *
        clear hbV
        have htd1 := tmod_odd i
        have htd2 := tmod_odd k
        have hts1 := tmod_odd (i + 1)
        have hts2 := tmod_odd (k + 1)
        rw [oddB_succ] at hts1 hts2
        rw [show ((i + 1 : Nat) : Int) = (i : Int) + 1 by omega] at hts1
        rw [show ((k + 1 : Nat) : Int) = (k : Int) + 1 by omega] at hts2
        by_cases hpu : u = min u v
        · have e1 : (u == min u v) = true := by simpa using hpu
          have hi2 : i + 1 ≤ s.xs.length * 2 := by
            rcases Nat.lt_or_ge i (s.xs.length * 2) with h | h
            · exact h
            · have := Hu.out (by omega); have := Hm.out; omega
          by_cases hpv : v = min u v
          · have e2 : (v == min u v) = true := by simpa using hpv
            have hk2 : k + 1 ≤ t.xs.length * 2 := by
              rcases Nat.lt_or_ge k (t.xs.length * 2) with h | h
              · exact h
              · have := Hv.out (by omega); have := Hm.out; omega
            have HN : Hid (stL (bl s.xs) (bl t.xs) false false = (pre ++ [⟨min u v, !oddB i, !oddB k⟩]) ++ stL ((bl s.xs).drop (i + 1)) ((bl t.xs).drop (k + 1)) (!oddB i) (!oddB k)) := by
              have h := HSt.out
              rw [if_pos hpu, if_pos hpv, decide_eq_true hpu, decide_eq_true hpv, bnot_ne, bnot_ne] at h
              show _ = _
              rw [HS.out, h, List.append_assoc]
              rfl
            have Hpre : Hid (pre ++ [⟨min u v, !oddB i, !oddB k⟩] <+: stL (bl s.xs) (bl t.xs) false false) := by show _ <+: _; rw [HN.out]; exact List.prefix_append _ _
            have HN2 : Hid (stL (bl s.xs) (bl t.xs) false false = (pre ++ [⟨min u v, !oddB i, !oddB k⟩]) ++ stL ((bl s.xs).drop (i + 1)) ((bl t.xs).drop (k + 1)) (oddB (i + 1)) (oddB (k + 1))) := by
              show _ = _
              rw [HN.out, show oddB (i + 1) = (!oddB i) by first | rfl | exact oddB_succ _, show oddB (k + 1) = (!oddB k) by first | rfl | exact oddB_succ _]
            generalize min u v = m at *
            clear HS HSt hpu hpv Hu Hv Hm HN
            generalize hoi : oddB i = oi at htd1 hts1 Hpre HN2 ⊢
            generalize hok : oddB k = ok at htd2 hts2 Hpre HN2 ⊢
            have HOI := Lib.hid hoi
            have HOK := Lib.hid hok
            clear hoi hok
            gi_wp2_with fail
            refine ⟨trivial, rfl, (callsIn_wide.2 cA2.out).mono ?_⟩
            rintro e w' ⟨rfl, rfl⟩
            gi_wp2_with fail
            refine ⟨trivial, rfl, (callsIn_wide.2 cB2.out).mono ?_⟩
            rintro e w' ⟨rfl, rfl⟩
            clear cA2 cB2 z1 z2
            obtain ⟨own, hj, hkeep, hdis, hliv, hBs⟩ := HIV.out
            obtain ⟨fn, tmps, assign, body, hyy, hRd⟩ := HY.out own _ ⟨m, !oi, !ok⟩ V hj Hpre.out hdis hliv
            change (Instr.yield l' #[.agg #[.int .i64 m, .bool (!oi), .bool (!ok)]]).run _ _ = _ at hyy
            have Hkeep := Lib.hid hkeep
            have Hdis := Lib.hid hdis
            clear hkeep hdis hj HIV
            gi_wp2_with fail
            refine ⟨rfl, hRd.mono ?_⟩
            rintro e W3 (⟨own', hbs, (⟨rfl, hj3⟩ | ⟨rfl, hjx⟩)⟩ | ⟨ch, rfl, hjp⟩)
            · have hI3 : Hid (ItInv w0 B0 (StatR s t b1 b2) J (pre ++ [⟨m, !oi, !ok⟩]) W3) := ItInv.body hj3 hbs Hal.out Hkeep.out Hdis.out hBs
              clear hyy hRd hbs hj3 htd1 htd2 hts1 hts2
              gi_wp2_with fail
              go_roundw
              case rel => exact ⟨i + 1, k + 1, _, by go_num, by go_num, by omega, by omega, hI3.out, by first | exact HN2 | (rw [HOI.out]; exact HN2) | (rw [HOK.out]; exact HN2)⟩
              case measure => simp [intOf]; omega
            · clear htd1 htd2 hts1 hts2
              gi_wp2_with fail
              refine bodyPost_ret (results_none rfl _ _ _) rfl ?_
              exact .inr (.inl ⟨⟨_, rfl⟩, own', _, Hpre.out, hjx⟩)
            · exact hjp.elim
          · have e2 : (v == min u v) = false := by simpa using hpv
            have HN : Hid (stL (bl s.xs) (bl t.xs) false false = (pre ++ [⟨min u v, !oddB i, oddB k⟩]) ++ stL ((bl s.xs).drop (i + 1)) ((bl t.xs).drop (k)) (!oddB i) (oddB k)) := by
              have h := HSt.out
              rw [if_pos hpu, if_neg hpv, decide_eq_true hpu, decide_eq_false hpv, bnot_ne, bid_ne] at h
              show _ = _
              rw [HS.out, h, List.append_assoc]
              rfl
            have Hpre : Hid (pre ++ [⟨min u v, !oddB i, oddB k⟩] <+: stL (bl s.xs) (bl t.xs) false false) := by show _ <+: _; rw [HN.out]; exact List.prefix_append _ _
            have HN2 : Hid (stL (bl s.xs) (bl t.xs) false false = (pre ++ [⟨min u v, !oddB i, oddB k⟩]) ++ stL ((bl s.xs).drop (i + 1)) ((bl t.xs).drop (k)) (oddB (i + 1)) (oddB (k))) := by
              show _ = _
              rw [HN.out, show oddB (i + 1) = (!oddB i) by first | rfl | exact oddB_succ _, show oddB (k) = (oddB k) by first | rfl | exact oddB_succ _]
            generalize min u v = m at *
            clear HS HSt hpu hpv Hu Hv Hm HN
            generalize hoi : oddB i = oi at htd1 hts1 Hpre HN2 ⊢
            generalize hok : oddB k = ok at htd2 hts2 Hpre HN2 ⊢
            have HOI := Lib.hid hoi
            have HOK := Lib.hid hok
            clear hoi hok
            gi_wp2_with fail
            refine ⟨trivial, rfl, (callsIn_wide.2 cA2.out).mono ?_⟩
            rintro e w' ⟨rfl, rfl⟩
            gi_wp2_with fail
            refine ⟨trivial, rfl, (callsIn_wide.2 cB2.out).mono ?_⟩
            rintro e w' ⟨rfl, rfl⟩
            clear cA2 cB2 z1 z2
            obtain ⟨own, hj, hkeep, hdis, hliv, hBs⟩ := HIV.out
            obtain ⟨fn, tmps, assign, body, hyy, hRd⟩ := HY.out own _ ⟨m, !oi, ok⟩ V hj Hpre.out hdis hliv
            change (Instr.yield l' #[.agg #[.int .i64 m, .bool (!oi), .bool (ok)]]).run _ _ = _ at hyy
            have Hkeep := Lib.hid hkeep
            have Hdis := Lib.hid hdis
            clear hkeep hdis hj HIV
            gi_wp2_with fail
            refine ⟨rfl, hRd.mono ?_⟩
            rintro e W3 (⟨own', hbs, (⟨rfl, hj3⟩ | ⟨rfl, hjx⟩)⟩ | ⟨ch, rfl, hjp⟩)
            · have hI3 : Hid (ItInv w0 B0 (StatR s t b1 b2) J (pre ++ [⟨m, !oi, ok⟩]) W3) := ItInv.body hj3 hbs Hal.out Hkeep.out Hdis.out hBs
              clear hyy hRd hbs hj3 htd1 htd2 hts1 hts2
              gi_wp2_with fail
              go_roundw
              case rel => exact ⟨i + 1, k, _, by go_num, by go_num, by omega, by omega, hI3.out, by first | exact HN2 | (rw [HOI.out]; exact HN2) | (rw [HOK.out]; exact HN2)⟩
              case measure => simp [intOf]; omega
            · clear htd1 htd2 hts1 hts2
              gi_wp2_with fail
              refine bodyPost_ret (results_none rfl _ _ _) rfl ?_
              exact .inr (.inl ⟨⟨_, rfl⟩, own', _, Hpre.out, hjx⟩)
            · exact hjp.elim
        · have e1 : (u == min u v) = false := by simpa using hpu
          have hpv : v = min u v := by omega
          have e2 : (v == min u v) = true := by simpa using hpv
          have hk2 : k + 1 ≤ t.xs.length * 2 := by
            rcases Nat.lt_or_ge k (t.xs.length * 2) with h | h
            · exact h
            · have := Hv.out (by omega); have := Hm.out; omega
          have HN : Hid (stL (bl s.xs) (bl t.xs) false false = (pre ++ [⟨min u v, oddB i, !oddB k⟩]) ++ stL ((bl s.xs).drop (i)) ((bl t.xs).drop (k + 1)) (oddB i) (!oddB k)) := by
            have h := HSt.out
            rw [if_neg hpu, if_pos hpv, decide_eq_false hpu, decide_eq_true hpv, bid_ne, bnot_ne] at h
            show _ = _
            rw [HS.out, h, List.append_assoc]
            rfl
          have Hpre : Hid (pre ++ [⟨min u v, oddB i, !oddB k⟩] <+: stL (bl s.xs) (bl t.xs) false false) := by show _ <+: _; rw [HN.out]; exact List.prefix_append _ _
          have HN2 : Hid (stL (bl s.xs) (bl t.xs) false false = (pre ++ [⟨min u v, oddB i, !oddB k⟩]) ++ stL ((bl s.xs).drop (i)) ((bl t.xs).drop (k + 1)) (oddB (i)) (oddB (k + 1))) := by
            show _ = _
            rw [HN.out, show oddB (i) = (oddB i) by first | rfl | exact oddB_succ _, show oddB (k + 1) = (!oddB k) by first | rfl | exact oddB_succ _]
          generalize min u v = m at *
          clear HS HSt hpu hpv Hu Hv Hm HN
          generalize hoi : oddB i = oi at htd1 hts1 Hpre HN2 ⊢
          generalize hok : oddB k = ok at htd2 hts2 Hpre HN2 ⊢
          have HOI := Lib.hid hoi
          have HOK := Lib.hid hok
          clear hoi hok
          gi_wp2_with fail
          refine ⟨trivial, rfl, (callsIn_wide.2 cA2.out).mono ?_⟩
          rintro e w' ⟨rfl, rfl⟩
          gi_wp2_with fail
          refine ⟨trivial, rfl, (callsIn_wide.2 cB2.out).mono ?_⟩
          rintro e w' ⟨rfl, rfl⟩
          clear cA2 cB2 z1 z2
          obtain ⟨own, hj, hkeep, hdis, hliv, hBs⟩ := HIV.out
          obtain ⟨fn, tmps, assign, body, hyy, hRd⟩ := HY.out own _ ⟨m, oi, !ok⟩ V hj Hpre.out hdis hliv
          change (Instr.yield l' #[.agg #[.int .i64 m, .bool (oi), .bool (!ok)]]).run _ _ = _ at hyy
          have Hkeep := Lib.hid hkeep
          have Hdis := Lib.hid hdis
          clear hkeep hdis hj HIV
          gi_wp2_with fail
          refine ⟨rfl, hRd.mono ?_⟩
          rintro e W3 (⟨own', hbs, (⟨rfl, hj3⟩ | ⟨rfl, hjx⟩)⟩ | ⟨ch, rfl, hjp⟩)
          · have hI3 : Hid (ItInv w0 B0 (StatR s t b1 b2) J (pre ++ [⟨m, oi, !ok⟩]) W3) := ItInv.body hj3 hbs Hal.out Hkeep.out Hdis.out hBs
            clear hyy hRd hbs hj3 htd1 htd2 hts1 hts2
            gi_wp2_with fail
            go_roundw
            case rel => exact ⟨i, k + 1, _, by go_num, by go_num, by omega, by omega, hI3.out, by first | exact HN2 | (rw [HOI.out]; exact HN2) | (rw [HOK.out]; exact HN2)⟩
            case measure => simp [intOf]; omega
          · clear htd1 htd2 hts1 hts2
            gi_wp2_with fail
            refine bodyPost_ret (results_none rfl _ _ _) rfl ?_
            exact .inr (.inl ⟨⟨_, rfl⟩, own', _, Hpre.out, hjx⟩)
          · exact hjp.elim
end Go.Proofs.Ytmindojbkedmlaa
