/- Laws 39: AuditLater. -/
import Derived.Test.YtccmomebpdiimaaLaw39e
import Derived.Test.YtccmomebpdiimaaM4
namespace Go.Proofs.Ytccmomebpdiimaa
open Go.RowKit Go.Han
attribute [local irreducible] wpStill wpQuiet
set_option maxRecDepth 100000

theorem stepS {w : World} {ops : Array Oper} {o : Oper} {a : Act} {K : Act → World → Prop} {Q : Exit → Act → World → Prop} {E : Prop} (hgd : o.guard = none) (s x : Operand)
    (ho : o.op = .call { callee := .builtin .append, args := #[s, x], argTypes := #[23, 23] })
    (base : Nat) (v : Value) (l : List Sight) (hs : a.eval s = v) (B : Option Addr) (m c : Nat) (ys : List Sight) (hx : a.eval x = .slice B m c) (hm : ys.length = m)
    (hown : OwnS w base v l) (hr : Rd w B (sflat ys)) (hbd : l.length + ys.length ≤ 1030) (hbase : base ≤ w.heap.size)
    (h : ∀ v' w', OwnS w' base v' (l ++ ys) → (∀ W : World, W.heap.size = base → Below W.heap.size W w → Below W.heap.size W w') → w.grownBy w' v.ownBlock → (v'.ownBlock = v.ownBlock ∨ v'.ownBlock = some w.heap.size) → K (a.put o.dst v') w') :
    if Region.wanted o (yielded ops a.tmps) = true then Oper.wp Try.prog o a w K Q else E := by
  obtain ⟨i0, hi0, iz0, is0, ib0⟩ := info_parts info_sight
  subst hm
  refine step_append_rd hgd s x 23 ho base 34 i0 _ 5 40 Try.underlying23 hi0 iz0 is0 ib0 rfl (by decide) v l.length (sflat l) hs B ys.length c (sflat ys) hx hown (sflat_len ys) hr (sflat_one ys) (by unfold maxLen; omega) (by omega) hbase ?_
  intro v' w' h1 h2 h3
  exact h v' w' (OwnS.app h1) (fun W hW hb => hb.grown h2 hb.size (fun k hk => by rw [hW]; exact (World.ownsRow.lt hown k hk).1)) h2 h3
set_option maxHeartbeats 8000000 in
theorem AuditLater_any (A : Option Addr) (c : Nat) (l : List House) (A2 : Option Addr) (c2 : Nat) (s : List Sight) (kn : Int) (x : Sight) (w : World) (h : ArgsA w A l A2 s) :
    Calls Try.prog 7 #[.slice A l.length c, .slice A2 s.length c2, .int .i64 kn, .agg #[.int .i64 x.speaker, .int .i64 x.begun, .int .i64 x.lang, .int .i64 x.frm, .int .i64 x.until_]] w fun e w' => e = .returned (.bool true) ∧ Below w.heap.size w w' := by
  obtain ⟨j0, hj0, jz0, js0, jb0⟩ := info_parts info_house
  obtain ⟨W, hW, hB, hb, _⟩ := sig_new x w
  have cS := Lib.hid (sane39_any W)
  have cFew := Lib.hid (fun (w1 : World) => few_any A c l.length A2 c2 s.length w1)
  have H := Lib.hid (h.ext hB)
  have HB := Lib.hid hB
  have hm2 := h.hm2
  have hbx := Lib.hid hb
  have HX : Hid (∀ W', Below W.heap.size W W' → W'.heap[w.heap.size]? = some (.cells #[.int .i64 x.speaker, .int .i64 x.begun, .int .i64 x.lang, .int .i64 x.frm, .int .i64 x.until_] 34 (0, 0))) := fun W' h => (h.block _ (lt_block hb)).trans hb
  clear h hB hb
  cases hf : (fewHB l.length && fewSB s.length)
  · rw [hf] at cFew
    clear hf hj0 jz0 js0 jb0
    go_enter Try.func7, Try.ntmps7
    go_wp2_with fail
    refine cS.out.mono ?_
    rintro e w1 ⟨rfl, hb1⟩
    go_wp2_with fail
    refine (cFew.out w1).mono ?_
    rintro e w' ⟨rfl, rfl⟩
    go_wp2_with fail
    go_ret
    exact ⟨rfl, ext_trans HB.out hb1⟩
  rw [hf] at cFew
  have hfl : fewHB l.length = true ∧ fewSB s.length = true := by simpa using hf
  clear hf
  obtain ⟨ra, ru, rn, rf, hR⟩ : ∃ a u n f, findR l s kn = (a, u, n, f) := ⟨_, _, _, _, rfl⟩
  by_cases hae : audE l s kn = 0
  · have cF := Lib.hid (fun (W' : World) (hW : Below W.heap.size W W') => find_is c c2 (H.out.ext hW) hR hae)
    obtain ⟨hchk, hsl, hso, k0, k1⟩ := audE_ok hae
    obtain ⟨hl24, hasc⟩ := hchk_ok hchk
    have Hae := Lib.hid hae
    have HR := Lib.hid hR
    have hrr := H.out.hr
    have hs20 : s.length ≤ 20 := by have := hfl.2; unfold fewSB at this; simp at this; omega
    clear hchk hsl hso hasc hae hR hfl
    go_enter Try.func7, Try.ntmps7
    go_wp2_with fail
    refine cS.out.mono ?_
    rintro e w1 ⟨rfl, hb1⟩
    go_wp2_with fail
    refine (cFew.out w1).mono ?_
    rintro e w' ⟨rfl, rfl⟩
    go_wp2_with fail
    refine (cF.out w1 hb1).mono ?_
    rintro e w2 ⟨rfl, hb2⟩
    have hB2 := ext_trans hb1 hb2
    have hz2 := hB2.size
    clear cS cFew cF hb1 hb2
    go_wp2_with fail
    go_loopw [14, 15] (fun v i wr => ∃ k : Nat, k ≤ l.length ∧ i = .int .i64 k ∧ OwnH wr w2.heap.size v ((l.take k).filter (keepB kn)) ∧ Below w2.heap.size w2 wr) (fun _ i _ => l.length - (intOf i).toNat)
    case atStart => exact ⟨0, Nat.zero_le _, rfl, by simpa using OwnL.nil House.cells _ _ _ _, Below.refl _ _⟩
    case round =>
      obtain ⟨k, hk, rfl, hown, hBr⟩ := hrel
      by_cases hlt : k < l.length
      · obtain ⟨b, off, rfl, hb, hc⟩ := hou_elem hrr hlt
        have hBw := ext_trans hB2 hBr
        obtain ⟨d0, d1, d2, d3, d4, d5, d6, d7, d8, d9⟩ := hc wr hBw
        have hft := filter_take_succ (keepB kn) l k hlt
        have hlen2 : ((l.take k).filter (keepB kn)).length ≤ 1024 := Nat.le_trans (List.length_filter_le _ _) (by rw [List.length_take]; omega)
        generalize l[k] = y at *
        have Hft := Lib.hid hft
        have Hown := Lib.hid hown
        clear hft hc hown
        by_cases hkn : y.known ≤ kn
        · have HN : Hid ((l.take (k + 1)).filter (keepB kn) = (l.take k).filter (keepB kn) ++ [y]) := by show _ = _; rw [Hft.out, show keepB kn y = true by unfold keepB; simp [hkn]]; simp
          have ho := Hown.out
          generalize (l.take k).filter (keepB kn) = el at *
          obtain ⟨A1, A2⟩ := hou_room hlen2
          have hz1 := hBr.size
          clear Hown Hft
          go_wp2_with (at_builtin; refine wpList_append_rd rfl _ _ 22 rfl w2.heap.size 38 j0 _ 10 80 Try.underlying22 hj0 jz0 js0 jb0 rfl (by decide) _ _ _ rfl (some ⟨wr.heap.size, 0, none⟩) 1 1 y.cells rfl (ho.ext (ext_alloc (Below.refl wr.heap.size wr) _)) rfl (grd_blk (World.alloc_heap_new wr _) rfl) (house_one y) A1 A2 (Nat.le_trans hz1 (by simp)) ?_; intro v5 w5 hown5 hgrow5 _)
          have hB5 : Below w2.heap.size w2 w5 := (ext_trans hBr (ext_alloc (Below.refl wr.heap.size wr) _)).grown hgrow5 (Nat.le_trans hz1 (by simp)) (fun k hk => (ho.lt k hk).1)
          have hs5 := OwnL.snoc (f := House.cells) y hown5
          clear hown5 hgrow5
          go_wp2_with fail
          go_roundw
          case rel => exact ⟨k + 1, by omega, by go_num, by rw [HN.out]; exact hs5, hB5⟩
          case measure => simp [intOf]; omega
        · have HN : Hid ((l.take (k + 1)).filter (keepB kn) = (l.take k).filter (keepB kn)) := by show _ = _; rw [Hft.out, show keepB kn y = false by unfold keepB; simp [hkn]]; simp
          have g2 : decide (y.known ≤ kn) = false := decide_eq_false hkn
          clear hkn
          go_wp2_with fail
          go_roundw
          case rel => exact ⟨k + 1, by omega, by go_num, by rw [HN.out]; exact Hown.out, hBr⟩
          case measure => simp [intOf]; omega
      · obtain rfl : k = l.length := by omega
        rw [List.take_length] at hown
        obtain ⟨A9, c9, e9, hrd9, _⟩ := OwnL.form (l := keepL l kn) (by omega) hown
        obtain rfl := e9
        have hBw := ext_trans hB2 hBr
        have HA := Lib.hid (H.out.ext hBw)
        have hkl : (keepL l kn).length ≤ 9223372036854775807 := Nat.le_trans (List.length_filter_le _ _) HA.out.hm
        have cF2 := Lib.hid (find_is c9 c2 ⟨hrd9, hkl, HA.out.hs, HA.out.hm2⟩ ((findR_keep Hae.out).trans HR.out) (audE_keep Hae.out))
        have HBw := Lib.hid hBw
        clear hown hrd9 hBr hBw hkl
        go_wp2_with fail
        refine cF2.out.mono ?_
        rintro e w3 ⟨rfl, hb3⟩
        have hB3 := ext_trans HBw.out hb3
        have hx3 := HX.out w3 hB3
        obtain ⟨x0, x1, x2, x3, x4⟩ := sig_at hx3
        clear cF2 hb3
        go_wp2_with fail
        refine (right39_any x w3).mono ?_
        rintro e w4 ⟨rfl, hb4⟩
        have hB4 := ext_trans hB3 hb4
        have hx4 := HX.out w4 hB4
        obtain ⟨y0, y1, y2, y3, y4⟩ := sig_at hx4
        clear hb4 hx3 x0 x1 x2 x3 x4
        cases hok : x.ok
        · go_wp2_with fail
          go_ret
          exact ⟨rfl, ext_trans HB.out hB4⟩
        by_cases hsl : s.length < 20
        · have q0 : decide (20 ≤ (s.length : Int)) = false := by simp; omega
          have hxo := Sight.ok_iff.1 hok
          have ha1 := audE_one Hae.out hxo
          have has := audE_snoc Hae.out hxo hsl
          have HS1 := Lib.hid (fun hn => findR_snoc Hae.out hxo hsl hn)
          obtain ⟨oa, ou, on', of', hO⟩ : ∃ a u n f, findR l [x] kn = (a, u, n, f) := ⟨_, _, _, _, rfl⟩
          go_wp2_with fail
          have hbA := ext_alloc (Below.refl w4.heap.size w4) (Obj.cells #[.int .i64 x.speaker, .int .i64 x.begun, .int .i64 x.lang, .int .i64 x.frm, .int .i64 x.until_] 34)
          have hrdA : Rd (w4.alloc (Obj.cells #[.int .i64 x.speaker, .int .i64 x.begun, .int .i64 x.lang, .int .i64 x.frm, .int .i64 x.until_] 34)) (some ⟨w4.heap.size, 0, none⟩) (sflat [x]) := grd_blk (World.alloc_heap_new w4 _) rfl
          have hHA := H.out.ext (ext_trans hB4 hbA)
          have hcA := find_is c 1 (s := [x]) ⟨hHA.hr, hHA.hm, hrdA, by simp⟩ hO ha1
          rw [List.length_singleton] at hcA
          have HO := Lib.hid hO
          refine hcA.mono ?_
          rintro e w5 ⟨rfl, hb5⟩
          have hB5 := ext_trans hB4 (ext_trans hbA hb5)
          have hx5 := HX.out w5 hB5
          have HX5 : Hid (∀ W', Below w5.heap.size w5 W' → W'.heap[w.heap.size]? = some (.cells #[.int .i64 x.speaker, .int .i64 x.begun, .int .i64 x.lang, .int .i64 x.frm, .int .i64 x.until_] 34 (0, 0))) := fun W' h => (h.block _ (lt_block hx5)).trans hx5
          obtain ⟨z0, z1, z2, z3, z4⟩ := sig_at hx5
          have hnlt : w.heap.size < w5.heap.size := lt_block hx5
          have hnne : w.heap.size ≠ w5.heap.size := by omega
          have HS5 : Hid (Rd w5 A2 (sflat s)) := (H.out.ext hB5).hs
          clear y0 y1 y2 y3 y4 hcA hrdA hbA hHA hb5 hx4 hO
          cases of'
          · have hR5 := HS1.out (by rw [HO.out])
            have HF3 : Hid (∀ (W' : World) (V : Value), Below w5.heap.size w5 W' → OwnS W' w5.heap.size V (s ++ [x]) → ∃ A6 c6, V = .slice A6 (s.length + 1) c6 ∧ ∀ W'' : World, Below W'.heap.size W' W'' →
                Calls Try.prog 13 #[.slice A l.length c, .slice A6 (s.length + 1) c6, .int .i64 kn] W'' fun e w' => e = .returned (.tuple #[.int .i64 ra, .int .i64 ru, .int .i64 rn, .bool rf, .int .i64 0]) ∧ Below w5.heap.size w5 w') := fun W' V hb ho => by
              obtain ⟨A6, c6, rfl, hr6, _⟩ := OwnL.form (by decide) ho
              have hln : (s ++ [x]).length = s.length + 1 := by simp
              rw [hln]
              refine ⟨A6, c6, rfl, fun W'' hb' => ?_⟩
              have hh := H.out.ext (ext_trans hB5 (ext_trans hb hb'))
              have h := find_is c c6 (s := s ++ [x]) ⟨hh.hr, hh.hm, hr6.ext hb', by rw [hln]; omega⟩ (hR5.trans HR.out) has
              rw [hln] at h
              exact h.mono fun e w' ⟨h1, h2⟩ => ⟨h1, ext_trans (ext_trans hb hb') h2⟩
            have hb1 : ([] : List Sight).length + s.length ≤ 1030 := by simp; omega
            have hb2 : s.length + [x].length ≤ 1030 := by simp; omega
            have HB5 := Lib.hid (ext_trans HB.out hB5)
            clear hR5 HS1 hx5 has ha1 HO
            go_wp2_with fail
            go_region_law ((first | (refine stepS rfl (.tmp 131) (.tmp 132) rfl w5.heap.size (.slice (some ⟨w5.heap.size, 0, none⟩) 0 0) [] rfl _ _ _ s rfl rfl (own_empty (by first | exact World.alloc_heap_new _ _ | exact (Below.heap_alloc _ _ _ (by simp)).trans (World.alloc_heap_new _ _)) (by simp)) (HS5.out.ext (by repeat (first | exact Below.refl _ _ | refine ext_drew ?_ | refine ext_alloc ?_ _))) hb1 (by first | (simp; done) | (simp; omega)) ?_; intro v1 w6 o1 e1 g1 a1; have B1 := e1 w5 rfl (by repeat (first | exact Below.refl _ _ | refine ext_drew ?_ | refine ext_alloc ?_ _)); have hxw := HX5.out w6 B1; obtain ⟨y0, y1, y2, y3, y4⟩ := sig_at hxw; have X1 : Rd w6 (some ⟨w5.heap.size + 1, 0, none⟩) (sflat [x]) := grd_grown (by exact grd_blk (galloc_at _ _ _ (by simp)) rfl) g1 (fun a h => by cases h; simp [Value.ownBlock])) | (refine stepS rfl (.tmp 131) (.tmp 132) rfl w5.heap.size (.slice (some ⟨w5.heap.size + 1, 0, none⟩) 0 0) [] rfl _ _ _ s rfl rfl (own_empty (by exact galloc_at _ _ _ (by simp)) (by simp)) (HS5.out.ext (by repeat (first | exact Below.refl _ _ | refine ext_drew ?_ | refine ext_alloc ?_ _))) hb1 (by first | (simp; done) | (simp; omega)) ?_; intro v1 w6 o1 e1 g1 a1; have B1 := e1 w5 rfl (by repeat (first | exact Below.refl _ _ | refine ext_drew ?_ | refine ext_alloc ?_ _)); have hxw := HX5.out w6 B1; obtain ⟨y0, y1, y2, y3, y4⟩ := sig_at hxw; have X1 : Rd w6 (some ⟨w5.heap.size, 0, none⟩) (sflat [x]) := grd_grown (by exact grd_blk ((Below.heap_alloc _ _ _ (by simp)).trans (World.alloc_heap_new _ _)) rfl) g1 (fun a h => by cases h; simp [Value.ownBlock])) | (refine stepS rfl (.tmp 131) (.tmp 132) rfl w5.heap.size (.slice (some ⟨w5.heap.size, 0, none⟩) 0 0) [] rfl _ _ _ s rfl rfl (own_empty (by first | exact World.alloc_heap_new _ _ | exact (Below.heap_alloc _ _ _ (by simp)).trans (World.alloc_heap_new _ _)) (by simp)) (HS5.out.ext (by repeat (first | exact Below.refl _ _ | refine ext_drew ?_ | refine ext_alloc ?_ _))) hb1 (by first | (simp; done) | (simp; omega)) ?_; intro v1 w6 o1 e1 g1 a1; have B1 := e1 w5 rfl (by repeat (first | exact Below.refl _ _ | refine ext_drew ?_ | refine ext_alloc ?_ _)); have hxw := HX5.out w6 B1; obtain ⟨y0, y1, y2, y3, y4⟩ := sig_at hxw) | (refine stepS rfl (.tmp 133) (.tmp 135) rfl w5.heap.size v1 s rfl _ _ _ [x] rfl rfl o1 X1 hb2 B1.size ?_; intro v2 w7 o2 e2 g2 a2; have B2 := e2 w5 rfl B1; obtain ⟨A6, c6, rfl, cF3⟩ := HF3.out w7 v2 B2 o2) | (refine stepS rfl (.tmp 133) (.tmp 135) rfl w5.heap.size v1 s rfl _ _ _ [x] rfl rfl (o1.ext (by repeat (first | exact Below.refl _ _ | refine ext_drew ?_ | refine ext_alloc ?_ _))) (grd_new rfl) hb2 (by have := B1.size; first | omega | (simp; omega)) ?_; intro v2 w7 o2 e2 g2 a2; have B2 := e2 w5 rfl (ext_trans B1 (by repeat (first | exact Below.refl _ _ | refine ext_drew ?_ | refine ext_alloc ?_ _))); obtain ⟨A6, c6, rfl, cF3⟩ := HF3.out w7 v2 B2 o2) | (go_simp; refine (cF3 _ (by first | exact Below.refl _ _ | exact ext_drew (Below.refl _ _))).mono ?_; rintro e w8 ⟨rfl, hb8⟩)))
            all_goals
              go_wp2
              go_ret
              exact ⟨rfl, ext_trans HB5.out (by assumption)⟩
          · go_wp2_with fail
            go_ret
            exact ⟨rfl, ext_trans HB.out hB5⟩
        · have q0 : decide (20 ≤ (s.length : Int)) = true := by simp; omega
          go_wp2_with fail
          go_ret
          exact ⟨rfl, ext_trans HB.out hB4⟩
  · have hne : (audE l s kn != 0) = true := by simpa using hae
    have hR0 : findR l s kn = (0, 0, 0, false) := by unfold findR; rw [if_neg hae]
    have cF := Lib.hid (fun (W' : World) (hW : Below W.heap.size W W') => find_is c c2 (H.out.ext hW) hR0 (rfl : audE l s kn = _))
    generalize audE l s kn = ae at *
    clear hR0 hR hae hj0 jz0 js0 jb0
    go_enter Try.func7, Try.ntmps7
    go_wp2_with fail
    refine cS.out.mono ?_
    rintro e w1 ⟨rfl, hb1⟩
    go_wp2_with fail
    refine (cFew.out w1).mono ?_
    rintro e w' ⟨rfl, rfl⟩
    go_wp2_with fail
    refine (cF.out w1 hb1).mono ?_
    rintro e w2 ⟨rfl, hb2⟩
    go_wp2_with fail
    go_ret
    exact ⟨rfl, ext_trans HB.out (ext_trans hb1 hb2)⟩
end Go.Proofs.Ytccmomebpdiimaa
