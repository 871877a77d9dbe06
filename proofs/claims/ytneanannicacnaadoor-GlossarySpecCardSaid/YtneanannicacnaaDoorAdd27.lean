/- The reference's Add of terms. -/
import Derived.Test.YtneanannicacnaaDoorLaw27p
import Derived.Test.YtneanannicacnaaDoorStep
import Derived.BigQuiet
import Derived.Deep.DeepCutAuto
import Derived.Deep.CutBlock
namespace Go.Proofs.YtneanannicacnaaDoor
open Go.RowKit Go.Han
attribute [local irreducible] wpStill wpQuiet
attribute [local go_sem] Oper.semAt_some
attribute [local go_sem ↓] Go.wp_at_zero Go.wp_at_succ
set_option maxRecDepth 100000

theorem run_upto_t (A : Option Addr) (cp n k : Nat) (W : World) (h : k ≤ n) (hc : n ≤ cp) :
    (Instr.slice 48 (.slice A n cp) none (some (.int .i64 k)) none).run Tryd.prog W = .ok (.slice (subA A cp 0 8) k cp) W := by
  have e := run_slice_h (P := Tryd.prog) (w := W) 48 A n cp (by rw [Tryd.underlying48]; rfl) .i64 (k : Int) (by omega) (by omega)
  rw [e]
  have h2 : ((k : Int)).toNat = k := by omega
  rw [h2]
  have h3 : (Go.sizeOf (Tryd.prog.elem 48)).run Tryd.prog W = .ok 8 W := by kernel_rfl
  rw [h3]
  rfl
theorem run_from_t (A : Option Addr) (cp n k : Nat) (W : World) (h : k ≤ n) :
    (Instr.slice 48 (.slice A n cp) (some (.int .i64 k)) none none).run Tryd.prog W = .ok (.slice (subA A cp k 8) (n - k) (cp - k)) W := by
  have e := run_slice_l (P := Tryd.prog) (w := W) 48 A n cp (by rw [Tryd.underlying48]; rfl) .i64 (k : Int) (by omega) (by omega)
  rw [e]
  have h2 : ((k : Int)).toNat = k := by omega
  rw [h2]
  have h3 : (Go.sizeOf (Tryd.prog.elem 48)).run Tryd.prog W = .ok 8 W := by kernel_rfl
  rw [h3]
  rfl
theorem stepT {w : World} {ops : Array Oper} {o : Oper} {a : Act} {K : Act → World → Prop} {Q : Exit → Act → World → Prop} {E : Prop} (hgd : o.guard = none) (s x : Operand)
    (ho : o.op = .call { callee := .builtin .append, args := #[s, x], argTypes := #[48, 48] })
    (base : Nat) (v : Value) (l : List Term) (hs : a.eval s = v) (B : Option Addr) (m c : Nat) (ys : List Term) (hx : a.eval x = .slice B m c) (hm : ys.length = m)
    (hown : OwnT w base v l) (hr : Rd w B (tflat ys)) (hbd : l.length + ys.length ≤ 1030) (hbase : base ≤ w.heap.size)
    (h : ∀ v' w', OwnT w' base v' (l ++ ys) → (∀ W : World, W.heap.size = base → Below W.heap.size W w → Below W.heap.size W w') → w.grownBy w' v.ownBlock → (v'.ownBlock = v.ownBlock ∨ v'.ownBlock = some w.heap.size) → K (a.put o.dst v') w') :
    if Region.wanted o (yielded ops a.tmps) = true then Oper.wp Tryd.prog o a w K Q else E := by
  obtain ⟨i0, z0, hi0, iz0, is0, ib0, izs⟩ := parts_term
  subst hm
  refine step_append_rd hgd s x 48 ho base 51 i0 z0 8 104 Tryd.underlying48 hi0 iz0 is0 ib0 izs (by decide) v l.length (l.flatMap Term.cells) hs B ys.length c (tflat ys) hx hown (tflat_length ys) hr (tflat_one ys) (by unfold maxLen; omega) (by omega) hbase ?_
  intro v' w' h1 h2 h3
  refine h v' w' ?_ (fun W hW hb => hb.grown h2 hb.size (fun k hk => by rw [hW]; exact (hown.lt k hk).1)) h2 h3
  unfold OwnT OwnL
  rw [List.length_append, List.flatMap_append]
  exact h1
theorem TermsAt.cut2 {w : World} {A : Option Addr} {l : List Term} (h : TermsAt w A l) {cp i n : Nat} (hin : i + n ≤ l.length) (hcp : l.length ≤ cp) : TermsAt w (subA A cp i 8) ((l.drop i).take n) :=
  ⟨h.rd.cut (by omega) Term.size_cells hin hcp, fun x hx => h.lie x (List.mem_of_mem_drop (List.mem_of_mem_take hx))⟩
theorem has_cut {l : List Term} (hs : l.Pairwise (fun a b => a.no < b.no)) {n : Int} {k : Nat} (hk : k ≤ l.length) (hlo : ∀ y ∈ l.take k, y.no < n) (hhi : ∀ h : k < l.length, n ≤ l[k].no) : CutT n l k := by
  refine ⟨hk, fun t h ht => hlo _ ?_, fun t h ht => ?_⟩
  · rw [List.mem_take_iff_getElem]; exact ⟨t, by omega, rfl⟩
  · have h1 := hhi (by omega)
    rcases Nat.eq_or_lt_of_le ht with h2 | h2
    · subst h2; exact h1
    · have := List.pairwise_iff_getElem.1 hs k t (by omega) h h2; omega

set_option maxHeartbeats 8000000 in
theorem Add27_any (A : Option Addr) (cp : Nat) (l : List Term) (x : Term) (w : World) (hr : TermsAt w A l) (hx : x.lies w) (hcp : l.length ≤ cp) (hcm : cp ≤ 9223372036854775807) :
    Calls Tryd.prog 33 #[.slice A l.length cp, .agg #[.int .i64 x.no, .int .i64 x.at_, .int .i64 x.known, .int .i64 x.lang, .slice x.src.addr x.src.xs.length x.src.cap, .slice x.tgt.addr x.tgt.xs.length x.tgt.cap, .string x.cat, .bool x.gone]] w (AddPost l x w) := by
  have HE : Hid (addE l x = if checkT l ≠ 0 then checkT l else if x.ok = false then 270 else if hasT x.no l = true then 181 else if l.length = 1024 then 2 else 0) := rfl
  obtain ⟨w0, hw0⟩ : ∃ w0, w.alloc (.cells #[.int .i64 x.no, .int .i64 x.at_, .int .i64 x.known, .int .i64 x.lang, .slice x.src.addr x.src.xs.length x.src.cap, .slice x.tgt.addr x.tgt.xs.length x.tgt.cap, .string x.cat, .bool x.gone] 51) = w0 := ⟨_, rfl⟩
  have hB0 : Below w.heap.size w w0 := by rw [← hw0]; exact ext_alloc (Below.refl _ _) _
  have hx0 : w0.heap[w.heap.size]? = some (.cells #[.int .i64 x.no, .int .i64 x.at_, .int .i64 x.known, .int .i64 x.lang, .slice x.src.addr x.src.xs.length x.src.cap, .slice x.tgt.addr x.tgt.xs.length x.tgt.cap, .string x.cat, .bool x.gone] 51 (0, 0)) := by rw [← hw0]; exact World.alloc_heap_new _ _
  have HB0 : Hid (∀ W, Below w0.heap.size w0 W → Below w.heap.size w W) := fun W h => ext_trans hB0 h
  have Hr := Lib.hid (hr.ext hB0)
  have Hx := Lib.hid (hx.ext hB0)
  have Hx0 := Lib.hid hx0
  clear hr hx
  go_enter Tryd.func33, Tryd.ntmps33
  go_wp2_with fail
  refine (check27_any A cp l w0 Hr.out (by omega)).mono ?_
  rintro e w1 ⟨rfl, hb1⟩
  by_cases hc : checkT l ≠ 0
  · have h1 : addE l x = checkT l := by rw [HE.out, if_pos hc]
    have n1 : (checkT l == 0) = false := by simpa using hc
    have n2 : (checkT l != 0) = true := by simpa using hc
    have HF := Lib.hid (And.intro hc h1)
    clear hc h1
    go_wp2_with fail
    go_ret2
    exact ⟨HB0.out _ hb1, .inl ⟨by rw [HF.out.2]; exact HF.out.1, by rw [HF.out.2]; rfl⟩⟩
  have hz := Decidable.not_not.1 hc
  obtain ⟨hl1, hok, hsrt⟩ := checkT_zero hz
  have HE2 : Hid (addE l x = if x.ok = false then 270 else if hasT x.no l = true then 181 else if l.length = 1024 then 2 else 0) := by show _ = _; rw [HE.out, if_neg hc]
  have Hsrt := Lib.hid hsrt
  rw [hz]
  have hx1 := (hb1.block _ (lt_block hx0)).trans hx0
  have b0 := gblk hx1 0
  have b1 := gblk hx1 1
  have b2 := gblk hx1 2
  have b3 := gblk hx1 3
  have b4 := gblk hx1 4
  have b5 := gblk hx1 5
  have b6 := gblk hx1 6
  have b7 := gblk hx1 7
  obtain ⟨ok, hk⟩ : ∃ ok, x.ok = ok := ⟨_, rfl⟩
  have cR := rightT27_at x w1 (Hx.out.ext hb1)
  rw [hk] at cR HE2
  have CR := Lib.hid cR
  have HB1 := Lib.hid hb1
  clear HE hc hz hok hsrt hk cR hx1 hb1
  go_wp2_with fail
  refine CR.out.mono ?_
  rintro e w2 ⟨rfl, hb2⟩
  have HB2 := Lib.hid (ext_trans HB1.out hb2)
  clear hb2 CR b0 b1 b2 b3 b4 b5 b6 b7
  cases ok
  · have h1 : addE l x = 270 := HE2.out
    have HF := Lib.hid h1
    clear h1
    go_wp2_with fail
    go_ret2
    exact ⟨HB0.out _ HB2.out, .inl ⟨by rw [HF.out]; decide, by rw [HF.out]; rfl⟩⟩
  have HE3 : Hid (addE l x = if hasT x.no l = true then 181 else if l.length = 1024 then 2 else 0) := HE2.out
  clear HE2
  go_upto_block 0 with fail
  go_cut [7] (fun i wx => ∃ k : Nat, i = .int .i64 k ∧ Hid (CutT x.no l k) ∧ Below w2.heap.size w2 wx)
  case first =>
    go_wp2_with fail
    go_loopw [7] (fun i wr => ∃ k : Nat, k ≤ l.length ∧ i = .int .i64 k ∧ Hid (∀ y ∈ l.take k, y.no < x.no) ∧ Below w2.heap.size w2 wr) (fun i _ => l.length - (intOf i).toNat)
    case atStart => exact ⟨0, Nat.zero_le _, rfl, by intro y hy; simp at hy, Below.refl _ _⟩
    case round =>
      obtain ⟨k, hk, rfl, hlo, hB⟩ := hrel
      have hxr := ((ext_trans HB2.out hB).block _ (lt_block hx0)).trans hx0
      have b0 := gblk hxr 0
      have hnw := lt_block hxr
      have c0 := fun p => cell_ext (w := wr) (a := ⟨w.heap.size, 0, none⟩) hnw b0 p
      clear hxr b0
      by_cases hlt : k < l.length
      · have hlt2 : (k : Int) < (l.length : Int) := by omega
        obtain ⟨b', off, rfl, hb, hcl⟩ := Hr.out.at_ hlt
        obtain ⟨d0, _⟩ := hcl k hlt wr (ext_trans HB2.out hB)
        have hbw : b' < wr.heap.size := Nat.lt_of_lt_of_le hb (ext_trans HB2.out hB).size
        have htk : ∀ y ∈ l.take (k + 1), y ∈ l.take k ∨ y = l[k] := by
          intro y hy
          rw [List.take_succ_eq_append_getElem hlt] at hy
          rcases List.mem_append.1 hy with h | h
          · exact .inl h
          · exact .inr (List.mem_singleton.1 h)
        have hcut := fun (hh : x.no ≤ l[k].no) => has_cut Hsrt.out (n := x.no) hk hlo.out (fun _ => hh)
        have Htk := Lib.hid htk
        have Hcut := Lib.hid hcut
        clear hcl htk hcut
        generalize l[k] = y at *
        have f0 := fun p => cell_ext (w := wr) (a := ⟨b', off + k * 8, none⟩) hbw d0 p
        clear d0
        by_cases hlo2 : y.no < x.no
        · have HN : Hid (∀ z ∈ l.take (k + 1), z.no < x.no) := by
            intro z hz
            rcases Htk.out z hz with h | rfl
            · exact hlo.out z h
            · exact hlo2
          go_wp2_with fail
          refine wp_region_ext (by kernel_rfl) (by kernel_rfl) ?_
          repeat (go_big_quiet_step (fail))
          refine wpQuiet_nil ?_
          intro _ hw'
          obtain ⟨p, rfl⟩ := hw'
          go_wp2
          go_roundw
          case rel => exact ⟨k + 1, by omega, by go_num, HN, ext_trans hB p.ext⟩
          case measure => simp [intOf]; omega
        · have HC := Lib.hid (Hcut.out (by omega))
          go_wp2_with fail
          refine wp_region_ext (by kernel_rfl) (by kernel_rfl) ?_
          repeat (go_big_quiet_step (fail))
          refine wpQuiet_nil ?_
          intro _ hw'
          obtain ⟨p, rfl⟩ := hw'
          go_wp2
          go_meet
          case rel => exact ⟨k, rfl, HC, ext_trans hB p.ext⟩
      · obtain rfl : k = l.length := by omega
        have HC : Hid (CutT x.no l l.length) := has_cut Hsrt.out hk hlo.out (fun h => absurd h (by omega))
        have g1 : ¬ (l.length : Int) < (l.length : Int) := by omega
        go_wp2_with fail
        refine wp_region_ext (by kernel_rfl) (by kernel_rfl) ?_
        repeat (go_big_quiet_step (fail))
        refine wpQuiet_nil ?_
        intro _ hw'
        obtain ⟨p, rfl⟩ := hw'
        go_wp2
        go_meet
        case rel => exact ⟨_, rfl, HC, ext_trans hB p.ext⟩
  case rest =>
    obtain ⟨k, rfl, hct, hBc⟩ := hcut
    have hk := hct.out.le
    have hpos := cutT_pos hct.out
    have hhas := headT_has hct.out ((ascT_iff l).2 Hsrt.out)
    have HBc := Lib.hid (ext_trans HB2.out hBc)
    have hxr := (HBc.out.block _ (lt_block hx0)).trans hx0
    have hnw := lt_block hxr
    have b0 := gblk hxr 0
    have c0 := fun p => cell_ext (w := wc) (a := ⟨w.heap.size, 0, none⟩) hnw b0 p
    have Hxr := Lib.hid hxr
    have HPos := Lib.hid hpos
    clear hct hpos hBc hxr b0
    go_upto_region 9 with fail
    go_cut [45] (fun q wx => q = .bool (hasT x.no l) ∧ Below wc.heap.size wc wx)
    case first =>
      by_cases hlt : k < l.length
      · have hlt2 : (k : Int) < (l.length : Int) := by omega
        obtain ⟨b', off, rfl, hb, hcl⟩ := Hr.out.at_ hlt
        obtain ⟨d0, _⟩ := hcl k hlt wc HBc.out
        have hbw : b' < wc.heap.size := Nat.lt_of_lt_of_le hb HBc.out.size
        have hhd : headT x.no l k = (l[k].no == x.no) := by unfold headT; rw [List.getElem?_eq_getElem hlt]
        rw [hhas] at hhd
        clear hcl hhas
        generalize l[k] = y at *
        have Hhd := Lib.hid hhd
        have f0 := fun p => cell_ext (w := wc) (a := ⟨b', off + k * 8, none⟩) hbw d0 p
        clear d0 hhd
        go_wp2_with fail
        refine wp_region_ext (by kernel_rfl) (by kernel_rfl) ?_
        repeat (go_big_quiet_step (fail))
        refine wpQuiet_nil ?_
        intro _ hw'
        obtain ⟨p, rfl⟩ := hw'
        go_wp2
        go_meet
        case rel => exact ⟨by rw [Hhd.out], p.ext⟩
      · have hhd : headT x.no l k = false := by unfold headT; rw [List.getElem?_eq_none (by omega)]
        rw [hhas] at hhd
        have g1 : ¬ (k : Int) < (l.length : Int) := by omega
        have Hhd := Lib.hid hhd
        clear hhas hhd
        go_wp2_with fail
        refine wp_region_ext (by kernel_rfl) (by kernel_rfl) ?_
        repeat (go_big_quiet_step (fail))
        refine wpQuiet_nil ?_
        intro _ hw'
        obtain ⟨p, rfl⟩ := hw'
        go_wp2
        go_meet
        case rel => exact ⟨by rw [Hhd.out], p.ext⟩
    case rest =>
      obtain ⟨rfl, hBd⟩ := hcut
      clear hhas c0
      obtain ⟨qh, hqh⟩ : ∃ qh, hasT x.no l = qh := ⟨_, rfl⟩
      rw [hqh] at HE3 ⊢
      have HBd := Lib.hid (ext_trans HBc.out hBd)
      have Hxd := Lib.hid ((hBd.block _ hnw).trans Hxr.out)
      clear hqh hBd hnw
      cases qh
      · by_cases hfull : l.length = 1024
        · have h1 : addE l x = 2 := by rw [HE3.out, if_pos hfull]; rfl
          have HF := Lib.hid h1
          have g1 : ((l.length : Int) == 1024) = true := by rw [hfull]; rfl
          clear h1 hfull
          go_wp2_with fail
          go_ret2
          exact ⟨HB0.out _ HBd.out, .inl ⟨by rw [HF.out]; decide, by rw [HF.out]; rfl⟩⟩
        · have h1 : addE l x = 0 := by rw [HE3.out, if_neg hfull]; rfl
          have HF := Lib.hid h1
          have g1 : ((l.length : Int) == 1024) = false := by simp; omega
          clear h1 hfull
          have hup := fun W => run_upto_t A cp l.length k W hk hcp
          have hfr := fun W => run_from_t A cp l.length k W hk
          have hxd := Hxd.out
          have b0 := gblk hxd 0
          have b1 := gblk hxd 1
          have b2 := gblk hxd 2
          have b3 := gblk hxd 3
          have b4 := gblk hxd 4
          have b5 := gblk hxd 5
          have b6 := gblk hxd 6
          have b7 := gblk hxd 7
          go_wp2_with fail
          have hnlt : w.heap.size < wc.heap.size := lt_block hxd
          have hnne : w.heap.size ≠ wc.heap.size := by omega
          have hlk : (l.take k).length = k := by rw [List.length_take]; omega
          have hld : (l.drop k).length = l.length - k := List.length_drop ..
          have HS := Hr.out.ext HBd.out
          have HS1 : TermsAt wc (subA A cp 0 8) (l.take k) := by have h := HS.cut2 (cp := cp) (i := 0) (n := k) (by omega) hcp; rw [List.drop_zero] at h; exact h
          have HS2 : TermsAt wc (subA A cp k 8) (l.drop k) := by have h := HS.cut2 (cp := cp) (i := k) (n := l.length - k) (by omega) hcp; rw [List.take_of_length_le (by omega)] at h; exact h
          have hb1 : ([] : List Term).length + (l.take k).length ≤ 1030 := by rw [hlk]; simp; omega
          have hb2 : (l.take k).length + [x].length ≤ 1030 := by rw [hlk]; simp; omega
          have hb3 : (l.take k ++ [x]).length + (l.drop k).length ≤ 1030 := by rw [List.length_append, hlk, hld]; simp; omega
          go_region_law ((first | (refine stepT rfl (.tmp 49) (.tmp 52) rfl wc.heap.size (.slice (some ⟨wc.heap.size, 0, none⟩) 0 0) [] rfl _ _ _ (l.take k) rfl hlk (own_empty (by first | exact World.alloc_heap_new _ _ | exact (Below.heap_alloc _ _ _ (by simp)).trans (World.alloc_heap_new _ _)) (by simp)) (HS1.ext (by repeat (first | exact Below.refl _ _ | refine ext_drew ?_ | refine ext_alloc ?_ _))).rd hb1 (by first | (simp; done) | (simp; omega)) ?_; intro v1 w1 o1 e1 g1 a1; have B1 := e1 wc rfl (by repeat (first | exact Below.refl _ _ | refine ext_drew ?_ | refine ext_alloc ?_ _)); have hxw := (B1.block _ (lt_block hxd)).trans hxd; have y0 := gblk hxw 0; have y1 := gblk hxw 1; have y2 := gblk hxw 2; have y3 := gblk hxw 3; have y4 := gblk hxw 4; have y5 := gblk hxw 5; have y6 := gblk hxw 6; have y7 := gblk hxw 7; have X1 : Rd w1 (some ⟨wc.heap.size + 1, 0, none⟩) x.cells := grd_grown (by exact grd_blk (galloc_at _ _ _ (by simp)) rfl) g1 (fun a h => by cases h; simp [Value.ownBlock])) | (refine stepT rfl (.tmp 49) (.tmp 52) rfl wc.heap.size (.slice (some ⟨wc.heap.size + 1, 0, none⟩) 0 0) [] rfl _ _ _ (l.take k) rfl hlk (own_empty (by exact galloc_at _ _ _ (by simp)) (by simp)) (HS1.ext (by repeat (first | exact Below.refl _ _ | refine ext_drew ?_ | refine ext_alloc ?_ _))).rd hb1 (by first | (simp; done) | (simp; omega)) ?_; intro v1 w1 o1 e1 g1 a1; have B1 := e1 wc rfl (by repeat (first | exact Below.refl _ _ | refine ext_drew ?_ | refine ext_alloc ?_ _)); have hxw := (B1.block _ (lt_block hxd)).trans hxd; have y0 := gblk hxw 0; have y1 := gblk hxw 1; have y2 := gblk hxw 2; have y3 := gblk hxw 3; have y4 := gblk hxw 4; have y5 := gblk hxw 5; have y6 := gblk hxw 6; have y7 := gblk hxw 7; have X1 : Rd w1 (some ⟨wc.heap.size, 0, none⟩) x.cells := grd_grown (by exact grd_blk ((Below.heap_alloc _ _ _ (by simp)).trans (World.alloc_heap_new _ _)) rfl) g1 (fun a h => by cases h; simp [Value.ownBlock])) | (refine stepT rfl (.tmp 49) (.tmp 52) rfl wc.heap.size (.slice (some ⟨wc.heap.size, 0, none⟩) 0 0) [] rfl _ _ _ (l.take k) rfl hlk (own_empty (by first | exact World.alloc_heap_new _ _ | exact (Below.heap_alloc _ _ _ (by simp)).trans (World.alloc_heap_new _ _)) (by simp)) (HS1.ext (by repeat (first | exact Below.refl _ _ | refine ext_drew ?_ | refine ext_alloc ?_ _))).rd hb1 (by first | (simp; done) | (simp; omega)) ?_; intro v1 w1 o1 e1 g1 a1; have B1 := e1 wc rfl (by repeat (first | exact Below.refl _ _ | refine ext_drew ?_ | refine ext_alloc ?_ _)); have hxw := (B1.block _ (lt_block hxd)).trans hxd; have y0 := gblk hxw 0; have y1 := gblk hxw 1; have y2 := gblk hxw 2; have y3 := gblk hxw 3; have y4 := gblk hxw 4; have y5 := gblk hxw 5; have y6 := gblk hxw 6; have y7 := gblk hxw 7) | (refine stepT rfl (.tmp 53) (.tmp 55) rfl wc.heap.size v1 (l.take k) rfl _ _ _ [x] rfl rfl o1 X1 hb2 B1.size ?_; intro v2 w2 o2 e2 g2 a2; have B2 := e2 wc rfl B1) | (refine stepT rfl (.tmp 53) (.tmp 55) rfl wc.heap.size v1 (l.take k) rfl _ _ _ [x] rfl rfl (o1.ext (by repeat (first | exact Below.refl _ _ | refine ext_drew ?_ | refine ext_alloc ?_ _))) (grd_new rfl) hb2 (by have := B1.size; first | omega | (simp; omega)) ?_; intro v2 w2 o2 e2 g2 a2; have B2 := e2 wc rfl (ext_trans B1 (by repeat (first | exact Below.refl _ _ | refine ext_drew ?_ | refine ext_alloc ?_ _)))) | (refine stepT rfl (.tmp 56) (.tmp 59) rfl wc.heap.size v2 (l.take k ++ [x]) rfl _ _ _ (l.drop k) rfl hld o2 (HS2.ext B2).rd hb3 B2.size ?_; intro v3 w3 o3 e3 g3 a3; have B3 := e3 wc rfl B2)))
          all_goals
            have o4 : OwnT w3 wc.heap.size v3 (addL l x) := by
              have e : addL l x = l.take k ++ [x] ++ l.drop k := by unfold addL; rw [← HPos.out]; simp
              rw [e]; exact o3
            obtain ⟨A3, c3, rfl, hrd, hn⟩ := OwnL.form (by omega) o4
            have HB3 := Lib.hid (ext_trans HBd.out B3)
            have HT : Hid (TermsAt w3 A3 (addL l x)) := ⟨hrd, fun y hy => by
              rcases mem_addL.1 hy with rfl | h
              · exact Hx.out.ext HB3.out
              · exact (Hr.out.ext HB3.out).lie y h⟩
            have HN := Lib.hid hn
            clear hn hrd o1 o2 o3 o4
            go_wp2
            go_ret2
            exact ⟨HB0.out _ HB3.out, .inr ⟨HF.out, A3, c3, rfl, HT.out, HN.out⟩⟩
      · have h1 : addE l x = 181 := by rw [HE3.out]; rfl
        have HF := Lib.hid h1
        clear h1
        go_wp2_with fail
        go_ret2
        exact ⟨HB0.out _ HBd.out, .inl ⟨by rw [HF.out]; decide, by rw [HF.out]; rfl⟩⟩
end Go.Proofs.YtneanannicacnaaDoor
