/- Texts of this claim, one after the other: Add27, TouF, DifA, Law34s, Law34a, Law34b, Opg1, Opg2. -/
import Derived.Test.YtmindojbkedmlaaDoorM6
import Derived.Test.YtmindojbkedmlaaDoorM4
import Derived.Test.YtmindojbkedmlaaDoorM5
import Derived.Test.YtmindojbkedmlaaDoorTie
import Derived.BigQuiet
import Derived.Deep.DeepCutAuto
import Derived.Deep.CutBlock
import Derived.OwnWalk
import Derived.Lib.LaidU8T
import Derived.PinnedBridge
import Derived.OpenVars
import Derived.Deep.Slices
import Derived.Deep.Fields
import Derived.Lib.SmallJoins
import Derived.ProofKit
import Derived.LaidMore
import Derived.OpenShut
import Derived.Lay
import Derived.Stop.Joined
import Derived.Below
import Derived.ChangeSame
import Derived.Carry
/- The reference's Add of terms. -/
namespace Go.Proofs.YtmindojbkedmlaaDoor
open Go.RowKit Go.Han
attribute [local irreducible] wpStill wpQuiet
attribute [local go_sem] Oper.semAt_some
attribute [local go_sem ↓] Go.wp_at_zero Go.wp_at_succ
set_option maxRecDepth 100000

theorem run_upto_t (A : Option Addr) (cp n k : Nat) (W : World) (h : k ≤ n) (hc : n ≤ cp) :
    (Instr.slice 22 (.slice A n cp) none (some (.int .i64 k)) none).run Tryd.prog W = .ok (.slice (subA A cp 0 8) k cp) W := by
  have e := run_slice_h (P := Tryd.prog) (w := W) 22 A n cp (by rw [Tryd.underlying22]; rfl) .i64 (k : Int) (by omega) (by omega)
  rw [e]
  have h2 : ((k : Int)).toNat = k := by omega
  rw [h2]
  have h3 : (Go.sizeOf (Tryd.prog.elem 22)).run Tryd.prog W = .ok 8 W := by kernel_rfl
  rw [h3]
  rfl
theorem run_from_t (A : Option Addr) (cp n k : Nat) (W : World) (h : k ≤ n) :
    (Instr.slice 22 (.slice A n cp) (some (.int .i64 k)) none none).run Tryd.prog W = .ok (.slice (subA A cp k 8) (n - k) (cp - k)) W := by
  have e := run_slice_l (P := Tryd.prog) (w := W) 22 A n cp (by rw [Tryd.underlying22]; rfl) .i64 (k : Int) (by omega) (by omega)
  rw [e]
  have h2 : ((k : Int)).toNat = k := by omega
  rw [h2]
  have h3 : (Go.sizeOf (Tryd.prog.elem 22)).run Tryd.prog W = .ok 8 W := by kernel_rfl
  rw [h3]
  rfl
theorem stepT {w : World} {ops : Array Oper} {o : Oper} {a : Act} {K : Act → World → Prop} {Q : Exit → Act → World → Prop} {E : Prop} (hgd : o.guard = none) (s x : Operand)
    (ho : o.op = .call { callee := .builtin .append, args := #[s, x], argTypes := #[22, 22] })
    (base : Nat) (v : Value) (l : List Term) (hs : a.eval s = v) (B : Option Addr) (m c : Nat) (ys : List Term) (hx : a.eval x = .slice B m c) (hm : ys.length = m)
    (hown : OwnT w base v l) (hr : Rd w B (tflat ys)) (hbd : l.length + ys.length ≤ 1030) (hbase : base ≤ w.heap.size)
    (h : ∀ v' w', OwnT w' base v' (l ++ ys) → (∀ W : World, W.heap.size = base → Below W.heap.size W w → Below W.heap.size W w') → w.grownBy w' v.ownBlock → (v'.ownBlock = v.ownBlock ∨ v'.ownBlock = some w.heap.size) → K (a.put o.dst v') w') :
    if Region.wanted o (yielded ops a.tmps) = true then Oper.wp Tryd.prog o a w K Q else E := by
  obtain ⟨i0, z0, hi0, iz0, is0, ib0, izs⟩ := parts_term
  subst hm
  refine step_append_rd hgd s x 22 ho base 25 i0 z0 8 104 Tryd.underlying22 hi0 iz0 is0 ib0 izs (by decide) v l.length (l.flatMap Term.cells) hs B ys.length c (tflat ys) hx hown (tflat_length ys) hr (tflat_one ys) (by unfold maxLen; omega) (by omega) hbase ?_
  intro v' w' h1 h2 h3
  refine h v' w' ?_ (fun W hW hb => hb.grown h2 hb.size (fun k hk => by rw [hW]; exact (hown.lt k hk).1)) h2 h3
  unfold OwnT OwnL
  rw [List.length_append, List.flatMap_append]
  exact h1
theorem TermsAt.cut2 {w : World} {A : Option Addr} {l : List Term} (h : TermsAt w A l) {cp i n : Nat} (hin : i + n ≤ l.length) (hcp : l.length ≤ cp) : TermsAt w (subA A cp i 8) ((l.drop i).take n) :=
  ⟨h.rd.cut (by omega) Term.size_cells hin hcp, fun x hx => h.lie x (List.mem_of_mem_drop (List.mem_of_mem_take hx))⟩
theorem has_cut {l : List Term} (hs : l.Pairwise (fun a b => a.no < b.no)) {n : Int} {k : Nat} (hk : k ≤ l.length) (hlo : ∀ y ∈ l.take k, y.no < n) (hhi : ∀ h : k < l.length, n ≤ l[k].no) : CutT n l k := by
  refine ⟨hk, fun t h ht => hlo _ ?_, fun t h ht => ?_⟩
  · rw [List.mem_take_iff_getElem]; exact ⟨t, by omega, rfl⟩
  · have h1 := hhi (by omega)
    rcases Nat.eq_or_lt_of_le ht with h2 | h2
    · subst h2; exact h1
    · have := List.pairwise_iff_getElem.1 hs k t (by omega) h h2; omega

set_option maxHeartbeats 8000000 in
theorem Add27_any (A : Option Addr) (cp : Nat) (l : List Term) (x : Term) (w : World) (hr : TermsAt w A l) (hx : x.lies w) (hcp : l.length ≤ cp) (hcm : cp ≤ 9223372036854775807) :
    Calls Tryd.prog 27 #[.slice A l.length cp, .agg #[.int .i64 x.no, .int .i64 x.at_, .int .i64 x.known, .int .i64 x.lang, .slice x.src.addr x.src.xs.length x.src.cap, .slice x.tgt.addr x.tgt.xs.length x.tgt.cap, .string x.cat, .bool x.gone]] w (AddPost l x w) := by
  have HE : Hid (addE l x = if checkT l ≠ 0 then checkT l else if x.ok = false then 270 else if hasT x.no l = true then 181 else if l.length = 1024 then 2 else 0) := rfl
  obtain ⟨w0, hw0⟩ : ∃ w0, w.alloc (.cells #[.int .i64 x.no, .int .i64 x.at_, .int .i64 x.known, .int .i64 x.lang, .slice x.src.addr x.src.xs.length x.src.cap, .slice x.tgt.addr x.tgt.xs.length x.tgt.cap, .string x.cat, .bool x.gone] 25) = w0 := ⟨_, rfl⟩
  have hB0 : Below w.heap.size w w0 := by rw [← hw0]; exact ext_alloc (Below.refl _ _) _
  have hx0 : w0.heap[w.heap.size]? = some (.cells #[.int .i64 x.no, .int .i64 x.at_, .int .i64 x.known, .int .i64 x.lang, .slice x.src.addr x.src.xs.length x.src.cap, .slice x.tgt.addr x.tgt.xs.length x.tgt.cap, .string x.cat, .bool x.gone] 25 (0, 0)) := by rw [← hw0]; exact World.alloc_heap_new _ _
  have HB0 : Hid (∀ W, Below w0.heap.size w0 W → Below w.heap.size w W) := fun W h => ext_trans hB0 h
  have Hr := Lib.hid (hr.ext hB0)
  have Hx := Lib.hid (hx.ext hB0)
  have Hx0 := Lib.hid hx0
  clear hr hx
  go_enter Tryd.func27, Tryd.ntmps27
  go_wp2_with fail
  refine (check27_any A cp l w0 Hr.out (by omega)).mono ?_
  rintro e w1 ⟨rfl, hb1⟩
  by_cases hc : checkT l ≠ 0
  · have h1 : addE l x = checkT l := by rw [HE.out, if_pos hc]
    have n1 : (checkT l == 0) = false := by simpa using hc
    have n2 : (checkT l != 0) = true := by simpa using hc
    have HF := Lib.hid (And.intro hc h1)
    clear hc h1
    go_wp2_with fail
    go_ret2
    exact ⟨HB0.out _ hb1, .inl ⟨by rw [HF.out.2]; exact HF.out.1, by rw [HF.out.2]; rfl⟩⟩
  have hz := Decidable.not_not.1 hc
  obtain ⟨hl1, hok, hsrt⟩ := checkT_zero hz
  have HE2 : Hid (addE l x = if x.ok = false then 270 else if hasT x.no l = true then 181 else if l.length = 1024 then 2 else 0) := by show _ = _; rw [HE.out, if_neg hc]
  have Hsrt := Lib.hid hsrt
  rw [hz]
  have hx1 := (hb1.block _ (lt_block hx0)).trans hx0
  have b0 := gblk hx1 0
  have b1 := gblk hx1 1
  have b2 := gblk hx1 2
  have b3 := gblk hx1 3
  have b4 := gblk hx1 4
  have b5 := gblk hx1 5
  have b6 := gblk hx1 6
  have b7 := gblk hx1 7
  obtain ⟨ok, hk⟩ : ∃ ok, x.ok = ok := ⟨_, rfl⟩
  have cR := rightT27_at x w1 (Hx.out.ext hb1)
  rw [hk] at cR HE2
  have CR := Lib.hid cR
  have HB1 := Lib.hid hb1
  clear HE hc hz hok hsrt hk cR hx1 hb1
  go_wp2_with fail
  refine CR.out.mono ?_
  rintro e w2 ⟨rfl, hb2⟩
  have HB2 := Lib.hid (ext_trans HB1.out hb2)
  clear hb2 CR b0 b1 b2 b3 b4 b5 b6 b7
  cases ok
  · have h1 : addE l x = 270 := HE2.out
    have HF := Lib.hid h1
    clear h1
    go_wp2_with fail
    go_ret2
    exact ⟨HB0.out _ HB2.out, .inl ⟨by rw [HF.out]; decide, by rw [HF.out]; rfl⟩⟩
  have HE3 : Hid (addE l x = if hasT x.no l = true then 181 else if l.length = 1024 then 2 else 0) := HE2.out
  clear HE2
  go_upto_block 0 with fail
  go_cut [7] (fun i wx => ∃ k : Nat, i = .int .i64 k ∧ Hid (CutT x.no l k) ∧ Below w2.heap.size w2 wx)
  case first =>
    go_wp2_with fail
    go_loopw [7] (fun i wr => ∃ k : Nat, k ≤ l.length ∧ i = .int .i64 k ∧ Hid (∀ y ∈ l.take k, y.no < x.no) ∧ Below w2.heap.size w2 wr) (fun i _ => l.length - (intOf i).toNat)
    case atStart => exact ⟨0, Nat.zero_le _, rfl, by intro y hy; simp at hy, Below.refl _ _⟩
    case round =>
      obtain ⟨k, hk, rfl, hlo, hB⟩ := hrel
      have hxr := ((ext_trans HB2.out hB).block _ (lt_block hx0)).trans hx0
      have b0 := gblk hxr 0
      have hnw := lt_block hxr
      have c0 := fun p => cell_ext (w := wr) (a := ⟨w.heap.size, 0, none⟩) hnw b0 p
      clear hxr b0
      by_cases hlt : k < l.length
      · have hlt2 : (k : Int) < (l.length : Int) := by omega
        obtain ⟨b', off, rfl, hb, hcl⟩ := Hr.out.at_ hlt
        obtain ⟨d0, _⟩ := hcl k hlt wr (ext_trans HB2.out hB)
        have hbw : b' < wr.heap.size := Nat.lt_of_lt_of_le hb (ext_trans HB2.out hB).size
        have htk : ∀ y ∈ l.take (k + 1), y ∈ l.take k ∨ y = l[k] := by
          intro y hy
          rw [List.take_succ_eq_append_getElem hlt] at hy
          rcases List.mem_append.1 hy with h | h
          · exact .inl h
          · exact .inr (List.mem_singleton.1 h)
        have hcut := fun (hh : x.no ≤ l[k].no) => has_cut Hsrt.out (n := x.no) hk hlo.out (fun _ => hh)
        have Htk := Lib.hid htk
        have Hcut := Lib.hid hcut
        clear hcl htk hcut
        generalize l[k] = y at *
        have f0 := fun p => cell_ext (w := wr) (a := ⟨b', off + k * 8, none⟩) hbw d0 p
        clear d0
        by_cases hlo2 : y.no < x.no
        · have HN : Hid (∀ z ∈ l.take (k + 1), z.no < x.no) := by
            intro z hz
            rcases Htk.out z hz with h | rfl
            · exact hlo.out z h
            · exact hlo2
          go_wp2_with fail
          refine wp_region_ext (by kernel_rfl) (by kernel_rfl) ?_
          repeat (go_big_quiet_step (fail))
          refine wpQuiet_nil ?_
          intro _ hw'
          obtain ⟨p, rfl⟩ := hw'
          go_wp2
          go_roundw
          case rel => exact ⟨k + 1, by omega, by go_num, HN, ext_trans hB p.ext⟩
          case measure => simp [intOf]; omega
        · have HC := Lib.hid (Hcut.out (by omega))
          go_wp2_with fail
          refine wp_region_ext (by kernel_rfl) (by kernel_rfl) ?_
          repeat (go_big_quiet_step (fail))
          refine wpQuiet_nil ?_
          intro _ hw'
          obtain ⟨p, rfl⟩ := hw'
          go_wp2
          go_meet
          case rel => exact ⟨k, rfl, HC, ext_trans hB p.ext⟩
      · obtain rfl : k = l.length := by omega
        have HC : Hid (CutT x.no l l.length) := has_cut Hsrt.out hk hlo.out (fun h => absurd h (by omega))
        have g1 : ¬ (l.length : Int) < (l.length : Int) := by omega
        go_wp2_with fail
        refine wp_region_ext (by kernel_rfl) (by kernel_rfl) ?_
        repeat (go_big_quiet_step (fail))
        refine wpQuiet_nil ?_
        intro _ hw'
        obtain ⟨p, rfl⟩ := hw'
        go_wp2
        go_meet
        case rel => exact ⟨_, rfl, HC, ext_trans hB p.ext⟩
  case rest =>
    obtain ⟨k, rfl, hct, hBc⟩ := hcut
    have hk := hct.out.le
    have hpos := cutT_pos hct.out
    have hhas := headT_has hct.out ((ascT_iff l).2 Hsrt.out)
    have HBc := Lib.hid (ext_trans HB2.out hBc)
    have hxr := (HBc.out.block _ (lt_block hx0)).trans hx0
    have hnw := lt_block hxr
    have b0 := gblk hxr 0
    have c0 := fun p => cell_ext (w := wc) (a := ⟨w.heap.size, 0, none⟩) hnw b0 p
    have Hxr := Lib.hid hxr
    have HPos := Lib.hid hpos
    clear hct hpos hBc hxr b0
    go_upto_region 9 with fail
    go_cut [45] (fun q wx => q = .bool (hasT x.no l) ∧ Below wc.heap.size wc wx)
    case first =>
      by_cases hlt : k < l.length
      · have hlt2 : (k : Int) < (l.length : Int) := by omega
        obtain ⟨b', off, rfl, hb, hcl⟩ := Hr.out.at_ hlt
        obtain ⟨d0, _⟩ := hcl k hlt wc HBc.out
        have hbw : b' < wc.heap.size := Nat.lt_of_lt_of_le hb HBc.out.size
        have hhd : headT x.no l k = (l[k].no == x.no) := by unfold headT; rw [List.getElem?_eq_getElem hlt]
        rw [hhas] at hhd
        clear hcl hhas
        generalize l[k] = y at *
        have Hhd := Lib.hid hhd
        have f0 := fun p => cell_ext (w := wc) (a := ⟨b', off + k * 8, none⟩) hbw d0 p
        clear d0 hhd
        go_wp2_with fail
        refine wp_region_ext (by kernel_rfl) (by kernel_rfl) ?_
        repeat (go_big_quiet_step (fail))
        refine wpQuiet_nil ?_
        intro _ hw'
        obtain ⟨p, rfl⟩ := hw'
        go_wp2
        go_meet
        case rel => exact ⟨by rw [Hhd.out], p.ext⟩
      · have hhd : headT x.no l k = false := by unfold headT; rw [List.getElem?_eq_none (by omega)]
        rw [hhas] at hhd
        have g1 : ¬ (k : Int) < (l.length : Int) := by omega
        have Hhd := Lib.hid hhd
        clear hhas hhd
        go_wp2_with fail
        refine wp_region_ext (by kernel_rfl) (by kernel_rfl) ?_
        repeat (go_big_quiet_step (fail))
        refine wpQuiet_nil ?_
        intro _ hw'
        obtain ⟨p, rfl⟩ := hw'
        go_wp2
        go_meet
        case rel => exact ⟨by rw [Hhd.out], p.ext⟩
    case rest =>
      obtain ⟨rfl, hBd⟩ := hcut
      clear hhas c0
      obtain ⟨qh, hqh⟩ : ∃ qh, hasT x.no l = qh := ⟨_, rfl⟩
      rw [hqh] at HE3 ⊢
      have HBd := Lib.hid (ext_trans HBc.out hBd)
      have Hxd := Lib.hid ((hBd.block _ hnw).trans Hxr.out)
      clear hqh hBd hnw
      cases qh
      · by_cases hfull : l.length = 1024
        · have h1 : addE l x = 2 := by rw [HE3.out, if_pos hfull]; rfl
          have HF := Lib.hid h1
          have g1 : ((l.length : Int) == 1024) = true := by rw [hfull]; rfl
          clear h1 hfull
          go_wp2_with fail
          go_ret2
          exact ⟨HB0.out _ HBd.out, .inl ⟨by rw [HF.out]; decide, by rw [HF.out]; rfl⟩⟩
        · have h1 : addE l x = 0 := by rw [HE3.out, if_neg hfull]; rfl
          have HF := Lib.hid h1
          have g1 : ((l.length : Int) == 1024) = false := by simp; omega
          clear h1 hfull
          have hup := fun W => run_upto_t A cp l.length k W hk hcp
          have hfr := fun W => run_from_t A cp l.length k W hk
          have hxd := Hxd.out
          have b0 := gblk hxd 0
          have b1 := gblk hxd 1
          have b2 := gblk hxd 2
          have b3 := gblk hxd 3
          have b4 := gblk hxd 4
          have b5 := gblk hxd 5
          have b6 := gblk hxd 6
          have b7 := gblk hxd 7
          go_wp2_with fail
          have hnlt : w.heap.size < wc.heap.size := lt_block hxd
          have hnne : w.heap.size ≠ wc.heap.size := by omega
          have hlk : (l.take k).length = k := by rw [List.length_take]; omega
          have hld : (l.drop k).length = l.length - k := List.length_drop ..
          have HS := Hr.out.ext HBd.out
          have HS1 : TermsAt wc (subA A cp 0 8) (l.take k) := by have h := HS.cut2 (cp := cp) (i := 0) (n := k) (by omega) hcp; rw [List.drop_zero] at h; exact h
          have HS2 : TermsAt wc (subA A cp k 8) (l.drop k) := by have h := HS.cut2 (cp := cp) (i := k) (n := l.length - k) (by omega) hcp; rw [List.take_of_length_le (by omega)] at h; exact h
          have hb1 : ([] : List Term).length + (l.take k).length ≤ 1030 := by rw [hlk]; simp; omega
          have hb2 : (l.take k).length + [x].length ≤ 1030 := by rw [hlk]; simp; omega
          have hb3 : (l.take k ++ [x]).length + (l.drop k).length ≤ 1030 := by rw [List.length_append, hlk, hld]; simp; omega
          go_region_law ((first | (refine stepT rfl (.tmp 49) (.tmp 52) rfl wc.heap.size (.slice (some ⟨wc.heap.size, 0, none⟩) 0 0) [] rfl _ _ _ (l.take k) rfl hlk (own_empty (by first | exact World.alloc_heap_new _ _ | exact (Below.heap_alloc _ _ _ (by simp)).trans (World.alloc_heap_new _ _)) (by simp)) (HS1.ext (by repeat (first | exact Below.refl _ _ | refine ext_drew ?_ | refine ext_alloc ?_ _))).rd hb1 (by first | (simp; done) | (simp; omega)) ?_; intro v1 w1 o1 e1 g1 a1; have B1 := e1 wc rfl (by repeat (first | exact Below.refl _ _ | refine ext_drew ?_ | refine ext_alloc ?_ _)); have hxw := (B1.block _ (lt_block hxd)).trans hxd; have y0 := gblk hxw 0; have y1 := gblk hxw 1; have y2 := gblk hxw 2; have y3 := gblk hxw 3; have y4 := gblk hxw 4; have y5 := gblk hxw 5; have y6 := gblk hxw 6; have y7 := gblk hxw 7; have X1 : Rd w1 (some ⟨wc.heap.size + 1, 0, none⟩) x.cells := grd_grown (by exact grd_blk (galloc_at _ _ _ (by simp)) rfl) g1 (fun a h => by cases h; simp [Value.ownBlock])) | (refine stepT rfl (.tmp 49) (.tmp 52) rfl wc.heap.size (.slice (some ⟨wc.heap.size + 1, 0, none⟩) 0 0) [] rfl _ _ _ (l.take k) rfl hlk (own_empty (by exact galloc_at _ _ _ (by simp)) (by simp)) (HS1.ext (by repeat (first | exact Below.refl _ _ | refine ext_drew ?_ | refine ext_alloc ?_ _))).rd hb1 (by first | (simp; done) | (simp; omega)) ?_; intro v1 w1 o1 e1 g1 a1; have B1 := e1 wc rfl (by repeat (first | exact Below.refl _ _ | refine ext_drew ?_ | refine ext_alloc ?_ _)); have hxw := (B1.block _ (lt_block hxd)).trans hxd; have y0 := gblk hxw 0; have y1 := gblk hxw 1; have y2 := gblk hxw 2; have y3 := gblk hxw 3; have y4 := gblk hxw 4; have y5 := gblk hxw 5; have y6 := gblk hxw 6; have y7 := gblk hxw 7; have X1 : Rd w1 (some ⟨wc.heap.size, 0, none⟩) x.cells := grd_grown (by exact grd_blk ((Below.heap_alloc _ _ _ (by simp)).trans (World.alloc_heap_new _ _)) rfl) g1 (fun a h => by cases h; simp [Value.ownBlock])) | (refine stepT rfl (.tmp 49) (.tmp 52) rfl wc.heap.size (.slice (some ⟨wc.heap.size, 0, none⟩) 0 0) [] rfl _ _ _ (l.take k) rfl hlk (own_empty (by first | exact World.alloc_heap_new _ _ | exact (Below.heap_alloc _ _ _ (by simp)).trans (World.alloc_heap_new _ _)) (by simp)) (HS1.ext (by repeat (first | exact Below.refl _ _ | refine ext_drew ?_ | refine ext_alloc ?_ _))).rd hb1 (by first | (simp; done) | (simp; omega)) ?_; intro v1 w1 o1 e1 g1 a1; have B1 := e1 wc rfl (by repeat (first | exact Below.refl _ _ | refine ext_drew ?_ | refine ext_alloc ?_ _)); have hxw := (B1.block _ (lt_block hxd)).trans hxd; have y0 := gblk hxw 0; have y1 := gblk hxw 1; have y2 := gblk hxw 2; have y3 := gblk hxw 3; have y4 := gblk hxw 4; have y5 := gblk hxw 5; have y6 := gblk hxw 6; have y7 := gblk hxw 7) | (refine stepT rfl (.tmp 53) (.tmp 55) rfl wc.heap.size v1 (l.take k) rfl _ _ _ [x] rfl rfl o1 X1 hb2 B1.size ?_; intro v2 w2 o2 e2 g2 a2; have B2 := e2 wc rfl B1) | (refine stepT rfl (.tmp 53) (.tmp 55) rfl wc.heap.size v1 (l.take k) rfl _ _ _ [x] rfl rfl (o1.ext (by repeat (first | exact Below.refl _ _ | refine ext_drew ?_ | refine ext_alloc ?_ _))) (grd_new rfl) hb2 (by have := B1.size; first | omega | (simp; omega)) ?_; intro v2 w2 o2 e2 g2 a2; have B2 := e2 wc rfl (ext_trans B1 (by repeat (first | exact Below.refl _ _ | refine ext_drew ?_ | refine ext_alloc ?_ _)))) | (refine stepT rfl (.tmp 56) (.tmp 59) rfl wc.heap.size v2 (l.take k ++ [x]) rfl _ _ _ (l.drop k) rfl hld o2 (HS2.ext B2).rd hb3 B2.size ?_; intro v3 w3 o3 e3 g3 a3; have B3 := e3 wc rfl B2)))
          all_goals
            have o4 : OwnT w3 wc.heap.size v3 (addL l x) := by
              have e : addL l x = l.take k ++ [x] ++ l.drop k := by unfold addL; rw [← HPos.out]; simp
              rw [e]; exact o3
            obtain ⟨A3, c3, rfl, hrd, hn⟩ := OwnL.form (by omega) o4
            have HB3 := Lib.hid (ext_trans HBd.out B3)
            have HT : Hid (TermsAt w3 A3 (addL l x)) := ⟨hrd, fun y hy => by
              rcases mem_addL.1 hy with rfl | h
              · exact Hx.out.ext HB3.out
              · exact (Hr.out.ext HB3.out).lie y h⟩
            have HN := Lib.hid hn
            clear hn hrd o1 o2 o3 o4
            go_wp2
            go_ret2
            exact ⟨HB0.out _ HB3.out, .inr ⟨HF.out, A3, c3, rfl, HT.out, HN.out⟩⟩
      · have h1 : addE l x = 181 := by rw [HE3.out]; rfl
        have HF := Lib.hid h1
        clear h1
        go_wp2_with fail
        go_ret2
        exact ⟨HB0.out _ HBd.out, .inl ⟨by rw [HF.out]; decide, by rw [HF.out]; rfl⟩⟩
end Go.Proofs.YtmindojbkedmlaaDoor

/- The reference's package of changes: Touched. -/
namespace Go.Proofs.YtmindojbkedmlaaDoor
open Go.RowKit Go.Han
attribute [local irreducible] wpStill wpQuiet
set_option maxRecDepth 100000

def natC (i : Nat) : List Value := [.int .i64 (i : Int)]
theorem natC_nats (L : List Nat) : L.flatMap natC = nats L := by
  unfold nats
  induction L with
  | nil => rfl
  | cons a L ih => rw [List.flatMap_cons, List.map_cons, ih]; rfl
theorem wrong_get {S : List StrS} (h : ∀ s ∈ S, s.xs.any (fun y => !wordB y) = false) : wrongS S = false := by
  unfold wrongS
  rw [List.any_eq_false]
  intro s hs
  rw [h s hs]; simp
set_option maxHeartbeats 4000000 in
theorem rtouched_any (A : Option Addr) (cp : Nat) (l : List Term) (x : Term) (B : Option Addr) (cq : Nat) (S : List StrS) (w : World) (hr : TermsAt w A l) (hx : x.lies w) (hcp : l.length ≤ cp) (hcm : cp ≤ 9223372036854775807) (hS : SentsAt w B S) (hm' : S.length ≤ 9223372036854775807) :
    Calls Tryd.prog 11 #[.slice A l.length cp, .agg #[.int .i64 x.no, .int .i64 x.at_, .int .i64 x.known, .int .i64 x.lang, .slice x.src.addr x.src.xs.length x.src.cap, .slice x.tgt.addr x.tgt.xs.length x.tgt.cap, .string x.cat, .bool x.gone], .slice B S.length cq] w (TouPost l x S w) := by
  obtain ⟨i0, hi0, iz0, iz1, iz2⟩ := info_parts info_int
  obtain ⟨W0, hW0⟩ : ∃ W0, w.alloc (.cells #[.int .i64 x.no, .int .i64 x.at_, .int .i64 x.known, .int .i64 x.lang, .slice x.src.addr x.src.xs.length x.src.cap, .slice x.tgt.addr x.tgt.xs.length x.tgt.cap, .string x.cat, .bool x.gone] 25) = W0 := ⟨_, rfl⟩
  have hB0 : Below w.heap.size w W0 := by rw [← hW0]; exact ext_alloc (Below.refl _ _) _
  have hx0 : W0.heap[w.heap.size]? = some (.cells #[.int .i64 x.no, .int .i64 x.at_, .int .i64 x.known, .int .i64 x.lang, .slice x.src.addr x.src.xs.length x.src.cap, .slice x.tgt.addr x.tgt.xs.length x.tgt.cap, .string x.cat, .bool x.gone] 25 (0, 0)) := by rw [← hW0]; exact World.alloc_heap_new _ _
  have hz0 : w.heap.size < W0.heap.size := lt_block hx0
  have cA := Lib.hid (Add27_any A cp l x W0 ⟨hr.rd.ext hB0, fun y hy => ⟨(hr.lie y hy).1.ext hB0, (hr.lie y hy).2.ext hB0⟩⟩ ⟨hx.1.ext hB0, hx.2.ext hB0⟩ hcp hcm)
  have HS := Lib.hid hS
  have HX := Lib.hid hx
  have k0 := gblk hx0 0
  have k1 := gblk hx0 1
  have k2 := gblk hx0 2
  have k3 := gblk hx0 3
  have k4 := gblk hx0 4
  have k5 := gblk hx0 5
  have k6 := gblk hx0 6
  have k7 := gblk hx0 7
  have HX0 := Lib.hid hx0
  clear hS hx hr hx0
  go_enter Tryd.func11, Tryd.ntmps11
  go_wp2_with fail
  refine cA.out.mono ?_
  rintro e w1 ⟨hb1, h1⟩
  have hB1 := ext_trans hB0 hb1
  clear k0 k1 k2 k3 k4 k5 k6 k7 hW0 cA
  rcases h1 with ⟨hn, rfl⟩ | ⟨hn, A1, c1, rfl, _, _⟩
  · have n1 : (addE l x == 0) = false := by simpa using hn
    have hf := Lib.hid (tou_err (S := S) hB1 (touE1 hn) hn)
    clear hn
    go_wp2_with fail
    go_ret2
    exact hf.out
  have Hn := Lib.hid hn
  clear hn
  by_cases hl : 4096 < S.length
  · have g1 : (4096 : Int) < S.length := by omega
    have hf := Lib.hid (tou_err hB1 (touE2 Hn.out hl) (by decide))
    clear hl
    go_wp2_with fail
    go_ret2
    exact hf.out
  have g1 : ¬ (4096 : Int) < S.length := by omega
  have Hl := Lib.hid hl
  clear hl
  go_wp2_with fail
  go_loop [10] (fun i => ∃ k : Nat, k ≤ S.length ∧ i = .int .i64 k ∧ Hid ((S.take k).any (fun s => decide (16 < s.xs.length)) = false)) (fun i => S.length - (intOf i).toNat)
  case atStart => exact ⟨0, Nat.zero_le _, rfl, rfl⟩
  case round =>
    obtain ⟨k, hk, rfl, HR⟩ := hrel
    by_cases hlt : k < S.length
    · obtain ⟨b, off, rfl, hb, hc⟩ := HS.out.at_ hlt
      have d0 := hc k hlt w1 hB1
      have Htk := Lib.hid (any_take (P := fun s : StrS => decide (16 < s.xs.length)) hlt)
      have hmem := Lib.hid (List.getElem_mem hlt)
      have hlt2 : (k : Int) < S.length := by omega
      clear hc
      generalize S[k] = s at *
      by_cases h16 : 16 < s.xs.length
      · have g2 : (16 : Int) < s.xs.length := by omega
        have hlong : longS S = true := List.any_eq_true.2 ⟨s, hmem.out, decide_eq_true h16⟩
        have hf := Lib.hid (tou_err hB1 (touE3 Hn.out Hl.out hlong) (by decide))
        clear h16 hlong
        go_wp2_with fail
        go_ret2
        exact hf.out
      · have g2 : ¬ (16 : Int) < s.xs.length := by omega
        have HN : Hid ((S.take (k + 1)).any (fun s => decide (16 < s.xs.length)) = false) := by show _ = _; rw [Htk.out, HR.out, decide_eq_false h16]; rfl
        clear h16
        go_wp2_with fail
        go_round
        case rel => exact ⟨k + 1, by omega, by go_num, HN⟩
        case measure => simp [intOf]; omega
    · have Hlong : Hid (longS S = false) := by
        have h := HR.out
        rw [List.take_of_length_le (by omega)] at h
        exact h
      clear HR
      go_wp2_with fail
      clear hk hlt
      go_loopw [11] (fun i wr => ∃ k : Nat, k ≤ S.length ∧ i = .int .i64 k ∧ Below w1.heap.size w1 wr ∧ Hid (∀ j (h : j < S.length), j < k → S[j].xs.any (fun y => !wordB y) = false)) (fun i _ => S.length - (intOf i).toNat)
      case atStart => exact ⟨0, Nat.zero_le _, rfl, Below.refl _ _, fun j h hj => by omega⟩
      case round =>
        obtain ⟨k, hk, rfl, hB, HR⟩ := hrel
        by_cases hlt : k < S.length
        · obtain ⟨b, off, rfl, hb, hc⟩ := HS.out.at_ hlt
          have hcs := Lib.hid (fun W (h : Below w1.heap.size w1 W) => hc k hlt W (ext_trans hB1 h))
          have hsl := Lib.hid (HS.out.lie _ (List.getElem_mem hlt))
          have hmem := Lib.hid (List.getElem_mem hlt)
          have hlt2 : (k : Int) < S.length := by omega
          have hat := Lib.hid (fun (hh : S[k].xs.any (fun y => !wordB y) = false) j (h : j < S.length) (hj : j < k + 1) => by
            rcases Nat.lt_or_ge j k with h1 | h1
            · exact HR.out j h h1
            · obtain rfl : j = k := by omega
              exact hh)
          have hlen : S[k].xs.length ≤ 16 := long_at Hlong.out (List.getElem_mem hlt)
          clear hc
          generalize S[k] = s at *
          go_wp2_with fail
          go_loopw [12] (fun i wr2 => ∃ j : Nat, j ≤ s.xs.length ∧ i = .int .i64 j ∧ Below w1.heap.size w1 wr2 ∧ Hid ((s.xs.take j).any (fun y => !wordB y) = false)) (fun i _ => s.xs.length - (intOf i).toNat)
          case atStart => exact ⟨0, Nat.zero_le _, rfl, hB, rfl⟩
          case round =>
            obtain ⟨j, hj, rfl, hB2, HR2⟩ := hrel
            have d0 := hcs.out _ hB2
            by_cases hjt : j < s.xs.length
            · obtain ⟨b', off', hA', hb', hc'⟩ := StrS.at_ hsl.out (k := j) hjt
              have hb2 : b' < w.heap.size := hb'
              have d1 := ((ext_trans hB1 hB2).cell (p := ⟨b', off' + j, none⟩) hb').trans (hc' j hjt)
              have hj2 : (j : Int) < s.xs.length := by omega
              have Htk2 := Lib.hid (any_take (P := fun y => !wordB y) hjt)
              have hmem2 := Lib.hid (List.getElem_mem hjt)
              rw [hA'] at d0
              clear hc'
              generalize s.xs[j] = y at *
              go_wp2_with fail
              refine (word9_any y _).mono ?_
              rintro e w2 ⟨rfl, hb3⟩
              have hB3 := ext_trans hB2 hb3
              cases hwy : wordB y
              · have hwr : wrongS S = true := List.any_eq_true.2 ⟨s, hmem.out, List.any_eq_true.2 ⟨y, hmem2.out, by rw [hwy]; rfl⟩⟩
                have hf := Lib.hid (tou_err (ext_trans hB1 hB3) (touE4 Hn.out Hl.out Hlong.out hwr) (by decide))
                clear hwy hwr
                go_wp2_with fail
                go_ret2
                exact hf.out
              · have HN : Hid ((s.xs.take (j + 1)).any (fun y => !wordB y) = false) := by show _ = _; rw [Htk2.out, HR2.out, hwy]; rfl
                clear hwy
                go_wp2_with fail
                go_roundw
                case rel => exact ⟨j + 1, by omega, by go_num, hB3, HN⟩
                case measure => simp [intOf]; omega
            · have hh : s.xs.any (fun y => !wordB y) = false := by
                have h := HR2.out
                rw [List.take_of_length_le (by omega)] at h
                exact h
              have HH := Lib.hid (hat.out hh)
              clear hh
              go_wp2_with fail
              go_roundw
              case rel => exact ⟨k + 1, by omega, by go_num, hB2, HH.out⟩
              case measure => simp [intOf]; omega
        · have Hwr : Hid (wrongS S = false) := by
            refine wrong_get (fun s hs => ?_)
            obtain ⟨j, hj, rfl⟩ := List.getElem_of_mem hs
            exact HR.out j hj (by omega)
          have HE := Lib.hid (touE0 Hn.out Hl.out Hlong.out Hwr.out)
          have hBw := ext_trans hB1 hB
          have hz := hBw.size
          clear HR
          go_wp2_with fail
          clear hk hlt
          have hBW := ext_trans hb1 hB
          have hl4 := Hl.out
          go_loopw [13, 14] (fun o i wr3 => ∃ k : Nat, k ≤ S.length ∧ i = .int .i64 k ∧ OwnL natC 3 1 wr3 W0.heap.size o (idxT S (fun s => touchB x s.xs) k) ∧ Below W0.heap.size W0 wr3) (fun _ i _ => S.length - (intOf i).toNat)
          case atStart =>
            refine ⟨0, Nat.zero_le _, rfl, ?_, ext_trans hBW (ext_alloc (Below.refl _ _) _)⟩
            exact own_empty (World.alloc_heap_new _ _) hBW.size
          case round =>
            obtain ⟨k, hk, rfl, hown, hB4⟩ := hrel
            have hBw4 := ext_trans hB0 hB4
            have hz4 := hBw4.size
            have hlen : (idxT S (fun s => touchB x s.xs) k).length ≤ 4096 := by
              unfold idxT
              refine Nat.le_trans (List.length_filter_le _ _) ?_
              rw [List.length_range]; omega
            by_cases hlt : k < S.length
            · obtain ⟨b, off, rfl, hb, hc⟩ := HS.out.at_ hlt
              have d0 := fun p : ExtBy _ => hc k hlt p.to (ext_trans hBw4 p.ext)
              have hx4 := (hB4.block _ hz0).trans HX0.out
              have hxl := lt_block hx4
              have k0 := fun p => cell_ext hxl (gblk hx4 0) p
              have k1 := fun p => cell_ext hxl (gblk hx4 1) p
              have k2 := fun p => cell_ext hxl (gblk hx4 2) p
              have k3 := fun p => cell_ext hxl (gblk hx4 3) p
              have k4 := fun p => cell_ext hxl (gblk hx4 4) p
              have k5 := fun p => cell_ext hxl (gblk hx4 5) p
              have k6 := fun p => cell_ext hxl (gblk hx4 6) p
              have k7 := fun p => cell_ext hxl (gblk hx4 7) p
              have hsl := HS.out.lie _ (List.getElem_mem hlt)
              have cT := Lib.hid (fun p : ExtBy _ => rtouches_any x S[k] p.to ⟨HX.out.1.ext (ext_trans hBw4 p.ext), HX.out.2.ext (ext_trans hBw4 p.ext)⟩ (hsl.ext (ext_trans hBw4 p.ext)) (Nat.le_trans hsl.cap hsl.max))
              have Htk := Lib.hid (idxT_succ (P := fun s => touchB x s.xs) hlt)
              have hlt2 : (k : Int) < S.length := by omega
              clear hc hsl
              generalize S[k] = s at *
              obtain ⟨r, hr⟩ : ∃ r, touchB x s.xs = r := ⟨_, rfl⟩
              rw [hr] at cT Htk
              clear hr
              go_wp2_with fail
              refine wp_region_ext (by kernel_rfl) (by kernel_rfl) ?_
              repeat (quiet_step ((go_at_call 29; exact Calls.ext_of (cT.out _))))
              refine wpQuiet_nil ?_
              intro _ hw'
              obtain ⟨p, rfl⟩ := hw'
              have hBp := ext_trans hB4 p.ext
              have hownp := hown.ext p.ext
              have hzp := hBp.size
              have A1' : (idxT S (fun s => touchB x s.xs) k).length + 1 ≤ maxLen := by unfold maxLen; omega
              have A2' : ((idxT S (fun s => touchB x s.xs) k).length + 1) * 8 ≤ 140737488355328 := by omega
              clear k0 k1 k2 k3 k4 k5 k6 k7 d0 cT hx4
              cases r
              · have HN : Hid (idxT S (fun s => touchB x s.xs) (k + 1) = idxT S (fun s => touchB x s.xs) k) := by show _ = _; rw [Htk.out]; simp
                go_wp2
                go_roundw
                case rel => exact ⟨k + 1, by omega, by go_num, by rw [HN.out]; exact hownp, hBp⟩
                case measure => simp [intOf]; omega
              · have HN : Hid (idxT S (fun s => touchB x s.xs) (k + 1) = idxT S (fun s => touchB x s.xs) k ++ [k]) := by show _ = _; rw [Htk.out]; simp
                go_wp2_with (at_builtin; go_loud (refine wpList_append_rd rfl _ _ 30 rfl W0.heap.size 3 i0 _ 1 8 Tryd.underlying30 hi0 iz0 iz1 iz2 rfl (by decide) _ _ _ rfl (some ⟨p.to.heap.size, 0, none⟩) 1 1 (natC k) rfl (hownp.ext (ext_alloc (Below.refl p.to.heap.size p.to) _)) rfl (grd_blk (World.alloc_heap_new p.to _) rfl) (by intro u hu; simp [natC] at hu; subst hu; rfl) A1' A2' (Nat.le_trans hzp (by simp)) ?_; intro v5 w5 hown5 hgrow5 _))
                have hB5' : Below W0.heap.size W0 w5 := (ext_trans hBp (ext_alloc (Below.refl p.to.heap.size p.to) _)).grown hgrow5 (Nat.le_trans hzp (by simp)) (fun k hk => (hownp.lt k hk).1)
                have hs5 := OwnL.snoc (f := natC) k hown5
                clear hown5 hgrow5
                go_wp2_with fail
                go_roundw
                case rel => exact ⟨k + 1, by omega, by go_num, by rw [HN.out]; exact hs5, hB5'⟩
                case measure => simp [intOf]; omega
            · obtain rfl : k = S.length := by omega
              have HO : Hid (touchO l x S = idxT S (fun s => touchB x s.xs) S.length) := by show _ = _; unfold touchO; rw [if_pos HE.out]; rfl
              obtain ⟨A6, c6, hv6, hr6, _⟩ := hown.form (by decide)
              rw [natC_nats] at hr6
              subst hv6
              have Hr6 := Lib.hid hr6
              clear hr6 hown
              generalize idxT S (fun s => touchB x s.xs) S.length = L at *
              go_wp2_with fail
              go_ret2
              exact ⟨hBw4, A6, c6, by rw [HO.out, HE.out]; rfl, by rw [HO.out]; exact Hr6.out⟩
end Go.Proofs.YtmindojbkedmlaaDoor

/- Package changes: mapped, Diff. -/
namespace Go.Proofs.YtmindojbkedmlaaDoor
open Go.RowKit Go.Han
attribute [local irreducible] wpStill wpQuiet
set_option maxRecDepth 100000

structure Tgt where
  text : ByteArray
  dA : Option Addr
  dn : Nat
  dc : Nat
  term : Int
def Tgt.cells (x : Tgt) : List Value := [.string x.text, .slice x.dA x.dn x.dc, .int .i64 x.term]
theorem Tgt.size_cells (x : Tgt) : x.cells.length = 3 := rfl
def txts (l : List Tgt) : Ws := l.map Tgt.text
theorem txts_len (l : List Tgt) : (txts l).length = l.length := by unfold txts; simp
theorem txts_take (l : List Tgt) {k : Nat} (h : k < l.length) : (txts l).take (k + 1) = (txts l).take k ++ [l[k].text] := by
  rw [List.take_succ_eq_append_getElem (by rw [txts_len]; exact h)]
  unfold txts; simp
def strC (x : ByteArray) : List Value := [.string x]
theorem strC_flat (l : Ws) : l.flatMap strC = strs l := by
  induction l with
  | nil => rfl
  | cons x l ih => rw [List.flatMap_cons, ih]; rfl
theorem strC_one (x : ByteArray) : ∀ u ∈ strC x, u.oneCell' = true := by intro u hu; simp [strC] at hu; subst hu; rfl
theorem info_strA : (Tryd.prog.info? 9).map (fun i => (i.zero, i.size, i.bytes)) = some (some (.string ⟨#[]⟩), 1, 16) := by kernel_rfl
theorem str_room {n : Nat} (h : n ≤ 10000) : n + 1 ≤ maxLen ∧ (n + 1) * 16 ≤ 140737488355328 := by unfold maxLen; omega
theorem own_lies {w : World} {base : Nat} {v : Value} {l : Ws} (h : OwnL strC 9 1 w base v l) : ∃ s : StrS, v = .slice s.addr s.xs.length s.cap ∧ s.xs = l ∧ s.lies w := by
  obtain ⟨A, c, rfl, h1, h2, h3, hr⟩ := SlOf.of_own h
  rw [strC_flat] at hr h3
  refine ⟨⟨A, c, l⟩, rfl, rfl, hr, h1, h2, ?_⟩
  rintro (rfl : A = none)
  rcases hr with h | ⟨b, off, h, _⟩
  · have h4 : (strs l).length = 0 := by rw [h]; rfl
    unfold strs at h4
    exact List.eq_nil_of_length_eq_zero (by simpa using h4)
  · cases h
theorem tgt_elem {w : World} {A : Option Addr} {l : List Tgt} (h : Rd w A (l.flatMap Tgt.cells)) {k : Nat} (hk : k < l.length) :
    ∃ b off, A = some ⟨b, off, none⟩ ∧ b < w.heap.size ∧ ∀ wr, Below w.heap.size w wr →
      (wr.cell? ⟨b, off + k * 3, none⟩ = some (.string l[k].text)) ∧ (wr.cell? ⟨b, off + k * 3 + 1, none⟩ = some (.slice l[k].dA l[k].dn l[k].dc)) ∧ (wr.cell? ⟨b, off + k * 3 + 2, none⟩ = some (.int .i64 l[k].term)) := by
  obtain ⟨b, off, hA, hb, hc⟩ := h.elem Tgt.size_cells (by omega) hk
  refine ⟨b, off, hA, hb, fun wr hB => ?_⟩
  have hcc : ∀ (j : Nat) (u : Value), l[k].cells[j]? = some u → wr.cell? ⟨b, off + k * 3 + j, none⟩ = some u := fun j u hu => (hB.cell (p := ⟨b, off + k * 3 + j, none⟩) hb).trans (hc j u hu)
  exact ⟨hcc 0 _ rfl, hcc 1 _ rfl, hcc 2 _ rfl⟩
theorem said_any (x : Tgt) (w : World) : Calls Tryd.prog 30 #[.agg #[.string x.text, .slice x.dA x.dn x.dc, .int .i64 x.term]] w fun e w' => e = .returned (.string x.text) ∧ Below w.heap.size w w' := by
  go_enter Tryd.func30, Tryd.ntmps30
  go_wp2_with fail
  go_ret
  exact ⟨rfl, ext_alloc (Below.refl _ _) _⟩
def MapPost (l : List Tgt) (w : World) (e : Ending) (w' : World) : Prop := ∃ s : StrS, e = .returned (.slice s.addr s.xs.length s.cap) ∧ s.xs = txts l ∧ s.lies w' ∧ Below w.heap.size w w'
set_option maxHeartbeats 2000000 in
theorem mapped_any (A : Option Addr) (c : Nat) (l : List Tgt) (w : World) (hr : Rd w A (l.flatMap Tgt.cells)) (hm : l.length ≤ 64) :
    Calls Tryd.prog 31 #[.slice A l.length c, .func (.func 30) #[] #[]] w (MapPost l w) := by
  obtain ⟨i0, hi0, iz0, is0, ib0⟩ := info_parts info_strA
  have eg := enters_of Tryd.func30 (by kernel_rfl) rfl
  go_enter Tryd.func31, Tryd.ntmps31
  go_wp2_with fail
  go_loopw [4, 9] (fun vo i wr => ∃ k : Nat, k ≤ l.length ∧ i = .int .i64 k ∧ OwnL strC 9 1 wr w.heap.size vo ((txts l).take k) ∧ Below w.heap.size w wr) (fun _ i _ => l.length - (intOf i).toNat)
  case atStart => exact ⟨0, Nat.zero_le _, rfl, OwnL.nil _ _ _ _ _, Below.refl _ _⟩
  case round =>
    obtain ⟨k, hk, rfl, hown, hBr⟩ := hrel
    by_cases hlt : k < l.length
    · obtain ⟨b, off, rfl, hb, hc⟩ := tgt_elem hr hlt
      obtain ⟨d0, d1, d2⟩ := hc wr hBr
      have Htk := Lib.hid (txts_take l hlt)
      have hlen2 : ((txts l).take k).length ≤ 10000 := by rw [List.length_take]; omega
      obtain ⟨A1, A2⟩ := str_room hlen2
      clear hc
      generalize l[k] = x at *
      have cC := Lib.hid (fun W => said_any x W)
      have Hown := Lib.hid hown
      generalize (txts l).take k = el at *
      clear hown
      go_wp2_with fail
      refine (cC.out _).mono ?_
      rintro e w1 ⟨rfl, hb1⟩
      have hb1' := ext_trans (ext_alloc (Below.refl wr.heap.size wr) _) hb1
      have hB1 := ext_trans hBr hb1'
      have ho := Hown.out.ext hb1'
      have hz1 := hB1.size
      clear d0 d1 d2 cC Hown hb1 hb1'
      go_wp2_with (at_builtin; refine wpList_append_rd rfl _ _ 23 rfl w.heap.size 9 i0 _ 1 16 Tryd.underlying23 hi0 iz0 is0 ib0 rfl (by decide) _ _ _ rfl (some ⟨w1.heap.size, 0, none⟩) 1 1 (strC x.text) rfl (ho.ext (ext_alloc (Below.refl w1.heap.size w1) _)) rfl (grd_blk (World.alloc_heap_new w1 _) rfl) (strC_one x.text) A1 A2 (Nat.le_trans hz1 (by simp)) ?_; intro v5 w5 hown5 hgrow5 _)
      have hB5 : Below w.heap.size w w5 := (ext_trans hB1 (ext_alloc (Below.refl w1.heap.size w1) _)).grown hgrow5 (Nat.le_trans hz1 (by simp)) (fun k hk => (ho.lt k hk).1)
      have hs5 := OwnL.snoc (f := strC) x.text hown5
      clear hown5 hgrow5
      go_wp2_with fail
      go_roundw
      case rel => exact ⟨k + 1, by omega, by go_num, by rw [Htk.out]; exact hs5, hB5⟩
      case measure => simp [intOf]; omega
    · obtain rfl : k = l.length := by omega
      rw [List.take_of_length_le (by rw [txts_len]; omega)] at hown
      obtain ⟨s, rfl, hx, hl⟩ := own_lies hown
      have hfin : Hid (MapPost l w (.returned (.slice s.addr s.xs.length s.cap)) wr) := ⟨s, rfl, hx, hl, hBr⟩
      clear hown
      go_wp2_with fail
      go_ret
      exact hfin.out

def oddW (l : Ws) : Bool := l.any (fun y => !wordB y)
theorem oddW_no {l : Ws} (h : oddW l = false) : l.all wordB = true := by
  rw [List.all_eq_true]
  intro x hx
  cases e : wordB x
  · have : oddW l = true := List.any_eq_true.2 ⟨x, hx, by rw [e]; rfl⟩
    rw [h] at this
    cases this
  · rfl
def difE (a b : List Tgt) : Int := if 64 < max a.length b.length then 2 else if oddW (txts a) = true then 300 else if oddW (txts b) = true then 300 else 0
def difL (a b : List Tgt) : List Nat := if difE a b = 0 then alS (txts a) (txts b) else []
def difC (a b : List Tgt) : Nat := if difE a b = 0 then alC (txts a) (txts b) else 0
def DifPost (a b : List Tgt) (w : World) (e : Ending) (w' : World) : Prop :=
  ∃ A c, e = .returned (.tuple #[.slice A (difL a b).length c, .int .i64 (difC a b : Nat), .int .i64 (difE a b)]) ∧ Rd w' A (nats (difL a b)) ∧ Below w.heap.size w w'
theorem natI_flat (l : List Nat) : (natI l).flatMap intC = nats l := by
  unfold natI nats
  induction l with
  | nil => rfl
  | cons x l ih => rw [List.map_cons, List.flatMap_cons, ih]; rfl
theorem dif_err {a b : List Tgt} {w w' : World} {k : Int} (hb : Below w.heap.size w w') (h : difE a b = k) (hk : k ≠ 0) : DifPost a b w (.returned (.tuple #[.slice none 0 0, .int .i64 0, .int .i64 k])) w' := by
  have h1 : difL a b = [] := by unfold difL; rw [if_neg (by rw [h]; exact hk)]
  have h2 : difC a b = 0 := by unfold difC; rw [if_neg (by rw [h]; exact hk)]
  refine ⟨none, 0, ?_, ?_, hb⟩
  · rw [h1, h2, h]; rfl
  · rw [h1]; exact .inl rfl
theorem dif_ok {a b : List Tgt} {w W w' : World} {e : Ending} (hb : Below w.heap.size w W) (h : difE a b = 0) (hp : AlignPost (txts a) (txts b) W e w') : DifPost a b w e w' := by
  obtain ⟨A, c, rfl, hr, hb2⟩ := hp
  have h1 : difL a b = alS (txts a) (txts b) := by unfold difL; rw [if_pos h]
  have h2 : difC a b = alC (txts a) (txts b) := by unfold difC; rw [if_pos h]
  rw [natI_len, natI_flat] at *
  exact ⟨A, c, by rw [h1, h2, h], by rw [h1]; exact hr, ext_trans hb hb2⟩
set_option maxHeartbeats 2000000 in
theorem Diff_any (A : Option Addr) (c : Nat) (a : List Tgt) (B : Option Addr) (d : Nat) (b : List Tgt) (w : World) (hT : Tabs w) (hr : Rd w A (a.flatMap Tgt.cells)) (hr' : Rd w B (b.flatMap Tgt.cells)) (hm : a.length ≤ 9223372036854775807) (hm' : b.length ≤ 9223372036854775807) :
    Calls Tryd.prog 13 #[.slice A a.length c, .slice B b.length d] w (DifPost a b w) := by
  by_cases h64 : 64 < max a.length b.length
  · have g1 : (64 : Int) < max (a.length : Int) (b.length : Int) := by omega
    have hfin := Lib.hid (fun W (hb : Below w.heap.size w W) => dif_err (a := a) (b := b) (k := 2) hb (by unfold difE; rw [if_pos h64]) (by decide))
    clear h64 hr hr'
    go_enter Tryd.func13, Tryd.ntmps13
    go_wp2_with fail
    go_ret3
    exact hfin.out _ (Below.refl _ _)
  · have g1 : ¬ (64 : Int) < max (a.length : Int) (b.length : Int) := by omega
    have la : a.length ≤ 64 := by omega
    have lb : b.length ≤ 64 := by omega
    have cM1 := Lib.hid (mapped_any A c a w hr la)
    have cM2 := Lib.hid (fun W (hb : Below w.heap.size w W) => mapped_any B d b W (hr'.ext hb) lb)
    have HT := Lib.hid hT
    have hE1 := Lib.hid (fun h : oddW (txts a) = true => show difE a b = 300 by unfold difE; rw [if_neg h64, if_pos h])
    have hE2 := Lib.hid (fun (h0 : oddW (txts a) = false) (h : oddW (txts b) = true) => show difE a b = 300 by unfold difE; rw [if_neg h64, if_neg (by rw [h0]; decide), if_pos h])
    have hE3 := Lib.hid (fun (h0 : oddW (txts a) = false) (h : oddW (txts b) = false) => show difE a b = 0 by unfold difE; rw [if_neg h64, if_neg (by rw [h0]; decide), if_neg (by rw [h]; decide)])
    have tla := txts_len a
    have tlb := txts_len b
    clear h64 hr hr' hT
    go_enter Tryd.func13, Tryd.ntmps13
    go_wp2_with fail
    refine cM1.out.mono ?_
    rintro e w1 ⟨s, rfl, hs', hl1, hb1⟩
    have Hs := Lib.hid hs'
    have Tla := Lib.hid tla
    have Tlb := Lib.hid tlb
    clear hs' tla tlb
    go_wp2_with fail
    refine (cM2.out w1 hb1).mono ?_
    rintro e w2 ⟨t, rfl, ht, hl2, hb2⟩
    have hB2 := ext_trans hb1 hb2
    have hl1' := hl1.ext hb2
    have hs := Hs.out
    have tla := Tla.out
    have tlb := Tlb.out
    have eg := enters_of Tryd.func22 (by kernel_rfl) rfl
    have c1 := Lib.hid (containsFuncW_any s 22 (fun y => !wordB y) w2 hl1' eg (fun W hb y => odd34_any y W (utf_ext HT.out (ext_trans hB2 hb))))
    have c2 := Lib.hid (fun W (hW : Below w2.heap.size w2 W) => containsFuncW_any t 22 (fun y => !wordB y) W (hl2.ext hW) eg (fun W' hb y => odd34_any y W' (utf_ext HT.out (ext_trans hB2 (ext_trans hW hb)))))
    have cA := Lib.hid (fun (h0 : oddW (txts a) = false) (h : oddW (txts b) = false) W (hW : Below w2.heap.size w2 W) => Align21_any s t W (utf_ext HT.out (ext_trans hB2 hW)) (hl1'.ext hW) (hl2.ext hW) (by rw [hs]; omega) (by rw [ht]; omega) (by rw [hs]; exact oddW_no h0) (by rw [ht]; exact oddW_no h))
    rw [show s.xs.any (fun y => !wordB y) = oddW (txts a) from by rw [hs]; rfl] at c1
    have c2' := Lib.hid (fun W (hW : Below w2.heap.size w2 W) => show Calls Tryd.prog 21 #[.slice t.addr t.xs.length t.cap, .func (.func 22) #[] #[]] W fun e w' => e = .returned (.bool (oddW (txts b))) ∧ Below W.heap.size W w' from by rw [show oddW (txts b) = t.xs.any (fun y => !wordB y) from by rw [ht]; rfl]; exact c2.out W hW)
    have Ht := Lib.hid ht
    clear c2 eg hl1 hl2 hl1' hs ht tla tlb
    cases q1 : oddW (txts a)
    · rw [q1] at c1
      cases q2 : oddW (txts b)
      · simp only [q2] at c2'
        have cA2 := Lib.hid (cA.out q1 q2)
        have hE := Lib.hid (hE3.out q1 q2)
        clear q1 q2 cA hE1 hE2 hE3
        go_wp2_with fail
        refine c1.out.mono ?_
        rintro e w3 ⟨rfl, hb3⟩
        go_wp2_with fail
        refine (c2'.out w3 hb3).mono ?_
        rintro e w4 ⟨rfl, hb4⟩
        have hB4 := ext_trans hb3 hb4
        go_wp2_with fail
        refine (cA2.out w4 hB4).mono ?_
        rintro e w5 hp
        rw [Hs.out, Ht.out] at hp
        have hfin := Lib.hid (dif_ok (ext_trans hB2 hB4) hE.out hp)
        obtain ⟨A5, c5, rfl, _, _⟩ := hp
        go_wp2_with fail
        go_ret3
        exact hfin.out
      · simp only [q2] at c2'
        have hE := Lib.hid (hE2.out q1 q2)
        clear q1 q2 cA hE1 hE2 hE3
        go_wp2_with fail
        refine c1.out.mono ?_
        rintro e w3 ⟨rfl, hb3⟩
        go_wp2_with fail
        refine (c2'.out w3 hb3).mono ?_
        rintro e w4 ⟨rfl, hb4⟩
        go_wp2_with fail
        go_ret3
        exact dif_err (ext_trans hB2 (ext_trans hb3 hb4)) hE.out (by decide)
    · rw [q1] at c1
      have hE := Lib.hid (hE1.out q1)
      clear q1 cA hE1 hE2 hE3 c2'
      go_wp2_with fail
      refine c1.out.mono ?_
      rintro e w3 ⟨rfl, hb3⟩
      go_wp2_with fail
      go_ret3
      exact dif_err (ext_trans hB2 hb3) hE.out (by decide)
end Go.Proofs.YtmindojbkedmlaaDoor

/- The examples with which the statements about changes begin, in plain Lean. -/
namespace Go.Proofs.YtmindojbkedmlaaDoor
open Go.RowKit Go.Han
set_option maxRecDepth 100000

def oA : ByteArray := ⟨#[97]⟩
def oPoint : ByteArray := ⟨#[112, 111, 105, 110, 116]⟩
def oOf : ByteArray := ⟨#[111, 102]⟩
def oOrder : ByteArray := ⟨#[111, 114, 100, 101, 114]⟩
def oHund : ByteArray := ⟨#[104, 117, 110, 100]⟩
def oDer : ByteArray := ⟨#[100, 101, 114]⟩
def oDie : ByteArray := ⟨#[100, 105, 101]⟩
def oKatze : ByteArray := ⟨#[107, 97, 116, 122, 101]⟩
def oThe : ByteArray := ⟨#[116, 104, 101]⟩
def oDog : ByteArray := ⟨#[100, 111, 103]⟩
def oNo : ByteArray := ⟨#[]⟩
def oT (p : Option Addr) (c : Nat) (src : Ws) (q : Option Addr) : Term := ⟨1, 0, 0, 1, ⟨p, c, src⟩, ⟨q, 1, [⟨#[120]⟩]⟩, ⟨#[110]⟩, false⟩
def oZ : Term := ⟨0, 0, 0, 0, ⟨none, 0, []⟩, ⟨none, 0, []⟩, oNo, false⟩
variable (p q r s t : Option Addr)
theorem eo1 : touchE [] (oT p 3 [oPoint, oOf, oOrder] q) [⟨r, 4, [oA, oPoint, oOf, oOrder]⟩, ⟨s, 2, [oA, oPoint]⟩] = 0 ∧ touchO [] (oT p 3 [oPoint, oOf, oOrder] q) [⟨r, 4, [oA, oPoint, oOf, oOrder]⟩, ⟨s, 2, [oA, oPoint]⟩] = [0] := ⟨by kernel_rfl, by kernel_rfl⟩
theorem eo2 : touchE [] (oT p 1 [oHund] q) [⟨r, 2, [oDer, oHund]⟩, ⟨s, 2, [oDie, oKatze]⟩, ⟨none, 0, []⟩] = 0 ∧ touchO [] (oT p 1 [oHund] q) [⟨r, 2, [oDer, oHund]⟩, ⟨s, 2, [oDie, oKatze]⟩, ⟨none, 0, []⟩] = [0] := ⟨by kernel_rfl, by kernel_rfl⟩
theorem eo3 : touchE [] oZ [] = 270 ∧ touchO [] oZ [] = [] := ⟨by kernel_rfl, by kernel_rfl⟩
theorem eo4 : touchE [oT p 1 [oHund] q] (oT r 1 [oKatze] s) [] = 181 ∧ touchO [oT p 1 [oHund] q] (oT r 1 [oKatze] s) [] = [] := ⟨by kernel_rfl, by kernel_rfl⟩
theorem eo5 : touchE [] (oT p 1 [oHund] q) [⟨r, 1, [oNo]⟩] = 280 ∧ touchO [] (oT p 1 [oHund] q) [⟨r, 1, [oNo]⟩] = [] := ⟨by kernel_rfl, by kernel_rfl⟩
def oTg (s : ByteArray) (n : Int) : Tgt := ⟨s, none, 0, 0, n⟩
theorem oal : alS [oThe, oDog] [oThe, oDog] = [1, 1] ∧ alC [oThe, oDog] [oThe, oDog] = 0 := by
  have h0 : alC [oThe, oDog] [oThe, oDog] = 0 := alC_self _
  have h1 : alC [oDog] [oDog] = 0 := alC_self _
  have h2 : alC [] [] = 0 := alC_nn
  refine ⟨?_, h0⟩
  rw [alS_same (by rw [h0, h1]), alS_same (by rw [h1, h2]), alS_nn]
theorem eo6 : difE [oTg oThe 0, oTg oDog 0] [oTg oThe 7, oTg oDog 0] = 0 ∧ difL [oTg oThe 0, oTg oDog 0] [oTg oThe 7, oTg oDog 0] = [1, 1] ∧ (difC [oTg oThe 0, oTg oDog 0] [oTg oThe 7, oTg oDog 0] : Int) = 0 := by
  have h : difE [oTg oThe 0, oTg oDog 0] [oTg oThe 7, oTg oDog 0] = 0 := by kernel_rfl
  refine ⟨h, ?_, ?_⟩
  · unfold difL; rw [if_pos h]; exact oal.1
  · unfold difC; rw [if_pos h]; exact congrArg (fun n : Nat => (n : Int)) oal.2
theorem eo7 : difE [] [] = 0 ∧ difL [] [] = [] ∧ (difC [] [] : Int) = 0 := by
  have h : difE [] [] = 0 := by kernel_rfl
  refine ⟨h, ?_, ?_⟩
  · unfold difL; rw [if_pos h]; exact alS_nn
  · unfold difC; rw [if_pos h]; exact congrArg (fun n : Nat => (n : Int)) alC_nn
theorem eo8 : difE [oTg oNo 0] [] = 300 ∧ difL [oTg oNo 0] [] = [] ∧ (difC [oTg oNo 0] [] : Int) = 0 := by
  have h : difE [oTg oNo 0] [] = 300 := by kernel_rfl
  refine ⟨h, ?_, ?_⟩
  · unfold difL; rw [if_neg (by rw [h]; decide)]
  · unfold difC; rw [if_neg (by rw [h]; decide)]; rfl
end Go.Proofs.YtmindojbkedmlaaDoor

/- The examples with which the statements about changes begin: sane. -/
namespace Go.Proofs.YtmindojbkedmlaaDoor
open Go.RowKit Go.Han
attribute [local irreducible] wpStill wpQuiet
set_option maxRecDepth 100000

theorem calls_gen {P : Program} {f : FuncId} {args : Array Value} {W0 : World} {Q : Ending → World → Prop} (h : ∀ W, W = W0 → Calls P f args W Q) : Calls P f args W0 Q := h _ rfl
theorem OMade.lt {b : Nat} {W : World} {o : Obj} (h : W.heap[b]? = some o) : b < W.heap.size := lt_block h
def oTMade (no : Int) (A : Option Addr) (n c : Nat) (w : World) (e : Ending) (w' : World) : Prop :=
  ∃ b, e = .returned (.agg #[.int .i64 no, .int .i64 0, .int .i64 0, .int .i64 1, .slice A n c, .slice (some ⟨b, 0, none⟩) 1 1, .string ⟨#[110]⟩, .bool false]) ∧ Below w.heap.size w w' ∧ w'.heap[b]? = some (.cells #[.string ⟨#[120]⟩] 9 (0, 0))
theorem oTerm_any (no : Int) (A : Option Addr) (n c : Nat) (w : World) : Calls Tryd.prog 16 #[.int .i64 no, .slice A n c] w (oTMade no A n c w) := by
  go_enter Tryd.func16, Tryd.ntmps16
  go_wp2_with fail
  exact bodyPost_ret (v := .agg #[.int .i64 no, .int .i64 0, .int .i64 0, .int .i64 1, .slice A n c, .slice (some ⟨w.heap.size + 1, 0, none⟩) 1 1, .string ⟨#[110]⟩, .bool false]) (by simp [results, Tryd.results16, go_sem]) rfl ⟨w.heap.size + 1, rfl, ext_alloc (ext_alloc (Below.refl _ _) _) _, galloc_at _ _ _ (by simp)⟩
theorem tou_ok (A : Option Addr) (cp : Nat) (l : List Term) (x : Term) (B : Option Addr) (cq : Nat) (S : List StrS) (n m k : Nat) (E : Int) (L : List Nat) (W : World) (hT : Tabs W) (hr : TermsAt W A l) (hx : x.lies W) (hA : A = none → l = []) (hS : SentsAt W B S) (hn : l.length = n) (hm : S.length = m) (hn' : n ≤ 1024) (hm' : m ≤ 1024) (hE : touchE l x S = E ∧ touchO l x S = L) (hk : L.length = k) :
    Calls Tryd.prog 10 #[.slice A n cp, .agg #[.int .i64 x.no, .int .i64 x.at_, .int .i64 x.known, .int .i64 x.lang, .slice x.src.addr x.src.xs.length x.src.cap, .slice x.tgt.addr x.tgt.xs.length x.tgt.cap, .string x.cat, .bool x.gone], .slice B m cq] W fun e W' => ∃ C c, e = .returned (.tuple #[.slice C k c, .int .i64 E]) ∧ Rd W' C (nats L) ∧ Below W.heap.size W W' := by
  subst hn hm hk
  obtain ⟨rfl, rfl⟩ := hE
  refine (Touched_any A cp l x B cq S W hT hr hx hA (by omega) hS (by omega)).mono ?_
  rintro e W' ⟨hb, C, c, rfl, hC⟩
  exact ⟨C, c, rfl, hC, hb⟩
theorem dif_ex (A : Option Addr) (c : Nat) (a : List Tgt) (B : Option Addr) (d : Nat) (b : List Tgt) (n m k : Nat) (E C : Int) (L : List Nat) (W : World) (hT : Tabs W) (hr : Rd W A (a.flatMap Tgt.cells)) (hr' : Rd W B (b.flatMap Tgt.cells)) (hn : a.length = n) (hm : b.length = m) (hn' : n ≤ 1024) (hm' : m ≤ 1024) (hE : difE a b = E ∧ difL a b = L ∧ difC a b = C) (hk : L.length = k) :
    Calls Tryd.prog 13 #[.slice A n c, .slice B m d] W fun e W' => ∃ F f, e = .returned (.tuple #[.slice F k f, .int .i64 C, .int .i64 E]) ∧ Rd W' F (nats L) ∧ Below W.heap.size W W' := by
  subst hn hm hk
  obtain ⟨rfl, rfl, rfl⟩ := hE
  refine (Diff_any A c a B d b W hT hr hr' (by omega) (by omega)).mono ?_
  rintro e W' ⟨F, f, rfl, hF, hb⟩
  exact ⟨F, f, rfl, hF, hb⟩
theorem at0 {w : World} (o1 o2 o3 : Obj) : (((w.alloc o1).alloc o2).alloc o3).heap[w.heap.size]? = some o1 := (Below.heap_alloc _ _ _ (by simp only [World.size_alloc]; omega)).trans ((Below.heap_alloc _ _ _ (by simp only [World.size_alloc]; omega)).trans (World.alloc_heap_new _ _))
theorem at1 {w : World} (o1 o2 o3 : Obj) : (((w.alloc o1).alloc o2).alloc o3).heap[w.heap.size + 1]? = some o2 := (Below.heap_alloc _ _ _ (by simp only [World.size_alloc]; omega)).trans (galloc_at _ _ _ (by simp))
theorem at2 {w : World} (o1 o2 o3 : Obj) : (((w.alloc o1).alloc o2).alloc o3).heap[w.heap.size + 1 + 1]? = some o3 := galloc_at _ _ _ (by simp)
theorem str_blk {W : World} {b t c : Nat} {fr : Nat × Nat} {cs : Array Value} {xs : List ByteArray} (h : W.heap[b]? = some (.cells cs t fr)) (hc : cs.toList = strs xs) (h1 : xs.length ≤ c) (h2 : c ≤ 1024) : StrS.lies W ⟨some ⟨b, 0, none⟩, c, xs⟩ := ⟨grd_blk h hc, h1, by show c ≤ _; omega, fun h => by cases h⟩
theorem str_nil (W : World) : StrS.lies W ⟨none, 0, []⟩ := ⟨Rd.nil _ _, Nat.le_refl _, by show (0 : Nat) ≤ _; omega, fun _ => rfl⟩
theorem sents_nil (W : World) : SentsAt W none [] := ⟨Rd.nil _ _, fun s hs => by cases hs⟩
theorem terms_nil (W : World) : TermsAt W none [] := ⟨Rd.nil _ _, fun s hs => by cases hs⟩
set_option maxHeartbeats 4000000 in
theorem sane34_any (w : World) (hT : Tabs w) : Calls Tryd.prog 7 #[] w fun e w' => e = .returned (.bool true) ∧ Below w.heap.size w w' := by
  go_enter Tryd.func7, Tryd.ntmps7
  go_wp2_with fail
  refine (oTerm_any _ _ _ _ _).mono ?_
  rintro e w1 ⟨b1, rfl, hb1, hx1⟩
  have y1 : w1.heap[w.heap.size]? = some (.cells #[.string oPoint, .string oOf, .string oOrder] 9 (0, 0)) := (hb1.block _ (by simp)).trans (World.alloc_heap_new _ _)
  have hB1 : Below w.heap.size w w1 := ext_trans (ext_alloc (Below.refl _ _) _) hb1
  clear hb1
  go_wp2_with fail
  refine calls_gen fun W hW => ?_
  have hBW : Below w1.heap.size w1 W := by rw [hW]; exact ext_alloc (ext_alloc (ext_alloc (Below.refl _ _) _) _) _
  have z0 : W.heap[w1.heap.size]? = some (.cells #[.string oA, .string oPoint, .string oOf, .string oOrder] 9 (0, 0)) := by rw [hW]; exact at0 _ _ _
  have z1 : W.heap[w1.heap.size + 1]? = some (.cells #[.string oA, .string oPoint] 9 (0, 0)) := by rw [hW]; exact at1 _ _ _
  have z2 : W.heap[w1.heap.size + 1 + 1]? = some (.cells #[.slice (some ⟨w1.heap.size, 0, none⟩) 4 4, .slice (some ⟨w1.heap.size + 1, 0, none⟩) 2 2] 23 (0, 0)) := by rw [hW]; exact at2 _ _ _
  clear hW
  have hxl : (oT (some ⟨w.heap.size, 0, none⟩) 3 [oPoint, oOf, oOrder] (some ⟨b1, 0, none⟩)).lies W := ⟨str_blk ((hBW.block _ (lt_block y1)).trans y1) rfl (by decide) (by decide), str_blk ((hBW.block _ (lt_block hx1)).trans hx1) rfl (by decide) (by decide)⟩
  have hSl : SentsAt W (some ⟨w1.heap.size + 1 + 1, 0, none⟩) [⟨some ⟨w1.heap.size, 0, none⟩, 4, [oA, oPoint, oOf, oOrder]⟩, ⟨some ⟨w1.heap.size + 1, 0, none⟩, 2, [oA, oPoint]⟩] := by
    refine ⟨grd_blk z2 rfl, fun s hs => ?_⟩
    simp only [List.mem_cons, List.not_mem_nil, or_false] at hs
    rcases hs with rfl | rfl
    · exact str_blk z0 rfl (by decide) (by decide)
    · exact str_blk z1 rfl (by decide) (by decide)
  have hBB := ext_trans hB1 hBW
  refine (tou_ok none 0 [] (oT (some ⟨w.heap.size, 0, none⟩) 3 [oPoint, oOf, oOrder] (some ⟨b1, 0, none⟩)) _ 2 _ 0 2 1 0 [0] W (utf_ext hT hBB) (terms_nil _) hxl (fun _ => rfl) hSl rfl rfl (by omega) (by omega) (eo1 _ _ _ _) rfl).mono ?_
  rintro e w2 ⟨A1, c1, rfl, hr1, hb2⟩
  have hB2 := ext_trans hBB hb2
  clear hxl hSl z0 z1 z2 y1 hx1 hBW hBB hb2 hB1
  go_wp2_with fail
  refine (oTerm_any _ _ _ _ _).mono ?_
  rintro e w3 ⟨b2, rfl, hb3, hx1⟩
  have y1 : w3.heap[w2.heap.size]? = some (.cells #[.string oHund] 9 (0, 0)) := (hb3.block _ (by simp)).trans (World.alloc_heap_new _ _)
  have hB3 : Below w2.heap.size w2 w3 := ext_trans (ext_alloc (Below.refl _ _) _) hb3
  clear hb3
  go_wp2_with fail
  refine calls_gen fun W hW => ?_
  have hBW : Below w3.heap.size w3 W := by rw [hW]; exact ext_alloc (ext_alloc (ext_alloc (Below.refl _ _) _) _) _
  have z0 : W.heap[w3.heap.size]? = some (.cells #[.string oDer, .string oHund] 9 (0, 0)) := by rw [hW]; exact at0 _ _ _
  have z1 : W.heap[w3.heap.size + 1]? = some (.cells #[.string oDie, .string oKatze] 9 (0, 0)) := by rw [hW]; exact at1 _ _ _
  have z2 : W.heap[w3.heap.size + 1 + 1]? = some (.cells #[.slice (some ⟨w3.heap.size, 0, none⟩) 2 2, .slice (some ⟨w3.heap.size + 1, 0, none⟩) 2 2, .slice none 0 0] 23 (0, 0)) := by rw [hW]; exact at2 _ _ _
  clear hW
  have hxl : (oT (some ⟨w2.heap.size, 0, none⟩) 1 [oHund] (some ⟨b2, 0, none⟩)).lies W := ⟨str_blk ((hBW.block _ (lt_block y1)).trans y1) rfl (by decide) (by decide), str_blk ((hBW.block _ (lt_block hx1)).trans hx1) rfl (by decide) (by decide)⟩
  have hSl : SentsAt W (some ⟨w3.heap.size + 1 + 1, 0, none⟩) [⟨some ⟨w3.heap.size, 0, none⟩, 2, [oDer, oHund]⟩, ⟨some ⟨w3.heap.size + 1, 0, none⟩, 2, [oDie, oKatze]⟩, ⟨none, 0, []⟩] := by
    refine ⟨grd_blk z2 rfl, fun s hs => ?_⟩
    simp only [List.mem_cons, List.not_mem_nil, or_false] at hs
    rcases hs with rfl | rfl | rfl
    · exact str_blk z0 rfl (by decide) (by decide)
    · exact str_blk z1 rfl (by decide) (by decide)
    · exact str_nil _
  have hBB := ext_trans hB3 hBW
  refine (tou_ok none 0 [] (oT (some ⟨w2.heap.size, 0, none⟩) 1 [oHund] (some ⟨b2, 0, none⟩)) _ 3 _ 0 3 1 0 [0] W (utf_ext hT (ext_trans hB2 hBB)) (terms_nil _) hxl (fun _ => rfl) hSl rfl rfl (by omega) (by omega) (eo2 _ _ _ _) rfl).mono ?_
  rintro e w4 ⟨A2, c2, rfl, hr2, hb4⟩
  have hB24 := ext_trans hBB hb4
  have hB4 := ext_trans hB2 hB24
  have hr1 := hr1.ext hB24
  clear hxl hSl z0 z1 z2 y1 hx1 hBW hBB hb4 hB3 hB24 hB2
  go_wp2_with fail
  refine (tou_ok none 0 [] oZ none 0 [] 0 0 0 270 [] w4 (utf_ext hT hB4) (terms_nil _) ⟨str_nil _, str_nil _⟩ (fun _ => rfl) (sents_nil _) rfl rfl (by omega) (by omega) eo3 rfl).mono ?_
  rintro e w5 ⟨A3, c3, rfl, _, hb5⟩
  have hB5 := ext_trans hB4 hb5
  have hr1 := hr1.ext hb5
  have hr2 := hr2.ext hb5
  clear hb5 hB4
  go_wp2_with fail
  refine (oTerm_any _ _ _ _ _).mono ?_
  rintro e w6 ⟨b3, rfl, hb6, hx3⟩
  have y3 : w6.heap[w5.heap.size]? = some (.cells #[.string oHund] 9 (0, 0)) := (hb6.block _ (by simp)).trans (World.alloc_heap_new _ _)
  have hB56 : Below w5.heap.size w5 w6 := ext_trans (ext_alloc (Below.refl _ _) _) hb6
  clear hb6
  go_wp2_with fail
  refine (oTerm_any _ _ _ _ _).mono ?_
  rintro e w7 ⟨b4, rfl, hb7, hx4⟩
  have y4 : w7.heap[w6.heap.size + 1]? = some (.cells #[.string oKatze] 9 (0, 0)) := (hb7.block _ (by simp)).trans (galloc_at _ _ _ (by simp))
  have y5 : w7.heap[w6.heap.size]? = some (.cells (oT (some ⟨w5.heap.size, 0, none⟩) 1 [oHund] (some ⟨b3, 0, none⟩)).cells.toArray 25 (0, 0)) := (hb7.block _ (by simp; omega)).trans ((Below.heap_alloc _ _ _ (by simp)).trans (World.alloc_heap_new _ _))
  have hB67 : Below w6.heap.size w6 w7 := ext_trans (ext_alloc (ext_alloc (Below.refl _ _) _) _) hb7
  have hB57 := ext_trans hB56 hB67
  have hlx : (oT (some ⟨w5.heap.size, 0, none⟩) 1 [oHund] (some ⟨b3, 0, none⟩)).lies w7 := ⟨str_blk ((hB67.block _ (lt_block y3)).trans y3) rfl (by decide) (by decide), str_blk ((hB67.block _ (lt_block hx3)).trans hx3) rfl (by decide) (by decide)⟩
  have hly : (oT (some ⟨w6.heap.size + 1, 0, none⟩) 1 [oKatze] (some ⟨b4, 0, none⟩)).lies w7 := ⟨str_blk y4 rfl (by decide) (by decide), str_blk hx4 rfl (by decide) (by decide)⟩
  have htl : TermsAt w7 (some ⟨w6.heap.size, 0, none⟩) [oT (some ⟨w5.heap.size, 0, none⟩) 1 [oHund] (some ⟨b3, 0, none⟩)] := ⟨grd_blk y5 rfl, fun x hx => by simp only [List.mem_cons, List.not_mem_nil, or_false] at hx; subst hx; exact hlx⟩
  have hB7 := ext_trans hB5 hB57
  have hr1 := hr1.ext hB57
  have hr2 := hr2.ext hB57
  clear hb7 hx3 hx4 y3 y4 y5 hB56 hB67 hB57 hB5 hlx
  go_wp2_with fail
  refine (tou_ok _ 1 [oT (some ⟨w5.heap.size, 0, none⟩) 1 [oHund] (some ⟨b3, 0, none⟩)] (oT (some ⟨w6.heap.size + 1, 0, none⟩) 1 [oKatze] (some ⟨b4, 0, none⟩)) none 0 [] 1 0 0 181 [] w7 (utf_ext hT hB7) htl hly (fun h => by cases h) (sents_nil _) rfl rfl (by omega) (by omega) (eo4 _ _ _ _) rfl).mono ?_
  rintro e w8 ⟨A4, c4, rfl, _, hb8⟩
  have hB8 := ext_trans hB7 hb8
  have hr1 := hr1.ext hb8
  have hr2 := hr2.ext hb8
  clear hb8 hB7 htl hly
  go_wp2_with fail
  refine (oTerm_any _ _ _ _ _).mono ?_
  rintro e w9 ⟨b5, rfl, hb9, hx1⟩
  have y1 : w9.heap[w8.heap.size]? = some (.cells #[.string oHund] 9 (0, 0)) := (hb9.block _ (by simp)).trans (World.alloc_heap_new _ _)
  have hB9 : Below w8.heap.size w8 w9 := ext_trans (ext_alloc (Below.refl _ _) _) hb9
  clear hb9
  go_wp2_with fail
  refine calls_gen fun W hW => ?_
  have hBW : Below w9.heap.size w9 W := by rw [hW]; exact ext_alloc (ext_alloc (Below.refl _ _) _) _
  have z0 : W.heap[w9.heap.size]? = some (.cells #[.string oNo] 9 (0, 0)) := by rw [hW]; exact (Below.heap_alloc _ _ _ (by simp)).trans (World.alloc_heap_new _ _)
  have z1 : W.heap[w9.heap.size + 1]? = some (.cells #[.slice (some ⟨w9.heap.size, 0, none⟩) 1 1] 23 (0, 0)) := by rw [hW]; exact galloc_at _ _ _ (by simp)
  clear hW
  have hxl : (oT (some ⟨w8.heap.size, 0, none⟩) 1 [oHund] (some ⟨b5, 0, none⟩)).lies W := ⟨str_blk ((hBW.block _ (lt_block y1)).trans y1) rfl (by decide) (by decide), str_blk ((hBW.block _ (lt_block hx1)).trans hx1) rfl (by decide) (by decide)⟩
  have hSl : SentsAt W (some ⟨w9.heap.size + 1, 0, none⟩) [⟨some ⟨w9.heap.size, 0, none⟩, 1, [oNo]⟩] := by
    refine ⟨grd_blk z1 rfl, fun s hs => ?_⟩
    simp only [List.mem_cons, List.not_mem_nil, or_false] at hs
    subst hs
    exact str_blk z0 rfl (by decide) (by decide)
  have hBB := ext_trans hB9 hBW
  refine (tou_ok none 0 [] (oT (some ⟨w8.heap.size, 0, none⟩) 1 [oHund] (some ⟨b5, 0, none⟩)) _ 1 _ 0 1 0 280 [] W (utf_ext hT (ext_trans hB8 hBB)) (terms_nil _) hxl (fun _ => rfl) hSl rfl rfl (by omega) (by omega) (eo5 _ _ _) rfl).mono ?_
  rintro e w10 ⟨A5, c5, rfl, _, hb10⟩
  have hB810 := ext_trans hBB hb10
  have hB10 := ext_trans hB8 hB810
  have hr1 := hr1.ext hB810
  have hr2 := hr2.ext hB810
  clear hxl hSl z0 z1 y1 hx1 hBW hBB hb10 hB9 hB810 hB8
  go_wp2_with fail
  refine calls_gen fun W hW => ?_
  have hBW : Below w10.heap.size w10 W := by rw [hW]; exact ext_alloc (ext_alloc (Below.refl _ _) _) _
  have z0 : Rd W (some ⟨w10.heap.size, 0, none⟩) ([oTg oThe 0, oTg oDog 0].flatMap Tgt.cells) := by rw [hW]; exact grd_blk ((Below.heap_alloc _ _ _ (by simp)).trans (World.alloc_heap_new _ _)) rfl
  have z1 : Rd W (some ⟨w10.heap.size + 1, 0, none⟩) ([oTg oThe 7, oTg oDog 0].flatMap Tgt.cells) := by rw [hW]; exact grd_blk (galloc_at _ _ _ (by simp)) rfl
  clear hW
  refine (dif_ex _ 2 [oTg oThe 0, oTg oDog 0] _ 2 [oTg oThe 7, oTg oDog 0] 2 2 2 0 0 [1, 1] W (utf_ext hT (ext_trans hB10 hBW)) z0 z1 rfl rfl (by omega) (by omega) eo6 rfl).mono ?_
  rintro e w11 ⟨A6, c6, rfl, hr6, hb11⟩
  have hB1011 := ext_trans hBW hb11
  have hB11 := ext_trans hB10 hB1011
  have hr1 := hr1.ext hB1011
  have hr2 := hr2.ext hB1011
  clear z0 z1 hBW hb11 hB1011 hB10
  go_wp2_with fail
  refine (dif_ex none 0 [] none 0 [] 0 0 0 0 0 [] w11 (utf_ext hT hB11) (Rd.nil _ _) (Rd.nil _ _) rfl rfl (by omega) (by omega) eo7 rfl).mono ?_
  rintro e w12 ⟨A7, c7, rfl, _, hb12⟩
  have hB12 := ext_trans hB11 hb12
  have hr1 := hr1.ext hb12
  have hr2 := hr2.ext hb12
  have hr6 := hr6.ext hb12
  clear hb12 hB11
  go_wp2_with fail
  refine calls_gen fun W hW => ?_
  have hBW : Below w12.heap.size w12 W := by rw [hW]; exact ext_alloc (Below.refl _ _) _
  have z0 : Rd W (some ⟨w12.heap.size, 0, none⟩) ([oTg oNo 0].flatMap Tgt.cells) := by rw [hW]; exact grd_blk (World.alloc_heap_new _ _) rfl
  clear hW
  refine (dif_ex _ 1 [oTg oNo 0] none 0 [] 1 0 0 300 0 [] W (utf_ext hT (ext_trans hB12 hBW)) z0 (Rd.nil _ _) rfl rfl (by omega) (by omega) eo8 rfl).mono ?_
  rintro e w13 ⟨A8, c8, rfl, _, hb13⟩
  have hB1213 := ext_trans hBW hb13
  have hB13 := ext_trans hB12 hB1213
  have hr1 := hr1.ext hB1213
  have hr2 := hr2.ext hB1213
  have hr6 := hr6.ext hB1213
  clear z0 hBW hb13 hB1213 hB12
  go_wp2_with fail
  refine calls_gen fun W hW => ?_
  have hBW : Below w13.heap.size w13 W := by rw [hW]; exact ext_alloc (Below.refl _ _) _
  have z0 : Rd W (some ⟨w13.heap.size, 0, none⟩) (nats [0]) := by rw [hW]; exact grd_blk (World.alloc_heap_new _ _) rfl
  clear hW
  refine (sameNats_any A1 _ c1 1 [0] [0] W (hr1.ext hBW) z0 (by decide)).mono ?_
  rintro e w14 ⟨rfl, hb14⟩
  have hB1314 := ext_trans hBW hb14
  have hB14 := ext_trans hB13 hB1314
  have hr2 := hr2.ext hB1314
  have hr6 := hr6.ext hB1314
  rw [show decide ([0] = ([0] : List Nat)) = true from rfl]
  clear z0 hBW hb14 hB1314 hB13 hr1
  go_wp2_with fail
  refine calls_gen fun W hW => ?_
  have hBW : Below w14.heap.size w14 W := by rw [hW]; exact ext_alloc (Below.refl _ _) _
  have z0 : Rd W (some ⟨w14.heap.size, 0, none⟩) (nats [0]) := by rw [hW]; exact grd_blk (World.alloc_heap_new _ _) rfl
  clear hW
  refine (sameNats_any A2 _ c2 1 [0] [0] W (hr2.ext hBW) z0 (by decide)).mono ?_
  rintro e w15 ⟨rfl, hb15⟩
  have hB1415 := ext_trans hBW hb15
  have hB15 := ext_trans hB14 hB1415
  have hr6 := hr6.ext hB1415
  rw [show decide ([0] = ([0] : List Nat)) = true from rfl]
  clear z0 hBW hb15 hB1415 hB14 hr2
  go_wp2_with fail
  refine calls_gen fun W hW => ?_
  have hBW : Below w15.heap.size w15 W := by rw [hW]; exact ext_alloc (Below.refl _ _) _
  have z0 : Rd W (some ⟨w15.heap.size, 0, none⟩) (nats [1, 1]) := by rw [hW]; exact grd_blk (World.alloc_heap_new _ _) rfl
  clear hW
  refine (sameNats_any A6 _ c6 2 [1, 1] [1, 1] W (hr6.ext hBW) z0 (by decide)).mono ?_
  rintro e w16 ⟨rfl, hb16⟩
  have hB16 := ext_trans hB15 (ext_trans hBW hb16)
  rw [show decide ([1, 1] = ([1, 1] : List Nat)) = true from rfl]
  clear z0 hBW hb16 hB15 hr6
  go_wp2_with fail
  go_ret
  exact ⟨rfl, hB16⟩
end Go.Proofs.YtmindojbkedmlaaDoor

/- ChangesSpec. -/
namespace Go.Proofs.YtmindojbkedmlaaDoor
open Go.RowKit Go.Han
attribute [local irreducible] wpStill wpQuiet
set_option maxRecDepth 100000

theorem tou_form {l : List Term} {x : Term} {S : List StrS} {w w' : World} {e : Ending} (h : TouPost l x S w e w') : ∃ A c, e = .returned (.tuple #[.slice A (touchO l x S).length c, .int .i64 (touchE l x S)]) ∧ Rd w' A (nats (touchO l x S)) ∧ Below w.heap.size w w' := by
  obtain ⟨h1, A, c, h2, h3⟩ := h
  exact ⟨A, c, h2, h3, h1⟩
theorem few1_any (A : Option Addr) (c : Nat) (w : World) : Calls Tryd.prog 8 #[.slice A 1 c] w fun e w' => e = .returned (.bool true) ∧ w = w' :=
  fewT_any A c [oZ] w (by decide)
theorem touO_le (l : List Term) (x : Term) (S : List StrS) : (touchO l x S).length ≤ S.length := by
  unfold touchO
  split
  · unfold touchL idxT
    refine Nat.le_trans (List.length_filter_le _ _) ?_
    simp
  · exact Nat.zero_le _
set_option maxHeartbeats 8000000 in
theorem ChangesSpec_any (A : Option Addr) (cp : Nat) (l : List Term) (x : Term) (B : Option Addr) (cq : Nat) (S : List StrS) (w : World) (hU : Tabs w) (hr : TermsAt w A l) (hx : x.lies w) (hS : SentsAt w B S) (hA : A = none → l = []) (hcp : l.length ≤ cp) (hcm : cp ≤ 9223372036854775807) (hm : l.length ≤ 9223372036854775807) (hm' : S.length ≤ 9223372036854775807) :
    Calls Tryd.prog 3 #[.slice A l.length cp, .agg #[.int .i64 x.no, .int .i64 x.at_, .int .i64 x.known, .int .i64 x.lang, .slice x.src.addr x.src.xs.length x.src.cap, .slice x.tgt.addr x.tgt.xs.length x.tgt.cap, .string x.cat, .bool x.gone], .slice B S.length cq] w fun e w' => e = .returned (.bool true) ∧ Below w.heap.size w w' := by
  obtain ⟨w0, hw0⟩ : ∃ w0, w.alloc (.cells #[.int .i64 x.no, .int .i64 x.at_, .int .i64 x.known, .int .i64 x.lang, .slice x.src.addr x.src.xs.length x.src.cap, .slice x.tgt.addr x.tgt.xs.length x.tgt.cap, .string x.cat, .bool x.gone] 25) = w0 := ⟨_, rfl⟩
  have hB0 : Below w.heap.size w w0 := by rw [← hw0]; exact ext_alloc (Below.refl _ _) _
  have hx0 : w0.heap[w.heap.size]? = some (.cells #[.int .i64 x.no, .int .i64 x.at_, .int .i64 x.known, .int .i64 x.lang, .slice x.src.addr x.src.xs.length x.src.cap, .slice x.tgt.addr x.tgt.xs.length x.tgt.cap, .string x.cat, .bool x.gone] 25 (0, 0)) := by rw [← hw0]; exact World.alloc_heap_new _ _
  have HB0 : Hid (∀ W, Below w0.heap.size w0 W → Below w.heap.size w W) := fun W h => ext_trans hB0 h
  have Hr := Lib.hid (hr.ext hB0)
  have Hx := Lib.hid (hx.ext hB0)
  have HS := Lib.hid (hS.ext hB0)
  have HU := Lib.hid (utf_ext hU hB0)
  have HA := Lib.hid hA
  have Hm := Lib.hid hm
  have Hm' := Lib.hid hm'
  have Hcp := Lib.hid (And.intro hcp hcm)
  have Hout := Lib.hid (touO_le l x S)
  have cs := sane34_any w0 HU.out
  have cf := Lib.hid (fun w => fewT_any A cp l w Hm.out)
  have cg := Lib.hid (fun W (hW : Below w0.heap.size w0 W) => few34_any B cq S W (HS.out.ext hW) Hm'.out)
  generalize (decide (l.length ≤ 30) || (decide (1024 < l.length) && decide (l.length ≤ 1100))) = q at *
  generalize fewS S = q2 at *
  clear hr hx hU hA hcp hcm hm hm' hS
  go_enter Tryd.func3, Tryd.ntmps3
  go_wp2_with fail
  refine cs.mono ?_
  rintro e w1 ⟨rfl, hb1⟩
  have HB1 := Lib.hid hb1
  have hx1 := (hb1.block _ (lt_block hx0)).trans hx0
  have lx1 := lt_block hx1
  have lx2 := Nat.ne_of_lt lx1
  have b0 := gblk hx1 0
  have b1 := gblk hx1 1
  have b2 := gblk hx1 2
  have b3 := gblk hx1 3
  have b4 := gblk hx1 4
  have b5 := gblk hx1 5
  have b6 := gblk hx1 6
  have b7 := gblk hx1 7
  clear hx1 cs hb1
  go_wp2_with fail
  refine (cf.out _).mono ?_
  rintro e w' ⟨rfl, rfl⟩
  cases q
  · go_wp2_with fail
    go_ret
    exact ⟨rfl, HB0.out _ HB1.out⟩
  go_wp2_with fail
  refine (few1_any _ _ _).mono ?_
  rintro e w' ⟨rfl, rfl⟩
  obtain ⟨w2, hw2⟩ : ∃ w2, w1.alloc (.cells #[.int .i64 x.no, .int .i64 x.at_, .int .i64 x.known, .int .i64 x.lang, .slice x.src.addr x.src.xs.length x.src.cap, .slice x.tgt.addr x.tgt.xs.length x.tgt.cap, .string x.cat, .bool x.gone] 25) = w2 := ⟨_, rfl⟩
  have hb2 : Below w1.heap.size w1 w2 := by rw [← hw2]; exact ext_alloc (Below.refl _ _) _
  have HB2 := Lib.hid (ext_trans HB1.out hb2)
  try rw [hw2]
  clear hb2 b0 b1 b2 b3 b4 b5 b6 b7 lx1 lx2
  go_wp2_with fail
  refine (cg.out w2 HB2.out).mono ?_
  rintro e w' ⟨rfl, rfl⟩
  cases q2
  · go_wp2_with fail
    go_ret
    exact ⟨rfl, HB0.out _ HB2.out⟩
  have hx2 := (HB2.out.block _ (lt_block hx0)).trans hx0
  have b0 := gblk hx2 0
  have b1 := gblk hx2 1
  have b2 := gblk hx2 2
  have b3 := gblk hx2 3
  have b4 := gblk hx2 4
  have b5 := gblk hx2 5
  have b6 := gblk hx2 6
  have b7 := gblk hx2 7
  clear hx2 hw2
  go_wp2_with fail
  refine (Touched_any A cp l x B cq S w2 (utf_ext HU.out HB2.out) (Hr.out.ext HB2.out) (Hx.out.ext HB2.out) HA.out Hm.out (HS.out.ext HB2.out) Hm'.out).mono ?_
  rintro e w3 hp
  obtain ⟨A3, c3, rfl, hT3, hb3⟩ := tou_form hp
  have HB3 := Lib.hid (ext_trans HB2.out hb3)
  have HT3 := Lib.hid hT3
  clear hb3 hT3 hp b0 b1 b2 b3 b4 b5 b6 b7
  have hx2 := (HB3.out.block _ (lt_block hx0)).trans hx0
  have b0 := gblk hx2 0
  have b1 := gblk hx2 1
  have b2 := gblk hx2 2
  have b3 := gblk hx2 3
  have b4 := gblk hx2 4
  have b5 := gblk hx2 5
  have b6 := gblk hx2 6
  have b7 := gblk hx2 7
  clear hx2
  go_wp2_with fail
  refine (rtouched_any A cp l x B cq S w3 (Hr.out.ext HB3.out) (Hx.out.ext HB3.out) Hcp.out.1 Hcp.out.2 (HS.out.ext HB3.out) Hm'.out).mono ?_
  rintro e w4 hp
  obtain ⟨A4, c4, rfl, hT4, hb4⟩ := tou_form hp
  have HB4 := Lib.hid (ext_trans HB3.out hb4)
  have cq := sameNats_any A3 A4 c3 c4 (touchO l x S) (touchO l x S) w4 (HT3.out.ext hb4) hT4 (by have := Hout.out; have := Hm'.out; omega)
  rw [decide_eq_true rfl] at cq
  have CQ := Lib.hid cq
  have k1 : (touchE l x S == touchE l x S) = true := by simp
  clear hb4 hT4 hp cq b0 b1 b2 b3 b4 b5 b6 b7
  go_wp2_with fail
  refine CQ.out.mono ?_
  rintro e w5 ⟨rfl, hb5⟩
  have HB5 := Lib.hid (ext_trans HB4.out hb5)
  clear hb5 CQ
  go_wp2_with fail
  go_ret
  exact ⟨by first | rfl | (simp; done), HB0.out _ HB5.out⟩
end Go.Proofs.YtmindojbkedmlaaDoor

/- How the arguments of the statements read: the two tables of package utf8, spots, changes, slices of them. -/
namespace Go.Proofs.YtmindojbkedmlaaDoor
open Go.RowKit Go.Han Go.ChangeShapes Go.WideShapes Go.ChangeAt Go.Deep
set_option maxRecDepth 100000

def uren : Go.Shelf.Ren := ⟨fun n => n, fun | 5 => 5 | 119 => 135 | 138 => 137 | 139 => 138 | n => n, fun | 3 => 0 | 4 => 1 | n => n⟩
theorem own_knob : ownKnob Tryd.prog.godebug = none := by kernel_rfl
theorem u8types : U8Types Tryd.prog uren := ⟨by kernel_rfl, by kernel_rfl, by kernel_rfl, by kernel_rfl⟩
theorem u8extra : U8Extra Tryd.prog uren := ⟨by kernel_rfl, by kernel_rfl, by kernel_rfl, by kernel_rfl, by kernel_rfl, by kernel_rfl, by kernel_rfl⟩
theorem accept_eq : (Rows.laid_unicode_utf8_acceptRanges : DataW Unit) = Lib.acceptData := by kernel_rfl
abbrev laidL : List (String × DataW Unit) := [("unicode/utf8.acceptRanges", Rows.laid_unicode_utf8_acceptRanges), ("unicode/utf8.first", Rows.laid_unicode_utf8_first)]
theorem tabs_of {W : World} (h : laidMetH Tryd.prog laidL W) : Tabs W := by
  rw [MakeChecks.laidMetH_plain _ _ _ (by kernel_rfl)] at h
  have h1 := Lib.laidMet.reads h (n := "unicode/utf8.acceptRanges") (d := Rows.laid_unicode_utf8_acceptRanges) (by simp [laidL])
  have h2 := Lib.laidMet.reads h (n := "unicode/utf8.first") (d := Rows.laid_unicode_utf8_first) (by simp [laidL])
  rw [accept_eq] at h1
  rw [show (Rows.laid_unicode_utf8_first : DataW Unit) = Lib.firstData from Pinned.utf8First_eq] at h2
  exact utf8Tabs_of_readsT u8types u8extra h2 h1

section
variable {H : Type} {enc : TypeId × Value → H} {w : World} {base : Nat} {spare : Nat → Bool} {held : Bool}
theorem cells_int : Tryd.prog.cellsOf 3 = 1 := by kernel_rfl
theorem cells_string : Tryd.prog.cellsOf 9 = 1 := by kernel_rfl
theorem field_at {fs : Array Field} {l : List (TypeId × Nat)} (h : fs.toList.map (fun f => (f.type, f.offset)) = l) {i : Nat} {t o : Nat} (hi : l[i]? = some (t, o)) : ∃ f, fs[i]? = some f ∧ f.type = t ∧ f.offset = o := by
  rw [← h, List.getElem?_map] at hi
  cases hf : fs.toList[i]? with
  | none => rw [hf] at hi; cases hi
  | some f =>
    rw [hf] at hi
    simp only [Option.map_some, Option.some.injEq, Prod.mk.injEq] at hi
    exact ⟨f, by simpa using hf, hi.1, hi.2⟩
/-- The end of a row's proof: the call has only laid new blocks. -/
theorem post_below {P : Program} {f : Func} {s : ChangeSpec} {apart fresh handsOn again : Bool} {W W' : World} {args : Array Value} {v : Value} {ds gs : List (DataW H)} {before pa pv : List MemPlace}
    (hW : DataW.Whole enc P f.params.toList s.vars apart W args.toList ds gs before)
    (hres : ∀ (b : Nat) (sp : Nat → Bool) (hd : Bool), DataW.TrodAll enc P W' b sp hd f.resultTypes.toList (v.resultList f.resultTypes.size) (s.fn H (ds ++ gs)).results [])
    (hargs : ∀ sp : Nat → Bool, (∀ p ∈ before, sp p.block = true) → DataW.TrodAll enc P W' 0 sp true f.params.toList args.toList (s.fn H (ds ++ gs)).args pa)
    (hvars : ∀ sp : Nat → Bool, (∀ p ∈ before, sp p.block = true) → DataW.TrodVars enc P W' sp s.vars (s.fn H (ds ++ gs)).vars pv)
    (hps : before = pa ++ pv) (hb : Below W.heap.size W W')
    (hok : ∀ (j : Nat) (t : TypeId) (r : Value), f.resultTypes[j]? = some t → (v.resultList f.resultTypes.size)[j]? = some r → Value.okWide P W' .any 0 t r) :
    s.post enc P f apart fresh handsOn again W args v W' := by
  have hlt : ∀ p ∈ before, p.block < W.heap.size := fun p hp => hW.lt p hp
  have hold : ∀ p ∈ before, (fun b => decide (b < W.heap.size)) p.block = true := fun p hp => by simpa using hlt p hp
  refine ⟨ds, gs, before, [], pa, pv, hW, hres _ _ _, hargs _ hold, hvars _ hold, World.keptBut_mono (fun p hp => ⟨hp, ?_⟩) (hb.frame (· ∈ before)), fun _ => ?_⟩
  · rw [hps, List.mem_append] at hp
    exact Or.inr hp
  · obtain ⟨_, _, _, _, _, hz, hn⟩ := hW
    refine ⟨hok, _, _, ([] ++ pa) ++ pv, ⟨[] ++ pa, pv, trodAll_append (hargs _ (fun _ _ => rfl)) (hres _ _ _), hvars _ (fun _ _ => rfl), rfl, ?_, ?_⟩, ?_⟩
    · intro b off hp
      have hin : MemPlace.cell b off ∈ before := by rw [hps]; simpa using hp
      rw [hb.frozen (hlt _ hin)]
      exact hz b off hin
    · intro ha
      have := hn ha
      rw [hps] at this
      simpa using this
    · intro p hp _
      rw [hps]
      simpa using hp

/-- A slice whose elements each read as s cells. -/
theorem open_rows {α : Type} (f : α → List Value) (s : Nat) (d0 : α) {t e : TypeId} (ht : Tryd.prog.underlying t = some (.slice e)) (hs : Tryd.prog.cellsOf e = s) (hs0 : 0 < s) (hf : ∀ y, (f y).length = s)
    (hel : ∀ (fuel : Nat) (cs : List Value) (x : DataW H × List MemPlace), DataW.trod enc Tryd.prog w 0 spare held fuel e cs = some x → ∃ y : α, cs = f y)
    {fuel : Nat} {cs : List Value} {x : DataW H × List MemPlace} (h : DataW.trod enc Tryd.prog w 0 spare held fuel t cs = some x) :
    ∃ (A : Option Addr) (cp : Nat) (l : List α), cs = [.slice A l.length cp] ∧ Rd w A (l.flatMap f) ∧ (A = none → l = []) ∧ l.length ≤ maxLen := by
  rcases open_slice ht h with ⟨rfl, _⟩ | ⟨a, len, cap, m, n, D, Pl, rfl, _, hl, hm, hmm, _, hi⟩
  · exact ⟨none, 0, [], rfl, Rd.nil _ _, fun _ => rfl, Nat.zero_le _⟩
  · have hlm : len ≤ m := by rw [hmm]; split <;> omega
    have each : ∀ i, i < len → ∃ y : α, ∀ j u, (f y)[j]? = some u → w.cell? (a.add (i * s + j)) = some u := by
      intro i hil
      obtain ⟨cs', hc, htr⟩ := hi i (by omega)
      obtain ⟨y, rfl⟩ := hel _ _ _ htr
      refine ⟨y, fun j u hu => ?_⟩
      rw [hs] at hc
      obtain ⟨_, hcl, hat⟩ := World.cells?_some hc
      have hj : j < s := by rw [← hf y]; exact (List.getElem?_eq_some_iff.1 hu).1
      rw [← Go.Deep.add_add, hat j hj, hu]
    refine ⟨some a, cap, (List.range len).map (fun i => if h : i < len then Classical.choose (each i h) else d0), by rw [List.length_map, List.length_range], ?_, (fun h => by cases h), by rw [List.length_map, List.length_range]; omega⟩
    rcases Nat.eq_zero_or_pos len with rfl | hpos
    · exact .inl (by simp)
    · have hsp : a.spot = none ∧ a.block < w.heap.size := by
        obtain ⟨y0, h0⟩ := each 0 hpos
        have hl0 : 0 < (f y0).length := by rw [hf]; exact hs0
        have := h0 0 _ (List.getElem?_eq_getElem hl0)
        rw [Nat.zero_mul, Nat.zero_add] at this
        have hc : w.cell? a = some _ := this
        refine ⟨?_, lt_cell hc⟩
        unfold World.cell? at hc
        split at hc
        · split at hc
          · cases hc
          · rename_i hn; simpa using hn
        · cases hc
      obtain ⟨b, off, sp⟩ := a
      obtain ⟨rfl, hb⟩ := hsp
      refine .inr ⟨b, off, rfl, hb, fun j u hu => ?_⟩
      have hj : j < len * s := by
        have := (List.getElem?_eq_some_iff.1 hu).1
        rwa [flat_len f s hf, List.length_map, List.length_range] at this
      have hk : j / s < len := by rw [Nat.div_lt_iff_lt_mul hs0]; exact hj
      have hjs : j % s < s := Nat.mod_lt _ hs0
      have e : j / s * s + j % s = j := by rw [Nat.mul_comm]; exact Nat.div_add_mod j s
      have hg := flat_get f s hf ((List.range len).map (fun i => if h : i < len then Classical.choose (each i h) else d0)) (j / s) (j % s) (by simpa using hk) hjs
      rw [e, hu, List.getElem_map, List.getElem_range, dif_pos hk] at hg
      have := Classical.choose_spec (each (j / s) hk) (j % s) u hg.symm
      rw [e] at this
      unfold Addr.add at this
      split at this
      · rename_i h0; subst h0; exact this
      · exact this
end
end Go.Proofs.YtmindojbkedmlaaDoor

/- Cards: arguments that are only read, all at once. -/
namespace Go.Proofs.YtmindojbkedmlaaDoor
open Go.RowKit Go.Han Go.ChangeShapes Go.WideShapes Go.ChangeAt Go.Deep
set_option maxRecDepth 100000
theorem laid_out : laidOutB Tryd.prog = true := by kernel_rfl
theorem witness_laid (os : Os) (args : Array Value) : laidMetH Tryd.prog laidL ((World.laidAll Tryd.prog os laidL).forCall (fun _ _ => 0) ⟨#[], args, []⟩).memory := by
  rw [MakeChecks.laidMetH_plain _ _ _ (by kernel_rfl)]
  exact laidMet_laidAll _ (by kernel_rfl) (by kernel_rfl)
section
variable {H : Type} {enc : TypeId × Value → H} {P : Program} {w : World} {base : Nat} {spare : Nat → Bool} {held : Bool}
theorem trodAll_below (hl : laidOutB P = true) {W W' : World} (hb : Below W.heap.size W W') {sp : Nat → Bool} : ∀ {ts : List TypeId} {vs : List Value} {ds : List (DataW H)} {ps : List MemPlace}, (ts.all fun t => P.readableRec t && decide (t < P.types.size)) = true →
    DataW.TrodAll enc P W 0 (fun _ => true) true ts vs ds ps → (∀ x ∈ ps, x.block < W.heap.size) → (∀ x ∈ ps, sp x.block = true) → DataW.TrodAll enc P W' 0 sp true ts vs ds ps
  | [], vs, ds, ps, _, h, _, _ => by
    obtain ⟨rfl, rfl, rfl⟩ := trodAll_nil h
    exact trodAll_mk0
  | t :: ts, vs, ds, ps, hr, h, hlt, hsp => by
    simp only [List.all_cons, Bool.and_eq_true, decide_eq_true_eq] at hr
    obtain ⟨v, vs', d, ds', p, q, rfl, rfl, rfl, hd, hrest⟩ := trodAll_cons h
    exact trodAll_cons_mk (WideElems.Trod_stays hl hr.1.1 hr.1.2 hd (fun x hx => hb.same (hlt x (by simp [hx]))) (fun x hx => hsp x (by simp [hx])))
      (trodAll_below hl hb hr.2 hrest (fun x hx => hlt x (by simp [hx])) (fun x hx => hsp x (by simp [hx])))
theorem args_two {t0 t1 : TypeId} {args : Array Value} {ds : List (DataW H)} {ps : List MemPlace} (h : DataW.TrodAll enc P w base spare held [t0, t1] args.toList ds ps) :
    ∃ v0 v1 d0 d1 p0 p1, args = #[v0, v1] ∧ ds = [d0, d1] ∧ DataW.Trod enc P w base spare held t0 v0 d0 p0 ∧ DataW.Trod enc P w base spare held t1 v1 d1 p1 := by
  obtain ⟨v0, s0, d0, e0, p0, q0, hargs, rfl, rfl, h0, r0⟩ := trodAll_cons h
  obtain ⟨v1, s1, d1, e1, p1, q1, rfl, rfl, rfl, h1, r1⟩ := trodAll_cons r0
  obtain ⟨rfl, rfl, rfl⟩ := trodAll_nil r1
  exact ⟨v0, v1, d0, d1, p0, p1, by cases args; simp_all, rfl, h0, h1⟩
theorem args_three {t0 t1 t2 : TypeId} {args : Array Value} {ds : List (DataW H)} {ps : List MemPlace} (h : DataW.TrodAll enc P w base spare held [t0, t1, t2] args.toList ds ps) :
    ∃ v0 v1 v2 d0 d1 d2 p0 p1 p2, args = #[v0, v1, v2] ∧ ds = [d0, d1, d2] ∧ DataW.Trod enc P w base spare held t0 v0 d0 p0 ∧ DataW.Trod enc P w base spare held t1 v1 d1 p1 ∧ DataW.Trod enc P w base spare held t2 v2 d2 p2 := by
  obtain ⟨v0, s0, d0, e0, p0, q0, hargs, rfl, rfl, h0, r0⟩ := trodAll_cons h
  obtain ⟨v1, s1, d1, e1, p1, q1, rfl, rfl, rfl, h1, r1⟩ := trodAll_cons r0
  obtain ⟨v2, s2, d2, e2, p2, q2, rfl, rfl, rfl, h2, r2⟩ := trodAll_cons r1
  obtain ⟨rfl, rfl, rfl⟩ := trodAll_nil r2
  exact ⟨v0, v1, v2, d0, d1, d2, p0, p1, p2, by cases args; simp_all, rfl, h0, h1, h2⟩
theorem args_four {t0 t1 t2 t3 : TypeId} {args : Array Value} {ds : List (DataW H)} {ps : List MemPlace} (h : DataW.TrodAll enc P w base spare held [t0, t1, t2, t3] args.toList ds ps) :
    ∃ v0 v1 v2 v3 d0 d1 d2 d3 p0 p1 p2 p3, args = #[v0, v1, v2, v3] ∧ ds = [d0, d1, d2, d3] ∧ DataW.Trod enc P w base spare held t0 v0 d0 p0 ∧ DataW.Trod enc P w base spare held t1 v1 d1 p1 ∧ DataW.Trod enc P w base spare held t2 v2 d2 p2 ∧ DataW.Trod enc P w base spare held t3 v3 d3 p3 := by
  obtain ⟨v0, s0, d0, e0, p0, q0, hargs, rfl, rfl, h0, r0⟩ := trodAll_cons h
  obtain ⟨v1, s1, d1, e1, p1, q1, rfl, rfl, rfl, h1, r1⟩ := trodAll_cons r0
  obtain ⟨v2, s2, d2, e2, p2, q2, rfl, rfl, rfl, h2, r2⟩ := trodAll_cons r1
  obtain ⟨v3, s3, d3, e3, p3, q3, rfl, rfl, rfl, h3, r3⟩ := trodAll_cons r2
  obtain ⟨rfl, rfl, rfl⟩ := trodAll_nil r3
  exact ⟨v0, v1, v2, v3, d0, d1, d2, d3, p0, p1, p2, p3, by cases args; simp_all, rfl, h0, h1, h2, h3⟩
theorem args_six {t0 t1 t2 t3 t4 t5 : TypeId} {args : Array Value} {ds : List (DataW H)} {ps : List MemPlace} (h : DataW.TrodAll enc P w base spare held [t0, t1, t2, t3, t4, t5] args.toList ds ps) :
    ∃ v0 v1 v2 v3 v4 v5 d0 d1 d2 d3 d4 d5 p0 p1 p2 p3 p4 p5, args = #[v0, v1, v2, v3, v4, v5] ∧ ds = [d0, d1, d2, d3, d4, d5] ∧ DataW.Trod enc P w base spare held t0 v0 d0 p0 ∧ DataW.Trod enc P w base spare held t1 v1 d1 p1 ∧ DataW.Trod enc P w base spare held t2 v2 d2 p2 ∧ DataW.Trod enc P w base spare held t3 v3 d3 p3 ∧ DataW.Trod enc P w base spare held t4 v4 d4 p4 ∧ DataW.Trod enc P w base spare held t5 v5 d5 p5 := by
  obtain ⟨v0, s0, d0, e0, p0, q0, hargs, rfl, rfl, h0, r0⟩ := trodAll_cons h
  obtain ⟨v1, s1, d1, e1, p1, q1, rfl, rfl, rfl, h1, r1⟩ := trodAll_cons r0
  obtain ⟨v2, s2, d2, e2, p2, q2, rfl, rfl, rfl, h2, r2⟩ := trodAll_cons r1
  obtain ⟨v3, s3, d3, e3, p3, q3, rfl, rfl, rfl, h3, r3⟩ := trodAll_cons r2
  obtain ⟨v4, s4, d4, e4, p4, q4, rfl, rfl, rfl, h4, r4⟩ := trodAll_cons r3
  obtain ⟨v5, s5, d5, e5, p5, q5, rfl, rfl, rfl, h5, r5⟩ := trodAll_cons r4
  obtain ⟨rfl, rfl, rfl⟩ := trodAll_nil r5
  exact ⟨v0, v1, v2, v3, v4, v5, d0, d1, d2, d3, d4, d5, p0, p1, p2, p3, p4, p5, by cases args; simp_all, rfl, h0, h1, h2, h3, h4, h5⟩
theorem agg_cells {cs : Array Value} {l : List Value} (h : (Value.agg cs).cells.toList = l) : Value.agg cs = .agg l.toArray := by
  have : cs.toList = l := by simpa [Value.cells] using h
  rw [← this]
end
end Go.Proofs.YtmindojbkedmlaaDoor
