/- Texts of this claim, one after the other: R28d, TagJ, GrmH, GrmL. -/
import Derived.Test.YthojaplnimoacaaGreatDoorM14
import Derived.Test.YthojaplnimoacaaGreatDoorM5
import Derived.Test.YthojaplnimoacaaGreatDoorM7
import Derived.Test.YthojaplnimoacaaGreatDoorM6
import Derived.Test.YthojaplnimoacaaGreatDoorM8
import Derived.Maps.RangeWalk
/- Reference 28: single. -/
namespace Go.Proofs.YthojaplnimoacaaGreatDoor
open Go.RowKit Go.Han
attribute [local irreducible] wpStill wpQuiet
set_option maxRecDepth 100000

theorem RowI.rebase {w0 W W2 V : World} {v : Value} {L : List ItemG} (h : RowI w0 W2 v L V) (hb : Below W.heap.size W W2) : RowI w0 W v L V := ⟨ext_trans hb h.below, h.own.mono hb.size, h.far⟩
/-- A box of the call's own is kept by an append. -/
theorem RowI.keep {w0 W V V1 V2 : World} {v : Value} {L : List ItemG} (h : RowI w0 W v L V) (hb : Below V.heap.size V V1) (hg : V1.grownBy V2 v.ownBlock) {k : Nat} {cs : Array Value} {t : TypeId} {fr : Nat × Nat} (hk : V.heap[k]? = some (.cells cs t fr)) (ht : t ≠ 47) : V2.heap[k]? = some (.cells cs t fr) := by
  have h1 := (hb.block _ (lt_block hk)).trans hk
  refine (hg.block _ (lt_block h1) fun he => ?_).trans h1
  obtain ⟨cur, hcc⟩ := OwnL.kind h.own he.symm
  rw [hk] at hcc
  simp only [Option.some.injEq, Obj.cells.injEq] at hcc
  exact ht hcc.2.1
set_option maxHeartbeats 8000000 in
theorem single28_any (w0 W : World) (g : Gram) (m : Nat) (s : StrS) (SA : Option Addr) (Sc : Nat) (S : List Term) (i : Nat) (x : ByteArray) (hi : s.xs[i]? = some x) (hD : TagD w0 W ⟨g, m, s⟩) (hc : g.cats.xs.length ≤ 32) (he : g.entries.xs.length ≤ 512)
    (hS : TermsAt W SA S) (hSm : S.length ≤ 1024) (hSl : ∀ y ∈ S, y.lies w0) :
    Calls Tryz.prog 81 #[.agg #[.string g.name, .slice g.cats.addr g.cats.xs.length g.cats.cap, .string g.start, .int .i64 g.startNo, .slice g.entries.addr g.entries.xs.length g.entries.cap, .slice g.rules.addr g.rules.xs.length g.rules.cap], .slice SA S.length Sc, .slice s.addr s.xs.length s.cap, .int .i64 (i : Int)] W (RowPost w0 W (singleC g S s.xs i x)) := by
  obtain ⟨i0, z0, hi0, hz0, hz1, hz2, hzs⟩ := parts_item
  have h0 : w0.heap.size ≤ W.heap.size := hD.size
  have hil : i < s.xs.length := (List.getElem?_eq_some_iff.1 hi).1
  have hsi : s.xs[i] = x := (List.getElem?_eq_some_iff.1 hi).2
  have him : i < 9223372036854775807 := Nat.lt_of_lt_of_le hil (Nat.le_trans hD.ws.cap hD.ws.max)
  have hwr : IntKind.i64.wrap ((i : Int) + 1) = (i : Int) + 1 := IntWalk.i64_in _ (by omega)
  obtain ⟨W1, hW1⟩ : ∃ W1, W.alloc (.cells #[.string g.name, .slice g.cats.addr g.cats.xs.length g.cats.cap, .string g.start, .int .i64 g.startNo, .slice g.entries.addr g.entries.xs.length g.entries.cap, .slice g.rules.addr g.rules.xs.length g.rules.cap] 26) = W1 := ⟨_, rfl⟩
  have hB1 : Below W.heap.size W W1 := by rw [← hW1]; exact ext_alloc (Below.refl _ _) _
  have hk : W1.heap[W.heap.size]? = some (.cells #[.string g.name, .slice g.cats.addr g.cats.xs.length g.cats.cap, .string g.start, .int .i64 g.startNo, .slice g.entries.addr g.entries.xs.length g.entries.cap, .slice g.rules.addr g.rules.xs.length g.rules.cap] 26 (0, 0)) := by rw [← hW1]; exact World.alloc_heap_new _ _
  have hR := RowI.empty w0 hB1
  have hBe : Below W1.heap.size W1 (W1.alloc (.cells #[] 47)) := ext_alloc (Below.refl _ _) _
  have hkE := (hBe.block _ (lt_block hk)).trans hk
  obtain ⟨W2, hW2⟩ : ∃ W2, W1.alloc (.cells #[] 47) = W2 := ⟨_, rfl⟩
  rw [hW2] at hR hBe hkE
  have hB2 := ext_trans hB1 hBe
  have hl1 : W.heap.size < W1.heap.size := lt_block hk
  have HSC : Hid (singleC g S s.xs i x = if (termC g.cats.xs S s.xs i 1 ++ entriesC g.entries.xs i x).length = 0 then unkC g.cats.xs.length i x else termC g.cats.xs S s.xs i 1 ++ entriesC g.entries.xs i x) := rfl
  have hDT := hD.ext hB2
  have cT := Lib.hid (term28_any W2 g s SA Sc S i 1 hDT.cats hDT.wsv (hS.ext hB2) (by omega) (by omega) (by omega))
  have HD := Lib.hid hD
  have HR := Lib.hid hR
  have Hsi := Lib.hid hsi
  have Hi := Lib.hid hi
  have HSl := Lib.hid hSl
  have HkE := Lib.hid hkE
  have HB2 := Lib.hid hB2
  have g0 := gblk hkE 0
  have g1 := gblk hkE 1
  have g2 := gblk hkE 2
  have g3 := gblk hkE 3
  have g4 := gblk hkE 4
  have g5 := gblk hkE 5
  clear hk hR hD hi hsi hSl hS hDT hBe hB1 hkE hB2
  go_enter Tryz.func81, Tryz.ntmps81
  go_wp2_with fail
  clear hW1 hW2
  refine cT.out.mono ?_
  rintro e w3 ⟨rfl, hb3⟩
  have HR3 := Lib.hid (HR.out.ext h0 hb3)
  have hk3 := (hb3.block _ (lt_block HkE.out)).trans HkE.out
  clear g0 g1 g2 g3 g4 g5 cT
  cases hp : pickC g.cats.xs S s.xs i 1 with
  | none =>
    have hT0 : (([] : List ItemG).map ItemG.c) = termC g.cats.xs S s.xs i 1 := by unfold termC; rw [hp]; rfl
    have hL0 : ([] : List ItemG).length ≤ 1 := by simp
    rw [show pickV g.cats.xs i 1 none = .tuple #[.agg #[.int .i64 0, .int .i64 0, .int .i64 0, .int .i64 0, .slice none 0 0, .int .i64 0], .bool false] from rfl]
    have hba : Below w3.heap.size w3 (w3.alloc (.cells #[.int .i64 0, .int .i64 0, .int .i64 0, .int .i64 0, .slice none 0 0, .int .i64 0] 47)) := ext_alloc (Below.refl _ _) _
    have hQ4 := HR3.out.ext h0 hba
    have hk4 := (hba.block _ (lt_block hk3)).trans hk3
    obtain ⟨L0, hL0e⟩ : ∃ L0 : List ItemG, ([] : List ItemG) = L0 := ⟨_, rfl⟩
    rw [hL0e] at hT0 hL0 hQ4
    clear hp hba HR HR3 hk3 hL0e
    go_wp2_with fail
    have HT0 : Hid (L0.map ItemG.c = termC g.cats.xs S s.xs i 1) := hT0
    have HL0 : Hid (L0.length ≤ 1) := hL0
    have HQ4 := Lib.hid hQ4
    have Hk4 := Lib.hid hk4
    clear hT0 hL0 hQ4 hk4
    go_loopw [9, 12] (fun v iv wr => ∃ (k : Nat) (L : List ItemG), k ≤ g.entries.xs.length ∧ iv = .int .i64 k ∧ Hid (RowI w0 W v L wr) ∧ Hid (L.map ItemG.c = termC g.cats.xs S s.xs i 1 ++ entriesC (g.entries.xs.take k) i x) ∧ wr.heap[W.heap.size]? = some (.cells #[.string g.name, .slice g.cats.addr g.cats.xs.length g.cats.cap, .string g.start, .int .i64 g.startNo, .slice g.entries.addr g.entries.xs.length g.entries.cap, .slice g.rules.addr g.rules.xs.length g.rules.cap] 26 (0, 0))) (fun _ iv _ => g.entries.xs.length - (intOf iv).toNat)
    case atStart => exact ⟨0, L0, Nat.zero_le _, rfl, HQ4, by show _ = _; rw [HT0.out]; simp [entriesC], Hk4.out⟩
    case round =>
      obtain ⟨k, L, hk, rfl, HR, HL, hkg⟩ := hrel
      have c4 := gblk hkg 4
      obtain ⟨Av, cv, rfl, _⟩ := own_room HR.out.own
      have hL16 : L.length < 1000 := by
        have h1 := congrArg List.length HL.out
        have h2 := termC_len g.cats.xs S s.xs i 1
        have h3 : (entriesC (g.entries.xs.take k) i x).length ≤ k := by
          unfold entriesC
          rw [List.length_map]
          exact Nat.le_trans (List.length_filter_le _ _) (by rw [List.length_take]; omega)
        rw [List.length_map, List.length_append] at h1
        omega
      by_cases hlt : k < g.entries.xs.length
      · have hDr := HD.out.ext HR.out.below
        obtain ⟨b', off', hA, hb', hcl⟩ := hDr.ents.at_ EntryG.size_cells (by omega) hlt
        have d0 : wr.cell? ⟨b', off' + k * 5, none⟩ = some (.string g.entries.xs[k].text) := hcl k hlt wr (Below.refl _ _) 0 _ rfl
        have d1 : wr.cell? ⟨b', off' + k * 5 + 1, none⟩ = some (.string g.entries.xs[k].cat) := hcl k hlt wr (Below.refl _ _) 1 _ rfl
        have d2 : wr.cell? ⟨b', off' + k * 5 + 2, none⟩ = some (.int .i64 g.entries.xs[k].no) := hcl k hlt wr (Below.refl _ _) 2 _ rfl
        have d3 : wr.cell? ⟨b', off' + k * 5 + 3, none⟩ = some (.slice g.entries.xs[k].gives.addr g.entries.xs[k].gives.xs.length g.entries.xs[k].gives.cap) := hcl k hlt wr (Below.refl _ _) 3 _ rfl
        have d4 : wr.cell? ⟨b', off' + k * 5 + 4, none⟩ = some (.int .i64 g.entries.xs[k].cost) := hcl k hlt wr (Below.refl _ _) 4 _ rfl
        obtain ⟨b2, off2, hA2, hb2, hc2⟩ := StrS.at_ hDr.wsv (k := i) hil
        have e0 : wr.cell? ⟨b2, off2 + i, none⟩ = some (.string s.xs[i]) := hc2 i hil
        rw [Hsi.out] at e0
        change s.addr = _ at hA2
        change g.entries.addr = _ at hA
        rw [hA2]
        rw [hA] at c4
        have htk := entriesV_snoc g.entries.xs i x k hlt
        have hzl := HD.out.g.entry _ (List.getElem_mem hlt)
        have Htk := Lib.hid htk
        have Hzl := Lib.hid hzl
        clear hDr hcl hc2 hA hA2 htk hzl
        generalize g.entries.xs[k] = z at *
        obtain ⟨w4, hw4⟩ : ∃ w4, wr.alloc (.cells #[.string z.text, .string z.cat, .int .i64 z.no, .slice z.gives.addr z.gives.xs.length z.gives.cap, .int .i64 z.cost] 70) = w4 := ⟨_, rfl⟩
        have hB4 : Below wr.heap.size wr w4 := by rw [← hw4]; exact ext_alloc (Below.refl _ _) _
        have hx4 : w4.heap[wr.heap.size]? = some (.cells #[.string z.text, .string z.cat, .int .i64 z.no, .slice z.gives.addr z.gives.xs.length z.gives.cap, .int .i64 z.cost] 70 (0, 0)) := by rw [← hw4]; exact World.alloc_heap_new _ _
        have e4 := (hB4.cell (p := ⟨b2, off2 + i, none⟩) hb2).trans e0
        have e0 := gblk hx4 0
        have e1 := gblk hx4 1
        have e2 := gblk hx4 2
        have e3 := gblk hx4 3
        have e4 := gblk hx4 4
        have q1 := str_beq z.text x
        have Hx4 := Lib.hid hx4
        by_cases hts : z.text = x
        · have e1 : decide (z.text = x) = true := by simpa using hts
          rw [e1] at q1
          have HN : Hid (entriesC (g.entries.xs.take (k + 1)) i x = entriesC (g.entries.xs.take k) i x ++ [entryC i z]) := by
            have h := Htk.out
            rw [if_pos hts] at h
            exact h
          clear hts hx4 Htk
          go_wp2_with fail
          go_still (by kernel_rfl)
          clear hw4 d0 d1 d2 d3 d4 e0
          have hB5 : Below wr.heap.size wr w4.drew := ext_trans hB4 (ext_drew (Below.refl _ _))
          show Exit.then _ _ Exit.normal _ w4.drew
          have hx5 : w4.drew.heap[wr.heap.size]? = some (.cells #[.string z.text, .string z.cat, .int .i64 z.no, .slice z.gives.addr z.gives.xs.length z.gives.cap, .int .i64 z.cost] 70 (0, 0)) := Hx4.out
          have HR5 := Lib.hid (HR.out.ext h0 hB5)
          have hkg5 := (hB5.block _ (lt_block hkg)).trans hkg
          have hzF : FarI w0.heap.size w4.drew z.gives := (HD.out.ext (ext_trans HR.out.below hB5)).far Hzl.out
          clear e1 e2 e3 e4 q1
          generalize w4.drew = w5 at *
          have e0 := gblk hx5 0
          have e1 := gblk hx5 1
          have e2 := gblk hx5 2
          have e3 := gblk hx5 3
          have e4 := gblk hx5 4
          have hrow : w5.ownsRow W.heap.size 47 6 (.slice Av L.length cv) L.length (L.flatMap ItemG.cells) := HR5.out.own
          have hW5 := HR5.out.below.size
          go_wp2_with (at_builtin; refine wpList_append_own_at _ rfl _ _ 27 rfl W.heap.size 47 i0 z0 6 64 Tryz.underlying27 hi0 hz0 hz1 hz2 hzs (by decide) _ _ _ rfl (hrow.alloc _) ⟨w5.heap.size, 0, none⟩ 1 1 [.int .i64 z.no, .int .i64 (i : Int), .int .i64 ((i : Int) + 1), .int .i64 z.cost, .slice z.gives.addr z.gives.xs.length z.gives.cap, .int .i64 (-1)] rfl rfl (gcells_new w5 [.int .i64 z.no, .int .i64 (i : Int), .int .i64 ((i : Int) + 1), .int .i64 z.cost, .slice z.gives.addr z.gives.xs.length z.gives.cap, .int .i64 (-1)] 47) (by simp [Value.oneCell']) (by unfold maxLen; omega) (by omega) (by simp; omega) ?_; intro v' w6 hown' hgrow hnil hat; obtain ⟨g', cap', rfl⟩ := ownsRow_succ hown')
          have hbq : Below w5.heap.size w5 (w5.alloc (.cells ([.int .i64 z.no, .int .i64 (i : Int), .int .i64 ((i : Int) + 1), .int .i64 z.cost, .slice z.gives.addr z.gives.xs.length z.gives.cap, .int .i64 (-1)]).toArray 47)) := ext_alloc (Below.refl _ _) _
          have HR6 := Lib.hid (HR5.out.snoc h0 hbq (y := ⟨z.no, i, (i : Int) + 1, z.cost, z.gives, -1⟩) (hzF.ext (Nat.le_trans h0 hW5) hbq) hown' hgrow)
          have hkg6 := HR5.out.keep hbq hgrow hkg5 (by decide)
          clear hrow hown' hgrow hnil hat hbq hzF HR5 HR
          go_wp2
          go_roundw
          case rel => exact ⟨k + 1, L ++ [⟨z.no, i, (i : Int) + 1, z.cost, z.gives, -1⟩], by omega, by go_num, HR6, by show _ = _; rw [List.map_append, HL.out, HN.out, List.append_assoc]; rfl, hkg6⟩
          case measure => simp [intOf]; omega
        · have e1 : decide (z.text = x) = false := by simpa using hts
          rw [e1] at q1
          have HN : Hid (entriesC (g.entries.xs.take (k + 1)) i x = entriesC (g.entries.xs.take k) i x) := by
            have h := Htk.out
            rw [if_neg hts, List.append_nil] at h
            exact h
          clear hts hx4 Htk
          go_wp2_with fail
          go_still (by kernel_rfl)
          have hB5 : Below wr.heap.size wr w4.drew := ext_trans hB4 (ext_drew (Below.refl _ _))
          have HR5 := Lib.hid (HR.out.ext h0 hB5)
          have hkg5 := (hB5.block _ (lt_block hkg)).trans hkg
          go_wp2_with fail
          go_roundw
          case rel => exact ⟨k + 1, L, by omega, by go_num, HR5, by show _ = _; rw [HL.out, HN.out], hkg5⟩
          case measure => simp [intOf]; omega
      · have hks : k = g.entries.xs.length := by omega
        subst hks
        have HL2 : Hid (L.map ItemG.c = termC g.cats.xs S s.xs i 1 ++ entriesC g.entries.xs i x) := by
          have h := HL.out
          rw [List.take_length] at h
          exact h
        have hlen : (termC g.cats.xs S s.xs i 1 ++ entriesC g.entries.xs i x).length = L.length := by rw [← HL2.out, List.length_map]
        have HSC2 : Hid (singleC g S s.xs i x = if L.length = 0 then unkC g.cats.xs.length i x else termC g.cats.xs S s.xs i 1 ++ entriesC g.entries.xs i x) := by show _ = _; rw [HSC.out, hlen]
        clear HL hlen hlt hk
        by_cases hz : L.length = 0
        · have HSC3 : Hid (singleC g S s.xs i x = unkC g.cats.xs.length i x) := by show _ = _; rw [HSC2.out, if_pos hz]
          have cU := Lib.hid (unknowns28_any w0 wr g m s i x Hi.out (HD.out.ext HR.out.below) hc)
          have Hbl := Lib.hid HR.out.below
          have q : ((L.length : Int) == 0) = true := by rw [int_beqD]; exact decide_eq_true (by omega)
          have g0 := gblk hkg 0
          have g1 := gblk hkg 1
          have g2 := gblk hkg 2
          have g3 := gblk hkg 3
          have g4 := gblk hkg 4
          have g5 := gblk hkg 5
          clear hz HR
          go_wp2_with fail
          refine cU.out.mono ?_
          rintro e w7 ⟨v7, L7, rfl, hr7, hm7⟩
          go_wp2_with fail
          go_ret
          exact ⟨v7, L7, rfl, hr7.rebase Hbl.out, by rw [HSC3.out]; exact hm7⟩
        · have q : ((L.length : Int) == 0) = false := by rw [int_beqD]; exact decide_eq_false (by omega)
          have HSC3 : Hid (singleC g S s.xs i x = termC g.cats.xs S s.xs i 1 ++ entriesC g.entries.xs i x) := by show _ = _; rw [HSC2.out, if_neg hz]
          clear hz
          go_wp2_with fail
          go_ret
          exact ⟨_, L, rfl, HR.out, by rw [HSC3.out]; exact HL2.out⟩
  | some y =>
    have hmem : y ∈ S := List.mem_of_find?_eq_some hp
    have hyT : FarI w0.heap.size w3 y.tgt := (HD.out.ext (ext_trans HB2.out hb3)).far (HSl.out y hmem).2
    have hT0 : ([⟨idxF y.cat g.cats.xs, i, (i : Int) + 1, 0, y.tgt, y.no⟩] : List ItemG).map ItemG.c = termC g.cats.xs S s.xs i 1 := by unfold termC; rw [hp]; rfl
    rw [show pickV g.cats.xs i 1 (some y) = .tuple #[.agg #[.int .i64 (idxF y.cat g.cats.xs), .int .i64 (i : Int), .int .i64 ((i : Int) + 1), .int .i64 0, .slice y.tgt.addr y.tgt.xs.length y.tgt.cap, .int .i64 y.no], .bool true] from rfl]
    have hrow : w3.ownsRow W.heap.size 47 6 (.slice (some ⟨W1.heap.size, 0, none⟩) 0 0) 0 [] := HR3.out.own
    have hW3 := HR3.out.below.size
    clear hp HR hmem
    go_wp2_with (at_builtin; refine wpList_append_own_at _ rfl _ _ 27 rfl W.heap.size 47 i0 z0 6 64 Tryz.underlying27 hi0 hz0 hz1 hz2 hzs (by decide) _ _ _ rfl ((hrow.alloc _).alloc _) ⟨w3.heap.size + 1, 0, none⟩ 1 1 [.int .i64 (idxF y.cat g.cats.xs), .int .i64 (i : Int), .int .i64 ((i : Int) + 1), .int .i64 0, .slice y.tgt.addr y.tgt.xs.length y.tgt.cap, .int .i64 y.no] rfl rfl (gcells_new2 w3 _ [.int .i64 (idxF y.cat g.cats.xs), .int .i64 (i : Int), .int .i64 ((i : Int) + 1), .int .i64 0, .slice y.tgt.addr y.tgt.xs.length y.tgt.cap, .int .i64 y.no] 47) (by simp [Value.oneCell']) (by unfold maxLen; omega) (by omega) (by simp; omega) ?_; intro v' w6 hown' hgrow hnil hat; obtain ⟨g', cap', rfl⟩ := ownsRow_succ hown')
    have hbq : Below w3.heap.size w3 ((w3.alloc (.cells ([.int .i64 (idxF y.cat g.cats.xs), .int .i64 (i : Int), .int .i64 ((i : Int) + 1), .int .i64 0, .slice y.tgt.addr y.tgt.xs.length y.tgt.cap, .int .i64 y.no]).toArray 47)).alloc (.cells ([.int .i64 (idxF y.cat g.cats.xs), .int .i64 (i : Int), .int .i64 ((i : Int) + 1), .int .i64 0, .slice y.tgt.addr y.tgt.xs.length y.tgt.cap, .int .i64 y.no]).toArray 47)) := ext_alloc (ext_alloc (Below.refl _ _) _) _
    have hQ4 := HR3.out.snoc h0 hbq (y := ⟨idxF y.cat g.cats.xs, i, (i : Int) + 1, 0, y.tgt, y.no⟩) (hyT.ext (Nat.le_trans h0 hW3) hbq) hown' hgrow
    have hk4 := HR3.out.keep hbq hgrow hk3 (by decide)
    have hL0 : ([⟨idxF y.cat g.cats.xs, i, (i : Int) + 1, 0, y.tgt, y.no⟩] : List ItemG).length ≤ 1 := by simp
    rw [List.nil_append] at hQ4
    obtain ⟨L0, hL0e⟩ : ∃ L0 : List ItemG, [⟨idxF y.cat g.cats.xs, i, (i : Int) + 1, 0, y.tgt, y.no⟩] = L0 := ⟨_, rfl⟩
    rw [hL0e] at hT0 hL0 hQ4
    clear hrow hown' hgrow hnil hat hbq hyT HR3 hk3 hL0e
    go_wp2_with fail
    have HT0 : Hid (L0.map ItemG.c = termC g.cats.xs S s.xs i 1) := hT0
    have HL0 : Hid (L0.length ≤ 1) := hL0
    have HQ4 := Lib.hid hQ4
    have Hk4 := Lib.hid hk4
    clear hT0 hL0 hQ4 hk4
    go_loopw [9, 12] (fun v iv wr => ∃ (k : Nat) (L : List ItemG), k ≤ g.entries.xs.length ∧ iv = .int .i64 k ∧ Hid (RowI w0 W v L wr) ∧ Hid (L.map ItemG.c = termC g.cats.xs S s.xs i 1 ++ entriesC (g.entries.xs.take k) i x) ∧ wr.heap[W.heap.size]? = some (.cells #[.string g.name, .slice g.cats.addr g.cats.xs.length g.cats.cap, .string g.start, .int .i64 g.startNo, .slice g.entries.addr g.entries.xs.length g.entries.cap, .slice g.rules.addr g.rules.xs.length g.rules.cap] 26 (0, 0))) (fun _ iv _ => g.entries.xs.length - (intOf iv).toNat)
    case atStart => exact ⟨0, L0, Nat.zero_le _, rfl, HQ4, by show _ = _; rw [HT0.out]; simp [entriesC], Hk4.out⟩
    case round =>
      obtain ⟨k, L, hk, rfl, HR, HL, hkg⟩ := hrel
      have c4 := gblk hkg 4
      obtain ⟨Av, cv, rfl, _⟩ := own_room HR.out.own
      have hL16 : L.length < 1000 := by
        have h1 := congrArg List.length HL.out
        have h2 := termC_len g.cats.xs S s.xs i 1
        have h3 : (entriesC (g.entries.xs.take k) i x).length ≤ k := by
          unfold entriesC
          rw [List.length_map]
          exact Nat.le_trans (List.length_filter_le _ _) (by rw [List.length_take]; omega)
        rw [List.length_map, List.length_append] at h1
        omega
      by_cases hlt : k < g.entries.xs.length
      · have hDr := HD.out.ext HR.out.below
        obtain ⟨b', off', hA, hb', hcl⟩ := hDr.ents.at_ EntryG.size_cells (by omega) hlt
        have d0 : wr.cell? ⟨b', off' + k * 5, none⟩ = some (.string g.entries.xs[k].text) := hcl k hlt wr (Below.refl _ _) 0 _ rfl
        have d1 : wr.cell? ⟨b', off' + k * 5 + 1, none⟩ = some (.string g.entries.xs[k].cat) := hcl k hlt wr (Below.refl _ _) 1 _ rfl
        have d2 : wr.cell? ⟨b', off' + k * 5 + 2, none⟩ = some (.int .i64 g.entries.xs[k].no) := hcl k hlt wr (Below.refl _ _) 2 _ rfl
        have d3 : wr.cell? ⟨b', off' + k * 5 + 3, none⟩ = some (.slice g.entries.xs[k].gives.addr g.entries.xs[k].gives.xs.length g.entries.xs[k].gives.cap) := hcl k hlt wr (Below.refl _ _) 3 _ rfl
        have d4 : wr.cell? ⟨b', off' + k * 5 + 4, none⟩ = some (.int .i64 g.entries.xs[k].cost) := hcl k hlt wr (Below.refl _ _) 4 _ rfl
        obtain ⟨b2, off2, hA2, hb2, hc2⟩ := StrS.at_ hDr.wsv (k := i) hil
        have e0 : wr.cell? ⟨b2, off2 + i, none⟩ = some (.string s.xs[i]) := hc2 i hil
        rw [Hsi.out] at e0
        change s.addr = _ at hA2
        change g.entries.addr = _ at hA
        rw [hA2]
        rw [hA] at c4
        have htk := entriesV_snoc g.entries.xs i x k hlt
        have hzl := HD.out.g.entry _ (List.getElem_mem hlt)
        have Htk := Lib.hid htk
        have Hzl := Lib.hid hzl
        clear hDr hcl hc2 hA hA2 htk hzl
        generalize g.entries.xs[k] = z at *
        obtain ⟨w4, hw4⟩ : ∃ w4, wr.alloc (.cells #[.string z.text, .string z.cat, .int .i64 z.no, .slice z.gives.addr z.gives.xs.length z.gives.cap, .int .i64 z.cost] 70) = w4 := ⟨_, rfl⟩
        have hB4 : Below wr.heap.size wr w4 := by rw [← hw4]; exact ext_alloc (Below.refl _ _) _
        have hx4 : w4.heap[wr.heap.size]? = some (.cells #[.string z.text, .string z.cat, .int .i64 z.no, .slice z.gives.addr z.gives.xs.length z.gives.cap, .int .i64 z.cost] 70 (0, 0)) := by rw [← hw4]; exact World.alloc_heap_new _ _
        have e4 := (hB4.cell (p := ⟨b2, off2 + i, none⟩) hb2).trans e0
        have e0 := gblk hx4 0
        have e1 := gblk hx4 1
        have e2 := gblk hx4 2
        have e3 := gblk hx4 3
        have e4 := gblk hx4 4
        have q1 := str_beq z.text x
        have Hx4 := Lib.hid hx4
        by_cases hts : z.text = x
        · have e1 : decide (z.text = x) = true := by simpa using hts
          rw [e1] at q1
          have HN : Hid (entriesC (g.entries.xs.take (k + 1)) i x = entriesC (g.entries.xs.take k) i x ++ [entryC i z]) := by
            have h := Htk.out
            rw [if_pos hts] at h
            exact h
          clear hts hx4 Htk
          go_wp2_with fail
          go_still (by kernel_rfl)
          clear hw4 d0 d1 d2 d3 d4 e0
          have hB5 : Below wr.heap.size wr w4.drew := ext_trans hB4 (ext_drew (Below.refl _ _))
          show Exit.then _ _ Exit.normal _ w4.drew
          have hx5 : w4.drew.heap[wr.heap.size]? = some (.cells #[.string z.text, .string z.cat, .int .i64 z.no, .slice z.gives.addr z.gives.xs.length z.gives.cap, .int .i64 z.cost] 70 (0, 0)) := Hx4.out
          have HR5 := Lib.hid (HR.out.ext h0 hB5)
          have hkg5 := (hB5.block _ (lt_block hkg)).trans hkg
          have hzF : FarI w0.heap.size w4.drew z.gives := (HD.out.ext (ext_trans HR.out.below hB5)).far Hzl.out
          clear e1 e2 e3 e4 q1
          generalize w4.drew = w5 at *
          have e0 := gblk hx5 0
          have e1 := gblk hx5 1
          have e2 := gblk hx5 2
          have e3 := gblk hx5 3
          have e4 := gblk hx5 4
          have hrow : w5.ownsRow W.heap.size 47 6 (.slice Av L.length cv) L.length (L.flatMap ItemG.cells) := HR5.out.own
          have hW5 := HR5.out.below.size
          go_wp2_with (at_builtin; refine wpList_append_own_at _ rfl _ _ 27 rfl W.heap.size 47 i0 z0 6 64 Tryz.underlying27 hi0 hz0 hz1 hz2 hzs (by decide) _ _ _ rfl (hrow.alloc _) ⟨w5.heap.size, 0, none⟩ 1 1 [.int .i64 z.no, .int .i64 (i : Int), .int .i64 ((i : Int) + 1), .int .i64 z.cost, .slice z.gives.addr z.gives.xs.length z.gives.cap, .int .i64 (-1)] rfl rfl (gcells_new w5 [.int .i64 z.no, .int .i64 (i : Int), .int .i64 ((i : Int) + 1), .int .i64 z.cost, .slice z.gives.addr z.gives.xs.length z.gives.cap, .int .i64 (-1)] 47) (by simp [Value.oneCell']) (by unfold maxLen; omega) (by omega) (by simp; omega) ?_; intro v' w6 hown' hgrow hnil hat; obtain ⟨g', cap', rfl⟩ := ownsRow_succ hown')
          have hbq : Below w5.heap.size w5 (w5.alloc (.cells ([.int .i64 z.no, .int .i64 (i : Int), .int .i64 ((i : Int) + 1), .int .i64 z.cost, .slice z.gives.addr z.gives.xs.length z.gives.cap, .int .i64 (-1)]).toArray 47)) := ext_alloc (Below.refl _ _) _
          have HR6 := Lib.hid (HR5.out.snoc h0 hbq (y := ⟨z.no, i, (i : Int) + 1, z.cost, z.gives, -1⟩) (hzF.ext (Nat.le_trans h0 hW5) hbq) hown' hgrow)
          have hkg6 := HR5.out.keep hbq hgrow hkg5 (by decide)
          clear hrow hown' hgrow hnil hat hbq hzF HR5 HR
          go_wp2
          go_roundw
          case rel => exact ⟨k + 1, L ++ [⟨z.no, i, (i : Int) + 1, z.cost, z.gives, -1⟩], by omega, by go_num, HR6, by show _ = _; rw [List.map_append, HL.out, HN.out, List.append_assoc]; rfl, hkg6⟩
          case measure => simp [intOf]; omega
        · have e1 : decide (z.text = x) = false := by simpa using hts
          rw [e1] at q1
          have HN : Hid (entriesC (g.entries.xs.take (k + 1)) i x = entriesC (g.entries.xs.take k) i x) := by
            have h := Htk.out
            rw [if_neg hts, List.append_nil] at h
            exact h
          clear hts hx4 Htk
          go_wp2_with fail
          go_still (by kernel_rfl)
          have hB5 : Below wr.heap.size wr w4.drew := ext_trans hB4 (ext_drew (Below.refl _ _))
          have HR5 := Lib.hid (HR.out.ext h0 hB5)
          have hkg5 := (hB5.block _ (lt_block hkg)).trans hkg
          go_wp2_with fail
          go_roundw
          case rel => exact ⟨k + 1, L, by omega, by go_num, HR5, by show _ = _; rw [HL.out, HN.out], hkg5⟩
          case measure => simp [intOf]; omega
      · have hks : k = g.entries.xs.length := by omega
        subst hks
        have HL2 : Hid (L.map ItemG.c = termC g.cats.xs S s.xs i 1 ++ entriesC g.entries.xs i x) := by
          have h := HL.out
          rw [List.take_length] at h
          exact h
        have hlen : (termC g.cats.xs S s.xs i 1 ++ entriesC g.entries.xs i x).length = L.length := by rw [← HL2.out, List.length_map]
        have HSC2 : Hid (singleC g S s.xs i x = if L.length = 0 then unkC g.cats.xs.length i x else termC g.cats.xs S s.xs i 1 ++ entriesC g.entries.xs i x) := by show _ = _; rw [HSC.out, hlen]
        clear HL hlen hlt hk
        by_cases hz : L.length = 0
        · have HSC3 : Hid (singleC g S s.xs i x = unkC g.cats.xs.length i x) := by show _ = _; rw [HSC2.out, if_pos hz]
          have cU := Lib.hid (unknowns28_any w0 wr g m s i x Hi.out (HD.out.ext HR.out.below) hc)
          have Hbl := Lib.hid HR.out.below
          have q : ((L.length : Int) == 0) = true := by rw [int_beqD]; exact decide_eq_true (by omega)
          have g0 := gblk hkg 0
          have g1 := gblk hkg 1
          have g2 := gblk hkg 2
          have g3 := gblk hkg 3
          have g4 := gblk hkg 4
          have g5 := gblk hkg 5
          clear hz HR
          go_wp2_with fail
          refine cU.out.mono ?_
          rintro e w7 ⟨v7, L7, rfl, hr7, hm7⟩
          go_wp2_with fail
          go_ret
          exact ⟨v7, L7, rfl, hr7.rebase Hbl.out, by rw [HSC3.out]; exact hm7⟩
        · have q : ((L.length : Int) == 0) = false := by rw [int_beqD]; exact decide_eq_false (by omega)
          have HSC3 : Hid (singleC g S s.xs i x = termC g.cats.xs S s.xs i 1 ++ entriesC g.entries.xs i x) := by show _ = _; rw [HSC2.out, if_neg hz]
          clear hz
          go_wp2_with fail
          go_ret
          exact ⟨_, L, rfl, HR.out, by rw [HSC3.out]; exact HL2.out⟩
end Go.Proofs.YthojaplnimoacaaGreatDoor

/- Package tags: the functions in Items that make items. -/
namespace Go.Proofs.YthojaplnimoacaaGreatDoor
open Go.RowKit Go.Han
attribute [local irreducible] wpStill wpQuiet
set_option maxRecDepth 100000

section
variable {w V : World} {T : TagG} {S : List Term} {i n tb bI bN bi bw : Nat} {v : Value} {L : List ItemG}
theorem of1 (h : ItSt w bi tb bw n T S v L V) (hI : V.heap[bI]? = some (.cells #[.int .i64 (i : Int)] 3 (0, 0))) (hi : i < T.ws.xs.length) (hmx : T.ws.xs.length ≤ 16) (hSl : ∀ x ∈ S, x.lies w)
    (hu : ∀ x ∈ S, ∀ y ∈ S, x.src.xs = y.src.xs → x = y) (hok : ∀ x ∈ S, x.ok = true) (hws : ∀ s ∈ T.ws.xs, wordB s = true) :
    Calls Tryz.prog 69 #[.pointer (some ⟨tb, 0, none⟩), .pointer (some ⟨bI, 0, none⟩)] V (OfPost w T.m (termC T.g.cats.xs S T.ws.xs i 1) V) := by
  have c0 := Lib.hid (term_of 1 h hi (by decide) (.inl (by decide)) (by omega) hSl hu hok hws)
  have hI0 := cell_one hI
  have ht := h.tag
  have t0 := gblk ht 0
  have t1 := gblk ht 1
  have t2 := gblk ht 2
  have t3 := gblk ht 3
  have t4 := gblk ht 4
  have t5 := gblk ht 5
  have t6 := gblk ht 6
  have t7 := gblk ht 7
  clear h hI hSl hu hok hws ht
  go_enter Tryz.func69, Tryz.ntmps69
  go_wp2_with fail
  refine c0.out.mono ?_
  rintro e W ⟨gf, lb, rfl, h1⟩
  go_wp2_with fail
  go_ret
  exact ⟨gf, lb, rfl, h1⟩
theorem of4 (h : ItSt w bi tb bw n T S v L V) (hI : V.heap[bI]? = some (.cells #[.int .i64 (i : Int)] 3 (0, 0))) (hi : i < T.ws.xs.length) (hmx : T.ws.xs.length ≤ 16) (hSl : ∀ x ∈ S, x.lies w)
    (hu : ∀ x ∈ S, ∀ y ∈ S, x.src.xs = y.src.xs → x = y) (hok : ∀ x ∈ S, x.ok = true) (hws : ∀ s ∈ T.ws.xs, wordB s = true) :
    Calls Tryz.prog 75 #[.pointer (some ⟨tb, 0, none⟩), .pointer (some ⟨bI, 0, none⟩)] V (OfPost w T.m (termC T.g.cats.xs S T.ws.xs i 2) V) := by
  have c0 := Lib.hid (term_of 2 h hi (by decide) (.inl (by decide)) (by omega) hSl hu hok hws)
  have hI0 := cell_one hI
  have ht := h.tag
  have t0 := gblk ht 0
  have t1 := gblk ht 1
  have t2 := gblk ht 2
  have t3 := gblk ht 3
  have t4 := gblk ht 4
  have t5 := gblk ht 5
  have t6 := gblk ht 6
  have t7 := gblk ht 7
  clear h hI hSl hu hok hws ht
  go_enter Tryz.func75, Tryz.ntmps75
  go_wp2_with fail
  refine c0.out.mono ?_
  rintro e W ⟨gf, lb, rfl, h1⟩
  go_wp2_with fail
  go_ret
  exact ⟨gf, lb, rfl, h1⟩
theorem of5 (h : ItSt w bi tb bw n T S v L V) (hI : V.heap[bI]? = some (.cells #[.int .i64 (i : Int)] 3 (0, 0))) (hi : i < T.ws.xs.length) (hmx : T.ws.xs.length ≤ 16) (hSl : ∀ x ∈ S, x.lies w)
    (hu : ∀ x ∈ S, ∀ y ∈ S, x.src.xs = y.src.xs → x = y) (hok : ∀ x ∈ S, x.ok = true) (hws : ∀ s ∈ T.ws.xs, wordB s = true) :
    Calls Tryz.prog 76 #[.pointer (some ⟨tb, 0, none⟩), .pointer (some ⟨bI, 0, none⟩)] V (OfPost w T.m (termC T.g.cats.xs S T.ws.xs i 3) V) := by
  have c0 := Lib.hid (term_of 3 h hi (by decide) (.inl (by decide)) (by omega) hSl hu hok hws)
  have hI0 := cell_one hI
  have ht := h.tag
  have t0 := gblk ht 0
  have t1 := gblk ht 1
  have t2 := gblk ht 2
  have t3 := gblk ht 3
  have t4 := gblk ht 4
  have t5 := gblk ht 5
  have t6 := gblk ht 6
  have t7 := gblk ht 7
  clear h hI hSl hu hok hws ht
  go_enter Tryz.func76, Tryz.ntmps76
  go_wp2_with fail
  refine c0.out.mono ?_
  rintro e W ⟨gf, lb, rfl, h1⟩
  go_wp2_with fail
  go_ret
  exact ⟨gf, lb, rfl, h1⟩
theorem of6 (h : ItSt w bi tb bw n T S v L V) (hI : V.heap[bI]? = some (.cells #[.int .i64 (i : Int)] 3 (0, 0))) (hi : i < T.ws.xs.length) (hmx : T.ws.xs.length ≤ 16) (hSl : ∀ x ∈ S, x.lies w)
    (hu : ∀ x ∈ S, ∀ y ∈ S, x.src.xs = y.src.xs → x = y) (hok : ∀ x ∈ S, x.ok = true) (hws : ∀ s ∈ T.ws.xs, wordB s = true) :
    Calls Tryz.prog 77 #[.pointer (some ⟨tb, 0, none⟩), .pointer (some ⟨bI, 0, none⟩)] V (OfPost w T.m (termC T.g.cats.xs S T.ws.xs i 4) V) := by
  have c0 := Lib.hid (term_of 4 h hi (by decide) (.inl (by decide)) (by omega) hSl hu hok hws)
  have hI0 := cell_one hI
  have ht := h.tag
  have t0 := gblk ht 0
  have t1 := gblk ht 1
  have t2 := gblk ht 2
  have t3 := gblk ht 3
  have t4 := gblk ht 4
  have t5 := gblk ht 5
  have t6 := gblk ht 6
  have t7 := gblk ht 7
  clear h hI hSl hu hok hws ht
  go_enter Tryz.func77, Tryz.ntmps77
  go_wp2_with fail
  refine c0.out.mono ?_
  rintro e W ⟨gf, lb, rfl, h1⟩
  go_wp2_with fail
  go_ret
  exact ⟨gf, lb, rfl, h1⟩
theorem of2 (s : ByteArray) (h : ItSt w bi tb bw n T S v L V) (hI : V.heap[bI]? = some (.cells #[.int .i64 (i : Int)] 3 (0, 0))) (hi : T.ws.xs[i]? = some s) :
    Calls Tryz.prog 71 #[.pointer (some ⟨tb, 0, none⟩), .pointer (some ⟨bI, 0, none⟩)] V (OfPost w T.m (entriesC T.g.entries.xs i s) V) := by
  have c0 := Lib.hid (entries_of s h hi)
  have hI0 := cell_one hI
  have ht := h.tag
  have t0 := gblk ht 0
  have t1 := gblk ht 1
  have t2 := gblk ht 2
  have t3 := gblk ht 3
  have t4 := gblk ht 4
  have t5 := gblk ht 5
  have t6 := gblk ht 6
  have t7 := gblk ht 7
  clear h hI ht
  go_enter Tryz.func71, Tryz.ntmps71
  go_wp2_with fail
  refine c0.out.mono ?_
  rintro e W ⟨gf, lb, rfl, h1⟩
  go_wp2_with fail
  go_ret
  exact ⟨gf, lb, rfl, h1⟩
theorem of3 (N : Nat) (s : ByteArray) (h : ItSt w bi tb bw n T S v L V) (hI : V.heap[bI]? = some (.cells #[.int .i64 (i : Int)] 3 (0, 0))) (hN : V.heap[bN]? = some (.cells #[.int .i64 (N : Int)] 3 (0, 0))) (hi : T.ws.xs[i]? = some s) (hmx : T.ws.xs.length ≤ 16) (hSl : ∀ x ∈ S, x.lies w)
    (hu : ∀ x ∈ S, ∀ y ∈ S, x.src.xs = y.src.xs → x = y) (hok : ∀ x ∈ S, x.ok = true) (hws : ∀ s ∈ T.ws.xs, wordB s = true) :
    Calls Tryz.prog 73 #[.pointer (some ⟨bi, 0, none⟩), .pointer (some ⟨bN, 0, none⟩), .pointer (some ⟨tb, 0, none⟩), .pointer (some ⟨bI, 0, none⟩), .pointer (some ⟨bw, 0, none⟩)] V (OfPost w T.m (if L.length = N then unkC T.g.cats.xs.length i s else []) V) := by
  have hil := (List.getElem?_eq_some_iff.1 hi).1
  have c0 := Lib.hid (term_of (T.ws.xs.length + 1) h hil (by omega) (.inr (by omega)) (by omega) hSl hu hok hws)
  have c1 := Lib.hid (unknowns_of s h hi)
  have hnil : termC T.g.cats.xs S T.ws.xs i (T.ws.xs.length + 1) = [] := termC_long _ S (by omega) (by omega)
  rw [hnil] at c0
  have hI0 := cell_one hI
  have hN0 := cell_one hN
  have hw0 := cell_one h.wbox
  have hb0 := h.box.cell
  have ht := h.tag
  obtain ⟨A, c, rfl, _⟩ := h.own.form (by decide)
  have t0 := gblk ht 0
  have t1 := gblk ht 1
  have t2 := gblk ht 2
  have t3 := gblk ht 3
  have t4 := gblk ht 4
  have t5 := gblk ht 5
  have t6 := gblk ht 6
  have t7 := gblk ht 7
  have hwr : IntKind.i64.wrap ((T.ws.xs.length : Int) + 1) = (T.ws.xs.length : Int) + 1 := IntWalk.i64_in _ (by omega)
  clear h hI hN hSl hu hok hws ht hnil hi
  by_cases hz : L.length = N
  · have q : (L.length == N) = true := by simp [hz]
    rw [if_pos hz]
    clear hz
    go_enter Tryz.func73, Tryz.ntmps73
    go_wp2_with fail
    refine c1.out.mono ?_
    rintro e W ⟨gf, lb, rfl, h1⟩
    go_wp2_with fail
    go_ret
    exact ⟨gf, lb, rfl, h1⟩
  · have q : (L.length == N) = false := by simpa using hz
    rw [if_neg hz]
    clear hz
    go_enter Tryz.func73, Tryz.ntmps73
    go_wp2_with fail
    refine c0.out.mono ?_
    rintro e W ⟨gf, lb, rfl, h1⟩
    go_wp2_with fail
    go_ret
    exact ⟨gf, lb, rfl, h1⟩
end
end Go.Proofs.YthojaplnimoacaaGreatDoor

/- Package types: circular. -/
namespace Go.Proofs.YthojaplnimoacaaGreatDoor
open Go.RowKit Go.Han
attribute [local irreducible] wpStill wpQuiet
set_option maxRecDepth 100000

theorem vbool_inj (x y : Bool) (h : Value.bool x = Value.bool y) : x = y := by cases h; rfl
/-- Bool, by another name (a statement for all of them is not taken apart). -/
def BoolT : Type := Bool
def boolE : ElemShape BoolT := ⟨Value.bool, vbool_inj⟩
theorem zeroB (w : World) : (zeroValue 4).run Tryz.prog w = .ok (.bool false) w := by kernel_rfl
/-- What is left, as a map. -/
def LeftMap (w : World) (bm n : Nat) (f : ByteArray → Option Bool) : Prop := MapF w (k := 9) (P := Tryz.prog) (β := BoolT) strK boolE bm n f
set_option maxHeartbeats 1000000 in
theorem leads26_any (x : RuleG) (bc bl bm n : Nat) (c : ByteArray) (f : ByteArray → Option Bool) (w : World) (hx : x.lies w) (hc : w.heap[bc]? = some (.cells #[.string c] 9 (0, 0))) (hl : w.heap[bl]? = some (.cells #[.map (some bm)] 251 (0, 0))) (hm : LeftMap w bm n f)
    (hf : ∀ y, (f y).isSome → f y = some true) (hs : ∀ p ∈ x.parts.xs, p.cat.size ≤ maxLen) :
    Calls Tryz.prog 200 #[.agg #[.string x.cat, .int .i64 x.no, .slice x.parts.addr x.parts.xs.length x.parts.cap, .slice x.gives.addr x.gives.xs.length x.gives.cap, .int .i64 x.cost], .pointer (some ⟨bc, 0, none⟩), .pointer (some ⟨bl, 0, none⟩)] w fun e w' => e = .returned (.bool (chainTo f c x)) ∧ Below w.heap.size w w' := by
  obtain ⟨W1, hW1⟩ : ∃ W1, w.alloc (.cells #[.string x.cat, .int .i64 x.no, .slice x.parts.addr x.parts.xs.length x.parts.cap, .slice x.gives.addr x.gives.xs.length x.gives.cap, .int .i64 x.cost] 104) = W1 := ⟨_, rfl⟩
  have hB1 : Below w.heap.size w W1 := by subst hW1; exact ext_alloc (Below.refl _ _) _
  have hk : W1.heap[w.heap.size]? = some (.cells #[.string x.cat, .int .i64 x.no, .slice x.parts.addr x.parts.xs.length x.parts.cap, .slice x.gives.addr x.gives.xs.length x.gives.cap, .int .i64 x.cost] 104 (0, 0)) := by subst hW1; exact World.alloc_heap_new _ _
  have hc1 := (hB1.block _ (lt_block hc)).trans hc
  have hl1 := (hB1.block _ (lt_block hl)).trans hl
  have c0 : ∀ p : ExtBy W1, p.wt.cell? ⟨bc, 0, none⟩ = some (.string c) := fun p => cell_ext (lt_block hc1) (gblk hc1 0) p
  have l0 : ∀ p : ExtBy W1, p.wt.cell? ⟨bl, 0, none⟩ = some (.map (some bm)) := fun p => cell_ext (lt_block hl1) (gblk hl1 0) p
  have a0 : ∀ p : ExtBy W1, p.wt.cell? ⟨w.heap.size, 0, none⟩ = some (.string x.cat) := fun p => cell_ext (lt_block hk) (gblk hk 0) p
  have a2 : ∀ p : ExtBy W1, p.wt.cell? ⟨w.heap.size, 2, none⟩ = some (.slice x.parts.addr x.parts.xs.length x.parts.cap) := fun p => cell_ext (lt_block hk) (gblk hk 2) p
  have hX := hx.ext hB1
  have HW1 := Lib.hid hW1
  by_cases h1 : x.cat = c
  rotate_left
  · have HF : Hid (chainTo f c x = false) := by
      show _ = _
      unfold chainTo
      split
      · rw [decide_eq_false h1]; rfl
      · rfl
    have g1 : (x.cat.toList == c.toList) = false := by simpa using fun h => h1 (str_eqT h)
    clear h1 hx hc hl hm hf hs hk hc1 hl1 hX hW1
    go_enter Tryz.func200, Tryz.ntmps200
    go_wp2_with fail
    rw [HW1.out]
    refine wp_region_ext (by kernel_rfl) (by kernel_rfl) ?_
    repeat (go_big_quiet_step (fail))
    refine wpQuiet_nil ?_
    intro _ hw'
    obtain ⟨p, rfl⟩ := hw'
    go_wp2_with fail
    go_ret
    exact ⟨by rw [HF.out]; rfl, ext_trans hB1 p.ext⟩
  have g1 : (x.cat.toList == c.toList) = true := by simp [h1]
  by_cases h2 : x.parts.xs.length = 1
  rotate_left
  · have HF : Hid (chainTo f c x = false) := by
      show _ = _
      unfold chainTo
      split
      · rename_i h; rw [h] at h2; simp at h2
      · rfl
    have g2 : ((x.parts.xs.length : Int) == 1) = false := by simp; omega
    clear h1 h2 hx hc hl hm hf hs hk hc1 hl1 hX hW1
    go_enter Tryz.func200, Tryz.ntmps200
    go_wp2_with fail
    rw [HW1.out]
    refine wp_region_ext (by kernel_rfl) (by kernel_rfl) ?_
    repeat (go_big_quiet_step (fail))
    refine wpQuiet_nil ?_
    intro _ hw'
    obtain ⟨p, rfl⟩ := hw'
    go_wp2_with fail
    go_ret
    exact ⟨by rw [HF.out]; rfl, ext_trans hB1 p.ext⟩
  obtain ⟨q, hq⟩ := List.length_eq_one_iff.1 h2
  obtain ⟨b, off, hA, hb, hcl⟩ := hX.1.at_ PartG.size_cells (by omega) (k := 0) (by omega)
  have hq0 : x.parts.xs[0]'(by omega) = q := by simp [hq]
  have d0 : ∀ p : ExtBy W1, p.wt.cell? ⟨b, off, none⟩ = some (.string q.cat) := fun p => by
    have := hcl 0 (by omega) p.wt p.ext 0 _ rfl
    rw [hq0] at this
    simpa using this
  have d2 : ∀ p : ExtBy W1, p.wt.cell? ⟨b, off + 2, none⟩ = some (.string q.text) := fun p => by
    have := hcl 0 (by omega) p.wt p.ext 2 _ rfl
    rw [hq0] at this
    simpa using this
  have g2 : ((1 : Nat) : Int) == 1 := rfl
  rw [hA, h2] at a2
  have HE : Hid (chainTo f c x = (decide (q.text.size = 0) && (f q.cat).isSome)) := by show _ = _; unfold chainTo; rw [hq]; simp [h1]
  have hqs := hs q (by rw [hq]; simp)
  by_cases h3 : q.text.size = 0
  rotate_left
  · have HF : Hid (chainTo f c x = false) := by show _ = _; rw [HE.out, decide_eq_false h3]; rfl
    have n0 := str_ne (s := q.text) (by omega)
    clear h1 h2 h3 hx hc hl hm hf hs hk hc1 hl1 hX hW1 hA hq hq0 hcl HE
    go_enter Tryz.func200, Tryz.ntmps200
    go_wp2_with fail
    rw [HW1.out]
    refine wp_region_ext (by kernel_rfl) (by kernel_rfl) ?_
    repeat (go_big_quiet_step (fail))
    refine wpQuiet_nil ?_
    intro _ hw'
    obtain ⟨p, rfl⟩ := hw'
    go_wp2_with fail
    go_ret
    exact ⟨by rw [HF.out]; rfl, ext_trans hB1 p.ext⟩
  have n0 := str_no (s := q.text) (by omega)
  have hlk : ∀ p : ExtBy W1, (Instr.lookup 251 (.map (some bm)) (.string q.cat) false).run Tryz.prog p.wt = .ok (.bool ((f q.cat).isSome)) p.wt := fun p => by
    have hmp : LeftMap p.wt bm n f := MapF.of_block hm ((ext_trans hB1 p.ext).block _ (MapF.lt hm))
    have := run_look_f keyedS Tryz.underlying251 strK boolE false (zeroB p.wt) hmp q.cat hqs
    have e : (f q.cat).getD false = (f q.cat).isSome := by
      cases h : f q.cat with
      | none => rfl
      | some v => have := hf q.cat (by rw [h]; rfl); rw [h] at this; cases this; rfl
    change _ = Result.ok (Value.bool (Option.getD (α := Bool) (f q.cat) false)) _ at this
    rw [e] at this
    exact this
  have HF : Hid (chainTo f c x = (f q.cat).isSome) := by show _ = _; rw [HE.out, decide_eq_true h3]; rfl
  generalize (f q.cat).isSome = r at *
  clear h1 h2 h3 hx hc hl hm hf hs hk hc1 hl1 hX hW1 hA hq hq0 hcl HE
  go_enter Tryz.func200, Tryz.ntmps200
  go_wp2_with fail
  rw [HW1.out]
  refine wp_region_ext (by kernel_rfl) (by kernel_rfl) ?_
  repeat (go_big_quiet_step (fail))
  refine wpQuiet_nil ?_
  intro _ hw'
  obtain ⟨p, rfl⟩ := hw'
  go_wp2_with fail
  go_ret
  exact ⟨by rw [HF.out]; rfl, ext_trans hB1 p.ext⟩
end Go.Proofs.YthojaplnimoacaaGreatDoor

/- Package types: circular. -/
namespace Go.Proofs.YthojaplnimoacaaGreatDoor
open Go.RowKit Go.Han
attribute [local irreducible] wpStill wpQuiet
set_option maxRecDepth 100000

/-- The names so far, all left. -/
def leftK (cats : List ByteArray) (y : ByteArray) : Option Bool := if (cats.any fun z => decide (z = y)) = true then some true else none
theorem leftK_snoc (l : List ByteArray) (x y : ByteArray) : leftK (l ++ [x]) y = if y = x then some true else leftK l y := by
  unfold leftK
  rw [List.any_append]
  by_cases h : y = x
  · subst h; simp
  · have h2 : ¬ x = y := fun e => h e.symm
    have h3 : ([x].any fun z => decide (z = y)) = false := by simp [h2]
    rw [h3, Bool.or_false, if_neg h]
theorem leftK_mem (cats : List ByteArray) (x : ByteArray) : (x ∈ cats → leftK cats x = some true) ∧ (x ∉ cats → leftK cats x = none) := by
  unfold leftK
  exact ⟨fun h => if_pos ((any_mem x cats).2 h), fun h => if_neg (fun h' => h ((any_mem x cats).1 h'))⟩
structure CircM (W : World) (bl bm n : Nat) (f : ByteArray → Option Bool) (wr : World) : Prop where
  map : LeftMap wr bm n f
  box : wr.heap[bl]? = some (.cells #[.map (some bm)] 251 (0, 0))
  below : Below W.heap.size W wr
set_option maxHeartbeats 4000000 in
theorem circular26_any (g : Gram) (w : World) (hg : g.lies w) (hs : g.short) (ht : typedB g = true) (hfew : g.cats.xs.length ≤ 32) : Calls Tryz.prog 159 #[.agg #[.string g.name, .slice g.cats.addr g.cats.xs.length g.cats.cap, .string g.start, .int .i64 g.startNo, .slice g.entries.addr g.entries.xs.length g.entries.cap, .slice g.rules.addr g.rules.xs.length g.rules.cap]] w fun e w' => e = .returned (.bool (circB g)) ∧ Below w.heap.size w w' := by
  obtain ⟨W1, hW1⟩ : ∃ W1, w.alloc (.cells #[.string g.name, .slice g.cats.addr g.cats.xs.length g.cats.cap, .string g.start, .int .i64 g.startNo, .slice g.entries.addr g.entries.xs.length g.entries.cap, .slice g.rules.addr g.rules.xs.length g.rules.cap] 26) = W1 := ⟨_, rfl⟩
  have hB1 : Below w.heap.size w W1 := by subst hW1; exact ext_alloc (Below.refl _ _) _
  have hk : W1.heap[w.heap.size]? = some (.cells #[.string g.name, .slice g.cats.addr g.cats.xs.length g.cats.cap, .string g.start, .int .i64 g.startNo, .slice g.entries.addr g.entries.xs.length g.entries.cap, .slice g.rules.addr g.rules.xs.length g.rules.cap] 26 (0, 0)) := by subst hW1; exact World.alloc_heap_new _ _
  obtain ⟨W2, hW2⟩ : ∃ W2, (W1.alloc (.map #[] 0)).alloc (.cells #[.map (some W1.heap.size)] 251) = W2 := ⟨_, rfl⟩
  have hb2 : Below W1.heap.size W1 W2 := by subst hW2; exact ext_alloc (ext_alloc (Below.refl _ _) _) _
  have hM0 : LeftMap W2 W1.heap.size 0 (fun _ => none) := by subst hW2; exact MapF.of_block (MapF.made _ _ _) (Below.heap_alloc _ _ _ (by simp))
  have hbx : W2.heap[W1.heap.size + 1]? = some (.cells #[.map (some W1.heap.size)] 251 (0, 0)) := by subst hW2; exact galloc_at _ _ _ (by simp)
  have hmm := @run_makeMap Tryz.prog
  have hmf : ∀ (fn : Fn) (first cap : Array Value) (w : World), (Instr.makeFunc fn first cap).run Tryz.prog w = .ok (.func fn first cap) w := fun _ _ _ _ => rfl
  have HG := Lib.hid (hg.ext hB1)
  have Hk := Lib.hid hk
  have HB1 := Lib.hid hB1
  have Hs := Lib.hid hs
  have Htn := Lib.hid (typed_names ht)
  have H0 : Hid (CircM W1 (W1.heap.size + 1) W1.heap.size 0 (leftK []) W2) := ⟨MapF.congr hM0 (fun x _ => by simp [leftK]; rfl), hbx, hb2⟩
  have hm1 : g.cats.xs.length ≤ 9223372036854775807 := by omega
  have c1 := (hb2.cell (p := ⟨w.heap.size, 1, none⟩) (lt_block hk)).trans (gblk hk 1)
  have c1 : W2.cell? ⟨w.heap.size, 1, none⟩ = some (.slice g.cats.addr g.cats.xs.length g.cats.cap) := c1
  clear hg hs ht hk hb2 hM0 hbx hB1
  go_enter Tryz.func159, Tryz.ntmps159
  go_wp2_with fail
  clear hmm hW1 hW2
  clear c1
  go_loopw [12] (fun i wr => ∃ k : Nat, k ≤ g.cats.xs.length ∧ i = .int .i64 k ∧ CircM W1 (W1.heap.size + 1) W1.heap.size k (leftK (g.cats.xs.take k)) wr) (fun i _ => g.cats.xs.length - (intOf i).toNat)
  case atStart => exact ⟨0, Nat.zero_le _, rfl, H0.out⟩
  case round =>
    obtain ⟨k, hk, rfl, hM, hbx, hB⟩ := hrel
    by_cases hlt : k < g.cats.xs.length
    · obtain ⟨b, off, hA, hb, hc⟩ := StrS.at_ HG.out.cats (k := k) hlt
      have e0 : wr.cell? ⟨b, off + k, none⟩ = some (.string g.cats.xs[k]) := (hB.cell (p := ⟨b, off + k, none⟩) hb).trans (hc k hlt)
      have htk : g.cats.xs.take (k + 1) = g.cats.xs.take k ++ [g.cats.xs[k]] := List.take_succ_eq_append_getElem hlt
      have hgood : g.cats.xs[k].size ≤ maxLen := Hs.out.cats _ (List.getElem_mem hlt)
      have hbc := cell_one hbx
      have hkm : k < maxLen := by unfold maxLen; omega
      rw [hA]
      have Htk := Lib.hid htk
      have Hbx := Lib.hid hbx
      have HB := Lib.hid hB
      clear hc hA htk hbx hB
      generalize g.cats.xs[k] = y at *
      generalize g.cats.xs.take k = l at *
      go_wp2_with (at_mapUpdate; refine wpList_mapUpdate_f _ rfl _ _ _ 251 rfl 4 keyedS Tryz.underlying251 strK boolE W1.heap.size k _ rfl hM hkm y true rfl rfl hgood ?_; intro w9 hm9 hg9 hs9)
      have HF : Hid (CircM W1 (W1.heap.size + 1) W1.heap.size (k + 1) (leftK (g.cats.xs.take (k + 1))) w9) := by
        refine ⟨?_, (hg9.block _ (lt_block Hbx.out) (by simp)).trans Hbx.out, HB.out.grown hg9 HB.out.size (fun j hj => by cases hj; exact Nat.le_refl _)⟩
        rw [Htk.out]
        exact MapF.congr hm9 (fun z _ => by rw [leftK_snoc]; rfl)
      clear hm9 hg9 hs9 hM e0 hbc
      go_wp2_with fail
      go_roundw
      case rel => exact ⟨k + 1, by omega, by go_num, HF.out⟩
      case measure => simp [intOf]; omega
    · obtain rfl : k = g.cats.xs.length := by omega
      rw [List.take_length] at hM
      have hLI : LeftInv g.rules.xs g.cats.xs 0 (leftK g.cats.xs) (fun x => (leftK g.cats.xs x).isSome) := LeftInv.start _ _ (leftK_mem g.cats.xs)
      have H1 : Hid (∃ n f, CircM W1 (W1.heap.size + 1) W1.heap.size n f wr ∧ LeftInv g.rules.xs g.cats.xs 0 f (fun x => (f x).isSome)) := ⟨_, _, ⟨hM, hbx, hB⟩, hLI⟩
      have c1 : wr.cell? ⟨w.heap.size, 1, none⟩ = some (.slice g.cats.addr g.cats.xs.length g.cats.cap) := (hB.cell (p := ⟨w.heap.size, 1, none⟩) (lt_block Hk.out)).trans (gblk Hk.out 1)
      clear hM hbx hB hLI
      go_wp2_with fail
      clear c1 hk hlt
      go_loopw [22] (fun i wr => ∃ k : Nat, k ≤ g.cats.xs.length ∧ i = .int .i64 k ∧ ∃ n f, CircM W1 (W1.heap.size + 1) W1.heap.size n f wr ∧ LeftInv g.rules.xs g.cats.xs k f (fun x => (f x).isSome)) (fun i _ => g.cats.xs.length - (intOf i).toNat)
      case atStart => exact ⟨0, Nat.zero_le _, rfl, H1.out⟩
      case round =>
        clear H1
        obtain ⟨k, hk, rfl, n, f, ⟨hM, hbx, hB⟩, hLI⟩ := hrel
        rename World => wr
        by_cases hlt : k < g.cats.xs.length
        · have hbc := cell_one hbx
          have hz := hM.lt
          have hbl := lt_block hbx
          have hzB := hB.size
          obtain ⟨w3, hw3⟩ : ∃ w3, w3 = wr := ⟨_, rfl⟩
          subst hw3
          go_wp2_with (at_range; refine wpList_range_f _ rfl _ 251 rfl 4 keyedS Tryz.underlying251 strK boolE W1.heap.size n _ rfl hM ?_; intro w7 cnt0 hrg0 hg0 hs0)
          go_frame
          go_loopw [26] (fun _ wr => ∃ left cnt f, RangeF wr strK boolE W1.heap.size w3.heap.size n f left cnt ∧ LeftInv g.rules.xs g.cats.xs k f left ∧ wr.heap[W1.heap.size + 1]? = some (.cells #[.map (some W1.heap.size)] 251 (0, 0)) ∧ Below W1.heap.size W1 wr) (fun _ wr => wr.rangeLeft W1.heap.size w3.heap.size)
          case atStart =>
            exact ⟨_, _, _, hrg0, hLI, (hg0.block _ (lt_block hbx) (by simp)).trans hbx, hB.grown hg0 hB.size (fun j hj => by cases hj)⟩
          case round =>
            clear hLI hbx hB hbc hrg0 hg0 hs0 hM
            obtain ⟨left, cnt, f, hrg, hLI, hbx, hB⟩ := hrel
            rename World => wr
            go_wp2_with (at_next; refine wpList_next_f _ rfl _ rfl keyedS strK boolE W1.heap.size w3.heap.size n _ left cnt (fun x => .string x) (fun c : BoolT => Value.bool c) (fun _ => rfl) (fun _ => rfl) rfl hrg ?_ ?_)
            · intro hl0
              have HF : Hid (∃ n f, CircM W1 (W1.heap.size + 1) W1.heap.size n f wr ∧ LeftInv g.rules.xs g.cats.xs (k + 1) f (fun x => (f x).isSome)) :=
                ⟨n, f, ⟨hrg.owns, hbx, hB⟩, hLI.next fun x hx => hl0 x (Hs.out.cats x hx)⟩
              clear hl0 hrg hLI hbx hB
              go_wp2_with fail
              go_roundw
              case rel => exact ⟨k + 1, by omega, by go_num, HF.out⟩
              case measure => simp [intOf]; omega
            · intro x c w8 cnt1 hgx hlx hfx hrg1 hlt1 hg1 hs1 hen
              have hrlt := hrg.lt
              have hB8 : Below W1.heap.size W1 w8 := hB.grown hg1 hB.size (fun j hj => by cases hj; omega)
              have hbx8 := (hg1.block _ (lt_block hbx) (by simp; omega)).trans hbx
              obtain ⟨w9, hw9⟩ : ∃ w9, w8.alloc (.cells #[.string x] 9) = w9 := ⟨_, rfl⟩
              have hb9 : Below w8.heap.size w8 w9 := by subst hw9; exact ext_alloc (Below.refl _ _) _
              have hc9 : w9.heap[w8.heap.size]? = some (.cells #[.string x] 9 (0, 0)) := by subst hw9; exact World.alloc_heap_new _ _
              have hbx9 := (hb9.block _ (lt_block hbx8)).trans hbx8
              have hB9 := ext_trans hB8 hb9
              have hrg9 := hrg1.kept (gbelow_grown hb9 none) (by simp) (by simp)
              have hkg9 := (hB9.block _ (lt_block Hk.out)).trans Hk.out
              have cC := Lib.hid (confR_any g.rules.addr g.rules.cap g.rules.xs 200 #[.pointer (some ⟨w8.heap.size, 0, none⟩), .pointer (some ⟨W1.heap.size + 1, 0, none⟩)] (chainTo f x) w9 (HG.out.rules.ext hB9).rd (Nat.le_trans HG.out.rules.cap HG.out.rules.max) (enters_of Tryz.func200 (by kernel_rfl) rfl)
                (fun V hV y hy => leads26_any y w8.heap.size (W1.heap.size + 1) W1.heap.size n x f V ((HG.out.rule y hy).ext (ext_trans hB9 hV)) ((hV.block _ (lt_block hc9)).trans hc9) ((hV.block _ (lt_block hbx9)).trans hbx9) (MapF.of_block hrg9.owns (hV.block _ hrg9.owns.lt)) (fun z hz => (hLI.sub z hz).2) (Hs.out.part y hy)))
              have d5 : w9.cell? ⟨w.heap.size, 5, none⟩ = some (.slice g.rules.addr g.rules.xs.length g.rules.cap) := gblk hkg9 5
              have Hc9 := Lib.hid hc9
              have Hbx9 := Lib.hid hbx9
              have HB9 := Lib.hid hB9
              have Hrg9 := Lib.hid hrg9
              have HLI := Lib.hid hLI
              have Hlt1 := Lib.hid hlt1
              have Hrl := Lib.hid hrg.left_eq
              have Hgx := Lib.hid hgx
              clear hrg hrg1 hlt1 hg1 hs1 hlx hfx hgx hLI hbx hB hB8 hbx8 hb9 hc9 hbx9 hB9 hrg9 hkg9
              go_wp2_with fail
              clear hw9
              refine cC.out.mono ?_
              rintro e w10 ⟨rfl, hb10⟩
              have hc10 := (hb10.block _ (lt_block Hc9.out)).trans Hc9.out
              have hbx10 := (hb10.block _ (lt_block Hbx9.out)).trans Hbx9.out
              have hB10 := ext_trans HB9.out hb10
              have hrg10 := Hrg9.out.kept (gbelow_grown hb10 none) (by simp) (by simp)
              cases hany : g.rules.xs.any (chainTo f x)
              · have hst := HLI.out.strike (c := x) (fun y z ⟨r, hr, hc⟩ => by
                  obtain ⟨hgc, hcy, p, hp, rfl⟩ := chainB_G.1 hc
                  unfold chainG at hgc
                  split at hgc
                  · rename_i p' hp'
                    rw [hp'] at hp
                    simp at hp
                    subst hp
                    exact Htn.out.1 r hr p' hp' (of_decide_eq_true hgc)
                  · cases hgc) hany
                have Hst := Lib.hid hst
                have x0 := cell_one hbx10
                have y0 := cell_one hc10
                have Hbx10 := Lib.hid hbx10
                have HB10 := Lib.hid hB10
                clear hst hany hc10 hbx10 hB10 hb10
                go_wp2_with (at_delete; refine wpList_delete_f rfl _ _ 251 rfl 4 keyedS Tryz.underlying251 strK boolE W1.heap.size w3.heap.size n _ _ _ rfl hrg10 x rfl Hgx.out ?_; intro w11 cnt2 hrg11 hle11 hturn)
                have hgr := hturn.grown
                have hf2 : (fun y => (left y && !decide (y = x)) && !decide (y = x)) = (fun y => left y && !decide (y = x)) := by
                  funext y
                  cases left y <;> cases decide (y = x) <;> rfl
                rw [hf2] at hrg11
                have HF : Hid (LeftInv g.rules.xs g.cats.xs k (fun y => if y = x then none else f y) (fun y => left y && !decide (y = x)) ∧ w11.heap[W1.heap.size + 1]? = some (.cells #[.map (some W1.heap.size)] 251 (0, 0)) ∧ Below W1.heap.size W1 w11) :=
                  ⟨Hst.out, (hgr.block _ (lt_block Hbx10.out) (by simp)).trans Hbx10.out, HB10.out.grown hgr HB10.out.size (fun j hj => by cases hj; exact Nat.le_refl _)⟩
                go_frame
                go_roundw
                case rel => exact ⟨_, cnt2, _, hrg11, HF.out⟩
                case measure => rw [hrg11.left_eq, Hrl.out]; have := Hlt1.out; omega
              · have hst := HLI.out.stay hany
                have HF : Hid (LeftInv g.rules.xs g.cats.xs k f (fun y => left y && !decide (y = x)) ∧ w10.heap[W1.heap.size + 1]? = some (.cells #[.map (some W1.heap.size)] 251 (0, 0)) ∧ Below W1.heap.size W1 w10) := ⟨hst, hbx10, hB10⟩
                clear hst hany hc10 hbx10 hB10 hb10
                go_wp2_with fail
                go_roundw
                case rel => exact ⟨_, cnt1, f, hrg10, HF.out⟩
                case measure => rw [hrg10.left_eq, Hrl.out]; exact Hlt1.out
        · obtain rfl : k = g.cats.xs.length := by omega
          have hbc := cell_one hbx
          have hsz := hM.size keyedS (leftNames f g.cats.xs) (onceB_nodup _) (fun x hx => Hs.out.cats x (hLI.sub x ((leftNames_mem (fun y hy => (hLI.sub y hy).1) x).2 hx)).1) (fun x _ => leftNames_mem (fun y hy => (hLI.sub y hy).1) x) Tryz.underlying251 3
          have HF : Hid (decide (0 < (leftNames f g.cats.xs).length) = circB g) := by
            show _ = _
            rw [Bool.eq_iff_iff, leftNames_pos (fun y hy => (hLI.sub y hy).1), hLI.last Htn.out.1 Htn.out.2]
          have HB := Lib.hid hB
          generalize (leftNames f g.cats.xs).length = m at *
          clear hM hbx hB hLI
          go_wp2_with fail
          go_ret
          exact ⟨by rw [← HF.out]; simp, ext_trans HB1.out HB.out⟩
end Go.Proofs.YthojaplnimoacaaGreatDoor
