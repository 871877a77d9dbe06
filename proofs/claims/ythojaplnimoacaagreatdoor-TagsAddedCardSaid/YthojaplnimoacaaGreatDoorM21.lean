/- Texts of this claim, one after the other: Law28f, AddT2, Law28g. -/
import Derived.Test.YthojaplnimoacaaGreatDoorM20
import Derived.Test.YthojaplnimoacaaGreatDoorM10
import Derived.Test.YthojaplnimoacaaGreatDoorM17
import Derived.Deep.DeepCutAuto
/- Law 28: is; what TagsAdded keeps. -/
namespace Go.Proofs.YthojaplnimoacaaGreatDoor
open Go.RowKit Go.Han
attribute [local irreducible] wpStill wpQuiet
set_option maxRecDepth 100000

theorem isB_at {ws src : List ByteArray} {i : Nat} (h : i + src.length ≤ ws.length) : isB ws src i = decide ((ws.drop i).take src.length = src) := by
  unfold isB
  rw [decide_eq_true (show (0 : Int) ≤ i by omega), Int.toNat_natCast, decide_eq_true h]
  simp
theorem isB_long {ws src : List ByteArray} {i : Nat} (h : ¬ i + src.length ≤ ws.length) : isB ws src i = false := by
  unfold isB
  rw [Int.toNat_natCast, decide_eq_false h]
  simp
theorem take_get {ws : List ByteArray} {i k : Nat} (h : i + k < ws.length) : (ws.drop i).take (k + 1) = (ws.drop i).take k ++ [ws[i + k]] := by
  rw [List.take_succ_eq_append_getElem (by rw [List.length_drop]; omega), List.getElem_drop]
set_option maxHeartbeats 1000000 in
theorem is28_any (s x : StrS) (i : Nat) (w : World) (hs : s.lies w) (hx : x.lies w) (hi : i ≤ 1000000) (hl : x.xs.length ≤ 1000000) :
    Calls Tryz.prog 40 #[.slice s.addr s.xs.length s.cap, .slice x.addr x.xs.length x.cap, .int .i64 (i : Int)] w fun e w' => e = .returned (.bool (isB s.xs x.xs i)) ∧ w = w' := by
  have hw1 : IntKind.i64.wrap ((i : Int) + (x.xs.length : Int)) = (i : Int) + (x.xs.length : Int) := IntWalk.i64_in _ (by omega)
  have hat := Lib.hid (fun k hk => StrS.at_ hs (k := k) hk)
  have hat' := Lib.hid (fun k hk => StrS.at_ hx (k := k) hk)
  clear hs hx
  by_cases hn : i + x.xs.length ≤ s.xs.length
  · have hg : ¬ (s.xs.length : Int) < (i : Int) + (x.xs.length : Int) := by omega
    have hE := Lib.hid (isB_at hn)
    go_enter Tryz.func40, Tryz.ntmps40
    go_wp2_with fail
    go_loopw [18] (fun j wr => ∃ k : Nat, k ≤ x.xs.length ∧ j = .int .i64 k ∧ wr = w ∧ Hid ((s.xs.drop i).take k = x.xs.take k)) (fun j _ => x.xs.length - (intOf j).toNat)
    case atStart => exact ⟨0, Nat.zero_le _, rfl, rfl, rfl⟩
    case round =>
      obtain ⟨k, hk, rfl, rfl, HR⟩ := hrel
      by_cases hlt : k < x.xs.length
      · have hlt' : i + k < s.xs.length := by omega
        have hw2 : IntKind.i64.wrap ((i : Int) + (k : Int)) = ((i + k : Nat) : Int) := by rw [IntWalk.i64_in _ (by omega)]; omega
        obtain ⟨b, off, he, hb, hc⟩ := hat.out (i + k) hlt'
        obtain ⟨b', off', he', hb', hc'⟩ := hat'.out k hlt
        have h1 := hc (i + k) hlt'
        have h2 := hc' k hlt
        have Htk := Lib.hid (take_get hlt')
        have Htk' : Hid (x.xs.take (k + 1) = x.xs.take k ++ [x.xs[k]]) := List.take_succ_eq_append_getElem hlt
        have hf : Hid ((s.xs.drop i).take x.xs.length = x.xs → s.xs[i + k] = x.xs[k]) := by
          intro e
          have e2 : ((s.xs.drop i).take x.xs.length)[k]? = x.xs[k]? := by rw [e]
          rw [List.getElem?_take_of_lt hlt, List.getElem?_drop, List.getElem?_eq_getElem hlt', List.getElem?_eq_getElem hlt] at e2
          exact Option.some.inj e2
        rw [he, he']
        clear hc hc' he he'
        generalize s.xs[i + k] = y at *
        generalize x.xs[k] = z at *
        by_cases hxy : y = z
        · subst hxy
          have g1 : (y.toList != y.toList) = false := by simp
          have g2 : (y.toList == y.toList) = true := by simp
          go_wp2_with fail
          go_roundw
          case rel => exact ⟨k + 1, by omega, by go_num, by first | trivial | rfl, by show _ = _; rw [Htk.out, Htk'.out, HR.out]⟩
          case measure => simp [intOf]; omega
        · have HF : Hid (isB s.xs x.xs i = false) := by show _ = _; rw [hE.out]; exact decide_eq_false (fun h => hxy (hf.out h))
          have hxl : ¬ y.toList = z.toList := fun h => hxy (by rw [ByteArray.toList_eq, ByteArray.toList_eq] at h; cases y with | mk a => cases z with | mk b => cases a; cases b; simp at h; rw [h])
          have g1 : (y.toList != z.toList) = true := by simpa using hxl
          have g2 : (y.toList == z.toList) = false := by simpa using hxl
          go_wp2_with fail
          go_ret
          exact ⟨by rw [HF.out]; rfl, rfl⟩
      · have hks : k = x.xs.length := by omega
        subst hks
        have HF : Hid (isB s.xs x.xs i = true) := by
          show _ = _
          rw [hE.out]
          refine decide_eq_true ?_
          rw [HR.out, List.take_length]
        go_wp2_with fail
        go_ret
        exact ⟨by rw [HF.out]; rfl, rfl⟩
  · have hg : (s.xs.length : Int) < (i : Int) + (x.xs.length : Int) := by omega
    have hE := Lib.hid (isB_long hn)
    go_enter Tryz.func40, Tryz.ntmps40
    go_wp2_with fail
    go_ret
    exact ⟨by rw [hE.out]; rfl, rfl⟩
/-- What is kept of a row of items. -/
def KeptP (its : SlS ItemG) (ws src : List ByteArray) (w : World) (e : Ending) (w' : World) : Prop :=
  ∃ L : SlS ItemG, e = .returned (.slice L.addr L.xs.length L.cap) ∧ L.xs.map ItemG.c = (its.xs.map ItemG.c).filter (keptB ws src) ∧ ItemsAt w' L ∧ Below w.heap.size w w'
theorem keptB_cat {ws src : List ByteArray} {y : ItemC} (h : y.cat < 0) : keptB ws src y = true := by unfold keptB; simp [h]
theorem keptB_len {ws src : List ByteArray} {y : ItemC} (h : y.unt - y.frm ≠ src.length) : keptB ws src y = true := by unfold keptB; simp [h]
theorem keptB_is {ws src : List ByteArray} {y : ItemC} (h1 : ¬ y.cat < 0) (h2 : y.unt - y.frm = src.length) : keptB ws src y = !isB ws src y.frm := by unfold keptB; simp [h1, h2]
theorem filter_snoc_c {p : ItemC → Bool} {L : List ItemG} {M : List ItemG} {x : ItemG} (h : L.map ItemG.c = (M.map ItemG.c).filter p) (hx : p x.c = true) : (L ++ [x]).map ItemG.c = ((M ++ [x]).map ItemG.c).filter p := by
  rw [List.map_append, h, List.map_append, List.filter_append]; simp [hx]
theorem filter_skip_c {p : ItemC → Bool} {L : List ItemG} {M : List ItemG} {x : ItemG} (h : L.map ItemG.c = (M.map ItemG.c).filter p) (hx : p x.c = false) : L.map ItemG.c = ((M ++ [x]).map ItemG.c).filter p := by
  rw [h, List.map_append, List.filter_append]; simp [hx]
set_option maxHeartbeats 8000000 in
theorem kept28_any (its : SlS ItemG) (bx bw : Nat) (a : Term) (s : StrS) (w : World) (hit : ItemsAt w its) (hx : w.heap[bx]? = some (.cells #[.int .i64 a.no, .int .i64 a.at_, .int .i64 a.known, .int .i64 a.lang, .slice a.src.addr a.src.xs.length a.src.cap, .slice a.tgt.addr a.tgt.xs.length a.tgt.cap, .string a.cat, .bool a.gone] 66 (0, 0))) (hb : w.heap[bw]? = some (.cells #[.slice s.addr s.xs.length s.cap] 22 (0, 0))) (ha : a.src.lies w) (hs : s.lies w)
    (hin : ∀ y ∈ its.xs, 0 ≤ y.frm ∧ y.frm ≤ 1000 ∧ 0 ≤ y.unt ∧ y.unt ≤ 1000) (hl : a.src.xs.length ≤ 1000000) (hm : its.xs.length ≤ 1024) :
    Calls Tryz.prog 46 #[.slice its.addr its.xs.length its.cap, .pointer (some ⟨bx, 0, none⟩), .pointer (some ⟨bw, 0, none⟩)] w (KeptP its s.xs a.src.xs w) := by
  have FI := Lib.hid (fun (i : Nat) (hi : i ≤ 1000000) V (hV : Below w.heap.size w V) => is28_any s a.src i V (hs.ext hV) (ha.ext hV) hi hl)
  have HIa := Lib.hid hit
  have Hx := Lib.hid hx
  have Hb := Lib.hid hb
  have Hin := Lib.hid hin
  have hlx := lt_block hx
  have hlb := lt_block hb
  obtain ⟨i0, z0, hi0, hz0, hz1, hz2, hzs⟩ := parts_item
  clear hit hx hb ha hs hin
  go_enter Tryz.func46, Tryz.ntmps46
  go_wp2_with fail
  obtain ⟨W5, hW5⟩ : ∃ W5, W5 = w := ⟨_, rfl⟩
  subst hW5
  go_loopw [4, 9] (fun v iv wr => ∃ (k : Nat) (L : List ItemG), k ≤ its.xs.length ∧ iv = .int .i64 k ∧ Hid (RowI W5 W5 v L wr) ∧ Hid (L.map ItemG.c = ((its.xs.take k).map ItemG.c).filter (keptB s.xs a.src.xs))) (fun _ iv _ => its.xs.length - (intOf iv).toNat)
  case atStart => exact ⟨0, [], Nat.zero_le _, rfl, ⟨Below.refl _ _, OwnL.nil _ _ _ _ _, fun x hx => (by cases hx)⟩, by show _ = _; simp⟩
  case round =>
    obtain ⟨k, L, hk, rfl, HR, HL⟩ := hrel
    obtain ⟨Av, cv, rfl, _⟩ := own_room HR.out.own
    by_cases hlt : k < its.xs.length
    · obtain ⟨b, off, hA, hbb, hc⟩ := (HIa.out.ext HR.out.below).lies.at_ ItemG.size_cells (by omega) hlt
      have d0 : wr.cell? ⟨b, off + k * 6, none⟩ = some (.int .i64 its.xs[k].cat) := hc k hlt wr (Below.refl _ _) 0 _ rfl
      have d1 : wr.cell? ⟨b, off + k * 6 + 1, none⟩ = some (.int .i64 its.xs[k].frm) := hc k hlt wr (Below.refl _ _) 1 _ rfl
      have d2 : wr.cell? ⟨b, off + k * 6 + 2, none⟩ = some (.int .i64 its.xs[k].unt) := hc k hlt wr (Below.refl _ _) 2 _ rfl
      have d3 : wr.cell? ⟨b, off + k * 6 + 3, none⟩ = some (.int .i64 its.xs[k].cost) := hc k hlt wr (Below.refl _ _) 3 _ rfl
      have d4 : wr.cell? ⟨b, off + k * 6 + 4, none⟩ = some (.slice its.xs[k].tgt.addr its.xs[k].tgt.xs.length its.xs[k].tgt.cap) := hc k hlt wr (Below.refl _ _) 4 _ rfl
      have d5 : wr.cell? ⟨b, off + k * 6 + 5, none⟩ = some (.int .i64 its.xs[k].term) := hc k hlt wr (Below.refl _ _) 5 _ rfl
      have htk : its.xs.take (k + 1) = its.xs.take k ++ [its.xs[k]] := List.take_succ_eq_append_getElem hlt
      have hxF : FarI W5.heap.size wr its.xs[k].tgt := FarI.low (HIa.out.tgt _ (List.getElem_mem hlt)) (fun q hq => HR.out.below.block q hq) HR.out.below.size
      have hLk : L.length < 2000 := by
        have h1 := congrArg List.length HL.out
        rw [List.length_map] at h1
        have h2 := List.length_filter_le (keptB s.xs a.src.xs) ((its.xs.take k).map ItemG.c)
        rw [List.length_map, List.length_take] at h2
        omega
      have hbd := Hin.out _ (List.getElem_mem hlt)
      rw [hA]
      have Htk := Lib.hid htk
      have HxF := Lib.hid hxF
      clear hA hc htk hxF
      generalize its.xs[k] = x at *
      obtain ⟨hb1, hb2, hb3, hb4⟩ := hbd
      have hwr : IntKind.i64.wrap (x.unt - x.frm) = x.unt - x.frm := IntWalk.i64_in _ (by omega)
      obtain ⟨w6, hw6⟩ : ∃ w6, wr.alloc (.cells #[.int .i64 x.cat, .int .i64 x.frm, .int .i64 x.unt, .int .i64 x.cost, .slice x.tgt.addr x.tgt.xs.length x.tgt.cap, .int .i64 x.term] 47) = w6 := ⟨_, rfl⟩
      have hb6 : Below wr.heap.size wr w6 := by rw [← hw6]; exact ext_alloc (Below.refl _ _) _
      have hx6 : w6.heap[wr.heap.size]? = some (.cells #[.int .i64 x.cat, .int .i64 x.frm, .int .i64 x.unt, .int .i64 x.cost, .slice x.tgt.addr x.tgt.xs.length x.tgt.cap, .int .i64 x.term] 47 (0, 0)) := by rw [← hw6]; exact World.alloc_heap_new _ _
      have e0 := gblk hx6 0
      have e1 := gblk hx6 1
      have e2 := gblk hx6 2
      have e3 := gblk hx6 3
      have e4 := gblk hx6 4
      have e5 := gblk hx6 5
      have hB06 := ext_trans HR.out.below hb6
      have hxa := (hB06.block _ hlx).trans Hx.out
      have f0 := gblk hxa 0
      have f1 := gblk hxa 1
      have f2 := gblk hxa 2
      have f3 := gblk hxa 3
      have f4 := gblk hxa 4
      have f5 := gblk hxa 5
      have f6 := gblk hxa 6
      have f7 := gblk hxa 7
      have hxb := (hB06.block _ hlb).trans Hb.out
      have cb := cell_one hxb
      have HR6 := Lib.hid (HR.out.ext (Nat.le_refl _) hb6)
      have hrow : w6.ownsRow W5.heap.size 47 6 (.slice Av L.length cv) L.length (L.flatMap ItemG.cells) := HR6.out.own
      have hW6 := HR6.out.below.size
      by_cases hc0 : x.cat < 0
      · have HN : Hid ((L ++ [x]).map ItemG.c = ((its.xs.take (k + 1)).map ItemG.c).filter (keptB s.xs a.src.xs)) := by
          show _ = _
          rw [Htk.out]; exact filter_snoc_c HL.out (keptB_cat hc0)
        clear hx6 hxa hxb
        go_wp2_with (at_builtin; refine wpList_append_own_at _ rfl _ _ 27 rfl W5.heap.size 47 i0 z0 6 64 Tryz.underlying27 hi0 hz0 hz1 hz2 hzs (by decide) _ _ _ rfl (hrow.alloc _) ⟨w6.heap.size, 0, none⟩ 1 1 [.int .i64 x.cat, .int .i64 x.frm, .int .i64 x.unt, .int .i64 x.cost, .slice x.tgt.addr x.tgt.xs.length x.tgt.cap, .int .i64 x.term] rfl rfl (gcells_new w6 [.int .i64 x.cat, .int .i64 x.frm, .int .i64 x.unt, .int .i64 x.cost, .slice x.tgt.addr x.tgt.xs.length x.tgt.cap, .int .i64 x.term] 47) (by simp [Value.oneCell']) (by unfold maxLen; omega) (by omega) (by simp; omega) ?_; intro v' w7 hown' hgrow hnil hat; obtain ⟨g', cap', rfl⟩ := ownsRow_succ hown')
        have hbq : Below w6.heap.size w6 (w6.alloc (.cells ([.int .i64 x.cat, .int .i64 x.frm, .int .i64 x.unt, .int .i64 x.cost, .slice x.tgt.addr x.tgt.xs.length x.tgt.cap, .int .i64 x.term]).toArray 47)) := ext_alloc (Below.refl _ _) _
        have HQ := Lib.hid (HR6.out.snoc (Nat.le_refl _) hbq (y := x) ((HxF.out.ext HR.out.below.size hb6).ext hW6 hbq) hown' hgrow)
        clear hrow hown' hgrow hnil hat hbq HR6 HR e0 e1 e2 e3 e4 e5 d0 d1 d2 d3 d4 d5 hw6 f0 f1 f2 f3 f4 f5 f6 f7 cb
        go_wp2
        go_roundw
        case rel => exact ⟨k + 1, _, by omega, by go_num, HQ, HN⟩
        case measure => simp [intOf]; omega
      have hc1 : decide (x.cat < 0) = false := decide_eq_false hc0
      by_cases hln : x.unt - x.frm = (a.src.xs.length : Int)
      · have g2 : (x.unt - x.frm != (a.src.xs.length : Int)) = false := by simp [hln]
        obtain ⟨i, hi⟩ : ∃ i : Nat, x.frm = (i : Int) := ⟨x.frm.toNat, by omega⟩
        have g3 : decide (x.frm < 0) = false := decide_eq_false (by omega)
        have hq : keptB s.xs a.src.xs x.c = !isB s.xs a.src.xs x.frm := keptB_is (ws := s.xs) (src := a.src.xs) (y := x.c) hc0 hln
        have cI := FI.out i (by omega) w6 hB06
        rw [← hi] at cI
        have CI := Lib.hid cI
        have Hq := Lib.hid hq
        clear hi hln hq cI hc0 hb1 hb2 hb3 hb4
        generalize isB s.xs a.src.xs x.frm = r at *
        clear hx6 hxa hxb
        go_wp2_with fail
        refine CI.out.mono ?_
        rintro e w7 ⟨rfl, rfl⟩
        cases r
        · have HN : Hid ((L ++ [x]).map ItemG.c = ((its.xs.take (k + 1)).map ItemG.c).filter (keptB s.xs a.src.xs)) := by
            show _ = _
            rw [Htk.out]; exact filter_snoc_c HL.out (by rw [Hq.out]; rfl)
          go_wp2_with (at_builtin; refine wpList_append_own_at _ rfl _ _ 27 rfl W5.heap.size 47 i0 z0 6 64 Tryz.underlying27 hi0 hz0 hz1 hz2 hzs (by decide) _ _ _ rfl (hrow.alloc _) ⟨w6.heap.size, 0, none⟩ 1 1 [.int .i64 x.cat, .int .i64 x.frm, .int .i64 x.unt, .int .i64 x.cost, .slice x.tgt.addr x.tgt.xs.length x.tgt.cap, .int .i64 x.term] rfl rfl (gcells_new w6 [.int .i64 x.cat, .int .i64 x.frm, .int .i64 x.unt, .int .i64 x.cost, .slice x.tgt.addr x.tgt.xs.length x.tgt.cap, .int .i64 x.term] 47) (by simp [Value.oneCell']) (by unfold maxLen; omega) (by omega) (by simp; omega) ?_; intro v' w7 hown' hgrow hnil hat; obtain ⟨g', cap', rfl⟩ := ownsRow_succ hown')
          have hbq : Below w6.heap.size w6 (w6.alloc (.cells ([.int .i64 x.cat, .int .i64 x.frm, .int .i64 x.unt, .int .i64 x.cost, .slice x.tgt.addr x.tgt.xs.length x.tgt.cap, .int .i64 x.term]).toArray 47)) := ext_alloc (Below.refl _ _) _
          have HQ := Lib.hid (HR6.out.snoc (Nat.le_refl _) hbq (y := x) ((HxF.out.ext HR.out.below.size hb6).ext hW6 hbq) hown' hgrow)
          clear hrow hown' hgrow hnil hat hbq HR6 HR e0 e1 e2 e3 e4 e5 d0 d1 d2 d3 d4 d5 hw6 f0 f1 f2 f3 f4 f5 f6 f7 cb
          go_wp2
          go_roundw
          case rel => exact ⟨k + 1, _, by omega, by go_num, HQ, HN⟩
          case measure => simp [intOf]; omega
        · have HN : Hid (L.map ItemG.c = ((its.xs.take (k + 1)).map ItemG.c).filter (keptB s.xs a.src.xs)) := by
            show _ = _
            rw [Htk.out]; exact filter_skip_c HL.out (by rw [Hq.out]; rfl)
          go_wp2_with fail
          go_roundw
          case rel => exact ⟨k + 1, L, by omega, by go_num, HR6, HN⟩
          case measure => simp [intOf]; omega
      · have g2 : (x.unt - x.frm != (a.src.xs.length : Int)) = true := by simp [hln]
        have HN : Hid ((L ++ [x]).map ItemG.c = ((its.xs.take (k + 1)).map ItemG.c).filter (keptB s.xs a.src.xs)) := by
          show _ = _
          rw [Htk.out]; exact filter_snoc_c HL.out (keptB_len hln)
        clear hln
        clear hx6 hxa hxb
        go_wp2_with (at_builtin; refine wpList_append_own_at _ rfl _ _ 27 rfl W5.heap.size 47 i0 z0 6 64 Tryz.underlying27 hi0 hz0 hz1 hz2 hzs (by decide) _ _ _ rfl (hrow.alloc _) ⟨w6.heap.size, 0, none⟩ 1 1 [.int .i64 x.cat, .int .i64 x.frm, .int .i64 x.unt, .int .i64 x.cost, .slice x.tgt.addr x.tgt.xs.length x.tgt.cap, .int .i64 x.term] rfl rfl (gcells_new w6 [.int .i64 x.cat, .int .i64 x.frm, .int .i64 x.unt, .int .i64 x.cost, .slice x.tgt.addr x.tgt.xs.length x.tgt.cap, .int .i64 x.term] 47) (by simp [Value.oneCell']) (by unfold maxLen; omega) (by omega) (by simp; omega) ?_; intro v' w7 hown' hgrow hnil hat; obtain ⟨g', cap', rfl⟩ := ownsRow_succ hown')
        have hbq : Below w6.heap.size w6 (w6.alloc (.cells ([.int .i64 x.cat, .int .i64 x.frm, .int .i64 x.unt, .int .i64 x.cost, .slice x.tgt.addr x.tgt.xs.length x.tgt.cap, .int .i64 x.term]).toArray 47)) := ext_alloc (Below.refl _ _) _
        have HQ := Lib.hid (HR6.out.snoc (Nat.le_refl _) hbq (y := x) ((HxF.out.ext HR.out.below.size hb6).ext hW6 hbq) hown' hgrow)
        clear hrow hown' hgrow hnil hat hbq HR6 HR e0 e1 e2 e3 e4 e5 d0 d1 d2 d3 d4 d5 hw6 f0 f1 f2 f3 f4 f5 f6 f7 cb
        go_wp2
        go_roundw
        case rel => exact ⟨k + 1, _, by omega, by go_num, HQ, HN⟩
        case measure => simp [intOf]; omega
    · have hks : k = its.xs.length := by omega
      subst hks
      obtain ⟨A9, c9, e9, hr9, hn9⟩ := HR.out.own.form (by decide)
      cases e9
      obtain ⟨hc9, hm9⟩ : L.length ≤ cv ∧ cv ≤ 9223372036854775807 := by
        rcases HR.out.own.2 with ⟨h1, h2⟩ | ⟨g9, c9, cur, h1, _, _, h4, h5, _⟩
        · injection h1 with _ h3 h4
          subst h4
          exact ⟨by omega, by omega⟩
        · injection h1 with _ _ h6
          subst h6
          exact ⟨h4, by unfold maxLen at h5; omega⟩
      have hIt : ItemsAt wr ⟨Av, cv, L⟩ := ⟨⟨hr9, hc9, hm9, hn9⟩, fun y hy => (HR.out.far y hy).1⟩
      have hB9 := HR.out.below
      have HN : Hid (L.map ItemG.c = (its.xs.map ItemG.c).filter (keptB s.xs a.src.xs)) := by
        show _ = _
        rw [HL.out, List.take_length]
      clear hr9 hn9 hc9 hm9
      go_wp2_with fail
      go_ret
      exact ⟨⟨Av, cv, L⟩, rfl, HN.out, hIt, hB9⟩
end Go.Proofs.YthojaplnimoacaaGreatDoor

/- Package glossary: Add, walked. -/
namespace Go.Proofs.YthojaplnimoacaaGreatDoor
open Go.RowKit Go.Han
attribute [local irreducible] wpStill wpQuiet
set_option maxRecDepth 100000

theorem ins_ne {w : World} {base vb : Nat} {v : Value} {l : List Term} (h : OwnT w base v l) (hv : vb = w.heap.size ∨ vb < base) : v.ownBlock ≠ some vb := by
  intro e
  have := h.lt vb e
  omega
/-- Clone, in the midst of a region: the box of x is where it was. -/
def CloneIn (l : List Term) (x : Term) (b : Nat) (w3 W : World) (e : Ending) (w' : World) : Prop := ∃ v', e = .returned v' ∧ OwnT w' W.heap.size v' l ∧ Below W.heap.size W w' ∧ Below w3.heap.size w3 w' ∧ w'.cell? ⟨b, 0, none⟩ = some (.int .i64 x.no) ∧ w'.cell? ⟨b, 1, none⟩ = some (.int .i64 x.at_) ∧ w'.cell? ⟨b, 2, none⟩ = some (.int .i64 x.known) ∧ w'.cell? ⟨b, 3, none⟩ = some (.int .i64 x.lang) ∧ w'.cell? ⟨b, 4, none⟩ = some (.slice x.src.addr x.src.xs.length x.src.cap) ∧ w'.cell? ⟨b, 5, none⟩ = some (.slice x.tgt.addr x.tgt.xs.length x.tgt.cap) ∧ w'.cell? ⟨b, 6, none⟩ = some (.string x.cat) ∧ w'.cell? ⟨b, 7, none⟩ = some (.bool x.gone)
set_option maxHeartbeats 4000000 in
theorem AddT_any (A : Option Addr) (cp : Nat) (l : List Term) (x : Term) (w : World) (hT : Tabs w) (hr : TermsAt w A l) (hx : x.lies w) (hA : A = none → l = []) (hm : l.length ≤ 9223372036854775807) :
    Calls Tryz.prog 45 #[.slice A l.length cp, .agg #[.int .i64 x.no, .int .i64 x.at_, .int .i64 x.known, .int .i64 x.lang, .slice x.src.addr x.src.xs.length x.src.cap, .slice x.tgt.addr x.tgt.xs.length x.tgt.cap, .string x.cat, .bool x.gone]] w (AddPost l x w) := by
  obtain ⟨W0, hW0⟩ : ∃ W0, w.alloc (.cells #[.int .i64 x.no, .int .i64 x.at_, .int .i64 x.known, .int .i64 x.lang, .slice x.src.addr x.src.xs.length x.src.cap, .slice x.tgt.addr x.tgt.xs.length x.tgt.cap, .string x.cat, .bool x.gone] 66) = W0 := ⟨_, rfl⟩
  have hB0 : Below w.heap.size w W0 := by rw [← hW0]; exact ext_alloc (Below.refl _ _) _
  have hz0 : W0.heap.size = w.heap.size + 1 := by rw [← hW0]; simp
  have hk : Hid (∀ W, Below W0.heap.size W0 W → W.cell? ⟨w.heap.size, 0, none⟩ = some (.int .i64 x.no) ∧ W.cell? ⟨w.heap.size, 1, none⟩ = some (.int .i64 x.at_) ∧ W.cell? ⟨w.heap.size, 2, none⟩ = some (.int .i64 x.known) ∧ W.cell? ⟨w.heap.size, 3, none⟩ = some (.int .i64 x.lang) ∧ W.cell? ⟨w.heap.size, 4, none⟩ = some (.slice x.src.addr x.src.xs.length x.src.cap) ∧ W.cell? ⟨w.heap.size, 5, none⟩ = some (.slice x.tgt.addr x.tgt.xs.length x.tgt.cap) ∧ W.cell? ⟨w.heap.size, 6, none⟩ = some (.string x.cat) ∧ W.cell? ⟨w.heap.size, 7, none⟩ = some (.bool x.gone)) := by
    intro W hb
    have h0 : W0.heap[w.heap.size]? = some (.cells #[.int .i64 x.no, .int .i64 x.at_, .int .i64 x.known, .int .i64 x.lang, .slice x.src.addr x.src.xs.length x.src.cap, .slice x.tgt.addr x.tgt.xs.length x.tgt.cap, .string x.cat, .bool x.gone] 66 (0, 0)) := by rw [← hW0]; exact World.alloc_heap_new _ _
    have h1 := (hb.block _ (by omega)).trans h0
    exact ⟨gblk h1 0, gblk h1 1, gblk h1 2, gblk h1 3, gblk h1 4, gblk h1 5, gblk h1 6, gblk h1 7⟩
  have cC := Lib.hid (fun W (hb : Below w.heap.size w W) => CheckT_any A cp l W (utf_ext hT hb) (hr.ext hb) hm)
  have cR := Lib.hid (fun W (hb : Below w.heap.size w W) => rightT_at x W (utf_ext hT hb) (hx.ext hb))
  have Hr := Lib.hid hr
  have Hx := Lib.hid hx
  have HA := Lib.hid hA
  have HE : Hid (addE l x = if checkT l ≠ 0 then checkT l else if x.ok = false then 270 else if hasT x.no l = true then 181 else if l.length = 1024 then 2 else 0) := rfl
  clear hr hx hA
  go_enter Tryz.func45, Tryz.ntmps45
  go_wp2_with fail
  refine (cC.out W0 hB0).mono ?_
  rintro e w1 ⟨rfl, hb1⟩
  have hB1 := ext_trans hB0 hb1
  by_cases hc : checkT l = 0
  · have HC := Lib.hid hc
    obtain ⟨hl, hoks, hpw⟩ := checkT_zero hc
    have hasc : AscT l := (ascT_iff l).2 hpw
    rw [hc]
    clear hc hoks hpw
    obtain ⟨d0, d1, d2, d3, d4, d5, d6, d7⟩ := hk.out w1 hb1
    go_wp2_with fail
    refine (cR.out w1 hB1).mono ?_
    rintro e w2 ⟨rfl, hb2⟩
    have hB2 := ext_trans hB1 hb2
    have hb02 := ext_trans hb1 hb2
    clear d0 d1 d2 d3 d4 d5 d6 d7
    obtain ⟨d0, d1, d2, d3, d4, d5, d6, d7⟩ := hk.out w2 hb02
    cases hok : x.ok
    · have HF : Hid (addE l x = 270) := by show _ = _; rw [HE.out, HC.out, hok]; rfl
      clear hok
      go_wp2_with fail
      go_ret2
      exact ⟨hB2, .inl ⟨by rw [HF.out]; decide, by rw [HF.out]; rfl⟩⟩
    · have Hok := Lib.hid hok
      have cS := searchT_any x.no A cp l w2 (Hr.out.ext hB2).rd (by omega) hasc
      unfold numFnT at cS
      have CS := Lib.hid cS
      have Hasc := Lib.hid hasc
      clear hok cS hasc
      go_wp2_with fail
      refine CS.out.mono ?_
      rintro e w3 ⟨hb3, k, hcut, rfl⟩
      have hB3 := ext_trans hB2 hb3
      have hb03 := ext_trans hb02 hb3
      have hkp := cutT_pos hcut
      have hkl := hcut.le
      rw [headT_has hcut Hasc.out]
      clear d0 d1 d2 d3 d4 d5 d6 d7 hcut
      obtain ⟨d0, d1, d2, d3, d4, d5, d6, d7⟩ := hk.out w3 hb03
      cases hh : hasT x.no l
      · by_cases h1024 : l.length = 1024
        · have HF : Hid (addE l x = 2) := by show _ = _; rw [HE.out, HC.out, Hok.out, hh, if_pos h1024]; rfl
          have g1 : ((l.length : Int) == 1024) = true := by simp [h1024]
          clear hh hkp hkl h1024 hl
          go_wp2_with fail
          go_ret2
          exact ⟨hB3, .inl ⟨by rw [HF.out]; decide, by rw [HF.out]; rfl⟩⟩
        · have HF : Hid (addE l x = 0) := by show _ = _; rw [HE.out, HC.out, Hok.out, hh, if_neg h1024]; rfl
          have g1 : ((l.length : Int) == 1024) = false := beq_eq_false_iff_ne.2 (by omega)
          have cK : Hid (∀ W, Below w3.heap.size w3 W → Calls Tryz.prog 97 #[.slice A l.length cp] W (CloneIn l x w.heap.size w3 W)) := by
            intro W hb
            refine (cloneT_any A cp l W (Hr.out.ext (ext_trans hB3 hb)).rd HA.out (by omega)).mono ?_
            rintro e w4 ⟨v4, rfl, hown4, hb4⟩
            obtain ⟨h0, h1, h2, h3, h4, h5, h6, h7⟩ := hk.out w4 (ext_trans hb03 (ext_trans hb hb4))
            exact ⟨v4, rfl, hown4, hb4, ext_trans hb hb4, h0, h1, h2, h3, h4, h5, h6, h7⟩
          have Hkp := Lib.hid hkp
          clear hh hkp
          go_wp2_with fail
          have hl6 : l.length ≤ 1000000 := by omega
          go_region_with (first | (go_at_call 97; refine (cK.out _ ?_).mono ?_; (repeat (first | exact Below.refl _ _ | refine ext_drew ?_ | refine ext_alloc ?_ _)); rintro e w4 ⟨v4, rfl, hown4, hb4, hb34, q0, q1, q2, q3, q4, q5, q6, q7⟩) | (go_at_call 96; refine (insT_any _ _ k v4 l x _ (OwnL.ext hown4 ?_) hkl ?_ (ins_ne hown4 ?_) hl6 ?_).mono ?_; (repeat (first | (with_reducible exact Below.refl _ _) | (with_reducible refine ext_drew ?_) | (with_reducible refine ext_alloc ?_ _))); (first | exact World.alloc_heap_new _ _ | exact (hb4.block _ (by simp)).trans (World.alloc_heap_new _ _)); (first | exact .inl rfl | exact .inr (by simp)); (first | exact hb4.size | exact Nat.le_trans hb4.size (by simp)); rintro e w5 ⟨v5, rfl, hown5, hg5⟩))
          all_goals
            have hal : l.take k ++ x :: l.drop k = addL l x := by rw [Hkp.out]; rfl
            rw [hal] at hown5
            have hB35 : Below w3.heap.size w3 w5 := by
              refine Below.grown ?_ hg5 ?_ (fun j hj => by have h1 := (hown4.lt j hj).1; simp at h1; omega)
              · repeat (first | (with_reducible exact hb34) | (with_reducible refine ext_drew ?_) | (with_reducible refine ext_alloc ?_ _))
              · first | exact hb34.size | exact Nat.le_trans hb34.size (by simp)
            have hB5 := ext_trans hB3 hB35
            obtain ⟨A5, c5, rfl, hrd5, hn5⟩ := OwnL.form (by omega) hown5
            have hfin : Hid (AddPost l x w (.returned (.tuple #[.slice A5 (addL l x).length c5, .int .i64 0])) w5) := by
              refine ⟨hB5, .inr ⟨HF.out, A5, c5, rfl, ⟨hrd5, fun y hy => ?_⟩, hn5⟩⟩
              rcases addL_mem hy with rfl | hy
              · exact Hx.out.ext hB5
              · exact (Hr.out.lie y hy).ext hB5
            clear hown5 hg5 hown4 hb4 hb34 hrd5 hn5 q0 q1 q2 q3 q4 q5 q6 q7
            go_wp2
            go_ret2
            exact hfin.out
      · have HF : Hid (addE l x = 181) := by show _ = _; rw [HE.out, HC.out, Hok.out, hh]; rfl
        clear hh hkp hkl
        go_wp2_with fail
        go_ret2
        exact ⟨hB3, .inl ⟨by rw [HF.out]; decide, by rw [HF.out]; rfl⟩⟩
  · have HF : Hid (addE l x = checkT l) := by show _ = _; rw [HE.out, if_pos hc]
    have n1 : (checkT l == 0) = false := by simpa using hc
    have n2 : (checkT l != 0) = true := by simpa using hc
    have Hc := Lib.hid hc
    clear hc
    go_wp2_with fail
    go_ret2
    exact ⟨hB1, .inl ⟨by rw [HF.out]; exact Hc.out, by rw [HF.out]; rfl⟩⟩
end Go.Proofs.YthojaplnimoacaaGreatDoor

/- TagsAdded. -/
namespace Go.Proofs.YthojaplnimoacaaGreatDoor
open Go.RowKit Go.Han
attribute [local irreducible] wpStill wpQuiet
set_option maxRecDepth 100000

theorem owns_in : ∀ (l : List ByteArray) (k : Nat), ∀ x ∈ ownsC k l, 0 ≤ x.frm ∧ x.unt = x.frm + 1 ∧ x.unt ≤ (k : Int) + l.length
  | [], _, x, h => by cases h
  | s :: l, k, x, h => by
    unfold ownsC at h
    rcases List.mem_cons.1 h with rfl | h
    · exact ⟨by show (0 : Int) ≤ (k : Int); omega, rfl, by show (k : Int) + 1 ≤ _; simp only [List.length_cons]; omega⟩
    · have := owns_in l (k + 1) x h
      simp only [List.length_cons]
      exact ⟨this.1, this.2.1, by omega⟩
theorem tags_in {g : Gram} {l : List Term} {lang t u : Int} {ws : List ByteArray} (h : tagsE g l lang ws t u = 0) : ∀ x ∈ tagsC g (standT l lang t u) ws, 0 ≤ x.frm ∧ x.frm < x.unt ∧ x.unt ≤ ws.length := by
  obtain ⟨hc, hs, h16, hw, hl⟩ := tagsE_zero h
  have hk := standE_zero hs
  intro x hx
  unfold tagsC at hx
  rcases List.mem_append.1 hx with hx | hx
  · have := owns_in ws 0 x hx
    refine ⟨this.1, ?_, ?_⟩ <;> omega
  · have h1 := (words_ok hc (standT_ok hk.1 lang t u) (standT_one hk.1 lang t u) ws 0 rfl).1 x hx
    unfold tagFitB tagInB at h1
    simp only [Bool.and_eq_true, decide_eq_true_eq] at h1
    exact ⟨h1.1.1.1.2, h1.1.1.2, h1.1.2⟩
theorem items_in {g : Gram} {l : List Term} {lang t u : Int} {ws : List ByteArray} {its : SlS ItemG} (h : tagsE g l lang ws t u = 0) (hm : its.xs.map ItemG.c = tagsC g (standT l lang t u) ws) :
    its.xs.length ≤ 1024 ∧ ∀ y ∈ its.xs, 0 ≤ y.frm ∧ y.frm ≤ 1000 ∧ 0 ≤ y.unt ∧ y.unt ≤ 1000 := by
  obtain ⟨hc, hs, h16, hw, hl⟩ := tagsE_zero h
  refine ⟨by rw [← hm, List.length_map] at hl; exact hl, fun y hy => ?_⟩
  have := tags_in h y.c (by rw [← hm]; exact List.mem_map_of_mem hy)
  have h1 : 0 ≤ y.frm ∧ y.frm < y.unt ∧ y.unt ≤ ws.length := this
  omega
theorem addL_small {l : List Term} {x : Term} (h : addE l x = 0) : (addL l x).length ≤ 1024 := (checkT_zero (addL_check h)).1
/-- Terms of another language, later ones and ones that become known later change nothing. -/
theorem apart_tags (g : Gram) (l : List Term) (a : Term) (lang t u : Int) (ws : List ByteArray) (h : a.lang ≠ lang ∨ u < a.known ∨ t < a.at_) : tagsC g (standT (addL l a) lang t u) ws = tagsC g (standT l lang t u) ws := by
  rw [added_apart l a lang t u]
  rcases h with h | h | h
  · exact .inl h
  · right; unfold countsB; simp; omega
  · right; unfold countsB; simp; omega
set_option maxHeartbeats 8000000 in
theorem TagsAdded_any (hsane : SaneOk) (g : Gram) (A : Option Addr) (cp : Nat) (l : List Term) (a : Term) (lang : Int) (s : StrS) (t u : Int) (w : World) (hT : TabsG w) (hg : g.lies w) (hgs : g.short) (hr : TermsAt w A l) (hA : A = none → l = []) (hm : l.length ≤ 9223372036854775807) (ha : a.lies w) (hs : s.lies w) :
    Calls Tryz.prog 14 #[.agg #[.string g.name, .slice g.cats.addr g.cats.xs.length g.cats.cap, .string g.start, .int .i64 g.startNo, .slice g.entries.addr g.entries.xs.length g.entries.cap, .slice g.rules.addr g.rules.xs.length g.rules.cap], .slice A l.length cp, .agg #[.int .i64 a.no, .int .i64 a.at_, .int .i64 a.known, .int .i64 a.lang, .slice a.src.addr a.src.xs.length a.src.cap, .slice a.tgt.addr a.tgt.xs.length a.tgt.cap, .string a.cat, .bool a.gone], .int .i64 lang, .slice s.addr s.xs.length s.cap, .int .i64 t, .int .i64 u] w fun e w' => e = .returned (.bool true) ∧ Below w.heap.size w w' := by
  obtain ⟨W1, hW1⟩ : ∃ W1, ((w.alloc (.cells #[.string g.name, .slice g.cats.addr g.cats.xs.length g.cats.cap, .string g.start, .int .i64 g.startNo, .slice g.entries.addr g.entries.xs.length g.entries.cap, .slice g.rules.addr g.rules.xs.length g.rules.cap] 26)).alloc (.cells #[.int .i64 a.no, .int .i64 a.at_, .int .i64 a.known, .int .i64 a.lang, .slice a.src.addr a.src.xs.length a.src.cap, .slice a.tgt.addr a.tgt.xs.length a.tgt.cap, .string a.cat, .bool a.gone] 66)).alloc (.cells #[.slice s.addr s.xs.length s.cap] 22) = W1 := ⟨_, rfl⟩
  have hB1 : Below w.heap.size w W1 := by rw [← hW1]; exact ext_alloc (ext_alloc (ext_alloc (Below.refl _ _) _) _) _
  have hk : W1.heap[w.heap.size]? = some (.cells #[.string g.name, .slice g.cats.addr g.cats.xs.length g.cats.cap, .string g.start, .int .i64 g.startNo, .slice g.entries.addr g.entries.xs.length g.entries.cap, .slice g.rules.addr g.rules.xs.length g.rules.cap] 26 (0, 0)) := by rw [← hW1]; exact (Below.heap_alloc _ _ _ (by simp; omega)).trans ((Below.heap_alloc _ _ _ (by simp)).trans (World.alloc_heap_new _ _))
  have hka : W1.heap[w.heap.size + 1]? = some (.cells #[.int .i64 a.no, .int .i64 a.at_, .int .i64 a.known, .int .i64 a.lang, .slice a.src.addr a.src.xs.length a.src.cap, .slice a.tgt.addr a.tgt.xs.length a.tgt.cap, .string a.cat, .bool a.gone] 66 (0, 0)) := by rw [← hW1]; exact (Below.heap_alloc _ _ _ (by simp)).trans (galloc_at _ _ _ (by simp))
  have hkb : W1.heap[w.heap.size + 1 + 1]? = some (.cells #[.slice s.addr s.xs.length s.cap] 22 (0, 0)) := by rw [← hW1]; exact galloc_at _ _ _ (by simp)
  have F0 := Lib.hid (hsane W1 (hT.ext hB1))
  have FF := Lib.hid (fun V (hV : Below w.heap.size w V) => right28_any g A cp l lang s t u V (hg.ext hV) (hr.ext hV) hm (hs.ext hV))
  have FG := Lib.hid (fun B c V (hV : Below w.heap.size w V) (hz : addE l a = 0) (hB : TermsAt V B (addL l a)) => right28_any g B c (addL l a) lang s t u V (hg.ext hV) hB (Nat.le_trans (addL_small hz) (by omega)) (hs.ext hV))
  have FAd := Lib.hid (fun V (hV : Below w.heap.size w V) => AddT_any A cp l a V (hT.ext hV).u (hr.ext hV) (ha.ext hV) hA hm)
  have FA := Lib.hid (fun V (hV : Below w.heap.size w V) => Items_any g A cp l lang s t u V (hT.ext hV) (hg.ext hV) hgs (hr.ext hV) hm (hs.ext hV))
  have FB := Lib.hid (fun B c V (hV : Below w.heap.size w V) (hz : addE l a = 0) (hB : TermsAt V B (addL l a)) => Items_any g B c (addL l a) lang s t u V (hT.ext hV) (hg.ext hV) hgs hB (Nat.le_trans (addL_small hz) (by omega)) (hs.ext hV))
  have FK := Lib.hid (fun (its : SlS ItemG) V (hV : Below w.heap.size w V) (h1 : V.heap[w.heap.size + 1]? = _) (h2 : V.heap[w.heap.size + 1 + 1]? = _) hit hin hl2 hm2 => kept28_any its (w.heap.size + 1) (w.heap.size + 1 + 1) a s V hit h1 h2 (ha.ext hV).1 (hs.ext hV) hin hl2 hm2)
  have Hk := Lib.hid hk
  have Hka := Lib.hid hka
  have Hkb := Lib.hid hkb
  clear hT hg hgs hr hA hm hs ha hsane hk hka hkb
  go_enter Tryz.func14, Tryz.ntmps14
  go_wp2_with fail
  clear hW1
  refine F0.out.mono ?_
  rintro e w2 ⟨rfl, hb2⟩
  have hB2 := ext_trans hB1 hb2
  have Hk2 := Lib.hid ((hb2.block _ (lt_block Hk.out)).trans Hk.out)
  have Hka2 := Lib.hid ((hb2.block _ (lt_block Hka.out)).trans Hka.out)
  have Hkb2 := Lib.hid ((hb2.block _ (lt_block Hkb.out)).trans Hkb.out)
  have hk2 := Hk2.out
  have c0 := gblk hk2 0
  have c1 := gblk hk2 1
  have c2 := gblk hk2 2
  have c3 := gblk hk2 3
  have c4 := gblk hk2 4
  have c5 := gblk hk2 5
  have cb := cell_one Hkb2.out
  clear F0 hk2 Hk Hka Hkb
  go_wp2_with fail
  refine (FF.out w2 hB2).mono ?_
  rintro e w3 ⟨b, rfl, hb3, hz⟩
  have hB3 := ext_trans hB2 hb3
  have Hk3 := Lib.hid ((hb3.block _ (lt_block Hk2.out)).trans Hk2.out)
  have Hka3 := Lib.hid ((hb3.block _ (lt_block Hka2.out)).trans Hka2.out)
  have Hkb3 := Lib.hid ((hb3.block _ (lt_block Hkb2.out)).trans Hkb2.out)
  clear c0 c1 c2 c3 c4 c5 cb FF Hk2 Hka2 Hkb2
  cases b
  · go_wp2_with fail
    go_ret
    exact ⟨rfl, hB3⟩
  have HZ := Lib.hid (hz rfl)
  have hka3 := Hka3.out
  have c0 := gblk hka3 0
  have c1 := gblk hka3 1
  have c2 := gblk hka3 2
  have c3 := gblk hka3 3
  have c4 := gblk hka3 4
  have c5 := gblk hka3 5
  have c6 := gblk hka3 6
  have c7 := gblk hka3 7
  clear hz hka3
  go_wp2_with fail
  refine (FAd.out w3 hB3).mono ?_
  rintro e w4 ⟨hb4, ⟨hne, rfl⟩ | ⟨hze, B, cB, rfl, hTB, _⟩⟩
  · have hB4 := ext_trans hB3 hb4
    have g1 : (addE l a != 0) = true := by simpa using hne
    clear c0 c1 c2 c3 c4 c5 c6 c7 FAd
    generalize addE l a = q at *
    clear hne
    go_wp2_with fail
    go_ret
    exact ⟨rfl, hB4⟩
  have hB4 := ext_trans hB3 hb4
  have Hk4 := Lib.hid ((hb4.block _ (lt_block Hk3.out)).trans Hk3.out)
  have Hka4 := Lib.hid ((hb4.block _ (lt_block Hka3.out)).trans Hka3.out)
  have Hkb4 := Lib.hid ((hb4.block _ (lt_block Hkb3.out)).trans Hkb3.out)
  have HZe := Lib.hid hze
  have HTB := Lib.hid hTB
  have hk4 := Hk4.out
  clear c0 c1 c2 c3 c4 c5 c6 c7 FAd hze hTB Hk3 Hka3 Hkb3
  have c0 := gblk hk4 0
  have c1 := gblk hk4 1
  have c2 := gblk hk4 2
  have c3 := gblk hk4 3
  have c4 := gblk hk4 4
  have c5 := gblk hk4 5
  have cb := cell_one Hkb4.out
  clear hk4
  go_wp2_with fail
  refine (FG.out B cB w4 hB4 HZe.out HTB.out).mono ?_
  rintro e w5 ⟨b, rfl, hb5, hz⟩
  have hB5 := ext_trans hB4 hb5
  have Hk5 := Lib.hid ((hb5.block _ (lt_block Hk4.out)).trans Hk4.out)
  have Hka5 := Lib.hid ((hb5.block _ (lt_block Hka4.out)).trans Hka4.out)
  have Hkb5 := Lib.hid ((hb5.block _ (lt_block Hkb4.out)).trans Hkb4.out)
  have HTB5 := Lib.hid (HTB.out.ext hb5)
  clear c0 c1 c2 c3 c4 c5 cb FG HTB Hk4 Hka4 Hkb4
  cases b
  · go_wp2_with fail
    go_ret
    exact ⟨rfl, hB5⟩
  have HZ2 := Lib.hid (hz rfl)
  have hk5 := Hk5.out
  have c0 := gblk hk5 0
  have c1 := gblk hk5 1
  have c2 := gblk hk5 2
  have c3 := gblk hk5 3
  have c4 := gblk hk5 4
  have c5 := gblk hk5 5
  have cb := cell_one Hkb5.out
  clear hz hk5
  go_wp2_with fail
  refine (FA.out w5 hB5).mono ?_
  intro e w6 h6
  obtain ⟨hb6, ia, rfl, hma, hia⟩ := itemsPost_out h6
  rw [HZ.out, if_pos rfl] at hma
  rw [HZ.out]
  have hB6 := ext_trans hB5 hb6
  have Hk6 := Lib.hid ((hb6.block _ (lt_block Hk5.out)).trans Hk5.out)
  have Hka6 := Lib.hid ((hb6.block _ (lt_block Hka5.out)).trans Hka5.out)
  have Hkb6 := Lib.hid ((hb6.block _ (lt_block Hkb5.out)).trans Hkb5.out)
  have HTB6 := Lib.hid (HTB5.out.ext hb6)
  have hk6 := Hk6.out
  have HIa := Lib.hid hia
  have HMa := Lib.hid hma
  clear c0 c1 c2 c3 c4 c5 cb FA h6 hia hma HTB5 Hk5 Hka5 Hkb5
  have c0 := gblk hk6 0
  have c1 := gblk hk6 1
  have c2 := gblk hk6 2
  have c3 := gblk hk6 3
  have c4 := gblk hk6 4
  have c5 := gblk hk6 5
  have cb := cell_one Hkb6.out
  clear hk6
  go_wp2_with fail
  refine (FB.out B cB w6 hB6 HZe.out HTB6.out).mono ?_
  intro e w7 h7
  obtain ⟨hb7, ib, rfl, hmb, hib⟩ := itemsPost_out h7
  rw [HZ2.out, if_pos rfl] at hmb
  rw [HZ2.out]
  have hB7 := ext_trans hB6 hb7
  have Hka7 := Lib.hid ((hb7.block _ (lt_block Hka6.out)).trans Hka6.out)
  have Hkb7 := Lib.hid ((hb7.block _ (lt_block Hkb6.out)).trans Hkb6.out)
  have HIb := Lib.hid hib
  have HMb := Lib.hid hmb
  have HIa7 := Lib.hid (HIa.out.ext hb7)
  clear c0 c1 c2 c3 c4 c5 cb FB h7 hib hmb HTB6 Hk6 Hka6 Hkb6 HIa
  have hka7 := Hka7.out
  have c0 := gblk hka7 0
  have c1 := gblk hka7 1
  have c2 := gblk hka7 2
  have c3 := gblk hka7 3
  have c4 := gblk hka7 4
  have c5 := gblk hka7 5
  have c6 := gblk hka7 6
  have c7 := gblk hka7 7
  clear hka7
  have cS : Hid ((a.lang ≠ lang ∨ u < a.known ∨ t < a.at_) → Calls Tryz.prog 34 #[.slice ia.addr ia.xs.length ia.cap, .slice ib.addr ib.xs.length ib.cap] w7 fun e w' => e = .returned (.bool true) ∧ Below w7.heap.size w7 w') := by
    intro h
    have h1 := same28_any ia ib w7 HIa7.out HIb.out
    rw [HMa.out, HMb.out, apart_tags g l a lang t u s.xs h, decide_eq_true rfl] at h1
    exact h1
  go_upto_region 10 with fail
  go_cut [99] (fun q wx => q = .bool false ∧ Below w7.heap.size w7 wx)
  case first =>
    by_cases h1 : a.lang = lang
    · have g1 : (a.lang != lang) = false := by simp [h1]
      have H1 := Lib.hid h1
      clear h1
      by_cases h2 : u < a.known
      · have g2 : decide (u < a.known) = true := decide_eq_true h2
        have C := Lib.hid (cS.out (.inr (.inl h2)))
        clear h2
        go_wp2_with fail
        refine C.out.mono ?_
        rintro e w8 ⟨rfl, hb8⟩
        go_wp2_with fail
        go_meet
        case rel => exact ⟨rfl, hb8⟩
      · have g2 : decide (u < a.known) = false := decide_eq_false h2
        clear h2
        by_cases h3 : t < a.at_
        · have g3 : decide (t < a.at_) = true := decide_eq_true h3
          have C := Lib.hid (cS.out (.inr (.inr h3)))
          clear h3
          go_wp2_with fail
          refine C.out.mono ?_
          rintro e w8 ⟨rfl, hb8⟩
          go_wp2_with fail
          go_meet
          case rel => exact ⟨rfl, hb8⟩
        · have g3 : decide (t < a.at_) = false := decide_eq_false h3
          clear h3
          go_wp2_with fail
          go_meet
          case rel => exact ⟨rfl, Below.refl _ _⟩
    · have g1 : (a.lang != lang) = true := by simp [h1]
      have C := Lib.hid (cS.out (.inl h1))
      clear h1
      go_wp2_with fail
      refine C.out.mono ?_
      rintro e w8 ⟨rfl, hb8⟩
      go_wp2_with fail
      go_meet
      case rel => exact ⟨rfl, hb8⟩
  case rest =>
    obtain ⟨rfl, hbc⟩ := hcut
    have hBc := ext_trans hB7 hbc
    have hsrc : a.src.xs.length ≤ 1000000 := by
      have h1 := (ok_src (addE_zero HZe.out).2.1).1
      have h2 := (ok_src (addE_zero HZe.out).2.1).2.1
      omega
    have hin := items_in HZ.out HMa.out
    have hin2 := items_in HZ2.out HMb.out
    have cKa := Lib.hid (FK.out ia wc hBc ((hbc.block _ (lt_block Hka7.out)).trans Hka7.out) ((hbc.block _ (lt_block Hkb7.out)).trans Hkb7.out) (HIa7.out.ext hbc) hin.2 hsrc hin.1)
    have cKb := Lib.hid (fun V (hV : Below wc.heap.size wc V) => FK.out ib V (ext_trans hBc hV) ((hV.block _ (lt_block ((hbc.block _ (lt_block Hka7.out)).trans Hka7.out))).trans ((hbc.block _ (lt_block Hka7.out)).trans Hka7.out)) ((hV.block _ (lt_block ((hbc.block _ (lt_block Hkb7.out)).trans Hkb7.out))).trans ((hbc.block _ (lt_block Hkb7.out)).trans Hkb7.out)) ((HIb.out.ext hbc).ext hV) hin2.2 hsrc hin2.1)
    have hT : Hid ((ia.xs.map ItemG.c).filter (keptB s.xs a.src.xs) = (ib.xs.map ItemG.c).filter (keptB s.xs a.src.xs)) := by
      show _ = _
      rw [HMa.out, HMb.out]
      exact tags_added (tagsE_zero HZ.out).1 HZe.out lang t u s.xs
    clear c0 c1 c2 c3 c4 c5 c6 c7 cS hin hin2 hsrc FK HZ HZ2 HZe hbc
    go_wp2_with fail
    refine cKa.out.mono ?_
    rintro e w8 ⟨La, rfl, hLa, hla, hb8⟩
    have HLa := Lib.hid hLa
    have Hla := Lib.hid hla
    clear hLa hla cKa
    go_wp2_with fail
    refine (cKb.out w8 hb8).mono ?_
    rintro e w9 ⟨Lb, rfl, hLb, hlb, hb9⟩
    have hB9 := ext_trans hBc (ext_trans hb8 hb9)
    have cS := Lib.hid (same28_any La Lb w9 (Hla.out.ext hb9) hlb)
    rw [HLa.out, hLb, hT.out, decide_eq_true rfl] at cS
    clear hLb hlb cKb
    go_wp2_with fail
    refine cS.out.mono ?_
    rintro e w10 ⟨rfl, hb10⟩
    have hB10 := ext_trans hB9 hb10
    clear cS
    go_wp2_with fail
    go_ret
    exact ⟨rfl, hB10⟩
end Go.Proofs.YthojaplnimoacaaGreatDoor
