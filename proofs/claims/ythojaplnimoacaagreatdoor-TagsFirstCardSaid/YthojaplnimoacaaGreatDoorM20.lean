/- Texts of this claim, one after the other: Law28c, Law28d. -/
import Derived.Test.YthojaplnimoacaaGreatDoorM19
import Derived.StillTailTactics
/- Law 28: right. -/
namespace Go.Proofs.YthojaplnimoacaaGreatDoor
open Go.RowKit Go.Han
attribute [local irreducible] wpStill wpQuiet
set_option maxRecDepth 100000

def RightP (g : Gram) (l : List Term) (lang : Int) (ws : List ByteArray) (t u : Int) (w : World) (e : Ending) (w' : World) : Prop :=
  ∃ b : Bool, e = .returned (.bool b) ∧ Below w.heap.size w w' ∧ (b = true → tagsE g l lang ws t u = 0)
set_option maxHeartbeats 4000000 in
theorem right28_any (g : Gram) (A : Option Addr) (cp : Nat) (l : List Term) (lang : Int) (s : StrS) (t u : Int) (w : World) (hg : g.lies w) (hr : TermsAt w A l) (hm : l.length ≤ 9223372036854775807) (hs : s.lies w) :
    Calls Tryz.prog 35 #[.agg #[.string g.name, .slice g.cats.addr g.cats.xs.length g.cats.cap, .string g.start, .int .i64 g.startNo, .slice g.entries.addr g.entries.xs.length g.entries.cap, .slice g.rules.addr g.rules.xs.length g.rules.cap], .slice A l.length cp, .int .i64 lang, .slice s.addr s.xs.length s.cap, .int .i64 t, .int .i64 u] w (RightP g l lang s.xs t u w) := by
  obtain ⟨W1, hW1⟩ : ∃ W1, w.alloc (.cells #[.string g.name, .slice g.cats.addr g.cats.xs.length g.cats.cap, .string g.start, .int .i64 g.startNo, .slice g.entries.addr g.entries.xs.length g.entries.cap, .slice g.rules.addr g.rules.xs.length g.rules.cap] 26) = W1 := ⟨_, rfl⟩
  have hB1 : Below w.heap.size w W1 := by rw [← hW1]; exact ext_alloc (Below.refl _ _) _
  have hk : W1.heap[w.heap.size]? = some (.cells #[.string g.name, .slice g.cats.addr g.cats.xs.length g.cats.cap, .string g.start, .int .i64 g.startNo, .slice g.entries.addr g.entries.xs.length g.entries.cap, .slice g.rules.addr g.rules.xs.length g.rules.cap] 26 (0, 0)) := by rw [← hW1]; exact World.alloc_heap_new _ _
  have FF := Lib.hid (few28_any g A cp l s W1 (hg.ext hB1) hm (hs.ext hB1))
  have FB := Lib.hid (fun V (hV : Below w.heap.size w V) => Items28_any g A cp l lang s t u V (hg.ext hV) (hr.ext hV) hm (hs.ext hV))
  have Hk := Lib.hid hk
  have c0 := gblk hk 0
  have c1 := gblk hk 1
  have c2 := gblk hk 2
  have c3 := gblk hk 3
  have c4 := gblk hk 4
  have c5 := gblk hk 5
  clear hg hr hm hs hk
  go_enter Tryz.func35, Tryz.ntmps35
  go_wp2_with fail
  clear hW1
  refine FF.out.mono ?_
  rintro e w2 ⟨b, rfl, hb2⟩
  have hB2 := ext_trans hB1 hb2
  have hk2 := (hb2.block _ (lt_block Hk.out)).trans Hk.out
  clear FF c0 c1 c2 c3 c4 c5
  cases b
  · go_wp2_with fail
    go_ret
    exact ⟨_, rfl, hB2, fun h => by cases h⟩
  by_cases h16 : 16 < s.xs.length
  · go_wp2_with fail
    go_ret
    exact ⟨_, rfl, hB2, fun h => by cases h⟩
  have c0 := gblk hk2 0
  have c1 := gblk hk2 1
  have c2 := gblk hk2 2
  have c3 := gblk hk2 3
  have c4 := gblk hk2 4
  have c5 := gblk hk2 5
  clear hk2
  go_wp2_with fail
  refine (FB.out w2 hB2).mono ?_
  intro e w5 h5
  obtain ⟨hb5, ib, rfl, hmb, hib⟩ := itemsPost_out h5
  have hB5 := ext_trans hB2 hb5
  have q := int_beqD (tagsE g l lang s.xs t u) 0
  obtain ⟨r, hr⟩ : ∃ r, tagsE g l lang s.xs t u = r := ⟨_, rfl⟩
  have HRr := Lib.hid hr
  rw [hr] at q ⊢
  clear c0 c1 c2 c3 c4 c5 FB h5 hmb hib hr
  go_wp2_with fail
  go_ret
  exact ⟨_, rfl, hB5, fun h => by rw [HRr.out]; simpa using h⟩
end Go.Proofs.YthojaplnimoacaaGreatDoor

/- TagsFirst. -/
namespace Go.Proofs.YthojaplnimoacaaGreatDoor
open Go.RowKit Go.Han
attribute [local irreducible] wpStill wpQuiet
set_option maxRecDepth 100000

set_option maxHeartbeats 8000000 in
theorem TagsFirst_any (hsane : SaneOk) (g : Gram) (A : Option Addr) (cp : Nat) (l : List Term) (lang : Int) (s : StrS) (t u : Int) (many : Nat) (w : World) (hT : TabsG w) (hg : g.lies w) (hgs : g.short) (hr : TermsAt w A l) (hm : l.length ≤ 9223372036854775807) (hs : s.lies w) (hmany : many ≤ 255) :
    Calls Tryz.prog 12 #[.agg #[.string g.name, .slice g.cats.addr g.cats.xs.length g.cats.cap, .string g.start, .int .i64 g.startNo, .slice g.entries.addr g.entries.xs.length g.entries.cap, .slice g.rules.addr g.rules.xs.length g.rules.cap], .slice A l.length cp, .int .i64 lang, .slice s.addr s.xs.length s.cap, .int .i64 t, .int .i64 u, .int .u8 (many : Int)] w fun e w' => e = .returned (.bool true) ∧ Below w.heap.size w w' := by
  obtain ⟨W1, hW1⟩ : ∃ W1, w.alloc (.cells #[.string g.name, .slice g.cats.addr g.cats.xs.length g.cats.cap, .string g.start, .int .i64 g.startNo, .slice g.entries.addr g.entries.xs.length g.entries.cap, .slice g.rules.addr g.rules.xs.length g.rules.cap] 26) = W1 := ⟨_, rfl⟩
  have hB1 : Below w.heap.size w W1 := by rw [← hW1]; exact ext_alloc (Below.refl _ _) _
  have hk : W1.heap[w.heap.size]? = some (.cells #[.string g.name, .slice g.cats.addr g.cats.xs.length g.cats.cap, .string g.start, .int .i64 g.startNo, .slice g.entries.addr g.entries.xs.length g.entries.cap, .slice g.rules.addr g.rules.xs.length g.rules.cap] 26 (0, 0)) := by rw [← hW1]; exact World.alloc_heap_new _ _
  have F0 := Lib.hid (hsane W1 (hT.ext hB1))
  have FF := Lib.hid (fun V (hV : Below w.heap.size w V) => right28_any g A cp l lang s t u V (hg.ext hV) (hr.ext hV) hm (hs.ext hV))
  have FA := Lib.hid (fun V (hV : Below w.heap.size w V) => Items_any g A cp l lang s t u V (hT.ext hV) (hg.ext hV) hgs (hr.ext hV) hm (hs.ext hV))
  have FB := Lib.hid (fun n (hn : 0 + n ≤ s.xs.length) V (hV : Below w.heap.size w V) => Items_any g A cp l lang (s.sub 0 n) t u V (hT.ext hV) (hg.ext hV) hgs (hr.ext hV) hm (StrS.sub_lies (hs.ext hV) hn))
  have hcap := hs.cap
  have Hk := Lib.hid hk
  clear hT hg hgs hr hm hs hsane hk
  go_enter Tryz.func12, Tryz.ntmps12
  go_wp2_with fail
  clear hW1
  refine F0.out.mono ?_
  rintro e w2 ⟨rfl, hb2⟩
  have hB2 := ext_trans hB1 hb2
  have hk2 := (hb2.block _ (lt_block Hk.out)).trans Hk.out
  have Hk2 := Lib.hid hk2
  have c0 := gblk hk2 0
  have c1 := gblk hk2 1
  have c2 := gblk hk2 2
  have c3 := gblk hk2 3
  have c4 := gblk hk2 4
  have c5 := gblk hk2 5
  clear F0 hk2
  go_wp2_with fail
  refine (FF.out w2 hB2).mono ?_
  rintro e w3 ⟨b, rfl, hb3, hz⟩
  have hB3 := ext_trans hB2 hb3
  have hk3 := (hb3.block _ (lt_block Hk2.out)).trans Hk2.out
  have Hk3 := Lib.hid hk3
  clear c0 c1 c2 c3 c4 c5 FF
  cases b
  · go_wp2_with fail
    go_ret
    exact ⟨rfl, hB3⟩
  have HZ := Lib.hid (hz rfl)
  have hz16 := (tagsE_zero (hz rfl)).2.2.1
  have c0 := gblk hk3 0
  have c1 := gblk hk3 1
  have c2 := gblk hk3 2
  have c3 := gblk hk3 3
  have c4 := gblk hk3 4
  have c5 := gblk hk3 5
  clear hk3 hz
  obtain ⟨n, hnd⟩ : ∃ n, many % (s.xs.length + 1) = n := ⟨_, rfl⟩
  have hn : (many : Int) % ((s.xs.length : Int) + 1) = (n : Int) := by rw [← hnd, Int.natCast_emod]; rfl
  have hnl : n ≤ s.xs.length := by have h := Nat.mod_lt many (show 0 < s.xs.length + 1 by omega); rw [hnd] at h; omega
  have hrs : ∀ V : World, _ := fun V => run_upto s n V hnl hcap
  have hsl : (s.sub 0 n).xs.length = n := StrS.sub_len (by omega)
  have hsx : (s.sub 0 n).xs = s.xs.take n := by show (s.xs.drop 0).take n = _; rw [List.drop_zero]
  clear hnd
  go_wp2_with fail
  refine (FA.out w3 hB3).mono ?_
  intro e w4 h4
  obtain ⟨hb4, ia, rfl, hma, hia⟩ := itemsPost_out h4
  have hB4 := ext_trans hB3 hb4
  have hk4 := (hb4.block _ (lt_block Hk3.out)).trans Hk3.out
  rw [HZ.out, if_pos rfl] at hma
  rw [HZ.out]
  have Hk4 := Lib.hid hk4
  clear c0 c1 c2 c3 c4 c5 FA h4
  have c0 := gblk hk4 0
  have c1 := gblk hk4 1
  have c2 := gblk hk4 2
  have c3 := gblk hk4 3
  have c4 := gblk hk4 4
  have c5 := gblk hk4 5
  have cB := FB.out n (by omega) w4.drew (ext_trans hB4 (ext_drew (Below.refl _ _)))
  rw [hsl, hsx] at cB
  have CB : Hid (Calls Tryz.prog 32 #[.agg #[.string g.name, .slice g.cats.addr g.cats.xs.length g.cats.cap, .string g.start, .int .i64 g.startNo, .slice g.entries.addr g.entries.xs.length g.entries.cap, .slice g.rules.addr g.rules.xs.length g.rules.cap], .slice A l.length cp, .int .i64 lang, .slice (s.sub 0 n).addr n (s.sub 0 n).cap, .int .i64 t, .int .i64 u] w4.drew (fun e w5 => ∃ ib : SlS ItemG, e = .returned (.tuple #[.slice ib.addr ib.xs.length ib.cap, .int .i64 0]) ∧ Below w4.drew.heap.size w4.drew w5 ∧ ib.xs.map ItemG.c = (tagsC g (standT l lang t u) s.xs).filter (untC n) ∧ ItemsAt w5 ib)) := by
    refine cB.mono fun e w5 h5 => ?_
    obtain ⟨hb5, ib, rfl, hmb, hib⟩ := itemsPost_out h5
    have hz2 := tags_first n HZ.out
    rw [hz2, if_pos rfl, ← tags_filter] at hmb
    exact ⟨ib, by rw [hz2], hb5, hmb, hib⟩
  clear cB hk4 FB hsl hsx
  go_wp2_with fail
  go_region_with (go_at_call 32; refine CB.out.mono ?_; rintro e w5 ⟨ib, rfl, hb5, hmb, hib⟩)
  have hb45 := ext_trans (ext_drew (Below.refl w4.heap.size w4)) hb5
  have hB5 := ext_trans hB4 hb45
  have HIa := Lib.hid (hia.ext hb45)
  have HIb := Lib.hid hib
  have HMa := Lib.hid hma
  have HMb := Lib.hid hmb
  have hlen : ia.xs.length ≤ 1024 := by
    have h1 := (tagsE_zero HZ.out).2.2.2.2
    rw [← hma, List.length_map] at h1
    exact h1
  clear hia hib hma hmb CB c0 c1 c2 c3 c4 c5
  obtain ⟨i0, z0, hi0, hz0, hz1, hz2, hzs⟩ := parts_item
  go_wp2_with fail
  obtain ⟨W5, hW5⟩ : ∃ W5, W5 = w5 := ⟨_, rfl⟩
  subst hW5
  go_loopw [20, 63] (fun v iv wr => ∃ (k : Nat) (L : List ItemG), k ≤ ia.xs.length ∧ iv = .int .i64 k ∧ Hid (RowI W5 W5 v L wr) ∧ Hid (L.map ItemG.c = ((ia.xs.take k).map ItemG.c).filter (untC n))) (fun _ iv _ => ia.xs.length - (intOf iv).toNat)
  case atStart => exact ⟨0, [], Nat.zero_le _, rfl, ⟨Below.refl _ _, OwnL.nil _ _ _ _ _, fun x hx => (by cases hx)⟩, by show _ = _; simp⟩
  case round =>
    obtain ⟨k, L, hk, rfl, HR, HL⟩ := hrel
    obtain ⟨Av, cv, rfl, _⟩ := own_room HR.out.own
    by_cases hlt : k < ia.xs.length
    · obtain ⟨b, off, hA, hb, hc⟩ := (HIa.out.ext HR.out.below).lies.at_ ItemG.size_cells (by omega) hlt
      have d0 : wr.cell? ⟨b, off + k * 6, none⟩ = some (.int .i64 ia.xs[k].cat) := hc k hlt wr (Below.refl _ _) 0 _ rfl
      have d1 : wr.cell? ⟨b, off + k * 6 + 1, none⟩ = some (.int .i64 ia.xs[k].frm) := hc k hlt wr (Below.refl _ _) 1 _ rfl
      have d2 : wr.cell? ⟨b, off + k * 6 + 2, none⟩ = some (.int .i64 ia.xs[k].unt) := hc k hlt wr (Below.refl _ _) 2 _ rfl
      have d3 : wr.cell? ⟨b, off + k * 6 + 3, none⟩ = some (.int .i64 ia.xs[k].cost) := hc k hlt wr (Below.refl _ _) 3 _ rfl
      have d4 : wr.cell? ⟨b, off + k * 6 + 4, none⟩ = some (.slice ia.xs[k].tgt.addr ia.xs[k].tgt.xs.length ia.xs[k].tgt.cap) := hc k hlt wr (Below.refl _ _) 4 _ rfl
      have d5 : wr.cell? ⟨b, off + k * 6 + 5, none⟩ = some (.int .i64 ia.xs[k].term) := hc k hlt wr (Below.refl _ _) 5 _ rfl
      have htk : ia.xs.take (k + 1) = ia.xs.take k ++ [ia.xs[k]] := List.take_succ_eq_append_getElem hlt
      have hxF : FarI W5.heap.size wr ia.xs[k].tgt := FarI.low (HIa.out.tgt _ (List.getElem_mem hlt)) (fun q hq => HR.out.below.block q hq) HR.out.below.size
      have hLk : L.length < 2000 := by
        have h1 := congrArg List.length HL.out
        rw [List.length_map] at h1
        have h2 := List.length_filter_le (untC n) ((ia.xs.take k).map ItemG.c)
        rw [List.length_map, List.length_take] at h2
        omega
      rw [hA]
      have Htk := Lib.hid htk
      have HxF := Lib.hid hxF
      clear hA hc htk hxF
      generalize ia.xs[k] = x at *
      obtain ⟨w6, hw6⟩ : ∃ w6, wr.alloc (.cells #[.int .i64 x.cat, .int .i64 x.frm, .int .i64 x.unt, .int .i64 x.cost, .slice x.tgt.addr x.tgt.xs.length x.tgt.cap, .int .i64 x.term] 47) = w6 := ⟨_, rfl⟩
      have hb6 : Below wr.heap.size wr w6 := by rw [← hw6]; exact ext_alloc (Below.refl _ _) _
      have hx6 : w6.heap[wr.heap.size]? = some (.cells #[.int .i64 x.cat, .int .i64 x.frm, .int .i64 x.unt, .int .i64 x.cost, .slice x.tgt.addr x.tgt.xs.length x.tgt.cap, .int .i64 x.term] 47 (0, 0)) := by rw [← hw6]; exact World.alloc_heap_new _ _
      have e0 := gblk hx6 0
      have e1 := gblk hx6 1
      have e2 := gblk hx6 2
      have e3 := gblk hx6 3
      have e4 := gblk hx6 4
      have e5 := gblk hx6 5
      have HR6 := Lib.hid (HR.out.ext (Nat.le_refl _) hb6)
      by_cases hun : x.unt ≤ (n : Int)
      · have HN : Hid ((L ++ [x]).map ItemG.c = ((ia.xs.take (k + 1)).map ItemG.c).filter (untC n)) := by
          show _ = _
          rw [List.map_append, HL.out, Htk.out, List.map_append, List.filter_append]
          simp [untC, ItemG.c, hun]
        have hrow : w6.ownsRow W5.heap.size 47 6 (.slice Av L.length cv) L.length (L.flatMap ItemG.cells) := HR6.out.own
        have hW6 := HR6.out.below.size
        clear hx6
        go_wp2_with (at_builtin; refine wpList_append_own_at _ rfl _ _ 27 rfl W5.heap.size 47 i0 z0 6 64 Tryz.underlying27 hi0 hz0 hz1 hz2 hzs (by decide) _ _ _ rfl (hrow.alloc _) ⟨w6.heap.size, 0, none⟩ 1 1 [.int .i64 x.cat, .int .i64 x.frm, .int .i64 x.unt, .int .i64 x.cost, .slice x.tgt.addr x.tgt.xs.length x.tgt.cap, .int .i64 x.term] rfl rfl (gcells_new w6 [.int .i64 x.cat, .int .i64 x.frm, .int .i64 x.unt, .int .i64 x.cost, .slice x.tgt.addr x.tgt.xs.length x.tgt.cap, .int .i64 x.term] 47) (by simp [Value.oneCell']) (by unfold maxLen; omega) (by omega) (by simp; omega) ?_; intro v' w7 hown' hgrow hnil hat; obtain ⟨g', cap', rfl⟩ := ownsRow_succ hown')
        have hbq : Below w6.heap.size w6 (w6.alloc (.cells ([.int .i64 x.cat, .int .i64 x.frm, .int .i64 x.unt, .int .i64 x.cost, .slice x.tgt.addr x.tgt.xs.length x.tgt.cap, .int .i64 x.term]).toArray 47)) := ext_alloc (Below.refl _ _) _
        have HQ := Lib.hid (HR6.out.snoc (Nat.le_refl _) hbq (y := x) ((HxF.out.ext HR.out.below.size hb6).ext hW6 hbq) hown' hgrow)
        clear hrow hown' hgrow hnil hat hbq HR6 HR e0 e1 e2 e3 e4 e5 d0 d1 d2 d3 d4 d5 hw6
        go_wp2
        go_roundw
        case rel => exact ⟨k + 1, _, by omega, by go_num, HQ, HN⟩
        case measure => simp [intOf]; omega
      · have HN : Hid (L.map ItemG.c = ((ia.xs.take (k + 1)).map ItemG.c).filter (untC n)) := by
          show _ = _
          rw [HL.out, Htk.out, List.map_append, List.filter_append]
          simp [untC, ItemG.c, hun]
        clear hx6
        go_wp2_with fail
        go_roundw
        case rel => exact ⟨k + 1, L, by omega, by go_num, HR6, HN⟩
        case measure => simp [intOf]; omega
    · have hks : k = ia.xs.length := by omega
      subst hks
      obtain ⟨A9, c9, e9, hr9, hn9⟩ := HR.out.own.form (by decide)
      cases e9
      obtain ⟨hc9, hm9⟩ : L.length ≤ cv ∧ cv ≤ 9223372036854775807 := by
        rcases HR.out.own.2 with ⟨h1, h2⟩ | ⟨g9, c9, cur, h1, _, _, h4, h5, _⟩
        · injection h1 with _ h3 h4
          subst h4
          exact ⟨by omega, by omega⟩
        · injection h1 with _ _ h6
          subst h6
          exact ⟨h4, by unfold maxLen at h5; omega⟩
      have hIt : ItemsAt wr ⟨Av, cv, L⟩ := ⟨⟨hr9, hc9, hm9, hn9⟩, fun y hy => (HR.out.far y hy).1⟩
      have cS := Lib.hid (same28_any ib ⟨Av, cv, L⟩ wr (HIb.out.ext HR.out.below) hIt)
      have heq : ib.xs.map ItemG.c = L.map ItemG.c := by
        rw [HMb.out, HL.out, List.take_length, HMa.out]
      rw [heq, decide_eq_true rfl] at cS
      have hBf := ext_trans hB5 HR.out.below
      clear hIt hr9 hn9 hc9 hm9 heq
      go_wp2_with fail
      refine cS.out.mono ?_
      rintro e w9 ⟨rfl, hb9⟩
      have hBg := ext_trans hBf hb9
      clear cS
      go_wp2_with fail
      go_ret
      exact ⟨rfl, hBg⟩
end Go.Proofs.YthojaplnimoacaaGreatDoor
