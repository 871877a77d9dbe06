/- Texts of this claim, one after the other: Law28c, Law28d. -/
import Derived.Test.YthojaplnimoacaaGreatDoorM19
import Derived.StillTailTactics
/- Law 28: right. -/
namespace Go.Proofs.YthojaplnimoacaaGreatDoor
open Go.RowKit Go.Han
attribute [local irreducible] wpStill wpQuiet
set_option maxRecDepth 100000

def RightP (g : Gram) (l : List Term) (lang : Int) (ws : List ByteArray) (t u : Int) (w : World) (e : Ending) (w' : World) : Prop :=
  ∃ b : Bool, e = .returned (.bool b) ∧ Below w.heap.size w w' ∧ (b = true → tagsE g l lang ws t u = 0)
set_option maxHeartbeats 4000000 in
theorem right28_any (g : Gram) (A : Option Addr) (cp : Nat) (l : List Term) (lang : Int) (s : StrS) (t u : Int) (w : World) (hg : g.lies w) (hr : TermsAt w A l) (hm : l.length ≤ 9223372036854775807) (hs : s.lies w) :
    Calls Tryz.prog 35 #[.agg #[.string g.name, .slice g.cats.addr g.cats.xs.length g.cats.cap, .string g.start, .int .i64 g.startNo, .slice g.entries.addr g.entries.xs.length g.entries.cap, .slice g.rules.addr g.rules.xs.length g.rules.cap], .slice A l.length cp, .int .i64 lang, .slice s.addr s.xs.length s.cap, .int .i64 t, .int .i64 u] w (RightP g l lang s.xs t u w) := by
  obtain ⟨W1, hW1⟩ : ∃ W1, w.alloc (.cells #[.string g.name, .slice g.cats.addr g.cats.xs.length g.cats.cap, .string g.start, .int .i64 g.startNo, .slice g.entries.addr g.entries.xs.length g.entries.cap, .slice g.rules.addr g.rules.xs.length g.rules.cap] 26) = W1 := ⟨_, rfl⟩
  have hB1 : Below w.heap.size w W1 := by rw [← hW1]; exact ext_alloc (Below.refl _ _) _
  have hk : W1.heap[w.heap.size]? = some (.cells #[.string g.name, .slice g.cats.addr g.cats.xs.length g.cats.cap, .string g.start, .int .i64 g.startNo, .slice g.entries.addr g.entries.xs.length g.entries.cap, .slice g.rules.addr g.rules.xs.length g.rules.cap] 26 (0, 0)) := by rw [← hW1]; exact World.alloc_heap_new _ _
  have FF := Lib.hid (few28_any g A cp l s W1 (hg.ext hB1) hm (hs.ext hB1))
  have FB := Lib.hid (fun V (hV : Below w.heap.size w V) => Items28_any g A cp l lang s t u V (hg.ext hV) (hr.ext hV) hm (hs.ext hV))
  have Hk := Lib.hid hk
  have c0 := gblk hk 0
  have c1 := gblk hk 1
  have c2 := gblk hk 2
  have c3 := gblk hk 3
  have c4 := gblk hk 4
  have c5 := gblk hk 5
  clear hg hr hm hs hk
  go_enter Tryz.func35, Tryz.ntmps35
  go_wp2_with fail
  clear hW1
  refine FF.out.mono ?_
  rintro e w2 ⟨b, rfl, hb2⟩
  have hB2 := ext_trans hB1 hb2
  have hk2 := (hb2.block _ (lt_block Hk.out)).trans Hk.out
  clear FF c0 c1 c2 c3 c4 c5
  cases b
  · go_wp2_with fail
    go_ret
    exact ⟨_, rfl, hB2, fun h => by cases h⟩
  by_cases h16 : 16 < s.xs.length
  · go_wp2_with fail
    go_ret
    exact ⟨_, rfl, hB2, fun h => by cases h⟩
  have c0 := gblk hk2 0
  have c1 := gblk hk2 1
  have c2 := gblk hk2 2
  have c3 := gblk hk2 3
  have c4 := gblk hk2 4
  have c5 := gblk hk2 5
  clear hk2
  go_wp2_with fail
  refine (FB.out w2 hB2).mono ?_
  intro e w5 h5
  obtain ⟨hb5, ib, rfl, hmb, hib⟩ := itemsPost_out h5
  have hB5 := ext_trans hB2 hb5
  have q := int_beqD (tagsE g l lang s.xs t u) 0
  obtain ⟨r, hr⟩ : ∃ r, tagsE g l lang s.xs t u = r := ⟨_, rfl⟩
  have HRr := Lib.hid hr
  rw [hr] at q ⊢
  clear c0 c1 c2 c3 c4 c5 FB h5 hmb hib hr
  go_wp2_with fail
  go_ret
  exact ⟨_, rfl, hB5, fun h => by rw [HRr.out]; simpa using h⟩
end Go.Proofs.YthojaplnimoacaaGreatDoor

/- TagsFirst. -/
namespace Go.Proofs.YthojaplnimoacaaGreatDoor
open Go.RowKit Go.Han
attribute [local irreducible] wpStill wpQuiet
set_option maxRecDepth 100000

end Go.Proofs.YthojaplnimoacaaGreatDoor
