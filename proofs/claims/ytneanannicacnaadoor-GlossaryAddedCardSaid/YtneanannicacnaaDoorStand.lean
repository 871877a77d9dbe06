/- Package glossary: what a term is about; the map of the last terms. -/
import Derived.Test.YtneanannicacnaaDoorStandP
import Derived.Test.YtneanannicacnaaDoorMap
import Derived.Deep.RegionWith
import Derived.DeepKeys4
namespace Go.Proofs.YtneanannicacnaaDoor
open Go.RowKit Go.Han
attribute [local irreducible] wpStill wpQuiet
set_option maxRecDepth 100000

/-- Join, in the midst of a region. -/
def JoinIn (r : List UInt8) (b : Nat) (x : Term) (w0 : World) (e : Ending) (w' : World) : Prop := e = .returned (.string ⟨r.toArray⟩) ∧ Below w0.heap.size w0 w' ∧ w'.cell? ⟨b, 3, none⟩ = some (.int .i64 x.lang) ∧ w'.heap[b + 1]? = w0.heap[b + 1]?
theorem joinX_any (x : Term) (w : World) (hok : x.ok = true) (hx : x.lies w) : Calls Tryd.prog 102 #[.slice x.src.addr x.src.xs.length x.src.cap, .string ⟨#[10]⟩] w fun e w' => e = .returned (.string ⟨(joined x.src.xs).toArray⟩) ∧ Below w.heap.size w w' := by
  obtain ⟨h1, h2, h3⟩ := ok_src hok
  obtain ⟨b, off, he, hb, hc⟩ := StrS.at_ hx.1 (k := 0) (by omega)
  rw [he]
  exact Tryd.strings_Join b off x.src.cap x.src.xs ⟨#[10]⟩ w (fun j y hj => by
    obtain ⟨hj1, rfl⟩ := List.getElem?_eq_some_iff.1 hj
    exact hc j hj1) hb (by omega) hx.1.cap (by have := joined_length hok; unfold joined at this; show (Lib.join _ [10]).length ≤ _; omega)
set_option maxHeartbeats 1000000 in
theorem about_at (x : Term) (w : World) (hok : x.ok = true) (hx : x.lies w) : Calls Tryd.prog 71 #[.agg #[.int .i64 x.no, .int .i64 x.at_, .int .i64 x.known, .int .i64 x.lang, .slice x.src.addr x.src.xs.length x.src.cap, .slice x.tgt.addr x.tgt.xs.length x.tgt.cap, .string x.cat, .bool x.gone]] w fun e w' => e = .returned (.agg #[.int .i64 x.lang, .string ⟨(joined x.src.xs).toArray⟩]) ∧ Below w.heap.size w w' := by
  obtain ⟨w0, hw0⟩ : ∃ w0, (w.alloc (.cells #[.int .i64 x.no, .int .i64 x.at_, .int .i64 x.known, .int .i64 x.lang, .slice x.src.addr x.src.xs.length x.src.cap, .slice x.tgt.addr x.tgt.xs.length x.tgt.cap, .string x.cat, .bool x.gone] 51)).alloc (.cells #[.int .i64 0, .string ⟨#[]⟩] 96) = w0 := ⟨_, rfl⟩
  have hB0 : Below w.heap.size w w0 := by rw [← hw0]; exact ext_alloc (ext_alloc (Below.refl _ _) _) _
  have hz0 : w0.heap.size = w.heap.size + 1 + 1 := by rw [← hw0]; simp
  have x0 : w0.heap[w.heap.size]? = some (.cells #[.int .i64 x.no, .int .i64 x.at_, .int .i64 x.known, .int .i64 x.lang, .slice x.src.addr x.src.xs.length x.src.cap, .slice x.tgt.addr x.tgt.xs.length x.tgt.cap, .string x.cat, .bool x.gone] 51 (0, 0)) := by rw [← hw0]; exact (Below.heap_alloc _ _ _ (by simp)).trans (World.alloc_heap_new _ _)
  have x1 : w0.heap[w.heap.size + 1]? = some (.cells #[.int .i64 0, .string ⟨#[]⟩] 96 (0, 0)) := by rw [← hw0]; exact galloc_at _ _ _ (by simp)
  obtain ⟨r, hr⟩ : ∃ r, joined x.src.xs = r := ⟨_, rfl⟩
  have cJ : Hid (∀ W, Below w0.heap.size w0 W → Calls Tryd.prog 102 #[.slice x.src.addr x.src.xs.length x.src.cap, .string ⟨#[10]⟩] W (JoinIn r w.heap.size x w0)) := by
    intro W hb
    refine (joinX_any x W hok (hx.ext (ext_trans hB0 hb))).mono ?_
    rintro e w' ⟨rfl, hb'⟩
    rw [hr]
    have hbb := ext_trans hb hb'
    exact ⟨rfl, hbb, gblk ((hbb.block _ (by omega)).trans x0) 3, hbb.block _ (by omega)⟩
  rw [hr]
  have c3 := gblk x0 3
  have c4 := gblk x0 4
  have X1 := Lib.hid x1
  clear hr hok hx x0 x1
  go_enter Tryd.func71, Tryd.ntmps71
  go_wp2_with fail
  go_region_with (go_at_call 102; refine (cJ.out _ ?_).mono ?_; (repeat (first | exact Below.refl _ _ | refine ext_drew ?_ | refine ext_alloc ?_ _)); rintro e w4 ⟨rfl, hb4, q3, q4⟩; have hx4 := q4.trans X1.out; have z0 := gblk hx4 0; have z1 := gblk hx4 1; have f0 := frozen_one hx4 0; have f1 := frozen_one hx4 1; clear hx4 q4)
  all_goals
    go_wp2
    exact bodyPost_ret (v := .agg #[.int .i64 x.lang, .string ⟨r.toArray⟩]) (by simp [results, Tryd.results71, go_sem, z0, z1]) rfl ⟨rfl, ((ext_trans hB0 hb4).setCell (p := ⟨w.heap.size + 1, 0, none⟩) (by simp) _).setCell (p := ⟨w.heap.size + 1, 1, none⟩) (by simp) _⟩
end Go.Proofs.YtneanannicacnaaDoor
