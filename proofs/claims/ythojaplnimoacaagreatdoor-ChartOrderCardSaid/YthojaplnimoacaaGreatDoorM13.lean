/- Texts of this claim, one after the other: TagB, Opg5, TraP, TraQ, TraS, ChaV, OrdP, Law29s. -/
import Derived.Test.YthojaplnimoacaaGreatDoorM11
import Derived.Test.YthojaplnimoacaaGreatDoorM12
import Derived.Test.YthojaplnimoacaaGreatDoorM4
import Derived.Test.YthojaplnimoacaaGreatDoorM5
import Derived.Test.YthojaplnimoacaaGreatDoorM10
/- The tagger: what its iterators read; entries, unknowns. -/
namespace Go.Proofs.YthojaplnimoacaaGreatDoor
open Go.RowKit Go.Han
attribute [local irreducible] wpStill wpQuiet
attribute [local go_sem] Oper.semAt_some
set_option maxRecDepth 100000

structure TagG where
 g : Gram
 m : Nat
 ws : StrS
def overW (w V : World) : World := { V with os := w.os, tape := w.tape, output := w.output }
theorem over_below {w V : World} (hs : w.heap.size ≤ V.heap.size) (hk : ∀ k, k < w.heap.size → V.heap[k]? = w.heap[k]?) : Below w.heap.size w (overW w V) := ⟨rfl, rfl, rfl, hs, hk⟩
theorem lies_over {w V : World} {s : StrS} (h : s.lies (overW w V)) : s.lies V := ⟨h.rd, h.cap, h.max, h.nil⟩
structure TagD (w V : World) (T : TagG) : Prop where
 size : w.heap.size ≤ V.heap.size
 low : ∀ k, k < w.heap.size → V.heap[k]? = w.heap[k]?
 g : T.g.lies w
 ws : T.ws.lies w
theorem TagD.ext {w V V' : World} {T : TagG} (h : TagD w V T) (hb : Below V.heap.size V V') : TagD w V' T := ⟨Nat.le_trans h.size hb.size, fun k hk => (hb.block k (Nat.lt_of_lt_of_le hk h.size)).trans (h.low k hk), h.g, h.ws⟩
theorem TagD.cats {w V : World} {T : TagG} (h : TagD w V T) : T.g.cats.lies V := lies_over (h.g.cats.ext (over_below h.size h.low))
theorem TagD.far {w V : World} {T : TagG} (h : TagD w V T) {s : StrS} (hs : s.lies w) : FarI w.heap.size V s := FarI.low hs h.low h.size

end Go.Proofs.YthojaplnimoacaaGreatDoor

/- How grammars and items read. -/
namespace Go.Proofs.YthojaplnimoacaaGreatDoor
open Go.RowKit Go.Han Go.ChangeShapes Go.WideShapes Go.ChangeAt Go.Deep
set_option maxRecDepth 100000
section
variable {H : Type} {enc : TypeId × Value → H} {w : World} {base : Nat} {spare : Nat → Bool} {held : Bool}
theorem cells_parts : Tryz.prog.cellsOf 101 = 1 := by kernel_rfl
theorem cells_gives : Tryz.prog.cellsOf 102 = 1 := by kernel_rfl
theorem cells_entries : Tryz.prog.cellsOf 23 = 1 := by kernel_rfl
theorem cells_rules : Tryz.prog.cellsOf 24 = 1 := by kernel_rfl
theorem trod_strsZ {fuel : Nat} {cs : List Value} {x : DataW H × List MemPlace} (h : DataW.trod enc Tryz.prog w 0 spare held fuel 22 cs = some x) : ∃ s : StrS, cs = [s.val] ∧ s.lies w ∧ ∀ b ∈ s.xs, b.size ≤ maxLen := by
 obtain ⟨A, cp, l, rfl, hr, hn, hm, hl, hc, hR⟩ := open_rows2 (fun b : ByteArray => [Value.string b]) 1 ⟨#[]⟩ Tryz.underlying22 (by kernel_rfl) (by decide) (fun _ => rfl) (fun b => b.size ≤ maxLen) (fun fuel cs x h => by
  obtain ⟨s, hs, _, hz⟩ := DataW.trod_string Tryz.underlying9 h
  exact ⟨s, hs, hz⟩) h
 refine ⟨⟨A, cp, l⟩, rfl, ⟨?_, hl, by unfold maxLen at hc; show cp ≤ _; omega, hn⟩, hR⟩
 show Rd w A (strs l)
 rw [strs_flat]; exact hr
theorem Part_und : ∃ fs : Array Field, Tryz.prog.underlying 150 = some (.struct fs) ∧ fs.toList.map (fun f => (f.type, f.offset)) = [(9, 0), (3, 1), (9, 2)] ∧ Tryz.prog.cellsOf 150 = 3 := ⟨_, Tryz.underlying150, by kernel_rfl, by kernel_rfl⟩
theorem trod_Part {fuel : Nat} {cs : List Value} {x : DataW H × List MemPlace} (h : DataW.trod enc Tryz.prog w 0 spare held fuel 150 cs = some x) : ∃ y : PartG, cs = y.cells ∧ y.cat.size ≤ maxLen := by
 obtain ⟨fs, hu, hf, hc⟩ := Part_und
 obtain ⟨xs, n, _, _, hlen, hxl, hat⟩ := DataW.trod_struct hu h
 rw [hc] at hlen
 have hsz : fs.size = 3 := by have := congrArg List.length hf; simpa using this
 obtain ⟨f0, e0, t0, o0⟩ := field_at hf (i := 0) rfl
 obtain ⟨f1, e1, t1, o1⟩ := field_at hf (i := 1) rfl
 obtain ⟨f2, e2, t2, o2⟩ := field_at hf (i := 2) rfl
 have h0 := hat 0 f0 e0
 have h1 := hat 1 f1 e1
 have h2 := hat 2 f2 e2
 rw [t0, o0, cells_string, List.getElem?_eq_getElem (by omega)] at h0
 rw [t1, o1, cells_int, List.getElem?_eq_getElem (by omega)] at h1
 rw [t2, o2, cells_string, List.getElem?_eq_getElem (by omega)] at h2
 obtain ⟨a0, g0, _, z0⟩ := DataW.trod_string Tryz.underlying9 h0
 obtain ⟨a1, g1, _⟩ := DataW.trod_int Tryz.underlying3 h1
 obtain ⟨a2, g2, _, z2⟩ := DataW.trod_string Tryz.underlying9 h2
 match cs, hlen with
 | [c0, c1, c2], _ =>
  simp at g0 g1 g2
  exact ⟨⟨a0, a1, a2⟩, by rw [g0, g1, g2]; rfl, z0⟩
theorem open_Parts {fuel : Nat} {cs : List Value} {x : DataW H × List MemPlace} (h : DataW.trod enc Tryz.prog w 0 spare held fuel 101 cs = some x) :
  ∃ s : SlS PartG, cs = [s.val] ∧ s.lies PartG.cells w ∧ ∀ y ∈ s.xs, y.cat.size ≤ maxLen := by
 obtain ⟨A, cp, l, rfl, hr, hn, hm, hl, hc, hR⟩ := open_rows2 PartG.cells 3 ⟨⟨#[]⟩, 0, ⟨#[]⟩⟩ Tryz.underlying101 (by kernel_rfl) (by decide) PartG.size_cells (fun y => y.cat.size ≤ maxLen) (fun _ _ _ h => trod_Part h) h
 exact ⟨⟨A, cp, l⟩, rfl, ⟨hr, hl, by unfold maxLen at hc; show cp ≤ _; omega, hn⟩, hR⟩
theorem Give_und : ∃ fs : Array Field, Tryz.prog.underlying 152 = some (.struct fs) ∧ fs.toList.map (fun f => (f.type, f.offset)) = [(3, 0), (9, 1)] ∧ Tryz.prog.cellsOf 152 = 2 := ⟨_, Tryz.underlying152, by kernel_rfl, by kernel_rfl⟩
theorem trod_Give {fuel : Nat} {cs : List Value} {x : DataW H × List MemPlace} (h : DataW.trod enc Tryz.prog w 0 spare held fuel 152 cs = some x) : ∃ y : GiveG, cs = y.cells ∧ True := by
 obtain ⟨fs, hu, hf, hc⟩ := Give_und
 obtain ⟨xs, n, _, _, hlen, hxl, hat⟩ := DataW.trod_struct hu h
 rw [hc] at hlen
 have hsz : fs.size = 2 := by have := congrArg List.length hf; simpa using this
 obtain ⟨f0, e0, t0, o0⟩ := field_at hf (i := 0) rfl
 obtain ⟨f1, e1, t1, o1⟩ := field_at hf (i := 1) rfl
 have h0 := hat 0 f0 e0
 have h1 := hat 1 f1 e1
 rw [t0, o0, cells_int, List.getElem?_eq_getElem (by omega)] at h0
 rw [t1, o1, cells_string, List.getElem?_eq_getElem (by omega)] at h1
 obtain ⟨a0, g0, _⟩ := DataW.trod_int Tryz.underlying3 h0
 obtain ⟨a1, g1, _, z1⟩ := DataW.trod_string Tryz.underlying9 h1
 match cs, hlen with
 | [c0, c1], _ =>
  simp at g0 g1
  exact ⟨⟨a0, a1⟩, by rw [g0, g1]; rfl, trivial⟩
theorem open_Gives {fuel : Nat} {cs : List Value} {x : DataW H × List MemPlace} (h : DataW.trod enc Tryz.prog w 0 spare held fuel 102 cs = some x) :
  ∃ s : SlS GiveG, cs = [s.val] ∧ s.lies GiveG.cells w ∧ ∀ y ∈ s.xs, True := by
 obtain ⟨A, cp, l, rfl, hr, hn, hm, hl, hc, hR⟩ := open_rows2 GiveG.cells 2 ⟨0, ⟨#[]⟩⟩ Tryz.underlying102 (by kernel_rfl) (by decide) GiveG.size_cells (fun y => True) (fun _ _ _ h => trod_Give h) h
 exact ⟨⟨A, cp, l⟩, rfl, ⟨hr, hl, by unfold maxLen at hc; show cp ≤ _; omega, hn⟩, hR⟩
theorem Entry_und : ∃ fs : Array Field, Tryz.prog.underlying 70 = some (.struct fs) ∧ fs.toList.map (fun f => (f.type, f.offset)) = [(9, 0), (9, 1), (3, 2), (22, 3), (3, 4)] ∧ Tryz.prog.cellsOf 70 = 5 := ⟨_, Tryz.underlying70, by kernel_rfl, by kernel_rfl⟩
theorem trod_Entry {fuel : Nat} {cs : List Value} {x : DataW H × List MemPlace} (h : DataW.trod enc Tryz.prog w 0 spare held fuel 70 cs = some x) : ∃ y : EntryG, cs = y.cells ∧ y.lies w ∧ y.cat.size ≤ maxLen := by
 obtain ⟨fs, hu, hf, hc⟩ := Entry_und
 obtain ⟨xs, n, _, _, hlen, hxl, hat⟩ := DataW.trod_struct hu h
 rw [hc] at hlen
 have hsz : fs.size = 5 := by have := congrArg List.length hf; simpa using this
 obtain ⟨f0, e0, t0, o0⟩ := field_at hf (i := 0) rfl
 obtain ⟨f1, e1, t1, o1⟩ := field_at hf (i := 1) rfl
 obtain ⟨f2, e2, t2, o2⟩ := field_at hf (i := 2) rfl
 obtain ⟨f3, e3, t3, o3⟩ := field_at hf (i := 3) rfl
 obtain ⟨f4, e4, t4, o4⟩ := field_at hf (i := 4) rfl
 have h0 := hat 0 f0 e0
 have h1 := hat 1 f1 e1
 have h2 := hat 2 f2 e2
 have h3 := hat 3 f3 e3
 have h4 := hat 4 f4 e4
 rw [t0, o0, cells_string, List.getElem?_eq_getElem (by omega)] at h0
 rw [t1, o1, cells_string, List.getElem?_eq_getElem (by omega)] at h1
 rw [t2, o2, cells_int, List.getElem?_eq_getElem (by omega)] at h2
 rw [t3, o3, cells_strs, List.getElem?_eq_getElem (by omega)] at h3
 rw [t4, o4, cells_int, List.getElem?_eq_getElem (by omega)] at h4
 obtain ⟨a0, g0, _, z0⟩ := DataW.trod_string Tryz.underlying9 h0
 obtain ⟨a1, g1, _, z1⟩ := DataW.trod_string Tryz.underlying9 h1
 obtain ⟨a2, g2, _⟩ := DataW.trod_int Tryz.underlying3 h2
 obtain ⟨a3, g3, l3, z3⟩ := trod_strsZ h3
 obtain ⟨a4, g4, _⟩ := DataW.trod_int Tryz.underlying3 h4
 match cs, hlen with
 | [c0, c1, c2, c3, c4], _ =>
  simp at g0 g1 g2 g3 g4
  exact ⟨⟨a0, a1, a2, a3, a4⟩, by rw [g0, g1, g2, g3, g4]; rfl, l3, z1⟩
theorem open_Entrys {fuel : Nat} {cs : List Value} {x : DataW H × List MemPlace} (h : DataW.trod enc Tryz.prog w 0 spare held fuel 23 cs = some x) :
  ∃ s : SlS EntryG, cs = [s.val] ∧ s.lies EntryG.cells w ∧ ∀ y ∈ s.xs, y.lies w ∧ y.cat.size ≤ maxLen := by
 obtain ⟨A, cp, l, rfl, hr, hn, hm, hl, hc, hR⟩ := open_rows2 EntryG.cells 5 ⟨⟨#[]⟩, ⟨#[]⟩, 0, ⟨none, 0, []⟩, 0⟩ Tryz.underlying23 (by kernel_rfl) (by decide) EntryG.size_cells (fun y => y.lies w ∧ y.cat.size ≤ maxLen) (fun _ _ _ h => trod_Entry h) h
 exact ⟨⟨A, cp, l⟩, rfl, ⟨hr, hl, by unfold maxLen at hc; show cp ≤ _; omega, hn⟩, hR⟩
theorem Rule_und : ∃ fs : Array Field, Tryz.prog.underlying 104 = some (.struct fs) ∧ fs.toList.map (fun f => (f.type, f.offset)) = [(9, 0), (3, 1), (101, 2), (102, 3), (3, 4)] ∧ Tryz.prog.cellsOf 104 = 5 := ⟨_, Tryz.underlying104, by kernel_rfl, by kernel_rfl⟩
theorem trod_Rule {fuel : Nat} {cs : List Value} {x : DataW H × List MemPlace} (h : DataW.trod enc Tryz.prog w 0 spare held fuel 104 cs = some x) : ∃ y : RuleG, cs = y.cells ∧ (y.lies w ∧ y.cat.size ≤ maxLen ∧ ∀ p ∈ y.parts.xs, p.cat.size ≤ maxLen) := by
 obtain ⟨fs, hu, hf, hc⟩ := Rule_und
 obtain ⟨xs, n, _, _, hlen, hxl, hat⟩ := DataW.trod_struct hu h
 rw [hc] at hlen
 have hsz : fs.size = 5 := by have := congrArg List.length hf; simpa using this
 obtain ⟨f0, e0, t0, o0⟩ := field_at hf (i := 0) rfl
 obtain ⟨f1, e1, t1, o1⟩ := field_at hf (i := 1) rfl
 obtain ⟨f2, e2, t2, o2⟩ := field_at hf (i := 2) rfl
 obtain ⟨f3, e3, t3, o3⟩ := field_at hf (i := 3) rfl
 obtain ⟨f4, e4, t4, o4⟩ := field_at hf (i := 4) rfl
 have h0 := hat 0 f0 e0
 have h1 := hat 1 f1 e1
 have h2 := hat 2 f2 e2
 have h3 := hat 3 f3 e3
 have h4 := hat 4 f4 e4
 rw [t0, o0, cells_string, List.getElem?_eq_getElem (by omega)] at h0
 rw [t1, o1, cells_int, List.getElem?_eq_getElem (by omega)] at h1
 rw [t2, o2, cells_parts, List.getElem?_eq_getElem (by omega)] at h2
 rw [t3, o3, cells_gives, List.getElem?_eq_getElem (by omega)] at h3
 rw [t4, o4, cells_int, List.getElem?_eq_getElem (by omega)] at h4
 obtain ⟨a0, g0, _, z0⟩ := DataW.trod_string Tryz.underlying9 h0
 obtain ⟨a1, g1, _⟩ := DataW.trod_int Tryz.underlying3 h1
 obtain ⟨a2, g2, l2, z2⟩ := open_Parts h2
 obtain ⟨a3, g3, l3, z3⟩ := open_Gives h3
 obtain ⟨a4, g4, _⟩ := DataW.trod_int Tryz.underlying3 h4
 match cs, hlen with
 | [c0, c1, c2, c3, c4], _ =>
  simp at g0 g1 g2 g3 g4
  exact ⟨⟨a0, a1, a2, a3, a4⟩, by rw [g0, g1, g2, g3, g4]; rfl, ⟨l2, l3⟩, z0, z2⟩
theorem open_Rules {fuel : Nat} {cs : List Value} {x : DataW H × List MemPlace} (h : DataW.trod enc Tryz.prog w 0 spare held fuel 24 cs = some x) :
  ∃ s : SlS RuleG, cs = [s.val] ∧ s.lies RuleG.cells w ∧ ∀ y ∈ s.xs, (y.lies w ∧ y.cat.size ≤ maxLen ∧ ∀ p ∈ y.parts.xs, p.cat.size ≤ maxLen) := by
 obtain ⟨A, cp, l, rfl, hr, hn, hm, hl, hc, hR⟩ := open_rows2 RuleG.cells 5 ⟨⟨#[]⟩, 0, ⟨none, 0, []⟩, ⟨none, 0, []⟩, 0⟩ Tryz.underlying24 (by kernel_rfl) (by decide) RuleG.size_cells (fun y => (y.lies w ∧ y.cat.size ≤ maxLen ∧ ∀ p ∈ y.parts.xs, p.cat.size ≤ maxLen)) (fun _ _ _ h => trod_Rule h) h
 exact ⟨⟨A, cp, l⟩, rfl, ⟨hr, hl, by unfold maxLen at hc; show cp ≤ _; omega, hn⟩, hR⟩
theorem gram_und : ∃ fs : Array Field, Tryz.prog.underlying 26 = some (.struct fs) ∧ fs.toList.map (fun f => (f.type, f.offset)) = [(9, 0), (22, 1), (9, 2), (3, 3), (23, 4), (24, 5)] ∧ Tryz.prog.cellsOf 26 = 6 := ⟨_, Tryz.underlying26, by kernel_rfl, by kernel_rfl⟩
theorem trod_gram {fuel : Nat} {cs : List Value} {x : DataW H × List MemPlace} (h : DataW.trod enc Tryz.prog w 0 spare held fuel 26 cs = some x) : ∃ y : Gram, cs = y.cells ∧ y.lies w ∧ y.short := by
 obtain ⟨fs, hu, hf, hc⟩ := gram_und
 obtain ⟨xs, n, _, _, hlen, hxl, hat⟩ := DataW.trod_struct hu h
 rw [hc] at hlen
 have hsz : fs.size = 6 := by have := congrArg List.length hf; simpa using this
 obtain ⟨f0, e0, t0, o0⟩ := field_at hf (i := 0) rfl
 obtain ⟨f1, e1, t1, o1⟩ := field_at hf (i := 1) rfl
 obtain ⟨f2, e2, t2, o2⟩ := field_at hf (i := 2) rfl
 obtain ⟨f3, e3, t3, o3⟩ := field_at hf (i := 3) rfl
 obtain ⟨f4, e4, t4, o4⟩ := field_at hf (i := 4) rfl
 obtain ⟨f5, e5, t5, o5⟩ := field_at hf (i := 5) rfl
 have h0 := hat 0 f0 e0
 have h1 := hat 1 f1 e1
 have h2 := hat 2 f2 e2
 have h3 := hat 3 f3 e3
 have h4 := hat 4 f4 e4
 have h5 := hat 5 f5 e5
 rw [t0, o0, cells_string, List.getElem?_eq_getElem (by omega)] at h0
 rw [t1, o1, cells_strs, List.getElem?_eq_getElem (by omega)] at h1
 rw [t2, o2, cells_string, List.getElem?_eq_getElem (by omega)] at h2
 rw [t3, o3, cells_int, List.getElem?_eq_getElem (by omega)] at h3
 rw [t4, o4, cells_entries, List.getElem?_eq_getElem (by omega)] at h4
 rw [t5, o5, cells_rules, List.getElem?_eq_getElem (by omega)] at h5
 obtain ⟨a0, g0, _, z0⟩ := DataW.trod_string Tryz.underlying9 h0
 obtain ⟨a1, g1, l1, z1⟩ := trod_strsZ h1
 obtain ⟨a2, g2, _, z2⟩ := DataW.trod_string Tryz.underlying9 h2
 obtain ⟨a3, g3, _⟩ := DataW.trod_int Tryz.underlying3 h3
 obtain ⟨a4, g4, l4, z4⟩ := open_Entrys h4
 obtain ⟨a5, g5, l5, z5⟩ := open_Rules h5
 match cs, hlen with
 | [c0, c1, c2, c3, c4, c5], _ =>
  simp at g0 g1 g2 g3 g4 g5
  exact ⟨⟨a0, a1, a2, a3, a4, a5⟩, by rw [g0, g1, g2, g3, g4, g5]; rfl, ⟨l1, l4, fun x hx => (z4 x hx).1, l5, fun x hx => (z5 x hx).1⟩, ⟨z1, z2, fun x hx => (z4 x hx).2, fun x hx => (z5 x hx).2.1, fun x hx => (z5 x hx).2.2⟩⟩
theorem item_und : ∃ fs : Array Field, Tryz.prog.underlying 47 = some (.struct fs) ∧ fs.toList.map (fun f => (f.type, f.offset)) = [(3, 0), (3, 1), (3, 2), (3, 3), (22, 4), (3, 5)] ∧ Tryz.prog.cellsOf 47 = 6 := ⟨_, Tryz.underlying47, by kernel_rfl, by kernel_rfl⟩
theorem trod_item {fuel : Nat} {cs : List Value} {x : DataW H × List MemPlace} (h : DataW.trod enc Tryz.prog w 0 spare held fuel 47 cs = some x) : ∃ y : ItemG, cs = y.cells ∧ y.tgt.lies w := by
 obtain ⟨fs, hu, hf, hc⟩ := item_und
 obtain ⟨xs, n, _, _, hlen, hxl, hat⟩ := DataW.trod_struct hu h
 rw [hc] at hlen
 have hsz : fs.size = 6 := by have := congrArg List.length hf; simpa using this
 obtain ⟨f0, e0, t0, o0⟩ := field_at hf (i := 0) rfl
 obtain ⟨f1, e1, t1, o1⟩ := field_at hf (i := 1) rfl
 obtain ⟨f2, e2, t2, o2⟩ := field_at hf (i := 2) rfl
 obtain ⟨f3, e3, t3, o3⟩ := field_at hf (i := 3) rfl
 obtain ⟨f4, e4, t4, o4⟩ := field_at hf (i := 4) rfl
 obtain ⟨f5, e5, t5, o5⟩ := field_at hf (i := 5) rfl
 have h0 := hat 0 f0 e0
 have h1 := hat 1 f1 e1
 have h2 := hat 2 f2 e2
 have h3 := hat 3 f3 e3
 have h4 := hat 4 f4 e4
 have h5 := hat 5 f5 e5
 rw [t0, o0, cells_int, List.getElem?_eq_getElem (by omega)] at h0
 rw [t1, o1, cells_int, List.getElem?_eq_getElem (by omega)] at h1
 rw [t2, o2, cells_int, List.getElem?_eq_getElem (by omega)] at h2
 rw [t3, o3, cells_int, List.getElem?_eq_getElem (by omega)] at h3
 rw [t4, o4, cells_strs, List.getElem?_eq_getElem (by omega)] at h4
 rw [t5, o5, cells_int, List.getElem?_eq_getElem (by omega)] at h5
 obtain ⟨a0, g0, _⟩ := DataW.trod_int Tryz.underlying3 h0
 obtain ⟨a1, g1, _⟩ := DataW.trod_int Tryz.underlying3 h1
 obtain ⟨a2, g2, _⟩ := DataW.trod_int Tryz.underlying3 h2
 obtain ⟨a3, g3, _⟩ := DataW.trod_int Tryz.underlying3 h3
 obtain ⟨a4, g4, l4, z4⟩ := trod_strsZ h4
 obtain ⟨a5, g5, _⟩ := DataW.trod_int Tryz.underlying3 h5
 match cs, hlen with
 | [c0, c1, c2, c3, c4, c5], _ =>
  simp at g0 g1 g2 g3 g4 g5
  exact ⟨⟨a0, a1, a2, a3, a4, a5⟩, by rw [g0, g1, g2, g3, g4, g5]; rfl, l4⟩
theorem open_items {fuel : Nat} {cs : List Value} {x : DataW H × List MemPlace} (h : DataW.trod enc Tryz.prog w 0 spare held fuel 27 cs = some x) :
  ∃ s : SlS ItemG, cs = [s.val] ∧ s.lies ItemG.cells w ∧ ∀ y ∈ s.xs, y.tgt.lies w := by
 obtain ⟨A, cp, l, rfl, hr, hn, hm, hl, hc, hR⟩ := open_rows2 ItemG.cells 6 ⟨0, 0, 0, 0, ⟨none, 0, []⟩, 0⟩ Tryz.underlying27 (by kernel_rfl) (by decide) ItemG.size_cells (fun y => y.tgt.lies w) (fun _ _ _ h => trod_item h) h
 exact ⟨⟨A, cp, l⟩, rfl, ⟨hr, hl, by unfold maxLen at hc; show cp ≤ _; omega, hn⟩, hR⟩
theorem u8_bound {t : Int} (h : (Lit.int .u8 t).wf = true) : t = (t.toNat : Int) ∧ t.toNat ≤ 255 := by
 have h1 := h
 simp only [Lit.wf, Bool.and_eq_true, decide_eq_true_eq] at h1
 have e1 : IntKind.u8.min = 0 := by decide
 have e2 : IntKind.u8.max = 255 := by decide
 rw [e1, e2] at h1
 omega
end
end Go.Proofs.YthojaplnimoacaaGreatDoor

/- Translations: words that each word of a translation depends on; the translation of a tree, from the top down and from the leaves up. Conditions: none; plain facts. -/
namespace Go.Proofs.YthojaplnimoacaaGreatDoor
open Go.RowKit Go.Han
set_option maxRecDepth 100000

/-! ### increasing lists of numbers -/
structure TgP where
 text : ByteArray
 deps : List Int
 term : Int
deriving DecidableEq
def putI (n : Int) : List Int → List Int
 | [] => [n]
 | x :: l => if x < n then x :: putI n l else if x = n then x :: l else n :: x :: l
def putsI (a l : List Int) : List Int := l.foldl (fun a n => putI n a) a
def IncI (l : List Int) : Prop := l.Pairwise (· < ·)
/-! ### translations -/
def TgP.more (l : List Int) (x : TgP) : TgP := ⟨x.text, putsI x.deps l, x.term⟩
end Go.Proofs.YthojaplnimoacaaGreatDoor

/- Translations: each word counts. Conditions: none; plain facts. -/
namespace Go.Proofs.YthojaplnimoacaaGreatDoor
open Go.RowKit Go.Han
set_option maxRecDepth 100000

/-! ### what rules give -/
/-! ### the Kids of a rule -/
/-! ### each word counts -/
structure TransOk (i k : Int) (ab : List Int) (l : List TgP) : Prop where
 some_ : l ≠ []
 cover : ∀ n, i ≤ n → n < k → ∃ x ∈ l, n ∈ x.deps
 above : ∀ x ∈ l, ∀ n ∈ ab, n ∈ x.deps
 inside : ∀ x ∈ l, IncI x.deps ∧ x.deps ≠ [] ∧ ∀ n ∈ x.deps, n ∈ ab ∨ (i ≤ n ∧ n < k)
 text : ∀ x ∈ l, x.text.size ≠ 0
end Go.Proofs.YthojaplnimoacaaGreatDoor

/- Translations word by word; a word that is replaced. Conditions: none; plain facts. -/
namespace Go.Proofs.YthojaplnimoacaaGreatDoor
open Go.RowKit Go.Han
set_option maxRecDepth 100000

/-! ### word by word -/
def WideAt (l : List ItemG) (i : Int) : Option ItemG → Prop
 | none => ∀ x ∈ l, ¬ (0 ≤ x.cat ∧ x.frm = i)
 | some b => ∃ pre post, l = pre ++ b :: post ∧ 0 ≤ b.cat ∧ b.frm = i ∧ (∀ x ∈ pre, 0 ≤ x.cat → x.frm = i → x.unt < b.unt) ∧ ∀ x ∈ post, 0 ≤ x.cat → x.frm = i → x.unt ≤ b.unt
theorem TransOk.append {i j k : Int} {ab : List Int} {a b : List TgP} (ha : TransOk i j ab a) (hb : TransOk j k ab b) (h1 : i ≤ j) (h2 : j ≤ k) : TransOk i k ab (a ++ b) := by
 refine ⟨fun h => ha.some_ (List.append_eq_nil_iff.1 h).1, fun n hn hk => ?_, fun x hx => ?_, fun x hx => ?_, fun x hx => ?_⟩
 ·
  by_cases h : n < j
  ·
   obtain ⟨x, hx, h⟩ := ha.cover n hn h
   exact ⟨x, List.mem_append_left _ hx, h⟩
  ·
   obtain ⟨x, hx, h⟩ := hb.cover n (by omega) hk
   exact ⟨x, List.mem_append_right _ hx, h⟩
 ·
  rcases List.mem_append.1 hx with hx | hx
  ·
   exact ha.above x hx
  ·
   exact hb.above x hx
 ·
  rcases List.mem_append.1 hx with hx | hx
  ·
   obtain ⟨e1, e2, e3⟩ := ha.inside x hx
   exact ⟨e1, e2, fun n hn => by rcases e3 n hn with h | h; exact .inl h; exact .inr (by omega)⟩
  ·
   obtain ⟨e1, e2, e3⟩ := hb.inside x hx
   exact ⟨e1, e2, fun n hn => by rcases e3 n hn with h | h; exact .inl h; exact .inr (by omega)⟩
 ·
  rcases List.mem_append.1 hx with hx | hx
  ·
   exact ha.text x hx
  ·
   exact hb.text x hx
/-! ### a word that is replaced -/
end Go.Proofs.YthojaplnimoacaaGreatDoor

/- The derivations with a further item, with items in another order, and without an item. Conditions: none; plain facts. -/
namespace Go.Proofs.YthojaplnimoacaaGreatDoor
open Go.RowKit Go.Han
set_option maxRecDepth 100000

/-! ### a further item -/
theorem prodL_sub {α β γ : Type} (f : α → β → γ) {a a' : List (Int × α)} {b b' : List (Int × β)} (h : a.Sublist a') (k : b.Sublist b') : (prodL f a b).Sublist (prodL f a' b') := by
 unfold prodL
 induction h with
 | slnil => exact .slnil
 | cons x h ih =>
  rw [List.flatMap_cons]
  exact ih.trans (List.sublist_append_right _ _)
 | cons_cons x h ih =>
  rw [List.flatMap_cons, List.flatMap_cons]
  exact (k.map _).append ih
theorem flatMap_sub {α β : Type} {f g : α → List β} : ∀ {l : List α}, (∀ x ∈ l, (f x).Sublist (g x)) → (l.flatMap f).Sublist (l.flatMap g)
 | [], _ => .slnil
 | x :: l, h => by
  rw [List.flatMap_cons, List.flatMap_cons]
  exact (h x (List.mem_cons_self ..)).append (flatMap_sub fun y hy => h y (List.mem_cons_of_mem _ hy))
theorem kidsL_sub {st st' : Int → ByteArray → Bool} (hs : ∀ i s, st i s = true → st' i s = true) {A B : Int → Nat → Nat → List Dv} (hA : ∀ c u v, (A c u v).Sublist (B c u v)) : ∀ (ps : List PartG) (i k : Nat), (kidsL st A ps i k).Sublist (kidsL st' B ps i k)
 | [], i, k => by unfold kidsL; exact List.Sublist.refl _
 | p :: ps, i, k => by
  unfold kidsL
  split
  ·
   split
   ·
    rename_i h
    rw [if_pos ⟨h.1, hs _ _ h.2⟩]
    exact kidsL_sub hs hA ps _ _
   ·
    exact List.nil_sublist _
  ·
   exact flatMap_sub fun m _ => prodL_sub _ (hA _ _ _) (kidsL_sub hs hA ps m k)
theorem rulesL_sub {st st' : Int → ByteArray → Bool} (hs : ∀ i s, st i s = true → st' i s = true) {A B : Int → Nat → Nat → List Dv} (hA : ∀ c u v, (A c u v).Sublist (B c u v)) (c : Int) (i k : Nat) : ∀ (j : Nat) (rs : List RuleG), (rulesL st A c i k j rs).Sublist (rulesL st' B c i k j rs)
 | j, [] => .slnil
 | j, r :: l => by
  unfold rulesL ruleL
  refine List.Sublist.append ?_ (rulesL_sub hs hA c i k (j + 1) l)
  split
  ·
   exact (kidsL_sub hs hA r.parts.xs i k).map _
  ·
   exact .slnil
theorem itemsL_append (c i k : Int) (x : ItemG) : ∀ (j : Nat) (l : List ItemG), (itemsL c i k j l).Sublist (itemsL c i k j (l ++ [x]))
 | j, [] => List.nil_sublist _
 | j, y :: l => by
  rw [List.cons_append]
  unfold itemsL
  exact (List.Sublist.refl _).append (itemsL_append c i k x (j + 1) l)
theorem derF_more (g : Gram) (items : List ItemG) (x : ItemG) : ∀ (f : Nat) (c : Int) (i k : Nat), (derF g items f c i k).Sublist (derF g (items ++ [x]) f c i k)
 | 0, _, _, _ => .slnil
 | f + 1, c, i, k => by
  unfold derF
  exact (itemsL_append _ _ _ _ _ _).append (rulesL_sub (fun i s h => by unfold wordAt at *; rw [List.any_append, h]; rfl) (fun c u v => derF_more g items x f c u v) _ _ _ _ _)
theorem firstM_sub {α : Type} {l m : List (Int × α)} (h : l.Sublist m) {x : Int × α} (hx : firstM l = some x) : ∃ y, firstM m = some y ∧ y.1 ≤ x.1 := by
 cases hy : firstM m with
 | none =>
  have := firstM_none hy
  subst this
  rw [List.sublist_nil.1 h] at hx; cases hx
 | some y => exact ⟨y, rfl, (firstM_mem hy).2 x (h.subset (firstM_mem hx).1)⟩
/-! ### another order -/
def costsL {α : Type} (l : List (Int × α)) : List Int := l.map (·.1)
def leastI : List Int → Option Int
 | [] => none
 | x :: l => match leastI l with | none => some x | some y => some (min x y)
theorem firstM_least {α : Type} : ∀ l : List (Int × α), (firstM l).map (·.1) = leastI (costsL l)
 | [] => rfl
 | x :: l => by
  have ih := firstM_least l
  rw [firstM_cons]
  unfold costsL at *
  rw [List.map_cons, leastI, ← ih]
  cases firstM l with
  | none => rfl
  | some y =>
   rw [mergeM_some]
   by_cases h : y.1 < x.1
   ·
    rw [if_pos h]; simp; omega
   ·
    rw [if_neg h]; simp; omega
theorem leastI_perm {l m : List Int} (h : l.Perm m) : leastI l = leastI m := by
 induction h with
 | nil => rfl
 | cons x h ih => rw [leastI, leastI, ih]
 | swap x y l =>
  rw [leastI, leastI, leastI, leastI]
  cases leastI l with
  | none => simp; omega
  | some z => simp; omega
 | trans _ _ h1 h2 => exact h1.trans h2
theorem costsL_prod {α β γ : Type} (f : α → β → γ) (a : List (Int × α)) (b : List (Int × β)) : costsL (prodL f a b) = (costsL a).flatMap fun x => (costsL b).map (x + ·) := by
 unfold costsL prodL
 induction a with
 | nil => rfl
 | cons x a ih =>
  rw [List.flatMap_cons, List.map_append, ih, List.map_cons, List.flatMap_cons, List.map_map, List.map_map]
  rfl
theorem flatMap_perm {α β : Type} {f g : α → List β} : ∀ {l : List α}, (∀ x ∈ l, (f x).Perm (g x)) → (l.flatMap f).Perm (l.flatMap g)
 | [], _ => .nil
 | x :: l, h => by
  rw [List.flatMap_cons, List.flatMap_cons]
  exact (h x (List.mem_cons_self ..)).append (flatMap_perm fun y hy => h y (List.mem_cons_of_mem _ hy))
theorem costsL_flatMap {α β : Type} (f : β → List (Int × α)) (l : List β) : costsL (l.flatMap f) = l.flatMap fun x => costsL (f x) := by
 unfold costsL; exact List.map_flatMap
theorem kidsL_perm {st st' : Int → ByteArray → Bool} (hs : ∀ i s, st i s = st' i s) {A B : Int → Nat → Nat → List Dv} (hA : ∀ c u v, (costsL (A c u v)).Perm (costsL (B c u v))) : ∀ (ps : List PartG) (i k : Nat), (costsL (kidsL st A ps i k)).Perm (costsL (kidsL st' B ps i k))
 | [], i, k => by unfold kidsL; exact List.Perm.refl _
 | p :: ps, i, k => by
  unfold kidsL
  rw [hs]
  split
  ·
   split
   ·
    exact kidsL_perm hs hA ps _ _
   ·
    exact List.Perm.refl _
  ·
   rw [costsL_flatMap, costsL_flatMap]
   refine flatMap_perm fun m _ => ?_
   rw [costsL_prod, costsL_prod]
   refine ((hA _ _ _).flatMap_right _).trans (flatMap_perm fun x _ => (kidsL_perm hs hA ps m k).map _)
theorem rulesL_perm {st st' : Int → ByteArray → Bool} (hs : ∀ i s, st i s = st' i s) {A B : Int → Nat → Nat → List Dv} (hA : ∀ c u v, (costsL (A c u v)).Perm (costsL (B c u v))) (c : Int) (i k : Nat) : ∀ (j : Nat) (rs : List RuleG), (costsL (rulesL st A c i k j rs)).Perm (costsL (rulesL st' B c i k j rs))
 | j, [] => List.Perm.refl _
 | j, r :: l => by
  unfold rulesL ruleL
  have h1 : ∀ a b : List Dv, costsL (a ++ b) = costsL a ++ costsL b := fun a b => List.map_append
  rw [h1, h1]
  refine List.Perm.append ?_ (rulesL_perm hs hA c i k (j + 1) l)
  split
  ·
   have h2 : ∀ (q : List Dk) (u v : Int), costsL (q.map fun x => (r.cost + x.1, TreeV.node j (-1) u v x.2)) = (costsL q).map (r.cost + ·) := fun q u v => by
    unfold costsL; rw [List.map_map, List.map_map]; rfl
   rw [h2, h2]
   exact (kidsL_perm hs hA r.parts.xs i k).map _
  ·
   exact List.Perm.refl _
def itemC (c i k : Int) (x : ItemG) : List Int := if x.cat = c ∧ x.frm = i ∧ x.unt = k then [x.cost] else []
theorem costsL_items (c i k : Int) : ∀ (j : Nat) (l : List ItemG), costsL (itemsL c i k j l) = l.flatMap (itemC c i k)
 | j, [] => rfl
 | j, x :: l => by
  unfold itemsL
  have h1 : ∀ a b : List Dv, costsL (a ++ b) = costsL a ++ costsL b := fun a b => List.map_append
  rw [h1, costsL_items, List.flatMap_cons]
  congr 1
  unfold itemC
  split <;> rfl
theorem derF_perm (g : Gram) {items items' : List ItemG} (h : items.Perm items') : ∀ (f : Nat) (c : Int) (i k : Nat), (costsL (derF g items f c i k)).Perm (costsL (derF g items' f c i k))
 | 0, _, _, _ => List.Perm.refl _
 | f + 1, c, i, k => by
  unfold derF
  have h1 : ∀ a b : List Dv, costsL (a ++ b) = costsL a ++ costsL b := fun a b => List.map_append
  rw [h1, h1, costsL_items, costsL_items]
  refine (h.flatMap_right _).append (rulesL_perm (fun i s => ?_) (fun c u v => derF_perm g h f c u v) _ _ _ _ _)
  unfold wordAt
  exact h.any_eq
/-! ### without an item -/
mutual
def usesV (n : Nat) : TreeV → Bool
 | .node r j _ _ l => (decide (r = -1) && decide (j = n)) || usesVs n l
def usesVs (n : Nat) : List TreeV → Bool
 | [] => false
 | t :: l => usesV n t || usesVs n l
end
mutual
def lessV (n : Nat) : TreeV → TreeV
 | .node r j i k l => .node r (if r = -1 ∧ (n : Int) ≤ j then j - 1 else j) i k (lessVs n l)
def lessVs (n : Nat) : List TreeV → List TreeV
 | [] => []
 | t :: l => lessV n t :: lessVs n l
end
def cutD (n : Nat) (x : Dv) : Option Dv := if usesV n x.2 then none else some (x.1, lessV n x.2)
def cutK (n : Nat) (x : Dk) : Option Dk := if usesVs n x.2 then none else some (x.1, lessVs n x.2)
theorem prodL_cut (n : Nat) (a : List Dv) (b : List Dk) : (prodL List.cons a b).filterMap (cutK n) = prodL List.cons (a.filterMap (cutD n)) (b.filterMap (cutK n)) := by
 unfold prodL
 induction a with
 | nil => rfl
 | cons x a ih =>
  rw [List.flatMap_cons, List.filterMap_append, ih, List.filterMap_cons]
  unfold cutD
  by_cases hu : usesV n x.2
  ·
   rw [if_pos hu]
   have : (b.map fun y => (x.1 + y.1, x.2 :: y.2)).filterMap (cutK n) = [] := by
    rw [List.filterMap_map]
    refine List.filterMap_eq_nil_iff.2 fun y _ => ?_
    simp [cutK, usesVs, hu]
   rw [this]; rfl
  ·
   rw [if_neg hu]
   simp only
   rw [List.flatMap_cons]
   congr 1
   rw [List.filterMap_map, List.map_filterMap]
   congr 1
   funext y
   simp only [Function.comp, cutK, usesVs, lessVs]
   by_cases hy : usesVs n y.2
   ·
    simp [hu, hy]
   ·
    simp [hu, hy]
theorem kidsL_cut {st st' : Int → ByteArray → Bool} (hs : ∀ i s, st' i s = st i s) (n : Nat) {A B : Int → Nat → Nat → List Dv} (hA : ∀ c u v, 0 ≤ c → B c u v = (A c u v).filterMap (cutD n)) : ∀ (ps : List PartG) (i k : Nat), (∀ p ∈ ps, p.text.size = 0 → 0 ≤ p.no) → kidsL st' B ps i k = (kidsL st A ps i k).filterMap (cutK n)
 | [], i, k, _ => by unfold kidsL; split <;> rfl
 | p :: ps, i, k, hc => by
  unfold kidsL
  rw [hs]
  split
  ·
   split
   ·
    exact kidsL_cut hs n hA ps _ _ fun q hq => hc q (List.mem_cons_of_mem _ hq)
   ·
    rfl
  ·
   rename_i hp
   rw [List.filterMap_flatMap]
   congr 1
   funext m
   rw [prodL_cut, hA _ _ _ (hc p (List.mem_cons_self ..) (by simpa using hp)), kidsL_cut hs n hA ps m k fun q hq => hc q (List.mem_cons_of_mem _ hq)]
theorem rulesL_cut {st st' : Int → ByteArray → Bool} (hs : ∀ i s, st' i s = st i s) (n : Nat) {A B : Int → Nat → Nat → List Dv} (hA : ∀ c u v, 0 ≤ c → B c u v = (A c u v).filterMap (cutD n)) (c : Int) (i k : Nat) : ∀ (j : Nat) (rs : List RuleG), (∀ r ∈ rs, ∀ p ∈ r.parts.xs, p.text.size = 0 → 0 ≤ p.no) → rulesL st' B c i k j rs = (rulesL st A c i k j rs).filterMap (cutD n)
 | j, [], _ => rfl
 | j, r :: l, hc => by
  unfold rulesL ruleL
  rw [List.filterMap_append, rulesL_cut hs n hA c i k (j + 1) l fun q hq => hc q (List.mem_cons_of_mem _ hq)]
  congr 1
  split
  ·
   rw [kidsL_cut hs n hA r.parts.xs i k (hc r (List.mem_cons_self ..)), List.filterMap_map, List.map_filterMap]
   congr 1
   funext y
   have e : ¬ ((j : Int) = -1) := by omega
   simp only [Function.comp, cutD, cutK, usesV, lessV, e, decide_false, Bool.false_and, Bool.false_or, false_and, if_false]
   by_cases hy : usesVs n y.2
   ·
    simp [hy]
   ·
    simp [hy]
  ·
   rfl
theorem itemsL_shift (c i k : Int) (hc : 0 ≤ c) (n : Nat) : ∀ (j : Nat) (l : List ItemG), n ≤ j → (itemsL c i k (j + 1) l).filterMap (cutD n) = itemsL c i k j l
 | j, [], _ => rfl
 | j, x :: l, h => by
  unfold itemsL
  rw [List.filterMap_append, itemsL_shift c i k hc n (j + 1) l (by omega)]
  congr 1
  split
  ·
   have e1 : ¬ ((j : Int) + 1 = n) := by omega
   have e2 : (n : Int) ≤ (j : Int) + 1 := by omega
   simp [cutD, leafT, usesV, usesVs, lessV, lessVs, e1, e2]
  ·
   rfl
theorem itemsL_cut (c i k : Int) (hc : 0 ≤ c) : ∀ (d j : Nat) (l : List ItemG), d < l.length → itemsL c i k j (l.eraseIdx d) = (itemsL c i k j l).filterMap (cutD (j + d))
 | d, j, [], h => by simp at h
 | 0, j, x :: l, _ => by
  rw [List.eraseIdx_zero, List.tail_cons]
  conv => rhs; unfold itemsL
  rw [List.filterMap_append, Nat.add_zero, itemsL_shift c i k hc j j l (Nat.le_refl _)]
  split
  ·
   simp [cutD, leafT, usesV]
  ·
   rfl
 | d + 1, j, x :: l, h => by
  rw [List.eraseIdx_cons_succ]
  unfold itemsL
  rw [List.filterMap_append, itemsL_cut c i k hc d (j + 1) l (by simpa using h)]
  rw [show j + 1 + d = j + (d + 1) by omega]
  congr 1
  split
  ·
   have e1 : ¬ ((j : Int) = ((j + (d + 1) : Nat) : Int)) := by omega
   have e2 : ¬ (((j + (d + 1) : Nat) : Int) ≤ (j : Int)) := by omega
   simp only [cutD, leafT, usesV, usesVs, lessV, lessVs, List.filterMap_cons, List.filterMap_nil, e1, e2, decide_true, decide_false, Bool.and_false, Bool.or_false, and_false, if_false, Bool.false_eq_true]
  ·
   rfl
theorem derF_cut {g : Gram} (hg : GramOk g) {items : List ItemG} {d : Nat} {x : ItemG} (hd : items[d]? = some x) (hx : x.cat ≠ -1) : ∀ (f : Nat) (c : Int) (i k : Nat), 0 ≤ c → derF g (items.eraseIdx d) f c i k = (derF g items f c i k).filterMap (cutD d)
 | 0, _, _, _, _ => rfl
 | f + 1, c, i, k, hc => by
  unfold derF
  have hl : d < items.length := (List.getElem?_eq_some_iff.1 hd).1
  rw [List.filterMap_append, itemsL_cut c i k hc d 0 items hl, Nat.zero_add]
  congr 1
  refine rulesL_cut (fun i s => ?_) d (fun c u v hc => derF_cut hg hd hx f c u v hc) c i k 0 g.rules.xs fun r hr p hp h0 => (hg.part r hr p hp h0).2
  unfold wordAt
  have e : items = items.take d ++ x :: items.drop (d + 1) := by
   have h1 := List.getElem?_eq_some_iff.1 hd
   conv => lhs; rw [← List.take_append_drop d items, List.drop_eq_getElem_cons h1.1, h1.2]
  rw [List.eraseIdx_eq_take_drop_succ]
  conv => rhs; rw [e]
  rw [List.any_append, List.any_append, List.any_cons]
  simp [hx]
theorem firstM_cut (d : Nat) : ∀ (l : List Dv) (t : Dv), firstM l = some t → usesV d t.2 = false → firstM (l.filterMap (cutD d)) = some (t.1, lessV d t.2)
 | [], t, h, _ => by cases h
 | x :: l, t, h, hu => by
  rw [firstM_cons] at h
  rw [List.filterMap_cons]
  cases hl : firstM l with
  | none =>
   rw [hl] at h
   cases h
   have := firstM_none hl
   subst this
   unfold cutD
   rw [hu]; rfl
  | some y =>
   rw [hl, mergeM_some] at h
   split at h
   ·
    rename_i hlt
    cases h
    have ih := firstM_cut d l _ hl hu
    unfold cutD at ih ⊢
    cases hux : usesV d x.2
    ·
     simp only [Bool.false_eq_true, if_false]
     rw [firstM_cons, ih, mergeM_some, if_pos hlt]
    ·
     simp only [if_true]
     exact ih
   ·
    rename_i hlt
    cases h
    unfold cutD
    rw [hu]
    simp only [Bool.false_eq_true, if_false]
    rw [firstM_cons]
    cases hf : firstM (l.filterMap fun x => if usesV d x.2 = true then none else some (x.1, lessV d x.2)) with
    | none => rfl
    | some z =>
     rw [mergeM_some, if_neg]
     obtain ⟨q, hq, hz⟩ := List.mem_filterMap.1 (firstM_mem hf).1
     have h9 := (firstM_mem hl).2 q hq
     split at hz
     ·
      cases hz
     ·
      cases hz; simp; omega
end Go.Proofs.YthojaplnimoacaaGreatDoor

/- Charts: items in another order; values written one after the other. Conditions: none; plain facts. -/
namespace Go.Proofs.YthojaplnimoacaaGreatDoor
open Go.RowKit Go.Han
set_option maxRecDepth 100000

theorem swap_perm {α : Type} (l : List α) (i k : Nat) (hi : i < l.length) (hk : k < l.length) : l.Perm ((l.set i l[k]).set k l[i]) := by
 have h := Array.swap_perm (xs := l.toArray) (i := i) (j := k) (by simpa using hi) (by simpa using hk)
 have h2 := h.toList
 rw [Array.toList_swap] at h2
 simpa using h2.symm
theorem order_plain {g : Gram} {items items' : List ItemG} {n : Int} (h0 : errC g items n = 0) (hp : items.Perm items') : errC g items' n = 0 ∧ countR g items' n = countR g items n ∧ (bestR g items' n).2 = (bestR g items n).2 := by
 have hA := errC_zero h0
 have h1 : errC g items' n = 0 := by
  unfold errC
  have e1 := hA.n1
  have e2 := hA.n16
  have e3 := hA.few
  rw [hp.length_eq] at e3
  rw [if_neg (fun hn => hn hA.check), if_neg (by omega), if_neg (by omega), if_pos (List.all_eq_true.2 fun x hx => hA.right x (hp.mem_iff.2 hx))]
 have hd := derF_perm g hp (muG g g.startNo 0 n.toNat + 1) g.startNo 0 n.toNat
 have hlen : (derG g items g.startNo 0 n.toNat).length = (derG g items' g.startNo 0 n.toNat).length := by
  have := hd.length_eq
  unfold costsL at this
  simpa [derG] using this
 have hleast : (bestC g items n).map (·.1) = (bestC g items' n).map (·.1) := by
  unfold bestC
  rw [firstM_least, firstM_least]
  exact leastI_perm hd
 refine ⟨h1, ?_, ?_⟩
 ·
  unfold countR manyC
  rw [h0, h1, hlen]
 ·
  unfold bestR
  rw [h0, h1]
  cases hb : bestC g items n <;> cases hb' : bestC g items' n <;> rw [hb, hb'] at hleast <;> simp at hleast
  all_goals simp [hleast]
def setsL : List Value → Nat → List Value → List Value
 | xs, _, [] => xs
 | xs, j, c :: cs => setsL (xs.set j c) (j + 1) cs
theorem setsL_mid : ∀ (cs a b r : List Value), b.length = cs.length → setsL (a ++ b ++ r) a.length cs = a ++ cs ++ r
 | [], a, b, r, h => by
  have : b = [] := List.eq_nil_of_length_eq_zero h
  subst this; rfl
 | c :: cs, a, [], r, h => by simp at h
 | c :: cs, a, x :: b, r, h => by
  unfold setsL
  have e : (a ++ x :: b ++ r).set a.length c = (a ++ [c]) ++ b ++ r := by simp
  rw [e]
  have := setsL_mid cs (a ++ [c]) b r (by simpa using h)
  rw [List.length_append] at this
  rw [show a.length + 1 = a.length + [c].length by rfl, this]
  simp
theorem setsL_flat {α : Type} {f : α → List Value} {s : Nat} (hf : ∀ y, (f y).length = s) (l : List α) (i : Nat) (hi : i < l.length) (z : α) : setsL (l.flatMap f) (i * s) (f z) = (l.set i z).flatMap f := by
 have hlen : ∀ k : List α, (k.flatMap f).length = k.length * s := by
  intro k
  induction k with
  | nil => simp
  | cons x k ih => rw [List.flatMap_cons, List.length_append, hf, ih, List.length_cons]; rw [Nat.add_mul]; omega
 have h1 : l.flatMap f = (l.take i).flatMap f ++ f l[i] ++ (l.drop (i + 1)).flatMap f := by
  conv => lhs; rw [← List.take_append_drop i l, List.flatMap_append, List.drop_eq_getElem_cons hi, List.flatMap_cons]
  rw [List.append_assoc]
 have h2 : (l.set i z).flatMap f = (l.take i).flatMap f ++ f z ++ (l.drop (i + 1)).flatMap f := by
  rw [List.set_eq_take_append_cons_drop, if_pos hi, List.flatMap_append, List.flatMap_cons, List.append_assoc]
 rw [h1, h2]
 have := setsL_mid (f z) ((l.take i).flatMap f) (f l[i]) ((l.drop (i + 1)).flatMap f) (by rw [hf, hf])
 rw [hlen, List.length_take, Nat.min_eq_left (Nat.le_of_lt hi)] at this
 exact this
end Go.Proofs.YthojaplnimoacaaGreatDoor

/- The examples with which the statements about charts begin, in plain Lean. -/
namespace Go.Proofs.YthojaplnimoacaaGreatDoor
open Go.RowKit Go.Han
set_option maxRecDepth 100000

def nS : ByteArray := ⟨#[115]⟩
def nNp : ByteArray := ⟨#[110, 112]⟩
def nV : ByteArray := ⟨#[118]⟩
def nUnd : ByteArray := ⟨#[117, 110, 100]⟩
def nAnd : ByteArray := ⟨#[97, 110, 100]⟩
def nG : ByteArray := ⟨#[103]⟩
def nX : ByteArray := ⟨#[120]⟩
def noS : ByteArray := ⟨#[]⟩
def plainG (A : Nat → Option Addr) : Gram := ⟨nG, ⟨A 0, 3, [nS, nNp, nV]⟩, nS, 0, ⟨none, 0, []⟩, ⟨A 1, 3, [
 ⟨nS, 0, ⟨A 2, 2, [⟨nNp, 1, noS⟩, ⟨nV, 2, noS⟩]⟩, ⟨A 3, 2, [⟨0, noS⟩, ⟨1, noS⟩]⟩, 1⟩,
 ⟨nS, 0, ⟨A 4, 1, [⟨nNp, 1, noS⟩]⟩, ⟨A 5, 1, [⟨0, noS⟩]⟩, 0⟩,
 ⟨nNp, 1, ⟨A 6, 3, [⟨nNp, 1, noS⟩, ⟨noS, 0, nUnd⟩, ⟨nNp, 1, noS⟩]⟩, ⟨A 7, 3, [⟨0, noS⟩, ⟨0, nAnd⟩, ⟨2, noS⟩]⟩, 2⟩]⟩⟩
def phraseI (a : Option Addr) (c i k : Int) : ItemG := ⟨c, i, i + 1, k, ⟨a, 1, [nX]⟩, -1⟩
def undI (a : Option Addr) (i : Int) : ItemG := ⟨-1, i, i + 1, 0, ⟨a, 1, [nUnd]⟩, -1⟩
def want29 : TreeV := .node 0 (-1) 0 2 [leafT 2 0 1, leafT 1 1 2]
def back29 : TreeV := .node 2 (-1) 2 5 [leafT 2 2 3, leafT 4 4 5]
def right29T : TreeV := .node 1 (-1) 0 5 [.node 2 (-1) 0 5 [leafT 0 0 1, back29]]
variable (A : Nat → Option Addr) (a b c d e : Option Addr)
end Go.Proofs.YthojaplnimoacaaGreatDoor
