/- Texts of this claim, one after the other: TagB, Opg5, StillIn, TakeC, TagU, TagQ, Grid. -/
import Derived.Test.YthojaplnimoacaaGreatDoorM11
import Derived.Test.YthojaplnimoacaaGreatDoorM12
import Derived.Test.YthojaplnimoacaaGreatDoorM4
import Derived.Test.YthojaplnimoacaaGreatDoorM5
import Derived.Test.YthojaplnimoacaaGreatDoorM6
import Derived.Test.YthojaplnimoacaaGreatDoorM3
import Derived.StillTail
import Derived.StillTailTactics
import Derived.StillTactics
import Derived.Deep.Draws
/- The tagger: what its iterators read; entries, unknowns. -/
namespace Go.Proofs.YthojaplnimoacaaGreatDoor
open Go.RowKit Go.Han
attribute [local irreducible] wpStill wpQuiet
attribute [local go_sem] Oper.semAt_some
set_option maxRecDepth 100000

/-- A tagger, by what it holds. -/
structure TagG where
  g : Gram
  m : Nat
  ws : StrS
/-- The same heap, in a world of w's. -/
def overW (w V : World) : World := { V with os := w.os, tape := w.tape, output := w.output }
theorem over_below {w V : World} (hs : w.heap.size ≤ V.heap.size) (hk : ∀ k, k < w.heap.size → V.heap[k]? = w.heap[k]?) : Below w.heap.size w (overW w V) := ⟨rfl, rfl, rfl, hs, hk⟩
theorem lies_over {w V : World} {s : StrS} (h : s.lies (overW w V)) : s.lies V := ⟨h.rd, h.cap, h.max, h.nil⟩
theorem liesL_over {α : Type} {f : α → List Value} {w V : World} {s : SlS α} (h : s.lies f (overW w V)) : s.lies f V := ⟨h.rd, h.cap, h.max, h.nil⟩
/-- What the iterators read, as it was in the outer world w. -/
structure TagD (w V : World) (T : TagG) : Prop where
  size : w.heap.size ≤ V.heap.size
  low : ∀ k, k < w.heap.size → V.heap[k]? = w.heap[k]?
  g : T.g.lies w
  ws : T.ws.lies w
theorem TagD.ext {w V V' : World} {T : TagG} (h : TagD w V T) (hb : Below V.heap.size V V') : TagD w V' T := ⟨Nat.le_trans h.size hb.size, fun k hk => (hb.block k (Nat.lt_of_lt_of_le hk h.size)).trans (h.low k hk), h.g, h.ws⟩
theorem TagD.wsv {w V : World} {T : TagG} (h : TagD w V T) : T.ws.lies V := lies_over (h.ws.ext (over_below h.size h.low))
theorem TagD.cats {w V : World} {T : TagG} (h : TagD w V T) : T.g.cats.lies V := lies_over (h.g.cats.ext (over_below h.size h.low))
theorem TagD.ents {w V : World} {T : TagG} (h : TagD w V T) : T.g.entries.lies EntryG.cells V := liesL_over (h.g.entries.ext (over_below h.size h.low))
theorem TagD.far {w V : World} {T : TagG} (h : TagD w V T) {s : StrS} (hs : s.lies w) : FarI w.heap.size V s := FarI.low hs h.low h.size

theorem entries_any (T : TagG) (i : Nat) (w : World) : Calls Tryz.prog 72 #[.agg #[.string T.g.name, .slice T.g.cats.addr T.g.cats.xs.length T.g.cats.cap, .string T.g.start, .int .i64 T.g.startNo, .slice T.g.entries.addr T.g.entries.xs.length T.g.entries.cap, .slice T.g.rules.addr T.g.rules.xs.length T.g.rules.cap, .map (some T.m), .slice T.ws.addr T.ws.xs.length T.ws.cap], .int .i64 i] w fun e w' =>
    e = .returned (.func (.func 121) #[] #[.pointer (some ⟨w.heap.size, 0, none⟩), .pointer (some ⟨w.heap.size + 1, 0, none⟩)]) ∧ (w.alloc (.cells #[.string T.g.name, .slice T.g.cats.addr T.g.cats.xs.length T.g.cats.cap, .string T.g.start, .int .i64 T.g.startNo, .slice T.g.entries.addr T.g.entries.xs.length T.g.entries.cap, .slice T.g.rules.addr T.g.rules.xs.length T.g.rules.cap, .map (some T.m), .slice T.ws.addr T.ws.xs.length T.ws.cap] 115)).alloc (.cells #[.int .i64 i] 3) = w' := by
  have hmf : ∀ (fn : Fn) (first cap : Array Value) (w : World), (Instr.makeFunc fn first cap).run Tryz.prog w = .ok (.func fn first cap) w := fun _ _ _ _ => rfl
  go_enter Tryz.func72, Tryz.ntmps72
  go_wp2
  go_ret
  exact ⟨rfl, rfl⟩
theorem unknowns_any (T : TagG) (i : Nat) (w : World) : Calls Tryz.prog 74 #[.agg #[.string T.g.name, .slice T.g.cats.addr T.g.cats.xs.length T.g.cats.cap, .string T.g.start, .int .i64 T.g.startNo, .slice T.g.entries.addr T.g.entries.xs.length T.g.entries.cap, .slice T.g.rules.addr T.g.rules.xs.length T.g.rules.cap, .map (some T.m), .slice T.ws.addr T.ws.xs.length T.ws.cap], .int .i64 i] w fun e w' =>
    e = .returned (.func (.func 122) #[] #[.pointer (some ⟨w.heap.size, 0, none⟩), .pointer (some ⟨w.heap.size + 1, 0, none⟩)]) ∧ (w.alloc (.cells #[.string T.g.name, .slice T.g.cats.addr T.g.cats.xs.length T.g.cats.cap, .string T.g.start, .int .i64 T.g.startNo, .slice T.g.entries.addr T.g.entries.xs.length T.g.entries.cap, .slice T.g.rules.addr T.g.rules.xs.length T.g.rules.cap, .map (some T.m), .slice T.ws.addr T.ws.xs.length T.ws.cap] 115)).alloc (.cells #[.int .i64 i] 3) = w' := by
  have hmf : ∀ (fn : Fn) (first cap : Array Value) (w : World), (Instr.makeFunc fn first cap).run Tryz.prog w = .ok (.func fn first cap) w := fun _ _ _ _ => rfl
  go_enter Tryz.func74, Tryz.ntmps74
  go_wp2
  go_ret
  exact ⟨rfl, rfl⟩
theorem term_any (T : TagG) (i many : Int) (w : World) : Calls Tryz.prog 70 #[.agg #[.string T.g.name, .slice T.g.cats.addr T.g.cats.xs.length T.g.cats.cap, .string T.g.start, .int .i64 T.g.startNo, .slice T.g.entries.addr T.g.entries.xs.length T.g.entries.cap, .slice T.g.rules.addr T.g.rules.xs.length T.g.rules.cap, .map (some T.m), .slice T.ws.addr T.ws.xs.length T.ws.cap], .int .i64 i, .int .i64 many] w fun e w' =>
    e = .returned (.func (.func 119) #[] #[.pointer (some ⟨w.heap.size + 1, 0, none⟩), .pointer (some ⟨w.heap.size + 2, 0, none⟩), .pointer (some ⟨w.heap.size, 0, none⟩)]) ∧ ((w.alloc (.cells #[.string T.g.name, .slice T.g.cats.addr T.g.cats.xs.length T.g.cats.cap, .string T.g.start, .int .i64 T.g.startNo, .slice T.g.entries.addr T.g.entries.xs.length T.g.entries.cap, .slice T.g.rules.addr T.g.rules.xs.length T.g.rules.cap, .map (some T.m), .slice T.ws.addr T.ws.xs.length T.ws.cap] 115)).alloc (.cells #[.int .i64 i] 3)).alloc (.cells #[.int .i64 many] 3) = w' := by
  have hmf : ∀ (fn : Fn) (first cap : Array Value) (w : World), (Instr.makeFunc fn first cap).run Tryz.prog w = .ok (.func fn first cap) w := fun _ _ _ _ => rfl
  go_enter Tryz.func70, Tryz.ntmps70
  go_wp2
  go_ret
  exact ⟨rfl, rfl⟩
theorem size_of_low {w V : World} (h : ∀ k, k < w.heap.size → V.heap[k]? = w.heap[k]?) : w.heap.size ≤ V.heap.size := by
  rcases Nat.lt_or_ge V.heap.size w.heap.size with hlt | hge
  · have := h _ hlt
    rw [Array.getElem?_eq_none (Nat.le_refl _), Array.getElem?_eq_getElem hlt] at this
    cases this
  · exact hge
def entriesV (es : List EntryG) (i : Nat) (s : ByteArray) : List ItemC := entriesC es i s
theorem entriesV_snoc (es : List EntryG) (i : Nat) (s : ByteArray) (k : Nat) (h : k < es.length) : entriesV (es.take (k + 1)) i s = entriesV (es.take k) i s ++ if es[k].text = s then [entryC i es[k]] else [] := by
  unfold entriesV entriesC
  rw [List.take_succ_eq_append_getElem h, List.filter_append, List.map_append]
  by_cases hp : es[k].text = s <;> simp [hp]
theorem entriesV_pre (es : List EntryG) (i : Nat) (s : ByteArray) (k : Nat) : entriesV (es.take k) i s <+: entriesV es i s := by
  refine ⟨entriesV (es.drop k) i s, ?_⟩
  unfold entriesV entriesC
  rw [← List.map_append, ← List.filter_append, List.take_append_drop]
end Go.Proofs.YthojaplnimoacaaGreatDoor

/- How grammars and items read. -/
namespace Go.Proofs.YthojaplnimoacaaGreatDoor
open Go.RowKit Go.Han Go.ChangeShapes Go.WideShapes Go.ChangeAt Go.Deep
set_option maxRecDepth 100000
section
variable {H : Type} {enc : TypeId × Value → H} {w : World} {base : Nat} {spare : Nat → Bool} {held : Bool}
theorem cells_parts : Tryz.prog.cellsOf 101 = 1 := by kernel_rfl
theorem cells_gives : Tryz.prog.cellsOf 102 = 1 := by kernel_rfl
theorem cells_entries : Tryz.prog.cellsOf 23 = 1 := by kernel_rfl
theorem cells_rules : Tryz.prog.cellsOf 24 = 1 := by kernel_rfl
/-- A slice of strings, with the sizes of its strings. -/
theorem trod_strsZ {fuel : Nat} {cs : List Value} {x : DataW H × List MemPlace} (h : DataW.trod enc Tryz.prog w 0 spare held fuel 22 cs = some x) : ∃ s : StrS, cs = [s.val] ∧ s.lies w ∧ ∀ b ∈ s.xs, b.size ≤ maxLen := by
  obtain ⟨A, cp, l, rfl, hr, hn, hm, hl, hc, hR⟩ := open_rows2 (fun b : ByteArray => [Value.string b]) 1 ⟨#[]⟩ Tryz.underlying22 (by kernel_rfl) (by decide) (fun _ => rfl) (fun b => b.size ≤ maxLen) (fun fuel cs x h => by
    obtain ⟨s, hs, _, hz⟩ := DataW.trod_string Tryz.underlying9 h
    exact ⟨s, hs, hz⟩) h
  refine ⟨⟨A, cp, l⟩, rfl, ⟨?_, hl, by unfold maxLen at hc; show cp ≤ _; omega, hn⟩, hR⟩
  show Rd w A (strs l)
  rw [strs_flat]; exact hr
theorem Part_und : ∃ fs : Array Field, Tryz.prog.underlying 150 = some (.struct fs) ∧ fs.toList.map (fun f => (f.type, f.offset)) = [(9, 0), (3, 1), (9, 2)] ∧ Tryz.prog.cellsOf 150 = 3 := ⟨_, Tryz.underlying150, by kernel_rfl, by kernel_rfl⟩
theorem trod_Part {fuel : Nat} {cs : List Value} {x : DataW H × List MemPlace} (h : DataW.trod enc Tryz.prog w 0 spare held fuel 150 cs = some x) : ∃ y : PartG, cs = y.cells ∧ y.cat.size ≤ maxLen := by
  obtain ⟨fs, hu, hf, hc⟩ := Part_und
  obtain ⟨xs, n, _, _, hlen, hxl, hat⟩ := DataW.trod_struct hu h
  rw [hc] at hlen
  have hsz : fs.size = 3 := by have := congrArg List.length hf; simpa using this
  obtain ⟨f0, e0, t0, o0⟩ := field_at hf (i := 0) rfl
  obtain ⟨f1, e1, t1, o1⟩ := field_at hf (i := 1) rfl
  obtain ⟨f2, e2, t2, o2⟩ := field_at hf (i := 2) rfl
  have h0 := hat 0 f0 e0
  have h1 := hat 1 f1 e1
  have h2 := hat 2 f2 e2
  rw [t0, o0, cells_string, List.getElem?_eq_getElem (by omega)] at h0
  rw [t1, o1, cells_int, List.getElem?_eq_getElem (by omega)] at h1
  rw [t2, o2, cells_string, List.getElem?_eq_getElem (by omega)] at h2
  obtain ⟨a0, g0, _, z0⟩ := DataW.trod_string Tryz.underlying9 h0
  obtain ⟨a1, g1, _⟩ := DataW.trod_int Tryz.underlying3 h1
  obtain ⟨a2, g2, _, z2⟩ := DataW.trod_string Tryz.underlying9 h2
  match cs, hlen with
  | [c0, c1, c2], _ =>
    simp at g0 g1 g2
    exact ⟨⟨a0, a1, a2⟩, by rw [g0, g1, g2]; rfl, z0⟩
theorem open_Parts {fuel : Nat} {cs : List Value} {x : DataW H × List MemPlace} (h : DataW.trod enc Tryz.prog w 0 spare held fuel 101 cs = some x) :
    ∃ s : SlS PartG, cs = [s.val] ∧ s.lies PartG.cells w ∧ ∀ y ∈ s.xs, y.cat.size ≤ maxLen := by
  obtain ⟨A, cp, l, rfl, hr, hn, hm, hl, hc, hR⟩ := open_rows2 PartG.cells 3 ⟨⟨#[]⟩, 0, ⟨#[]⟩⟩ Tryz.underlying101 (by kernel_rfl) (by decide) PartG.size_cells (fun y => y.cat.size ≤ maxLen) (fun _ _ _ h => trod_Part h) h
  exact ⟨⟨A, cp, l⟩, rfl, ⟨hr, hl, by unfold maxLen at hc; show cp ≤ _; omega, hn⟩, hR⟩
theorem Give_und : ∃ fs : Array Field, Tryz.prog.underlying 152 = some (.struct fs) ∧ fs.toList.map (fun f => (f.type, f.offset)) = [(3, 0), (9, 1)] ∧ Tryz.prog.cellsOf 152 = 2 := ⟨_, Tryz.underlying152, by kernel_rfl, by kernel_rfl⟩
theorem trod_Give {fuel : Nat} {cs : List Value} {x : DataW H × List MemPlace} (h : DataW.trod enc Tryz.prog w 0 spare held fuel 152 cs = some x) : ∃ y : GiveG, cs = y.cells ∧ True := by
  obtain ⟨fs, hu, hf, hc⟩ := Give_und
  obtain ⟨xs, n, _, _, hlen, hxl, hat⟩ := DataW.trod_struct hu h
  rw [hc] at hlen
  have hsz : fs.size = 2 := by have := congrArg List.length hf; simpa using this
  obtain ⟨f0, e0, t0, o0⟩ := field_at hf (i := 0) rfl
  obtain ⟨f1, e1, t1, o1⟩ := field_at hf (i := 1) rfl
  have h0 := hat 0 f0 e0
  have h1 := hat 1 f1 e1
  rw [t0, o0, cells_int, List.getElem?_eq_getElem (by omega)] at h0
  rw [t1, o1, cells_string, List.getElem?_eq_getElem (by omega)] at h1
  obtain ⟨a0, g0, _⟩ := DataW.trod_int Tryz.underlying3 h0
  obtain ⟨a1, g1, _, z1⟩ := DataW.trod_string Tryz.underlying9 h1
  match cs, hlen with
  | [c0, c1], _ =>
    simp at g0 g1
    exact ⟨⟨a0, a1⟩, by rw [g0, g1]; rfl, trivial⟩
theorem open_Gives {fuel : Nat} {cs : List Value} {x : DataW H × List MemPlace} (h : DataW.trod enc Tryz.prog w 0 spare held fuel 102 cs = some x) :
    ∃ s : SlS GiveG, cs = [s.val] ∧ s.lies GiveG.cells w ∧ ∀ y ∈ s.xs, True := by
  obtain ⟨A, cp, l, rfl, hr, hn, hm, hl, hc, hR⟩ := open_rows2 GiveG.cells 2 ⟨0, ⟨#[]⟩⟩ Tryz.underlying102 (by kernel_rfl) (by decide) GiveG.size_cells (fun y => True) (fun _ _ _ h => trod_Give h) h
  exact ⟨⟨A, cp, l⟩, rfl, ⟨hr, hl, by unfold maxLen at hc; show cp ≤ _; omega, hn⟩, hR⟩
theorem Entry_und : ∃ fs : Array Field, Tryz.prog.underlying 70 = some (.struct fs) ∧ fs.toList.map (fun f => (f.type, f.offset)) = [(9, 0), (9, 1), (3, 2), (22, 3), (3, 4)] ∧ Tryz.prog.cellsOf 70 = 5 := ⟨_, Tryz.underlying70, by kernel_rfl, by kernel_rfl⟩
theorem trod_Entry {fuel : Nat} {cs : List Value} {x : DataW H × List MemPlace} (h : DataW.trod enc Tryz.prog w 0 spare held fuel 70 cs = some x) : ∃ y : EntryG, cs = y.cells ∧ y.lies w ∧ y.cat.size ≤ maxLen := by
  obtain ⟨fs, hu, hf, hc⟩ := Entry_und
  obtain ⟨xs, n, _, _, hlen, hxl, hat⟩ := DataW.trod_struct hu h
  rw [hc] at hlen
  have hsz : fs.size = 5 := by have := congrArg List.length hf; simpa using this
  obtain ⟨f0, e0, t0, o0⟩ := field_at hf (i := 0) rfl
  obtain ⟨f1, e1, t1, o1⟩ := field_at hf (i := 1) rfl
  obtain ⟨f2, e2, t2, o2⟩ := field_at hf (i := 2) rfl
  obtain ⟨f3, e3, t3, o3⟩ := field_at hf (i := 3) rfl
  obtain ⟨f4, e4, t4, o4⟩ := field_at hf (i := 4) rfl
  have h0 := hat 0 f0 e0
  have h1 := hat 1 f1 e1
  have h2 := hat 2 f2 e2
  have h3 := hat 3 f3 e3
  have h4 := hat 4 f4 e4
  rw [t0, o0, cells_string, List.getElem?_eq_getElem (by omega)] at h0
  rw [t1, o1, cells_string, List.getElem?_eq_getElem (by omega)] at h1
  rw [t2, o2, cells_int, List.getElem?_eq_getElem (by omega)] at h2
  rw [t3, o3, cells_strs, List.getElem?_eq_getElem (by omega)] at h3
  rw [t4, o4, cells_int, List.getElem?_eq_getElem (by omega)] at h4
  obtain ⟨a0, g0, _, z0⟩ := DataW.trod_string Tryz.underlying9 h0
  obtain ⟨a1, g1, _, z1⟩ := DataW.trod_string Tryz.underlying9 h1
  obtain ⟨a2, g2, _⟩ := DataW.trod_int Tryz.underlying3 h2
  obtain ⟨a3, g3, l3, z3⟩ := trod_strsZ h3
  obtain ⟨a4, g4, _⟩ := DataW.trod_int Tryz.underlying3 h4
  match cs, hlen with
  | [c0, c1, c2, c3, c4], _ =>
    simp at g0 g1 g2 g3 g4
    exact ⟨⟨a0, a1, a2, a3, a4⟩, by rw [g0, g1, g2, g3, g4]; rfl, l3, z1⟩
theorem open_Entrys {fuel : Nat} {cs : List Value} {x : DataW H × List MemPlace} (h : DataW.trod enc Tryz.prog w 0 spare held fuel 23 cs = some x) :
    ∃ s : SlS EntryG, cs = [s.val] ∧ s.lies EntryG.cells w ∧ ∀ y ∈ s.xs, y.lies w ∧ y.cat.size ≤ maxLen := by
  obtain ⟨A, cp, l, rfl, hr, hn, hm, hl, hc, hR⟩ := open_rows2 EntryG.cells 5 ⟨⟨#[]⟩, ⟨#[]⟩, 0, ⟨none, 0, []⟩, 0⟩ Tryz.underlying23 (by kernel_rfl) (by decide) EntryG.size_cells (fun y => y.lies w ∧ y.cat.size ≤ maxLen) (fun _ _ _ h => trod_Entry h) h
  exact ⟨⟨A, cp, l⟩, rfl, ⟨hr, hl, by unfold maxLen at hc; show cp ≤ _; omega, hn⟩, hR⟩
theorem Rule_und : ∃ fs : Array Field, Tryz.prog.underlying 104 = some (.struct fs) ∧ fs.toList.map (fun f => (f.type, f.offset)) = [(9, 0), (3, 1), (101, 2), (102, 3), (3, 4)] ∧ Tryz.prog.cellsOf 104 = 5 := ⟨_, Tryz.underlying104, by kernel_rfl, by kernel_rfl⟩
theorem trod_Rule {fuel : Nat} {cs : List Value} {x : DataW H × List MemPlace} (h : DataW.trod enc Tryz.prog w 0 spare held fuel 104 cs = some x) : ∃ y : RuleG, cs = y.cells ∧ (y.lies w ∧ y.cat.size ≤ maxLen ∧ ∀ p ∈ y.parts.xs, p.cat.size ≤ maxLen) := by
  obtain ⟨fs, hu, hf, hc⟩ := Rule_und
  obtain ⟨xs, n, _, _, hlen, hxl, hat⟩ := DataW.trod_struct hu h
  rw [hc] at hlen
  have hsz : fs.size = 5 := by have := congrArg List.length hf; simpa using this
  obtain ⟨f0, e0, t0, o0⟩ := field_at hf (i := 0) rfl
  obtain ⟨f1, e1, t1, o1⟩ := field_at hf (i := 1) rfl
  obtain ⟨f2, e2, t2, o2⟩ := field_at hf (i := 2) rfl
  obtain ⟨f3, e3, t3, o3⟩ := field_at hf (i := 3) rfl
  obtain ⟨f4, e4, t4, o4⟩ := field_at hf (i := 4) rfl
  have h0 := hat 0 f0 e0
  have h1 := hat 1 f1 e1
  have h2 := hat 2 f2 e2
  have h3 := hat 3 f3 e3
  have h4 := hat 4 f4 e4
  rw [t0, o0, cells_string, List.getElem?_eq_getElem (by omega)] at h0
  rw [t1, o1, cells_int, List.getElem?_eq_getElem (by omega)] at h1
  rw [t2, o2, cells_parts, List.getElem?_eq_getElem (by omega)] at h2
  rw [t3, o3, cells_gives, List.getElem?_eq_getElem (by omega)] at h3
  rw [t4, o4, cells_int, List.getElem?_eq_getElem (by omega)] at h4
  obtain ⟨a0, g0, _, z0⟩ := DataW.trod_string Tryz.underlying9 h0
  obtain ⟨a1, g1, _⟩ := DataW.trod_int Tryz.underlying3 h1
  obtain ⟨a2, g2, l2, z2⟩ := open_Parts h2
  obtain ⟨a3, g3, l3, z3⟩ := open_Gives h3
  obtain ⟨a4, g4, _⟩ := DataW.trod_int Tryz.underlying3 h4
  match cs, hlen with
  | [c0, c1, c2, c3, c4], _ =>
    simp at g0 g1 g2 g3 g4
    exact ⟨⟨a0, a1, a2, a3, a4⟩, by rw [g0, g1, g2, g3, g4]; rfl, ⟨l2, l3⟩, z0, z2⟩
theorem open_Rules {fuel : Nat} {cs : List Value} {x : DataW H × List MemPlace} (h : DataW.trod enc Tryz.prog w 0 spare held fuel 24 cs = some x) :
    ∃ s : SlS RuleG, cs = [s.val] ∧ s.lies RuleG.cells w ∧ ∀ y ∈ s.xs, (y.lies w ∧ y.cat.size ≤ maxLen ∧ ∀ p ∈ y.parts.xs, p.cat.size ≤ maxLen) := by
  obtain ⟨A, cp, l, rfl, hr, hn, hm, hl, hc, hR⟩ := open_rows2 RuleG.cells 5 ⟨⟨#[]⟩, 0, ⟨none, 0, []⟩, ⟨none, 0, []⟩, 0⟩ Tryz.underlying24 (by kernel_rfl) (by decide) RuleG.size_cells (fun y => (y.lies w ∧ y.cat.size ≤ maxLen ∧ ∀ p ∈ y.parts.xs, p.cat.size ≤ maxLen)) (fun _ _ _ h => trod_Rule h) h
  exact ⟨⟨A, cp, l⟩, rfl, ⟨hr, hl, by unfold maxLen at hc; show cp ≤ _; omega, hn⟩, hR⟩
theorem gram_und : ∃ fs : Array Field, Tryz.prog.underlying 26 = some (.struct fs) ∧ fs.toList.map (fun f => (f.type, f.offset)) = [(9, 0), (22, 1), (9, 2), (3, 3), (23, 4), (24, 5)] ∧ Tryz.prog.cellsOf 26 = 6 := ⟨_, Tryz.underlying26, by kernel_rfl, by kernel_rfl⟩
theorem trod_gram {fuel : Nat} {cs : List Value} {x : DataW H × List MemPlace} (h : DataW.trod enc Tryz.prog w 0 spare held fuel 26 cs = some x) : ∃ y : Gram, cs = y.cells ∧ y.lies w ∧ y.short := by
  obtain ⟨fs, hu, hf, hc⟩ := gram_und
  obtain ⟨xs, n, _, _, hlen, hxl, hat⟩ := DataW.trod_struct hu h
  rw [hc] at hlen
  have hsz : fs.size = 6 := by have := congrArg List.length hf; simpa using this
  obtain ⟨f0, e0, t0, o0⟩ := field_at hf (i := 0) rfl
  obtain ⟨f1, e1, t1, o1⟩ := field_at hf (i := 1) rfl
  obtain ⟨f2, e2, t2, o2⟩ := field_at hf (i := 2) rfl
  obtain ⟨f3, e3, t3, o3⟩ := field_at hf (i := 3) rfl
  obtain ⟨f4, e4, t4, o4⟩ := field_at hf (i := 4) rfl
  obtain ⟨f5, e5, t5, o5⟩ := field_at hf (i := 5) rfl
  have h0 := hat 0 f0 e0
  have h1 := hat 1 f1 e1
  have h2 := hat 2 f2 e2
  have h3 := hat 3 f3 e3
  have h4 := hat 4 f4 e4
  have h5 := hat 5 f5 e5
  rw [t0, o0, cells_string, List.getElem?_eq_getElem (by omega)] at h0
  rw [t1, o1, cells_strs, List.getElem?_eq_getElem (by omega)] at h1
  rw [t2, o2, cells_string, List.getElem?_eq_getElem (by omega)] at h2
  rw [t3, o3, cells_int, List.getElem?_eq_getElem (by omega)] at h3
  rw [t4, o4, cells_entries, List.getElem?_eq_getElem (by omega)] at h4
  rw [t5, o5, cells_rules, List.getElem?_eq_getElem (by omega)] at h5
  obtain ⟨a0, g0, _, z0⟩ := DataW.trod_string Tryz.underlying9 h0
  obtain ⟨a1, g1, l1, z1⟩ := trod_strsZ h1
  obtain ⟨a2, g2, _, z2⟩ := DataW.trod_string Tryz.underlying9 h2
  obtain ⟨a3, g3, _⟩ := DataW.trod_int Tryz.underlying3 h3
  obtain ⟨a4, g4, l4, z4⟩ := open_Entrys h4
  obtain ⟨a5, g5, l5, z5⟩ := open_Rules h5
  match cs, hlen with
  | [c0, c1, c2, c3, c4, c5], _ =>
    simp at g0 g1 g2 g3 g4 g5
    exact ⟨⟨a0, a1, a2, a3, a4, a5⟩, by rw [g0, g1, g2, g3, g4, g5]; rfl, ⟨l1, l4, fun x hx => (z4 x hx).1, l5, fun x hx => (z5 x hx).1⟩, ⟨z1, z2, fun x hx => (z4 x hx).2, fun x hx => (z5 x hx).2.1, fun x hx => (z5 x hx).2.2⟩⟩
theorem u8_bound {t : Int} (h : (Lit.int .u8 t).wf = true) : t = (t.toNat : Int) ∧ t.toNat ≤ 255 := by
  have h1 := h
  simp only [Lit.wf, Bool.and_eq_true, decide_eq_true_eq] at h1
  have e1 : IntKind.u8.min = 0 := by decide
  have e2 : IntKind.u8.max = 255 := by decide
  rw [e1, e2] at h1
  omega
end
end Go.Proofs.YthojaplnimoacaaGreatDoor

/- Inside the wide fence: a region that only reads, up to a call at its end. Plain theorems about the machine's steps. Conditions: none. -/
namespace Go.Han
open Go.RowKit
section
variable {P : Program} {ops : Array Oper} {md : Region.Mode} {w : World}
theorem wideOf_still {o : Oper} {a : Act} {n : Nat} {K : Act → Prop} {K' : Act → World → Prop} {Q' : Exit → Act → World → Prop} (h : ∀ a, K a → K' a w) (hh : o.still P a w K) : o.wpIn Fence.wide n P a w K' Q' := by
  unfold Oper.still at hh
  unfold Oper.wpIn
  refine ⟨fun f _ => trivial, ?_⟩
  rw [show Fence.wide.round = none from rfl, Oper.semAt_none]
  generalize (execOp a.eval o).run P w = r at *
  cases r with
  | ok x w' =>
    cases x <;> simp only [Oper.stillUpon] at hh <;> simp only [Oper.uponIn]
    case enter f args =>
      obtain ⟨rfl, v, hc, hn⟩ := hh
      refine ⟨(fun h => by cases h), callsIn_wide.2 (hc.mono fun e w'' ⟨he, hw⟩ => ?_)⟩
      subst he; subst hw; exact h _ hn
    all_goals (obtain ⟨rfl, h2⟩ := hh; exact h _ h2)
  | halt x w' => simp only [Oper.stillUpon] at hh
theorem wideOf_stOp {n i : Nat} {a : Act} {K : Act → Prop} {K' : Act → World → Prop} {Q' : Exit → Act → World → Prop} (h : ∀ a, K a → K' a w) (hh : stOp P ops w i K a) : wpOpIn Fence.wide n P ops Q' i K' a w := by
  unfold stOp at hh
  unfold wpOpIn
  split
  · rename_i ho; simp only [ho] at hh; exact h _ hh
  · rename_i o ho
    simp only [ho] at hh
    split
    · rename_i hw; simp only [hw, if_true] at hh; exact wideOf_still h hh
    · rename_i hw; simp only [hw] at hh; exact ⟨fun _ _ => trivial, h _ hh⟩
theorem wideOf_head {n m g : Nat} {L : Array Bool → Act → Prop} {Q' : Exit → Act → World → Prop} (hL : ∀ listed a, L listed a → wpAnyIn Fence.wide m P md ops Q' g listed a w) :
    ∀ (f : Nat) (listed : Array Bool) (a : Act), wpAnyL P md ops w n L f listed a → wpAnyIn Fence.wide m P md ops Q' (f + g) listed a w
  | 0, listed, a, h => by rw [Nat.zero_add]; exact hL _ _ h
  | f + 1, listed, a, h => by
    rw [show f + 1 + g = (f + g) + 1 by omega]
    exact ⟨fun h0 => absurd h0 h.1, fun i hi => wideOf_stOp (fun a' h' => wideOf_head hL f _ a' h') (h.2 i hi).2⟩
theorem wideOf_seq {m : Nat} {Q' : Exit → Act → World → Prop} : ∀ (l : List Oper) (k : Nat) (listed : Array Bool) (a : Act) (w : World), (∀ j, l[j]? = ops[k + j]?) →
    Region.seqB md ops l.length k listed = true → wpListIn Fence.wide m P ops Q' l a w → wpAnyIn Fence.wide m P md ops Q' l.length listed a w
  | [], _, _, _, _, _, hB, h => ⟨by simpa [Region.seqB] using hB, h⟩
  | o :: l, k, listed, a, w, hl, hB, h => by
    have h0 : ops[k]? = some o := by simpa using (hl 0).symm
    simp only [List.length_cons, Region.seqB, Bool.and_eq_true, decide_eq_true_eq] at hB
    refine ⟨fun h1 => (by rw [hB.1] at h1; cases h1), fun i hi => ?_⟩
    rw [hB.1] at hi
    have hik : i = k := by simpa using hi
    subst hik
    have hw : wpOpIn Fence.wide m P ops Q' i (wpListIn Fence.wide m P ops Q' l) a w := by unfold wpOpIn; simp only [h0]; exact h
    exact wpOpIn_mono (fun a' w' h' => wideOf_seq l (i + 1) _ a' w' (fun j => by have := hl (j + 1); simpa [Nat.add_assoc, Nat.add_comm 1 j] using this) hB.2 h') hw
theorem wpIn_still_tail {id m : Nat} {Q : Exit → Act → World → Prop} {a : Act} {w : World} {l : List Oper} (n : Nat) (hm : P.follows .mixedOrders = true) (hB : Region.lexTailB .any l.toArray n = true)
    (h : wpStill P l.toArray w.drew (fun a' => wpListIn Fence.wide m P l.toArray Q (l.drop n) a' w.drew) (l.take n) a) : (Code.region id l.toArray true).wpIn Fence.wide m P Q a w := by
  simp only [Region.lexTailB, Bool.and_eq_true, decide_eq_true_eq] at hB
  obtain ⟨⟨⟨⟨hsel, hn⟩, hs⟩, hc⟩, hlex⟩ := hB
  have hn' : n < l.length := by simpa using hn
  have htl : (l.take n).length = n := by simp; omega
  have hdl : (l.drop n).length = l.toArray.size - n := by simp
  have inv0 : HeadInv .any l.toArray n (Array.replicate l.toArray.size false) :=
    ⟨by simp, fun j oj _ hl => (by rw [getD_replicate_false] at hl; cases hl), fun t _ ht => getD_in (by simpa using ht) (getD_replicate_false _ _)⟩
  have H := wpAnyL_lex (md := .any) (g := l.toArray.size - n) hsel hs hc hn (l.take n) 0 _ a (fun j hj => by
    have hj' : j < n := by rw [htl] at hj; exact hj
    simp [hj']) (by simpa using htl) inv0 (by rw [htl]; exact hlex) h
  refine wpIn_region_any hm ?_
  have := wideOf_head (m := m) (Q' := Q) (g := l.toArray.size - n) (fun listed a' hL => by
    have := wideOf_seq (m := m) (md := .any) (Q' := Q) (l.drop n) n listed a' w.drew (fun j => by simp [List.getElem?_drop]) (by rw [hdl]; exact hL.1) hL.2
    rwa [hdl] at this) _ _ _ H
  rw [htl, show n + (l.toArray.size - n) = l.toArray.size by omega] at this
  exact this
/-- All orders meet: the frame is one, of the world Phi holds. -/
theorem wpIn_meetP {F : Fence} {n : Nat} {c : Code} {Q : Exit → Act → World → Prop} {a aF : Act} {Phi : World → Prop} (h : c.wpIn F n P (Exit.then (fun a' v => a' = aF ∧ Phi v) (fun _ _ _ => False)) a w) (k : ∀ v, Phi v → Q .normal aF v) : c.wpIn F n P Q a w :=
  wpIn_mono h (fun e a' v hh => by
    cases e with
    | normal => obtain ⟨h2, h3⟩ := hh; subst h2; exact k v h3
    | _ => exact hh.elim)
end
end Go.Han

/- Inside the wide fence: the orders of a drawn region, with a class of worlds that no operation leaves: what reads the same in all of them may be taken first. Plain theorems about the machine's steps. Conditions: none. -/
namespace Go.Han
open Go.RowKit
section
variable {P : Program} {ops : Array Oper} {C : World → Prop} {Q : Exit → Act → World → Prop} {m : Nat}
/-- Whatever order is picked, all worlds on the way being of the class. -/
def wpAnyC (m : Nat) (P : Program) (ops : Array Oper) (C : World → Prop) (Q : Exit → Act → World → Prop) : Nat → Array Bool → Act → World → Prop
  | 0, listed, a, w => C w ∧ Region.ready .any ops listed = [] ∧ Q .normal a w
  | f + 1, listed, a, w => C w ∧ (Region.ready .any ops listed = [] → Q .normal a w) ∧ ∀ i ∈ Region.ready .any ops listed, wpOpIn Fence.wide m P ops Q i (wpAnyC m P ops C Q f (listed.setIfInBounds i true)) a w
theorem wpAnyC.any : ∀ {f : Nat} {listed : Array Bool} {a : Act} {w : World}, wpAnyC m P ops C Q f listed a w → wpAnyIn Fence.wide m P .any ops Q f listed a w
  | 0, _, _, _, h => h.2
  | _ + 1, _, _, _, h => ⟨h.2.1, fun i hi => wpOpIn_mono (fun _ _ h' => h'.any) (h.2.2 i hi)⟩
/-- The operation reads the same in all worlds of the class. -/
def SameC (P : Program) (ops : Array Oper) (C : World → Prop) (o : Oper) (v : Value) (a : Act) : Prop :=
  (Region.wanted o (yielded ops a.tmps) = true ∧ ∀ w, C w → (execOp a.eval o).run P w = .ok (.value v) w) ∨ (Region.wanted o (yielded ops a.tmps) = false ∧ v = undef)
theorem SameC.step {i : Nat} {o : Oper} {v : Value} {a : Act} {w : World} {K : Act → World → Prop} (hi : ops[i]? = some o) (hy : SameC P ops C o v a) (hC : C w) (h : K (a.put o.dst v) w) : wpOpIn Fence.wide m P ops Q i K a w := by
  unfold wpOpIn
  rw [hi]
  show if _ then _ else _
  rcases hy with ⟨hw, hv⟩ | ⟨hw, rfl⟩
  · rw [if_pos hw]
    refine ⟨fun _ _ => trivial, ?_⟩
    rw [show Fence.wide.round = none from rfl, Oper.semAt_none, hv w hC]
    exact h
  · rw [if_neg (by rw [hw]; decide)]
    exact ⟨fun _ _ => trivial, h⟩
/-- Two operations that are apart: the one first, then the other. -/
theorem SameC.swap {j : Nat} {oi oj : Oper} {v : Value} {K : Act → World → Prop} {a : Act} {w : World} (hj : ops[j]? = some oj) (hap : oi.apart ops oj = true)
    (hsi : ∀ cs b, oi.op ≠ .select cs b) (hsj : ∀ cs b, oj.op ≠ .select cs b) (hQ : ∀ c a w, Q (.panic c) (a.put oi.dst v) w → Q (.panic c) a w)
    (hy : SameC P ops C oi v a) (h : wpOpIn Fence.wide m P ops Q j K (a.put oi.dst v) w) :
    wpOpIn Fence.wide m P ops Q j (fun a' w' => SameC P ops C oi v a' ∧ K (a'.put oi.dst v) w') a w := by
  obtain ⟨p1, p2, p3⟩ := Oper.apart_spec hap
  have kp : ∀ {b : Act}, SameC P ops C oi v b → ∀ u, SameC P ops C oi v (b.put oj.dst u) := fun {b} hb u => by
    unfold SameC
    rw [execOp_put oi hsi b oj.dst u p3, wanted_put oi b oj.dst u p3]
    exact hb
  have pc : ∀ (b : Act) u, (b.put oj.dst u).put oi.dst v = (b.put oi.dst v).put oj.dst u := fun b u => (Act.put_comm b v u p2).symm
  unfold wpOpIn at h ⊢
  rw [hj] at h ⊢
  replace h : if _ then _ else _ := h
  show if _ then _ else _
  rw [wanted_put oj a oi.dst v p1] at h
  by_cases hw : Region.wanted oj (yielded ops a.tmps) = true
  · rw [if_pos hw] at h ⊢
    refine ⟨fun _ _ => trivial, ?_⟩
    have h2 := h.2
    rw [show Fence.wide.round = none from rfl, Oper.semAt_none, execOp_put oj hsj a oi.dst v p1] at h2
    rw [show Fence.wide.round = none from rfl, Oper.semAt_none]
    revert h2
    generalize (execOp a.eval oj).run P w = r
    intro h2
    match r, h2 with
    | .ok (.value u) w', h2 => exact ⟨kp hy u, (pc a u) ▸ h2⟩
    | .ok .skip w', h2 => exact ⟨kp hy _, (pc a undef) ▸ h2⟩
    | .ok (.defer d) w', h2 =>
      refine ⟨kp (b := { a with defers := d :: a.defers }) hy _, ?_⟩
      rw [pc, ← Act.put_defers]
      exact h2
    | .ok (.enter f args) w', h2 =>
      refine ⟨h2.1, CallsIn.mono h2.2 fun e w'' he => ?_⟩
      match e, he with
      | .returned u, he => exact ⟨kp hy u, (pc a u) ▸ he⟩
      | .panicked c, he => exact hQ _ _ _ he
      | .outgrown, he => exact he
    | .ok (.row row args) w', h2 => exact ⟨h2.1, RowsIn.mono h2.2 fun u w'' he => ⟨kp hy u, (pc a u) ▸ he⟩⟩
    | .ok (.round l f tmps assign body) w', h2 =>
      refine ⟨h2.1, RoundIn.mono h2.2 fun e w'' he => ?_⟩
      match e, he with
      | .returned u, he => exact ⟨kp hy u, (pc a u) ▸ he⟩
      | .panicked c, he => exact hQ _ _ _ he
      | .outgrown, he => exact he
    | .halt (.panic u) w', h2 => exact hQ _ _ _ h2
  · rw [if_neg hw] at h ⊢
    exact ⟨fun _ _ => trivial, kp hy _, (pc a undef) ▸ h.2⟩
theorem unlisted_ready {listed : Array Bool} {i : Nat} (h : i ∈ Region.ready .any ops listed) : listed.getD i false = false := by
  have h0 := (mem_ready.1 h).1
  exact getD_both h0
theorem wpAnyC_first {i : Nat} {oi : Oper} {v : Value} (hi : ops[i]? = some oi) (hsel : ∀ (j : Nat) (o : Oper) cs b, ops[j]? = some o → o.op ≠ .select cs b) (hQ : ∀ c a w, Q (.panic c) (a.put oi.dst v) w → Q (.panic c) a w) :
    ∀ (f : Nat) (listed : Array Bool) (a : Act) (w : World),
      (∀ j oj, ops[j]? = some oj → j ≠ i → listed.getD j true = false → (∀ e ∈ oj.after, Region.binds .any e = true → e.on ≠ i) → oi.apart ops oj = true) →
      i ∈ Region.ready .any ops listed → SameC P ops C oi v a → wpAnyC m P ops C Q f (listed.setIfInBounds i true) (a.put oi.dst v) w → wpAnyC m P ops C Q (f + 1) listed a w
  | 0, listed, a, w, _, hr, hy, H => by
    refine ⟨H.1, fun h => absurd hr (by rw [h]; simp), fun j hj => ?_⟩
    by_cases e : j = i
    · rw [e]; exact hy.step hi H.1 H
    · have := ready_mono hj e
      rw [H.2.1] at this
      cases this
  | f + 1, listed, a, w, hfree, hr, hy, H => by
    refine ⟨H.1, fun h => absurd hr (by rw [h]; simp), fun j hj => ?_⟩
    by_cases e : j = i
    · rw [e]; exact hy.step hi H.1 H
    · obtain ⟨hun, oj, hoj, hall⟩ := mem_ready.1 hj
      have hno : ∀ x ∈ oj.after, Region.binds .any x = true → x.on ≠ i := fun x hx hb he => by
        have h1 := hall x hx hb
        rw [he, unlisted_ready hr] at h1
        cases h1
      have h2 := SameC.swap hoj (hfree j oj hoj e hun hno) (fun cs b => hsel i oi cs b hi) (fun cs b => hsel j oj cs b hoj) hQ hy (H.2.2 j (ready_mono hj e))
      refine wpOpIn_mono (fun a' w' h3 => wpAnyC_first hi hsel hQ f (listed.setIfInBounds j true) a' w' (fun k ok hk hki hunk hnok => ?_) (ready_mono hr (Ne.symm e)) h3.1 ?_) h2
      · refine hfree k ok hk hki ?_ hnok
        by_cases hjk : j = k
        · rw [← hjk]; exact hun
        · rw [getD_set_ne true hjk] at hunk; exact hunk
      · rw [Array.setIfInBounds_comm _ _ e]
        exact h3.2
theorem wpAnyC_take {i : Nat} {oi : Oper} {v : Value} {f : Nat} {listed : Array Bool} {a : Act} {w : World} (hi : ops[i]? = some oi) (hs : Region.noSelect ops = true) (hf : Region.free .any ops listed i = true)
    (hr : (Region.ready .any ops listed).contains i = true) (hQ : ∀ c a w, Q (.panic c) (a.put oi.dst v) w → Q (.panic c) a w) (hw : Region.wanted oi (yielded ops a.tmps) = true) (hy : ∀ w, C w → (execOp a.eval oi).run P w = .ok (.value v) w)
    (h : wpAnyC m P ops C Q f (listed.setIfInBounds i true) (a.put oi.dst v) w) : wpAnyC m P ops C Q (f + 1) listed a w :=
  wpAnyC_first hi (Region.noSelect_spec hs) hQ f listed a w (Region.free_spec hi hf) (by simpa using hr) (.inl ⟨hw, hy⟩) h
def AllC (m : Nat) (P : Program) (ops : Array Oper) (C : World → Prop) (Q : Exit → Act → World → Prop) (f : Nat) (listed : Array Bool) (a : Act) (w : World) (rs : List Nat) : Prop :=
  ∀ i ∈ rs, wpOpIn Fence.wide m P ops Q i (wpAnyC m P ops C Q f (listed.setIfInBounds i true)) a w
theorem AllC.nil {f : Nat} {listed : Array Bool} {a : Act} {w : World} : AllC m P ops C Q f listed a w [] := fun _ h => by cases h
theorem AllC.cons {f : Nat} {listed : Array Bool} {a : Act} {w : World} {i : Nat} {o : Oper} {rs : List Nat} (ho : ops[i]? = some o)
    (h : ∀ K' : Act → World → Prop, (∀ a w, wpAnyC m P ops C Q f (listed.setIfInBounds i true) a w → K' a w) → if Region.wanted o (yielded ops a.tmps) = true then Oper.wpIn Fence.wide m P o a w K' Q else (∀ f, o.about P w a.eval = some f → Fence.wide.fn f) ∧ K' (a.put o.dst undef) w)
    (hs : AllC m P ops C Q f listed a w rs) : AllC m P ops C Q f listed a w (i :: rs) := fun j hj => by
  rcases List.mem_cons.1 hj with rfl | hj
  · exact wpOpIn_step ho h
  · exact hs j hj
theorem wpAnyC_ready {rs : List Nat} {f : Nat} {listed : Array Bool} {a : Act} {w : World} (hC : C w) (hr : Region.ready .any ops listed = rs) (hne : rs ≠ []) (h : AllC m P ops C Q f listed a w rs) : wpAnyC m P ops C Q (f + 1) listed a w :=
  ⟨hC, fun h0 => absurd (hr ▸ h0) hne, hr ▸ h⟩
theorem wpAnyC_done {listed : Array Bool} {a : Act} {w : World} (hC : C w) (hr : Region.ready .any ops listed = []) (h : Q .normal a w) : ∀ f, wpAnyC m P ops C Q f listed a w
  | 0 => ⟨hC, hr, h⟩
  | _ + 1 => ⟨hC, fun _ => h, by rw [hr]; simp⟩
theorem wpIn_region_cls {id : Nat} {a : Act} {w : World} (C : World → Prop) (hm : P.follows .mixedOrders = true) (h : wpAnyC m P ops C Q ops.size (Array.replicate ops.size false) a w.drew) : (Code.region id ops true).wpIn Fence.wide m P Q a w :=
  wpIn_region_any hm h.any
/-- All orders meet, but for one thing that is open. -/
theorem wpIn_meetX {β : Type} {F : Fence} {n : Nat} {c : Code} {a : Act} {w : World} (Fr : β → Act) (Phi : β → World → Prop) (h : c.wpIn F n P (Exit.then (fun a' v => ∃ u, a' = Fr u ∧ Phi u v) (fun _ _ _ => False)) a w) (k : ∀ u v, Phi u v → Q .normal (Fr u) v) : c.wpIn F n P Q a w :=
  wpIn_mono h (fun e a' v hh => by
    cases e with
    | normal => obtain ⟨u, h2, h3⟩ := hh; subst h2; exact k u v h3
    | _ => exact hh.elim)
end
end Go.Han

/- The tagger: the items of a word that nothing knows. -/
namespace Go.Proofs.YthojaplnimoacaaGreatDoor
open Go.RowKit Go.Han
attribute [local irreducible] wpStill wpQuiet
attribute [local go_sem] Oper.semAt_some
set_option maxRecDepth 100000


theorem unkC_succ (n i : Nat) (s : ByteArray) : unkC (n + 1) i s = unkC n i s ++ [⟨(n : Int), i, i + 1, 100, [s], -1⟩] := by unfold unkC; rw [List.range_succ, List.map_append]; rfl
theorem unkC_pre (m n i : Nat) (s : ByteArray) (h : m ≤ n) : unkC m i s <+: unkC n i s := by
  obtain ⟨d, rfl⟩ := Nat.le.dest h
  induction d with
  | zero => exact List.prefix_refl _
  | succ d ih => exact (ih (by omega)).trans ⟨_, (unkC_succ (m + d) i s).symm⟩
theorem far_new {B : Nat} {V V' : World} {s : ByteArray} (hb : Below (V.heap.size + 1) (V.alloc (.cells #[.string s] 9)) V') : FarI B V' ⟨some ⟨V.heap.size, 0, none⟩, 1, [s]⟩ := by
  have h1 : (V.alloc (.cells #[.string s] 9)).heap[V.heap.size]? = some (.cells #[.string s] 9 (0, 0)) := World.alloc_heap_new _ _
  have h2 := (hb.block _ (by omega)).trans h1
  refine ⟨⟨.inr ⟨V.heap.size, 0, rfl, lt_block h2, fun j u hu => ?_⟩, by simp, by simp, by simp⟩, .inr fun p hp => ?_⟩
  · cases j with
    | zero =>
      simp [strs] at hu
      subst hu
      exact gblk h2 0
    | succ j => simp [strs] at hu
  · cases hp
    exact .inr ⟨_, h2⟩
set_option maxHeartbeats 2000000 in
theorem unknowns1 (w w0 : World) (T : TagG) (i b bi : Nat) (s : ByteArray) (R : Nat → Prop) (hi : T.ws.xs[i]? = some s) (hD : TagD w w0 T)
    (hRl : ∀ k, k < w.heap.size → R k) (hRb : R b) (hRi : R bi) (hb0 : w0.heap[b]? = some (.cells #[.string T.g.name, .slice T.g.cats.addr T.g.cats.xs.length T.g.cats.cap, .string T.g.start, .int .i64 T.g.startNo, .slice T.g.entries.addr T.g.entries.xs.length T.g.entries.cap, .slice T.g.rules.addr T.g.rules.xs.length T.g.rules.cap, .map (some T.m), .slice T.ws.addr T.ws.xs.length T.ws.cap] 115 (0, 0))) (hi0 : w0.heap[bi]? = some (.cells #[.int .i64 i] 3 (0, 0))) :
    IterX Tryz.prog 122 #[.pointer (some ⟨b, 0, none⟩), .pointer (some ⟨bi, 0, none⟩)] (EncI w.heap.size) R (unkC T.g.cats.xs.length i s) w0 := by
  intro l' J W hJR hJB hY h0
  refine (callsIn_wide (n := 0)).1 ?_
  refine callsIn_of_wp Tryz.func122 rfl trivial ?_
  simp only [Tryz.ntmps122, List.size_toArray, List.length_cons, List.length_nil, Nat.reduceAdd, Nat.reduceSub, Array.replicate_succ, Array.replicate_zero, List.push_toArray, List.append_toArray, List.nil_append, List.cons_append]
  have HK : Hid (∀ q V, J q V → V.heap[b]? = some (.cells #[.string T.g.name, .slice T.g.cats.addr T.g.cats.xs.length T.g.cats.cap, .string T.g.start, .int .i64 T.g.startNo, .slice T.g.entries.addr T.g.entries.xs.length T.g.entries.cap, .slice T.g.rules.addr T.g.rules.xs.length T.g.rules.cap, .map (some T.m), .slice T.ws.addr T.ws.xs.length T.ws.cap] 115 (0, 0)) ∧ V.heap[bi]? = some (.cells #[.int .i64 i] 3 (0, 0)) ∧ TagD w V T) := fun q V h =>
    have hl : ∀ k, k < w.heap.size → V.heap[k]? = w.heap[k]? := fun k hk => (hJR q V h k (hRl k hk)).trans (hD.low k hk)
    ⟨(hJR q V h b hRb).trans hb0, (hJR q V h bi hRi).trans hi0, size_of_low hl, hl, hD.g, hD.ws⟩
  have HY := Lib.hid hY
  have HJ := Lib.hid hJB
  obtain ⟨hkb, hki, hkD⟩ := HK.out [] W h0
  have c1 := gblk hkb 1
  have hil : i < T.ws.xs.length := (List.getElem?_eq_some_iff.1 hi).1
  have hsi : T.ws.xs[i] = s := (List.getElem?_eq_some_iff.1 hi).2
  have hm : T.g.cats.xs.length ≤ 9223372036854775807 := Nat.le_trans hD.g.cats.cap hD.g.cats.max
  have him : i < 9223372036854775807 := Nat.lt_of_lt_of_le hil (Nat.le_trans hD.ws.cap hD.ws.max)
  have Hsi := Lib.hid hsi
  clear hY hJB hJR hb0 hi0 hkb hki hkD hRl hRb hRi hD hsi hi
  gi_wp2
  clear c1
  gi_loopw [9] (fun iv wr => ∃ k : Nat, k ≤ T.g.cats.xs.length ∧ iv = .int .i64 k ∧ J (unkC k i s) wr) (fun iv _ => T.g.cats.xs.length - (intOf iv).toNat)
  case atStart => exact ⟨0, Nat.zero_le _, rfl, h0⟩
  case round =>
    obtain ⟨k, hk, rfl, hj⟩ := hrel
    by_cases hlt : k < T.g.cats.xs.length
    · obtain ⟨hkb, hki, hD⟩ := HK.out _ wr hj
      have hi4 := cell_one hki
      have t7 := gblk hkb 7
      obtain ⟨b2, off2, hA2, hb2, hc2⟩ := StrS.at_ hD.wsv (k := i) hil
      have q0 := hc2 i hil
      rw [Hsi.out] at q0
      rw [hA2] at t7
      have HN := Lib.hid (unkC_succ k i s)
      have hpf := unkC_pre (k + 1) T.g.cats.xs.length i s (by omega)
      obtain ⟨fn, tmps, assign, body, hYY⟩ := HY.out _ ⟨(k : Int), i, i + 1, 100, [s], -1⟩ #[.agg #[.int .i64 (k : Int), .int .i64 (i : Int), .int .i64 ((i : Int) + 1), .int .i64 100, .slice (some ⟨wr.heap.size, 0, none⟩) 1 1, .int .i64 (-1)]] wr hj (by rw [← HN.out]; exact hpf)
      have hbd : Below wr.heap.size wr (wr.alloc (.cells #[.string s] 9)).drew := ext_drew (ext_alloc (Below.refl _ _) _)
      have hEnc : EncI w.heap.size ⟨(k : Int), i, i + 1, 100, [s], -1⟩ #[.agg #[.int .i64 (k : Int), .int .i64 (i : Int), .int .i64 ((i : Int) + 1), .int .i64 100, .slice (some ⟨wr.heap.size, 0, none⟩) 1 1, .int .i64 (-1)]] (wr.alloc (.cells #[.string s] 9)).drew :=
        ⟨⟨(k : Int), i, i + 1, 100, ⟨some ⟨wr.heap.size, 0, none⟩, 1, [s]⟩, -1⟩, rfl, rfl, far_new (V := wr) ⟨rfl, rfl, rfl, Nat.le_refl _, fun _ _ => rfl⟩⟩
      obtain ⟨hyy, hRd⟩ := hYY _ hbd hEnc
      have HC0 : Hid (∀ V, Below wr.heap.size wr V ∨ (∃ q, J q V) → V.cell? ⟨bi, 0, none⟩ = some (.int .i64 i) ∧ V.cell? ⟨b, 7, none⟩ = some (.slice (some ⟨b2, off2, none⟩) T.ws.xs.length T.ws.cap) ∧ V.cell? ⟨b2, off2 + i, none⟩ = some (.string s)) := by
        have key : ∀ V, V.heap[b]? = some (.cells #[.string T.g.name, .slice T.g.cats.addr T.g.cats.xs.length T.g.cats.cap, .string T.g.start, .int .i64 T.g.startNo, .slice T.g.entries.addr T.g.entries.xs.length T.g.entries.cap, .slice T.g.rules.addr T.g.rules.xs.length T.g.rules.cap, .map (some T.m), .slice T.ws.addr T.ws.xs.length T.ws.cap] 115 (0, 0)) → V.heap[bi]? = some (.cells #[.int .i64 i] 3 (0, 0)) → TagD w V T → V.cell? ⟨bi, 0, none⟩ = some (.int .i64 i) ∧ V.cell? ⟨b, 7, none⟩ = some (.slice (some ⟨b2, off2, none⟩) T.ws.xs.length T.ws.cap) ∧ V.cell? ⟨b2, off2 + i, none⟩ = some (.string s) := fun V h1 h2 h3 => by
          obtain ⟨b3, off3, hA3, _, hc3⟩ := StrS.at_ h3.wsv (k := i) hil
          rw [hA2] at hA3
          cases hA3
          have z3 := hc3 i hil
          rw [Hsi.out] at z3
          have z7 := gblk h1 7
          rw [hA2] at z7
          exact ⟨cell_one h2, z7, z3⟩
        rintro V (hV | ⟨q, hV⟩)
        · exact key V ((hV.block _ (lt_block hkb)).trans hkb) ((hV.block _ (lt_block hki)).trans hki) (hD.ext hV)
        · obtain ⟨k1, k2, k3⟩ := HK.out q V hV
          exact key V k1 k2 k3
      have hwr : IntKind.i64.wrap ((i : Int) + 1) = (i : Int) + 1 := IntWalk.i64_in _ (by omega)
      have HRd := Lib.hid hRd
      have l1 := lt_block hki
      have l2 : bi ≠ wr.heap.size := Nat.ne_of_lt l1
      have l3 := lt_block hkb
      have l4 : b ≠ wr.heap.size := Nat.ne_of_lt l3
      have l5 : b2 ≠ wr.heap.size := Nat.ne_of_lt hb2
      clear hkb hki hD hc2 hj hpf hYY hRd hEnc
      gi_wp2_with fail
      have HC : Hid (∀ V, Below wr.heap.size wr V ∨ (∃ q, J q V) → V.cell? ⟨bi, 0, none⟩ = some (.int .i64 i) ∧ V.cell? ⟨b, 7, none⟩ = some (.slice (some ⟨b2, off2, none⟩) T.ws.xs.length T.ws.cap) ∧ V.cell? ⟨b2, off2 + i, none⟩ = some (.string s)) := HC0
      apply wpIn_meetP (Phi := fun V => Hid (J (unkC k i s ++ [⟨(k : Int), i, i + 1, 100, [s], -1⟩]) V))
      · refine wpIn_region_cls (fun V => Below wr.heap.size wr V ∨ (∃ q, J q V)) (by kernel_rfl) ?_
        refine wpAnyC_take (i := 0) rfl (by kernel_rfl) (by kernel_rfl) (by kernel_rfl) (fun _ _ _ h => h) (by rfl) (fun V hV => (by obtain ⟨r1, r2, r3⟩ := HC.out V hV; go_simp <;> rfl)) ?_
        refine wpAnyC_take (i := 1) rfl (by kernel_rfl) (by kernel_rfl) (by kernel_rfl) (fun _ _ _ h => h) (by rfl) (fun V hV => (by obtain ⟨r1, r2, r3⟩ := HC.out V hV; go_simp <;> rfl)) ?_
        refine wpAnyC_take (i := 2) rfl (by kernel_rfl) (by kernel_rfl) (by kernel_rfl) (fun _ _ _ h => h) (by rfl) (fun V hV => (by obtain ⟨r1, r2, r3⟩ := HC.out V hV; go_simp <;> rfl)) ?_
        refine wpAnyC_take (i := 3) rfl (by kernel_rfl) (by kernel_rfl) (by kernel_rfl) (fun _ _ _ h => h) (by rfl) (fun V hV => (by obtain ⟨r1, r2, r3⟩ := HC.out V hV; go_simp <;> rfl)) ?_
        refine wpAnyC_take (i := 4) rfl (by kernel_rfl) (by kernel_rfl) (by kernel_rfl) (fun _ _ _ h => h) (by rfl) (fun V hV => (by obtain ⟨r1, r2, r3⟩ := HC.out V hV; go_simp <;> rfl)) ?_
        refine wpAnyC_take (i := 5) rfl (by kernel_rfl) (by kernel_rfl) (by kernel_rfl) (fun _ _ _ h => h) (by rfl) (fun V hV => (by obtain ⟨r1, r2, r3⟩ := HC.out V hV; go_simp <;> rfl)) ?_
        refine wpAnyC_take (i := 6) rfl (by kernel_rfl) (by kernel_rfl) (by kernel_rfl) (fun _ _ _ h => h) (by rfl) (fun V hV => (by obtain ⟨r1, r2, r3⟩ := HC.out V hV; go_simp <;> rfl)) ?_
        refine wpAnyC_take (i := 7) rfl (by kernel_rfl) (by kernel_rfl) (by kernel_rfl) (fun _ _ _ h => h) (by rfl) (fun V hV => (by obtain ⟨r1, r2, r3⟩ := HC.out V hV; go_simp <;> rfl)) ?_
        refine wpAnyC_take (i := 8) rfl (by kernel_rfl) (by kernel_rfl) (by kernel_rfl) (fun _ _ _ h => h) (by rfl) (fun V hV => (by obtain ⟨r1, r2, r3⟩ := HC.out V hV; go_simp <;> rfl)) ?_
        refine wpAnyC_take (i := 9) rfl (by kernel_rfl) (by kernel_rfl) (by kernel_rfl) (fun _ _ _ h => h) (by rfl) (fun V hV => (by obtain ⟨r1, r2, r3⟩ := HC.out V hV; go_simp <;> rfl)) ?_
        refine wpAnyC_ready (rs := [10]) (.inl (ext_drew (Below.refl _ _))) (by kernel_rfl) (by simp) (AllC.cons rfl (fun K hK => ?_) AllC.nil)
        go_simp
        refine hK _ _ ?_
        clear hK K
        refine wpAnyC_take (i := 11) rfl (by kernel_rfl) (by kernel_rfl) (by kernel_rfl) (fun _ _ _ h => h) (by rfl) (fun V hV => (by obtain ⟨r1, r2, r3⟩ := HC.out V hV; go_simp <;> rfl)) ?_
        refine wpAnyC_ready (rs := [12]) (.inl hbd) (by kernel_rfl) (by simp) (AllC.cons rfl (fun K hK => ?_) AllC.nil)
        go_simp
        refine ⟨rfl, HRd.out.mono ?_⟩
        rintro e w9 ⟨rfl, hj9⟩
        refine hK _ _ ?_
        clear hK K
        have Hj9 := Lib.hid hj9
        refine wpAnyC_take (i := 13) rfl (by kernel_rfl) (by kernel_rfl) (by kernel_rfl) (fun _ _ _ h => h) (by rfl) (fun V hV => (by obtain ⟨r1, r2, r3⟩ := HC.out V hV; go_simp <;> rfl)) ?_
        exact wpAnyC_done (.inr ⟨_, hj9⟩) (by kernel_rfl) ⟨rfl, Hj9⟩ _
      intro w9 Hj9
      clear hwr t7 hi4 q0 l1 l2 l3 l4 l5
      gi_wp2
      go_roundw
      case rel => exact ⟨k + 1, by omega, by go_num, by rw [HN.out]; exact Hj9.out⟩
      case measure => simp [intOf]; omega
    · gi_wp2
      go_end0
      have : k = T.g.cats.xs.length := by omega
      subst this
      exact ⟨⟨_, rfl⟩, hj⟩
end Go.Proofs.YthojaplnimoacaaGreatDoor

/- The items of the first words; items of one term; a term that is added. Conditions: none; plain facts. -/
namespace Go.Proofs.YthojaplnimoacaaGreatDoor
open Go.RowKit Go.Han
set_option maxRecDepth 100000

/-! ### the first words -/
def untC (n : Nat) (x : ItemC) : Bool := decide (x.unt ≤ n)
theorem pickC_take (cats : List ByteArray) (S : List Term) (ws : List ByteArray) {i m n : Nat} (h : i + m ≤ n) : pickC cats S (ws.take n) i m = pickC cats S ws i m := by
  unfold pickC
  refine find_congrT fun x _ => ?_
  by_cases e : x.src.xs.length = m
  · have e2 : startB x ((ws.take n).drop i) = startB x (ws.drop i) := by
      unfold startB
      rw [e, List.drop_take, List.take_take, Nat.min_eq_left (by omega)]
    rw [e2]
  · simp [e]
theorem termC_take (cats : List ByteArray) (S : List Term) (ws : List ByteArray) {i m n : Nat} (h : i + m ≤ n) : termC cats S (ws.take n) i m = termC cats S ws i m := by
  unfold termC; rw [pickC_take cats S ws h]
theorem termC_long (cats : List ByteArray) (S : List Term) {ws : List ByteArray} {i m : Nat} (h0 : 0 < m) (h : ws.length < i + m) : termC cats S ws i m = [] := by
  unfold termC; rw [pickC_long cats S h0 h]
theorem termC_mem {cats : List ByteArray} {S : List Term} {ws : List ByteArray} {i m : Nat} {x : ItemC} (h : x ∈ termC cats S ws i m) :
    ∃ t, pickC cats S ws i m = some t ∧ x = ⟨idxF t.cat cats, i, i + m, 0, t.tgt.xs, t.no⟩ := by
  unfold termC at h
  split at h
  · exact ⟨_, by assumption, List.mem_singleton.1 h⟩
  · cases h
theorem termC_filter (cats : List ByteArray) (S : List Term) (ws : List ByteArray) {i m n : Nat} (h0 : 0 < m) : (termC cats S ws i m).filter (untC n) = termC cats S (ws.take n) i m := by
  by_cases h : i + m ≤ n
  · rw [termC_take cats S ws h, List.filter_eq_self]
    intro x hx
    obtain ⟨t, _, rfl⟩ := termC_mem hx
    unfold untC
    simp only [decide_eq_true_eq]
    omega
  · rw [termC_long cats S (ws := ws.take n) h0 (by rw [List.length_take]; omega), List.filter_eq_nil_iff]
    intro x hx
    obtain ⟨t, _, rfl⟩ := termC_mem hx
    unfold untC
    simp only [decide_eq_true_eq]
    omega
/-- The items of a word alone end behind it. -/
theorem single_unt {g : Gram} {S : List Term} {ws : List ByteArray} {i : Nat} {s : ByteArray} {x : ItemC} (h : x ∈ singleC g S ws i s) : x.frm = i ∧ x.unt = i + 1 := by
  have key : ∀ y, y ∈ termC g.cats.xs S ws i 1 ++ entriesC g.entries.xs i s → y.frm = i ∧ y.unt = i + 1 := by
    intro y hy
    rcases List.mem_append.1 hy with hy | hy
    · obtain ⟨t, _, rfl⟩ := termC_mem hy
      exact ⟨rfl, rfl⟩
    · obtain ⟨z, _, rfl⟩ := List.mem_map.1 hy
      exact ⟨rfl, rfl⟩
  unfold singleC at h
  split at h
  · obtain ⟨z, _, rfl⟩ := List.mem_map.1 h
    exact ⟨rfl, rfl⟩
  · exact key x h
theorem word_unt {g : Gram} {S : List Term} {ws : List ByteArray} {i : Nat} {s : ByteArray} {x : ItemC} (h : x ∈ wordC g S ws i s) : x.frm = i ∧ (i : Int) + 1 ≤ x.unt := by
  unfold wordC at h
  simp only [List.mem_append] at h
  rcases h with ((h | h) | h) | h
  · obtain ⟨h1, h2⟩ := single_unt h
    exact ⟨h1, by omega⟩
  all_goals
    obtain ⟨t, _, rfl⟩ := termC_mem h
    exact ⟨rfl, by show (i : Int) + 1 ≤ (i : Int) + _; omega⟩
theorem single_filter (g : Gram) (S : List Term) (ws : List ByteArray) {i n : Nat} (s : ByteArray) (h : i < n) : (singleC g S ws i s).filter (untC n) = singleC g S (ws.take n) i s := by
  have e : singleC g S (ws.take n) i s = singleC g S ws i s := by
    unfold singleC; rw [termC_take g.cats.xs S ws (show i + 1 ≤ n by omega)]
  rw [e, List.filter_eq_self]
  intro x hx
  have := (single_unt hx).2
  unfold untC
  simp only [decide_eq_true_eq]
  omega
theorem word_filter (g : Gram) (S : List Term) (ws : List ByteArray) {i n : Nat} (s : ByteArray) (h : i < n) : (wordC g S ws i s).filter (untC n) = wordC g S (ws.take n) i s := by
  unfold wordC
  rw [List.filter_append, List.filter_append, List.filter_append, single_filter g S ws s h, termC_filter _ _ _ (by decide), termC_filter _ _ _ (by decide), termC_filter _ _ _ (by decide)]
theorem words_filter (g : Gram) (S : List Term) (ws : List ByteArray) (n : Nat) : ∀ (l : List ByteArray) (i : Nat), (wordsC g S ws i l).filter (untC n) = wordsC g S (ws.take n) i (l.take (n - i))
  | [], i => by simp [wordsC]
  | s :: l, i => by
    rw [wordsC, List.filter_append, words_filter g S ws n l (i + 1)]
    by_cases h : i < n
    · rw [show n - i = (n - (i + 1)) + 1 by omega, List.take_succ_cons, wordsC, word_filter g S ws s h]
    · rw [show n - i = 0 by omega, show n - (i + 1) = 0 by omega, List.take_zero, List.take_zero, wordsC, wordsC, List.append_nil, List.filter_eq_nil_iff]
      intro x hx
      have := (word_unt hx).2
      unfold untC
      simp only [decide_eq_true_eq]
      omega
theorem owns_filter (n : Nat) : ∀ (l : List ByteArray) (i : Nat), (ownsC i l).filter (untC n) = ownsC i (l.take (n - i))
  | [], i => by simp [ownsC]
  | s :: l, i => by
    rw [ownsC, List.filter_cons, owns_filter n l (i + 1)]
    by_cases h : i < n
    · rw [show n - i = (n - (i + 1)) + 1 by omega, List.take_succ_cons, ownsC, if_pos (by unfold untC ownWC; simp only [decide_eq_true_eq]; omega)]
    · rw [show n - i = 0 by omega, show n - (i + 1) = 0 by omega, List.take_zero, List.take_zero, if_neg (by unfold untC ownWC; simp only [decide_eq_true_eq]; omega)]
      rfl
theorem tags_filter (g : Gram) (S : List Term) (ws : List ByteArray) (n : Nat) : (tagsC g S ws).filter (untC n) = tagsC g S (ws.take n) := by
  unfold tagsC
  rw [List.filter_append, owns_filter, words_filter]; rfl
theorem tagsE_zero {g : Gram} {l : List Term} {lang : Int} {ws : List ByteArray} {t u : Int} (h : tagsE g l lang ws t u = 0) : checkG g = 0 ∧ standE l lang t u = 0 ∧ ws.length ≤ 16 ∧ ws.all wordB = true ∧ (tagsC g (standT l lang t u) ws).length ≤ 1024 := by
  unfold tagsE at h
  split at h
  · contradiction
  split at h
  · contradiction
  split at h
  · cases h
  split at h
  · cases h
  split at h
  · cases h
  rename_i h1 h2 h3 h4 h5
  exact ⟨by omega, by omega, by omega, by simpa using h4, by omega⟩
theorem tagsE_mk {g : Gram} {l : List Term} {lang : Int} {ws : List ByteArray} {t u : Int} (h1 : checkG g = 0) (h2 : standE l lang t u = 0) (h3 : ws.length ≤ 16) (h4 : ws.all wordB = true) (h5 : (tagsC g (standT l lang t u) ws).length ≤ 1024) : tagsE g l lang ws t u = 0 := by
  unfold tagsE
  rw [if_neg (by simpa using h1), if_neg (by simpa using h2), if_neg (by omega), if_neg (by simp [h4]), if_neg (by omega)]
theorem tags_first {g : Gram} {l : List Term} {lang : Int} {ws : List ByteArray} {t u : Int} (n : Nat) (h : tagsE g l lang ws t u = 0) : tagsE g l lang (ws.take n) t u = 0 := by
  obtain ⟨h1, h2, h3, h4, h5⟩ := tagsE_zero h
  refine tagsE_mk h1 h2 (by rw [List.length_take]; omega) ?_ ?_
  · rw [List.all_eq_true] at h4 ⊢
    exact fun x hx => h4 x (List.mem_of_mem_take hx)
  · rw [← tags_filter]
    exact Nat.le_trans (List.length_filter_le _ _) h5

/-! ### a term that is added -/
def isB (ws src : List ByteArray) (i : Int) : Bool := decide (0 ≤ i) && decide (i.toNat + src.length ≤ ws.length) && decide ((ws.drop i.toNat).take src.length = src)
def keptB (ws src : List ByteArray) (y : ItemC) : Bool := decide (y.cat < 0) || decide (y.unt - y.frm ≠ src.length) || !isB ws src y.frm
/-- What is picked is the one term that stands there. -/
theorem pickC_iff {S : List Term} (hu : ∀ x ∈ S, ∀ y ∈ S, x.src.xs = y.src.xs → x = y) (cats ws : List ByteArray) (i many : Nat) (y : Term) :
    pickC cats S ws i many = some y ↔ y ∈ S ∧ y.src.xs.length = many ∧ startB y (ws.drop i) = true ∧ catB cats y.cat = true := by
  unfold pickC
  constructor
  · intro h
    have h1 := List.find?_some h
    simp only [Bool.and_eq_true, decide_eq_true_eq] at h1
    exact ⟨List.mem_of_find?_eq_some h, h1.1.1, h1.1.2, h1.2⟩
  · rintro ⟨hy, h1, h2, h3⟩
    cases hf : S.find? (fun x => decide (x.src.xs.length = many) && startB x (ws.drop i) && catB cats x.cat) with
    | none =>
      rw [List.find?_eq_none] at hf
      exact absurd (by simp [h1, h2, h3]) (hf y hy)
    | some z =>
      have h4 := List.find?_some hf
      have h5 := List.mem_of_find?_eq_some hf
      simp only [Bool.and_eq_true, decide_eq_true_eq, startB] at h4 h2
      have : z.src.xs = y.src.xs := by rw [← h4.1.2, ← h2, h4.1.1, h1]
      rw [hu z h5 y hy this]
theorem pickC_same {S S' : List Term} (hu : ∀ x ∈ S, ∀ y ∈ S, x.src.xs = y.src.xs → x = y) (hu' : ∀ x ∈ S', ∀ y ∈ S', x.src.xs = y.src.xs → x = y) {src : List ByteArray} (h : ∀ y, y.src.xs ≠ src → (y ∈ S ↔ y ∈ S'))
    (cats ws : List ByteArray) {i many : Nat} (hne : ¬ (many = src.length ∧ (ws.drop i).take src.length = src)) : pickC cats S ws i many = pickC cats S' ws i many := by
  have key : ∀ y, pickC cats S ws i many = some y ↔ pickC cats S' ws i many = some y := by
    intro y
    rw [pickC_iff hu, pickC_iff hu']
    constructor
    all_goals
      rintro ⟨h1, h2, h3, h4⟩
      have hs : y.src.xs ≠ src := by
        rintro rfl
        simp only [startB, decide_eq_true_eq] at h3
        exact hne ⟨h2.symm, h3⟩
    · exact ⟨(h y hs).1 h1, h2, h3, h4⟩
    · exact ⟨(h y hs).2 h1, h2, h3, h4⟩
  cases h1 : pickC cats S ws i many with
  | some y => exact ((key y).1 h1).symm
  | none =>
    cases h2 : pickC cats S' ws i many with
    | none => rfl
    | some y => rw [(key y).2 h2] at h1; cases h1
theorem catB_idx {cats : List ByteArray} {s : ByteArray} (h : catB cats s = true) : 0 ≤ idxF s cats := by
  unfold catB at h; simpa using h
theorem isB_nat {ws src : List ByteArray} (h0 : src ≠ []) (i : Nat) : isB ws src i = decide ((ws.drop i).take src.length = src) := by
  unfold isB
  rw [Bool.eq_iff_iff]
  simp only [Bool.and_eq_true, decide_eq_true_eq, Int.toNat_natCast]
  constructor
  · exact fun h => h.2
  · intro h
    refine ⟨⟨by omega, ?_⟩, h⟩
    have := congrArg List.length h
    rw [List.length_take, List.length_drop] at this
    have : 0 < src.length := List.length_pos_iff.2 h0
    omega
theorem termC_kept {S S' : List Term} (hu : ∀ x ∈ S, ∀ y ∈ S, x.src.xs = y.src.xs → x = y) (hu' : ∀ x ∈ S', ∀ y ∈ S', x.src.xs = y.src.xs → x = y) {src : List ByteArray} (h0 : src ≠ []) (h : ∀ y, y.src.xs ≠ src → (y ∈ S ↔ y ∈ S'))
    (cats ws : List ByteArray) (i many : Nat) : (termC cats S ws i many).filter (keptB ws src) = (termC cats S' ws i many).filter (keptB ws src) := by
  by_cases hc : many = src.length ∧ (ws.drop i).take src.length = src
  · have key : ∀ S, (termC cats S ws i many).filter (keptB ws src) = [] := by
      intro S
      rw [List.filter_eq_nil_iff]
      intro x hx
      obtain ⟨t, ht, rfl⟩ := termC_mem hx
      have hcat : catB cats t.cat = true := by
        unfold pickC at ht
        have := List.find?_some ht
        simp only [Bool.and_eq_true] at this
        exact this.2
      unfold keptB
      rw [isB_nat h0]
      have := catB_idx hcat
      simp only [Bool.or_eq_true, decide_eq_true_eq, Bool.not_eq_true', decide_eq_false_iff_not]
      rintro ((h | h) | h)
      · omega
      · apply h; rw [← hc.1]; omega
      · exact h hc.2
    rw [key S, key S']
  · unfold termC
    rw [pickC_same hu hu' h cats ws hc]
theorem single_kept {S S' : List Term} (hu : ∀ x ∈ S, ∀ y ∈ S, x.src.xs = y.src.xs → x = y) (hu' : ∀ x ∈ S', ∀ y ∈ S', x.src.xs = y.src.xs → x = y) {src : List ByteArray} (h0 : src ≠ []) (h : ∀ y, y.src.xs ≠ src → (y ∈ S ↔ y ∈ S'))
    (g : Gram) (hg : ∀ x ∈ g.entries.xs, 0 ≤ x.no) (ws : List ByteArray) (i : Nat) (s : ByteArray) : (singleC g S ws i s).filter (keptB ws src) = (singleC g S' ws i s).filter (keptB ws src) := by
  by_cases hc : 1 = src.length ∧ (ws.drop i).take src.length = src
  · have key : ∀ S, (singleC g S ws i s).filter (keptB ws src) = [] := by
      intro S
      rw [List.filter_eq_nil_iff]
      intro x hx
      have hcat : 0 ≤ x.cat := by
        unfold singleC at hx
        split at hx
        · obtain ⟨z, _, rfl⟩ := List.mem_map.1 hx
          exact Int.natCast_nonneg _
        · rcases List.mem_append.1 hx with hx | hx
          · obtain ⟨t, ht, rfl⟩ := termC_mem hx
            unfold pickC at ht
            have := List.find?_some ht
            simp only [Bool.and_eq_true] at this
            exact catB_idx this.2
          · obtain ⟨z, hz, rfl⟩ := List.mem_map.1 hx
            exact hg z (List.mem_filter.1 hz).1
      obtain ⟨h1, h2⟩ := single_unt hx
      unfold keptB
      rw [h1, h2, isB_nat h0]
      simp only [Bool.or_eq_true, decide_eq_true_eq, Bool.not_eq_true', decide_eq_false_iff_not]
      rintro ((h | h) | h)
      · omega
      · apply h; rw [← hc.1]; omega
      · exact h hc.2
    rw [key S, key S']
  · unfold singleC termC
    rw [pickC_same hu hu' h g.cats.xs ws hc]
theorem tags_kept {S S' : List Term} (hu : ∀ x ∈ S, ∀ y ∈ S, x.src.xs = y.src.xs → x = y) (hu' : ∀ x ∈ S', ∀ y ∈ S', x.src.xs = y.src.xs → x = y) {src : List ByteArray} (h0 : src ≠ []) (h : ∀ y, y.src.xs ≠ src → (y ∈ S ↔ y ∈ S'))
    (g : Gram) (hg : ∀ x ∈ g.entries.xs, 0 ≤ x.no) (ws : List ByteArray) : (tagsC g S ws).filter (keptB ws src) = (tagsC g S' ws).filter (keptB ws src) := by
  have key : ∀ (l : List ByteArray) (i : Nat), (wordsC g S ws i l).filter (keptB ws src) = (wordsC g S' ws i l).filter (keptB ws src) := by
    intro l
    induction l with
    | nil => intro i; rfl
    | cons s l ih =>
      intro i
      rw [wordsC, wordsC, List.filter_append, List.filter_append, ih]
      unfold wordC
      simp only [List.filter_append]
      rw [single_kept hu hu' h0 h g hg, termC_kept hu hu' h0 h, termC_kept hu hu' h0 h, termC_kept hu hu' h0 h]
  unfold tagsC
  rw [List.filter_append, List.filter_append, key]
end Go.Proofs.YthojaplnimoacaaGreatDoor

/- A table: rows of numbers, each in a block of its own, and a block of their slices. No program in sight. -/
namespace Go.Han
open Go.RowKit

theorem blk_set {w : World} {b t : Nat} {cs : Array Value} (h : w.heap[b]? = some (.cells cs t (0, 0))) (o : Nat) (u : Value) : (w.setCell ⟨b, o, none⟩ u).heap[b]? = some (.cells (cs.setIfInBounds o u) t (0, 0)) := by
  simp [World.setCell, Array.getElem?_modify, h]
/-- The rows of M are made: row i lies in block rb i, and its number k is f i k. -/
structure Grid (W : World) (H la lb : Nat) (M : Nat → Prop) (rb : Nat → Nat) (f : Nat → Nat → Nat) : Prop where
  hd : ∃ (cs : Array Value) (T : Nat), W.heap[H]? = some (.cells cs T (0, 0)) ∧ cs.size = la + 1 ∧ ∀ i, M i → cs[i]? = some (.slice (some ⟨rb i, 0, none⟩) (lb + 1) (lb + 1))
  row : ∀ i, M i → ∃ (cs : Array Value) (T : Nat), W.heap[rb i]? = some (.cells cs T (0, 0)) ∧ cs.size = lb + 1 ∧ ∀ k, k ≤ lb → cs[k]? = some (.int .i64 (f i k : Nat))
  inj : ∀ i j, M i → M j → rb i = rb j → i = j
  ne : ∀ i, M i → rb i ≠ H
namespace Grid
variable {W : World} {H la lb : Nat} {M : Nat → Prop} {rb : Nat → Nat} {f : Nat → Nat → Nat}
/-- The blocks of a table. -/
def own (H : Nat) (M : Nat → Prop) (rb : Nat → Nat) (k : Nat) : Prop := k = H ∨ ∃ i, M i ∧ k = rb i
theorem lt (h : Grid W H la lb M rb f) : H < W.heap.size := by
  obtain ⟨cs, T, h1, _⟩ := h.hd
  exact lt_block h1
theorem rlt (h : Grid W H la lb M rb f) {i : Nat} (hi : M i) : rb i < W.heap.size := by
  obtain ⟨cs, T, h1, _⟩ := h.row i hi
  exact lt_block h1
theorem olt (h : Grid W H la lb M rb f) {k : Nat} (hk : own H M rb k) : k < W.heap.size := by
  rcases hk with rfl | ⟨i, hi, rfl⟩
  · exact h.lt
  · exact h.rlt hi
theorem of_blocks {W' : World} (h : Grid W H la lb M rb f) (hb : ∀ k, own H M rb k → W'.heap[k]? = W.heap[k]?) : Grid W' H la lb M rb f := by
  refine ⟨?_, fun i hi => ?_, h.inj, h.ne⟩
  · obtain ⟨cs, T, h1, h2⟩ := h.hd
    exact ⟨cs, T, (hb _ (.inl rfl)).trans h1, h2⟩
  · obtain ⟨cs, T, h1, h2⟩ := h.row i hi
    exact ⟨cs, T, (hb _ (.inr ⟨i, hi, rfl⟩)).trans h1, h2⟩
theorem ext {W' : World} (h : Grid W H la lb M rb f) (hb : Below W.heap.size W W') : Grid W' H la lb M rb f :=
  h.of_blocks fun k hk => hb.block k (h.olt hk)
theorem cell (h : Grid W H la lb M rb f) {i k : Nat} (hi : M i) (hk : k ≤ lb) : W.cell? ⟨rb i, k, none⟩ = some (.int .i64 (f i k : Nat)) := by
  obtain ⟨cs, T, h1, _, h2⟩ := h.row i hi
  rw [gblk h1]; exact h2 k hk
theorem free (h : Grid W H la lb M rb f) {i : Nat} (hi : M i) (k : Nat) : W.frozen? ⟨rb i, k, none⟩ = false := by
  obtain ⟨cs, T, h1, _⟩ := h.row i hi
  exact frozen_one h1 k
def upd (f : Nat → Nat → Nat) (i k v : Nat) : Nat → Nat → Nat := fun j m => if j = i ∧ m = k then v else f j m
theorem upd_same (f : Nat → Nat → Nat) (i k v : Nat) : upd f i k v i k = v := by unfold upd; rw [if_pos ⟨rfl, rfl⟩]
theorem upd_other {f : Nat → Nat → Nat} {i k v j m : Nat} (h : ¬ (j = i ∧ m = k)) : upd f i k v j m = f j m := by unfold upd; rw [if_neg h]
theorem store (h : Grid W H la lb M rb f) {i k : Nat} (hi : M i) (hk : k ≤ lb) (v : Nat) : Grid (W.setCell ⟨rb i, k, none⟩ (.int .i64 (v : Nat))) H la lb M rb (upd f i k v) := by
  refine ⟨?_, fun j hj => ?_, h.inj, h.ne⟩
  · obtain ⟨cs, T, h1, h2⟩ := h.hd
    exact ⟨cs, T, (Below.heap_setCell _ _ _ _ (Ne.symm (h.ne i hi))).trans h1, h2⟩
  · obtain ⟨cs, T, h1, h2, h3⟩ := h.row j hj
    by_cases hji : j = i
    · subst hji
      refine ⟨_, T, blk_set h1 k _, by simpa using h2, fun m hm => ?_⟩
      by_cases hmk : m = k
      · subst hmk
        rw [upd_same]
        exact Array.getElem?_setIfInBounds_self_of_lt (by omega)
      · rw [upd_other (by rintro ⟨_, h⟩; exact hmk h)]
        rw [Array.getElem?_setIfInBounds_ne (Ne.symm hmk)]
        exact h3 m hm
    · refine ⟨cs, T, (Below.heap_setCell _ _ _ _ (fun e => hji (h.inj _ _ hj hi e))).trans h1, h2, fun m hm => ?_⟩
      rw [upd_other (by rintro ⟨h, _⟩; exact hji h)]
      exact h3 m hm
/-- A row more: its block is r, all its numbers z. -/
theorem add (h : Grid W H la lb M rb f) {i r T z : Nat} (hi : i ≤ la) (hM : ¬ M i) (hr : W.heap[r]? = some (.cells (Array.replicate (lb + 1) (.int .i64 (z : Nat))) T (0, 0))) (hnr : ∀ k, own H M rb k → k ≠ r) :
    Grid (W.setCell ⟨H, i, none⟩ (.slice (some ⟨r, 0, none⟩) (lb + 1) (lb + 1))) H la lb (fun j => j = i ∨ M j) (fun j => if j = i then r else rb j) (fun j k => if j = i then z else f j k) := by
  refine ⟨?_, ?_, ?_, ?_⟩
  · obtain ⟨cs, T', h1, h2, h3⟩ := h.hd
    refine ⟨_, T', blk_set h1 i _, by simpa using h2, fun j hj => ?_⟩
    by_cases hji : j = i
    · subst hji
      rw [if_pos rfl]
      exact Array.getElem?_setIfInBounds_self_of_lt (by omega)
    · simp only [if_neg hji]
      rw [Array.getElem?_setIfInBounds_ne (Ne.symm hji)]
      exact h3 j (hj.resolve_left hji)
  · intro j hj
    by_cases hji : j = i
    · subst hji
      simp only [if_true]
      refine ⟨_, T, (Below.heap_setCell _ _ _ _ (fun e => hnr H (.inl rfl) e.symm)).trans hr, by simp, fun k hk => ?_⟩
      simp [Array.getElem?_replicate]; omega
    · simp only [if_neg hji]
      obtain ⟨cs, T', h1, h2⟩ := h.row j (hj.resolve_left hji)
      exact ⟨cs, T', (Below.heap_setCell _ _ _ _ (h.ne j (hj.resolve_left hji))).trans h1, h2⟩
  · intro j k hj hk e
    by_cases hji : j = i <;> by_cases hki : k = i
    · rw [hji, hki]
    · subst hji
      simp only [if_true, if_neg hki] at e
      exact absurd e.symm (hnr _ (.inr ⟨k, hk.resolve_left hki, rfl⟩))
    · subst hki
      simp only [if_true, if_neg hji] at e
      exact absurd e (hnr _ (.inr ⟨j, hj.resolve_left hji, rfl⟩))
    · simp only [if_neg hji, if_neg hki] at e
      exact h.inj j k (hj.resolve_left hji) (hk.resolve_left hki) e
  · intro j hj
    by_cases hji : j = i
    · subst hji
      simp only [if_true]
      exact fun e => hnr H (.inl rfl) e.symm
    · simp only [if_neg hji]
      exact h.ne j (hj.resolve_left hji)
end Grid
end Go.Han
