/- Texts of this claim, one after the other: Opg3, Opg4, Open5. -/
import Derived.Test.YtmindojbkedmlaaDoorM7
import Derived.Test.YtmindojbkedmlaaDoorM5
/- How terms and slices of strings read. -/
namespace Go.Proofs.YtmindojbkedmlaaDoor
open Go.RowKit Go.Han Go.ChangeShapes Go.WideShapes Go.ChangeAt Go.Deep
set_option maxRecDepth 100000
section
variable {H : Type} {enc : TypeId × Value → H} {w : World} {base : Nat} {spare : Nat → Bool} {held : Bool}
/-- A slice whose elements each read as s cells. -/
theorem open_rows2 {α : Type} (f : α → List Value) (s : Nat) (d0 : α) {t e : TypeId} (ht : Tryd.prog.underlying t = some (.slice e)) (hs : Tryd.prog.cellsOf e = s) (hs0 : 0 < s) (hf : ∀ y, (f y).length = s)
    (R : α → Prop) (hel : ∀ (fuel : Nat) (cs : List Value) (x : DataW H × List MemPlace), DataW.trod enc Tryd.prog w 0 spare held fuel e cs = some x → ∃ y : α, cs = f y ∧ R y)
    {fuel : Nat} {cs : List Value} {x : DataW H × List MemPlace} (h : DataW.trod enc Tryd.prog w 0 spare held fuel t cs = some x) :
    ∃ (A : Option Addr) (cp : Nat) (l : List α), cs = [.slice A l.length cp] ∧ Rd w A (l.flatMap f) ∧ (A = none → l = []) ∧ l.length ≤ maxLen ∧ l.length ≤ cp ∧ cp ≤ maxLen ∧ ∀ x ∈ l, R x := by
  rcases open_slice ht h with ⟨rfl, _⟩ | ⟨a, len, cap, m, n, D, Pl, rfl, _, hl, hm, hmm, _, hi⟩
  · exact ⟨none, 0, [], rfl, Rd.nil _ _, fun _ => rfl, Nat.zero_le _, Nat.le_refl _, Nat.zero_le _, fun x hx => by cases hx⟩
  · have hlm : len ≤ m := by rw [hmm]; split <;> omega
    have each : ∀ i, i < len → ∃ y : α, R y ∧ ∀ j u, (f y)[j]? = some u → w.cell? (a.add (i * s + j)) = some u := by
      intro i hil
      obtain ⟨cs', hc, htr⟩ := hi i (by omega)
      obtain ⟨y, rfl, hRy⟩ := hel _ _ _ htr
      refine ⟨y, hRy, fun j u hu => ?_⟩
      rw [hs] at hc
      obtain ⟨_, hcl, hat⟩ := World.cells?_some hc
      have hj : j < s := by rw [← hf y]; exact (List.getElem?_eq_some_iff.1 hu).1
      rw [← Go.Deep.add_add, hat j hj, hu]
    refine ⟨some a, cap, (List.range len).map (fun i => if h : i < len then Classical.choose (each i h) else d0), by rw [List.length_map, List.length_range], ?_, (fun h => by cases h), by rw [List.length_map, List.length_range]; omega, by rw [List.length_map, List.length_range]; omega, by omega, fun x hx => ?_⟩
    rotate_left
    · obtain ⟨i, hi, rfl⟩ := List.mem_map.1 hx
      rw [dif_pos (List.mem_range.1 hi)]
      exact (Classical.choose_spec (each i (List.mem_range.1 hi))).1
    rcases Nat.eq_zero_or_pos len with rfl | hpos
    · exact .inl (by simp)
    · have hsp : a.spot = none ∧ a.block < w.heap.size := by
        obtain ⟨y0, _, h0⟩ := each 0 hpos
        have hl0 : 0 < (f y0).length := by rw [hf]; exact hs0
        have := h0 0 _ (List.getElem?_eq_getElem hl0)
        rw [Nat.zero_mul, Nat.zero_add] at this
        have hc : w.cell? a = some _ := this
        refine ⟨?_, lt_cell hc⟩
        unfold World.cell? at hc
        split at hc
        · split at hc
          · cases hc
          · rename_i hn; simpa using hn
        · cases hc
      obtain ⟨b, off, sp⟩ := a
      obtain ⟨rfl, hb⟩ := hsp
      refine .inr ⟨b, off, rfl, hb, fun j u hu => ?_⟩
      have hj : j < len * s := by
        have := (List.getElem?_eq_some_iff.1 hu).1
        rwa [flat_len f s hf, List.length_map, List.length_range] at this
      have hk : j / s < len := by rw [Nat.div_lt_iff_lt_mul hs0]; exact hj
      have hjs : j % s < s := Nat.mod_lt _ hs0
      have e : j / s * s + j % s = j := by rw [Nat.mul_comm]; exact Nat.div_add_mod j s
      have hg := flat_get f s hf ((List.range len).map (fun i => if h : i < len then Classical.choose (each i h) else d0)) (j / s) (j % s) (by simpa using hk) hjs
      rw [e, hu, List.getElem_map, List.getElem_range, dif_pos hk] at hg
      have := (Classical.choose_spec (each (j / s) hk)).2 (j % s) u hg.symm
      rw [e] at this
      unfold Addr.add at this
      split at this
      · rename_i h0; subst h0; exact this
      · exact this
theorem strs_flat : ∀ l : List ByteArray, strs l = l.flatMap (fun b : ByteArray => [Value.string b])
  | [] => rfl
  | b :: l => by rw [List.flatMap_cons, ← strs_flat l]; rfl
theorem trod_strs {fuel : Nat} {cs : List Value} {x : DataW H × List MemPlace} (h : DataW.trod enc Tryd.prog w 0 spare held fuel 23 cs = some x) : ∃ s : StrS, cs = [s.val] ∧ s.lies w := by
  obtain ⟨A, cp, l, rfl, hr, hn, hm, hl, hc, _⟩ := open_rows2 (fun b : ByteArray => [Value.string b]) 1 ⟨#[]⟩ Tryd.underlying23 (by kernel_rfl) (by decide) (fun _ => rfl) (fun _ => True) (fun fuel cs x h => by
    obtain ⟨s, hs, _⟩ := DataW.trod_string Tryd.underlying9 h
    exact ⟨s, hs, trivial⟩) h
  refine ⟨⟨A, cp, l⟩, rfl, ⟨?_, hl, by unfold maxLen at hc; show cp ≤ _; omega, hn⟩⟩
  show Rd w A (strs l)
  rw [strs_flat]; exact hr
theorem term_und : ∃ fs : Array Field, Tryd.prog.underlying 25 = some (.struct fs) ∧ fs.toList.map (fun f => (f.type, f.offset)) = [(3, 0), (3, 1), (3, 2), (3, 3), (23, 4), (23, 5), (9, 6), (4, 7)] ∧ Tryd.prog.cellsOf 25 = 8 := ⟨_, Tryd.underlying25, by kernel_rfl, by kernel_rfl⟩
theorem cells_strs : Tryd.prog.cellsOf 23 = 1 := by kernel_rfl
theorem cells_bool : Tryd.prog.cellsOf 4 = 1 := by kernel_rfl
theorem trod_term {fuel : Nat} {cs : List Value} {x : DataW H × List MemPlace} (h : DataW.trod enc Tryd.prog w 0 spare held fuel 25 cs = some x) : ∃ y : Term, cs = y.cells ∧ y.lies w := by
  obtain ⟨fs, hu, hf, hc⟩ := term_und
  obtain ⟨xs, n, _, _, hlen, hxl, hat⟩ := DataW.trod_struct hu h
  rw [hc] at hlen
  have hsz : fs.size = 8 := by have := congrArg List.length hf; simpa using this
  obtain ⟨f0, e0, t0, o0⟩ := field_at hf (i := 0) rfl
  obtain ⟨f1, e1, t1, o1⟩ := field_at hf (i := 1) rfl
  obtain ⟨f2, e2, t2, o2⟩ := field_at hf (i := 2) rfl
  obtain ⟨f3, e3, t3, o3⟩ := field_at hf (i := 3) rfl
  obtain ⟨f4, e4, t4, o4⟩ := field_at hf (i := 4) rfl
  obtain ⟨f5, e5, t5, o5⟩ := field_at hf (i := 5) rfl
  obtain ⟨f6, e6, t6, o6⟩ := field_at hf (i := 6) rfl
  obtain ⟨f7, e7, t7, o7⟩ := field_at hf (i := 7) rfl
  have h0 := hat 0 f0 e0
  have h1 := hat 1 f1 e1
  have h2 := hat 2 f2 e2
  have h3 := hat 3 f3 e3
  have h4 := hat 4 f4 e4
  have h5 := hat 5 f5 e5
  have h6 := hat 6 f6 e6
  have h7 := hat 7 f7 e7
  rw [t0, o0, cells_int, List.getElem?_eq_getElem (by omega)] at h0
  rw [t1, o1, cells_int, List.getElem?_eq_getElem (by omega)] at h1
  rw [t2, o2, cells_int, List.getElem?_eq_getElem (by omega)] at h2
  rw [t3, o3, cells_int, List.getElem?_eq_getElem (by omega)] at h3
  rw [t4, o4, cells_strs, List.getElem?_eq_getElem (by omega)] at h4
  rw [t5, o5, cells_strs, List.getElem?_eq_getElem (by omega)] at h5
  rw [t6, o6, cells_string, List.getElem?_eq_getElem (by omega)] at h6
  rw [t7, o7, cells_bool, List.getElem?_eq_getElem (by omega)] at h7
  obtain ⟨a, ha, _⟩ := DataW.trod_int Tryd.underlying3 h0
  obtain ⟨b, hb, _⟩ := DataW.trod_int Tryd.underlying3 h1
  obtain ⟨c, hc', _⟩ := DataW.trod_int Tryd.underlying3 h2
  obtain ⟨d, hd, _⟩ := DataW.trod_int Tryd.underlying3 h3
  obtain ⟨e, he, le⟩ := trod_strs h4
  obtain ⟨f, hf', lf⟩ := trod_strs h5
  obtain ⟨g, hg, _⟩ := DataW.trod_string Tryd.underlying9 h6
  obtain ⟨i, hi, _⟩ := DataW.trod_bool Tryd.underlying4 h7
  match cs, hlen with
  | [c0, c1, c2, c3, c4, c5, c6, c7], _ =>
    simp at ha hb hc' hd he hf' hg hi
    exact ⟨⟨a, b, c, d, e, f, g, i⟩, by rw [ha, hb, hc', hd, he, hf', hg, hi]; rfl, le, lf⟩
theorem open_terms {fuel : Nat} {cs : List Value} {x : DataW H × List MemPlace} (h : DataW.trod enc Tryd.prog w 0 spare held fuel 22 cs = some x) :
    ∃ (A : Option Addr) (cp : Nat) (l : List Term), cs = [.slice A l.length cp] ∧ TermsAt w A l ∧ (A = none → l = []) ∧ l.length ≤ maxLen := by
  obtain ⟨A, cp, l, rfl, hr, hn, hm, hl, hc, hR⟩ := open_rows2 Term.cells 8 ⟨0, 0, 0, 0, ⟨none, 0, []⟩, ⟨none, 0, []⟩, ⟨#[]⟩, false⟩ Tryd.underlying22 (by kernel_rfl) (by decide) Term.size_cells (fun y => y.lies w) (fun _ _ _ h => trod_term h) h
  exact ⟨A, cp, l, rfl, ⟨hr, hR⟩, hn, hm⟩
end
end Go.Proofs.YtmindojbkedmlaaDoor

/- How terms read, with the slice's capacity. -/
namespace Go.Proofs.YtmindojbkedmlaaDoor
open Go.RowKit Go.Han Go.ChangeShapes Go.WideShapes Go.ChangeAt Go.Deep
set_option maxRecDepth 100000
section
variable {H : Type} {enc : TypeId × Value → H} {w : World} {base : Nat} {spare : Nat → Bool} {held : Bool}
theorem open_termsc {fuel : Nat} {cs : List Value} {x : DataW H × List MemPlace} (h : DataW.trod enc Tryd.prog w 0 spare held fuel 22 cs = some x) :
    ∃ (A : Option Addr) (cp : Nat) (l : List Term), cs = [.slice A l.length cp] ∧ TermsAt w A l ∧ (A = none → l = []) ∧ l.length ≤ maxLen ∧ l.length ≤ cp ∧ cp ≤ maxLen := by
  obtain ⟨A, cp, l, rfl, hr, hn, hm, hl, hc, hR⟩ := open_rows2 Term.cells 8 ⟨0, 0, 0, 0, ⟨none, 0, []⟩, ⟨none, 0, []⟩, ⟨#[]⟩, false⟩ Tryd.underlying22 (by kernel_rfl) (by decide) Term.size_cells (fun y => y.lies w) (fun _ _ _ h => trod_term h) h
  exact ⟨A, cp, l, rfl, ⟨hr, hR⟩, hn, hm, hl, hc⟩
end
end Go.Proofs.YtmindojbkedmlaaDoor

/- How slices of slices of strings and slices of targets read. -/
namespace Go.Proofs.YtmindojbkedmlaaDoor
open Go.RowKit Go.Han Go.ChangeShapes Go.WideShapes Go.ChangeAt Go.Deep
set_option maxRecDepth 100000
theorem vals_flat : ∀ l : List StrS, l.flatMap (fun s : StrS => [s.val]) = l.map StrS.val
  | [] => rfl
  | b :: l => by rw [List.flatMap_cons, vals_flat l]; rfl
section
variable {H : Type} {enc : TypeId × Value → H} {w : World} {base : Nat} {spare : Nat → Bool} {held : Bool}
theorem open_sents {fuel : Nat} {cs : List Value} {x : DataW H × List MemPlace} (h : DataW.trod enc Tryd.prog w 0 spare held fuel 26 cs = some x) :
    ∃ (A : Option Addr) (cp : Nat) (l : List StrS), cs = [.slice A l.length cp] ∧ SentsAt w A l ∧ l.length ≤ maxLen := by
  obtain ⟨A, cp, l, rfl, hr, hn, hm, hl, hc, hR⟩ := open_rows2 (fun s : StrS => [s.val]) 1 ⟨none, 0, []⟩ Tryd.underlying26 (by kernel_rfl) (by decide) (fun _ => rfl) (fun y => y.lies w) (fun _ _ _ h => trod_strs h) h
  exact ⟨A, cp, l, rfl, ⟨by rw [← vals_flat]; exact hr, hR⟩, hm⟩
theorem trod_ints {fuel : Nat} {cs : List Value} {x : DataW H × List MemPlace} (h : DataW.trod enc Tryd.prog w 0 spare held fuel 30 cs = some x) : ∃ (A : Option Addr) (n c : Nat), cs = [.slice A n c] := by
  obtain ⟨A, cp, l, rfl, _⟩ := open_rows2 (fun i : Int => [.int .i64 i]) 1 0 Tryd.underlying30 (by kernel_rfl) (by decide) (fun _ => rfl) (fun _ => True) (fun fuel cs x h => by
    obtain ⟨a, ha, _⟩ := DataW.trod_int Tryd.underlying3 h
    exact ⟨a, ha, trivial⟩) h
  exact ⟨A, _, cp, rfl⟩
theorem tgt_und : ∃ fs : Array Field, Tryd.prog.underlying 44 = some (.struct fs) ∧ fs.toList.map (fun f => (f.type, f.offset)) = [(9, 0), (30, 1), (3, 2)] ∧ Tryd.prog.cellsOf 44 = 3 := ⟨_, Tryd.underlying44, by kernel_rfl, by kernel_rfl⟩
theorem cells_ints : Tryd.prog.cellsOf 30 = 1 := by kernel_rfl
theorem trod_tgt {fuel : Nat} {cs : List Value} {x : DataW H × List MemPlace} (h : DataW.trod enc Tryd.prog w 0 spare held fuel 44 cs = some x) : ∃ y : Tgt, cs = y.cells := by
  obtain ⟨fs, hu, hf, hc⟩ := tgt_und
  obtain ⟨xs, n, _, _, hlen, hxl, hat⟩ := DataW.trod_struct hu h
  rw [hc] at hlen
  have hsz : fs.size = 3 := by have := congrArg List.length hf; simpa using this
  obtain ⟨f0, e0, t0, o0⟩ := field_at hf (i := 0) rfl
  obtain ⟨f1, e1, t1, o1⟩ := field_at hf (i := 1) rfl
  obtain ⟨f2, e2, t2, o2⟩ := field_at hf (i := 2) rfl
  have h0 := hat 0 f0 e0
  have h1 := hat 1 f1 e1
  have h2 := hat 2 f2 e2
  rw [t0, o0, cells_string, List.getElem?_eq_getElem (by omega)] at h0
  rw [t1, o1, cells_ints, List.getElem?_eq_getElem (by omega)] at h1
  rw [t2, o2, cells_int, List.getElem?_eq_getElem (by omega)] at h2
  obtain ⟨a, ha, _⟩ := DataW.trod_string Tryd.underlying9 h0
  obtain ⟨A, m, c, hb⟩ := trod_ints h1
  obtain ⟨d, hd, _⟩ := DataW.trod_int Tryd.underlying3 h2
  match cs, hlen with
  | [c0, c1, c2], _ =>
    simp at ha hb hd
    exact ⟨⟨a, A, m, c, d⟩, by rw [ha, hb, hd]; rfl⟩
theorem open_tgts {fuel : Nat} {cs : List Value} {x : DataW H × List MemPlace} (h : DataW.trod enc Tryd.prog w 0 spare held fuel 36 cs = some x) :
    ∃ (A : Option Addr) (cp : Nat) (l : List Tgt), cs = [.slice A l.length cp] ∧ Rd w A (l.flatMap Tgt.cells) ∧ l.length ≤ maxLen := by
  obtain ⟨A, cp, l, rfl, hr, hn, hm, hl, hc, hR⟩ := open_rows2 Tgt.cells 3 ⟨⟨#[]⟩, none, 0, 0, 0⟩ Tryd.underlying36 (by kernel_rfl) (by decide) Tgt.size_cells (fun _ => True) (fun _ _ _ h => by
    obtain ⟨y, hy⟩ := trod_tgt h
    exact ⟨y, hy, trivial⟩) h
  exact ⟨A, cp, l, rfl, hr, hm⟩
end
end Go.Proofs.YtmindojbkedmlaaDoor
