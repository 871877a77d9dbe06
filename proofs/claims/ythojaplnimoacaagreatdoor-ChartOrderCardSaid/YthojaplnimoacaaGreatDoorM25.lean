/- Texts of this claim, one after the other: Law29o. -/
import Derived.Test.YthojaplnimoacaaGreatDoorM13
import Derived.Test.YthojaplnimoacaaGreatDoorM24
/- ChartOrder. -/
namespace Go.Proofs.YthojaplnimoacaaGreatDoor
open Go.RowKit Go.Han
attribute [local irreducible] wpStill wpQuiet
set_option maxRecDepth 100000

def set6 (V : World) (b j : Nat) (y : ItemG) : World := (((((V.setCell ⟨b, j, none⟩ (.int .i64 y.cat)).setCell ⟨b, j + 1, none⟩ (.int .i64 y.frm)).setCell ⟨b, j + 2, none⟩ (.int .i64 y.unt)).setCell ⟨b, j + 3, none⟩ (.int .i64 y.cost)).setCell ⟨b, j + 4, none⟩ (.slice y.tgt.addr y.tgt.xs.length y.tgt.cap)).setCell ⟨b, j + 5, none⟩ (.int .i64 y.term)
theorem heap_set_row {w : World} {g j e : Nat} {u : Value} {c : Array Value} {fr : Nat × Nat} (h : w.heap[g]? = some (.cells c e fr)) : (w.setCell ⟨g, j, none⟩ u).heap[g]? = some (.cells (c.setIfInBounds j u) e fr) := by
 obtain ⟨hlt, hk⟩ := Array.getElem?_eq_some_iff.1 h
 show (w.heap.modify g _)[g]? = _
 rw [Array.getElem?_eq_getElem (by rw [Array.size_modify]; exact hlt), Array.getElem_modify_self, hk]
 rfl
theorem own_set1 {w : World} {base e size n g j : Nat} {v : Value} {xs : List Value} (h : w.ownsRow base e size v n xs) (hg : v.ownBlock = some g) (u : Value) : (w.setCell ⟨g, j, none⟩ u).ownsRow base e size v n (xs.set j u) := by
 rcases h.2 with ⟨rfl, _⟩ | ⟨g', cap, cur, rfl, hb, hc, hn, hm, hs, ht⟩
 ·
  cases hg
 ·
  obtain rfl : g' = g := by simpa [Value.ownBlock] using hg
  refine ⟨by simp [h.1], .inr ⟨g', cap, cur.setIfInBounds j u, rfl, hb, heap_set_row hc, hn, hm, by simp [hs], ?_⟩⟩
  rw [Array.toList_setIfInBounds, List.take_set, ht]
theorem own_set6 {w : World} {base g i : Nat} {v : Value} {l : List ItemG} (h : OwnL ItemG.cells 47 6 w base v l) (hg : v.ownBlock = some g) (hi : i < l.length) (y : ItemG) : OwnL ItemG.cells 47 6 (set6 w g (i * 6) y) base v (l.set i y) := by
 have h6 := own_set1 (j := i * 6 + 5) (own_set1 (j := i * 6 + 4) (own_set1 (j := i * 6 + 3) (own_set1 (j := i * 6 + 2) (own_set1 (j := i * 6 + 1) (own_set1 (j := i * 6) h hg (.int .i64 y.cat)) hg (.int .i64 y.frm)) hg (.int .i64 y.unt)) hg (.int .i64 y.cost)) hg (.slice y.tgt.addr y.tgt.xs.length y.tgt.cap)) hg (.int .i64 y.term)
 unfold OwnL
 rw [List.length_set, ← setsL_flat ItemG.size_cells l i hi y]
 exact h6
theorem set6_below {w0 w : World} (h : Below w0.heap.size w0 w) {g : Nat} (hg : w0.heap.size ≤ g) (j : Nat) (y : ItemG) : Below w0.heap.size w0 (set6 w g j y) := by
 unfold set6
 have st : ∀ (U : World) (n : Nat) (u : Value), Below w0.heap.size w0 U → Below w0.heap.size w0 (U.setCell ⟨g, n, none⟩ u) := fun U n u h => h.setCell (p := ⟨g, n, none⟩) hg u
 exact st _ _ _ (st _ _ _ (st _ _ _ (st _ _ _ (st _ _ _ (st _ _ _ h)))))
theorem own_some {w : World} {base : Nat} {v : Value} {l : List ItemG} (h : OwnL ItemG.cells 47 6 w base v l) (h0 : 0 < l.length) : ∃ g cap cur, v = .slice (some ⟨g, 0, none⟩) l.length cap ∧ base ≤ g ∧ w.heap[g]? = some (.cells cur 47 (0, 0)) ∧ l.length ≤ cap ∧ cap ≤ 9223372036854775807 := by
 rcases h.2 with ⟨_, h1⟩ | ⟨g, cap, cur, rfl, hb, hc, hn, hm, _⟩
 ·
  have : (l.flatMap ItemG.cells).length = l.length * 6 := by
   clear h h0
   rename_i h1
   clear h1
   induction l with
   | nil => rfl
   | cons x l ih => rw [List.flatMap_cons, List.length_append, ih, ItemG.size_cells, List.length_cons]; omega
  omega
 ·
  exact ⟨g, cap, cur, rfl, hb, hc, hn, by unfold maxLen at hm; omega⟩
theorem own_items {w0 w : World} {base : Nat} {l : List ItemG} {g cap : Nat} (h : OwnL ItemG.cells 47 6 w base (.slice (some ⟨g, 0, none⟩) l.length cap) l) (hc : l.length ≤ cap) (hm : cap ≤ 9223372036854775807) (ht : ∀ x ∈ l, x.tgt.lies w0) (hb : Below w0.heap.size w0 w) : ItemsAt w ⟨some ⟨g, 0, none⟩, cap, l⟩ := by
 obtain ⟨A, c, e, hr, _⟩ := OwnL.form (by decide) h
 injection e with e1 _ e3
 subst e1 e3
 exact ⟨⟨hr, hc, hm, fun h => by cases h⟩, fun x hx => StrS.lies.ext (ht x hx) hb⟩
def CellsI (V : World) (g j : Nat) (z : ItemG) : Prop := V.cell? ⟨g, j, none⟩ = some (.int .i64 z.cat) ∧ V.cell? ⟨g, j + 1, none⟩ = some (.int .i64 z.frm) ∧ V.cell? ⟨g, j + 2, none⟩ = some (.int .i64 z.unt) ∧ V.cell? ⟨g, j + 3, none⟩ = some (.int .i64 z.cost) ∧ V.cell? ⟨g, j + 4, none⟩ = some (.slice z.tgt.addr z.tgt.xs.length z.tgt.cap) ∧ V.cell? ⟨g, j + 5, none⟩ = some (.int .i64 z.term)
theorem own_cells {w : World} {base : Nat} {l : List ItemG} {g cap : Nat} (h : OwnL ItemG.cells 47 6 w base (.slice (some ⟨g, 0, none⟩) l.length cap) l) (i : Nat) (hi : i < l.length) : CellsI w g (i * 6) l[i] := by
 obtain ⟨A, c, e, hr, _⟩ := OwnL.form (by decide) h
 injection e with e1 _ e3
 subst e1 e3
 obtain ⟨b, off, e, _, hc⟩ := hr.elem ItemG.size_cells (by omega) hi
 injection e with e
 injection e with e1 e2
 subst e1 e2
 have key := fun (j : Nat) (u : Value) (hu : l[i].cells[j]? = some u) => hc j u hu
 simp only [Nat.zero_add] at key
 exact ⟨key 0 _ rfl, key 1 _ rfl, key 2 _ rfl, key 3 _ rfl, key 4 _ rfl, key 5 _ rfl⟩
theorem count_atS {g : Gram} {A : Option Addr} {cap L : Nat} {l : List ItemG} {n : Int} {w : World} {c e : Int} (hL : l.length = L) (hT : TabsG w) (hg : g.lies w) (hs : g.short) (hi : ItemsAt w ⟨A, cap, l⟩) (h : countR g l n = (c, e)) :
  Calls Tryz.prog 23 #[.agg #[.string g.name, .slice g.cats.addr g.cats.xs.length g.cats.cap, .string g.start, .int .i64 g.startNo, .slice g.entries.addr g.entries.xs.length g.entries.cap, .slice g.rules.addr g.rules.xs.length g.rules.cap], .slice A L cap, .int .i64 n] w fun E w' => E = .returned (.tuple #[.int .i64 c, .int .i64 e]) ∧ Below w.heap.size w w' := by
 subst hL
 exact count_at (its := ⟨A, cap, l⟩) hT hg hs hi h
theorem best_atS {g : Gram} {A : Option Addr} {cap L : Nat} {l : List ItemG} {n : Int} {w : World} {t : TreeV} {c : Int} {ok : Bool} {e : Int} (hL : l.length = L) (hT : TabsG w) (hg : g.lies w) (hs : g.short) (hi : ItemsAt w ⟨A, cap, l⟩) (h : bestR g l n = (t, c, ok, e)) :
  Calls Tryz.prog 17 #[.agg #[.string g.name, .slice g.cats.addr g.cats.xs.length g.cats.cap, .string g.start, .int .i64 g.startNo, .slice g.entries.addr g.entries.xs.length g.entries.cap, .slice g.rules.addr g.rules.xs.length g.rules.cap], .slice A L cap, .int .i64 n] w fun E w' => ∃ x : TreeG, E = .returned (.tuple #[.agg #[.int .i64 x.rule, .int .i64 x.item, .int .i64 x.frm, .int .i64 x.unt, .slice x.kids.addr x.kids.len x.kids.cap], .int .i64 c, .bool ok, .int .i64 e]) ∧ TreeW (fun _ => False) w' t x ∧ Below w.heap.size w w' := by
 subst hL
 exact best_at (its := ⟨A, cap, l⟩) hT hg hs hi h
set_option maxHeartbeats 8000000 in
theorem ChartOrder_any (g : Gram) (its : SlS ItemG) (n : Int) (a b : Nat) (w : World) (hT : TabsG w) (hg : g.lies w) (hs : g.short) (hi : ItemsAt w its) (ha : a ≤ 255) (hb : b ≤ 255) :
  Calls Tryz.prog 8 #[.agg #[.string g.name, .slice g.cats.addr g.cats.xs.length g.cats.cap, .string g.start, .int .i64 g.startNo, .slice g.entries.addr g.entries.xs.length g.entries.cap, .slice g.rules.addr g.rules.xs.length g.rules.cap], .slice its.addr its.xs.length its.cap, .int .i64 n, .int .u8 (a : Int), .int .u8 (b : Int)] w fun e w' => e = .returned (.bool true) ∧ Below w.heap.size w w' := by
 obtain ⟨W1, hW1⟩ : ∃ W1, w.alloc (.cells #[.string g.name, .slice g.cats.addr g.cats.xs.length g.cats.cap, .string g.start, .int .i64 g.startNo, .slice g.entries.addr g.entries.xs.length g.entries.cap, .slice g.rules.addr g.rules.xs.length g.rules.cap] 26) = W1 := ⟨_, rfl⟩
 have hB1 : Below w.heap.size w W1 := by rw [← hW1]; exact ext_alloc (Below.refl _ _) _
 have hk : W1.heap[w.heap.size]? = some (.cells #[.string g.name, .slice g.cats.addr g.cats.xs.length g.cats.cap, .string g.start, .int .i64 g.startNo, .slice g.entries.addr g.entries.xs.length g.entries.cap, .slice g.rules.addr g.rules.xs.length g.rules.cap] 26 (0, 0)) := by rw [← hW1]; exact World.alloc_heap_new _ _
 have HT := Lib.hid (fun V (hV : Below w.heap.size w V) => hT.ext hV)
 have HG := Lib.hid (fun V (hV : Below w.heap.size w V) => hg.ext hV)
 have HI := Lib.hid (fun V (hV : Below w.heap.size w V) => hi.ext hV)
 have Hs := Lib.hid hs
 have HB := Lib.hid hB1
 have Hk := Lib.hid hk
 have hml : its.xs.length ≤ its.cap ∧ its.cap ≤ 9223372036854775807 := ⟨hi.lies.cap, hi.lies.max⟩
 clear hT hg hs hi hk hB1
 go_enter Tryz.func8, Tryz.ntmps8
 go_wp2_with fail
 clear hW1
 refine (sane29_any W1 (HT.out _ HB.out)).mono ?_
 rintro e w2 ⟨rfl, hb2⟩
 have HB2 := Lib.hid (ext_trans HB.out hb2)
 have hk2 := (hb2.block _ (lt_block Hk.out)).trans Hk.out
 have Hk2 := Lib.hid hk2
 have c0 := gblk hk2 0
 have c1 := gblk hk2 1
 have c2 := gblk hk2 2
 have c3 := gblk hk2 3
 have c4 := gblk hk2 4
 have c5 := gblk hk2 5
 clear hk2 hb2
 go_wp2_with fail
 refine (few29_all g its n w2 (HG.out _ HB2.out) (HI.out _ HB2.out)).mono ?_
 rintro e w3 ⟨b1, rfl, hb3, hfew⟩
 have HB3 := Lib.hid (ext_trans HB2.out hb3)
 have hk3 := (hb3.block _ (lt_block Hk2.out)).trans Hk2.out
 have Hk3 := Lib.hid hk3
 clear c0 c1 c2 c3 c4 c5
 have c0 := gblk hk3 0
 have c1 := gblk hk3 1
 have c2 := gblk hk3 2
 have c3 := gblk hk3 3
 have c4 := gblk hk3 4
 have c5 := gblk hk3 5
 clear hk3 hb3 hfew
 cases b1
 ·
  go_wp2_with fail
  go_ret
  exact ⟨rfl, HB3.out⟩
 go_wp2_with fail
 refine (error29_any g its n w3 (HG.out _ HB3.out) (HI.out _ HB3.out)).mono ?_
 rintro e w4 ⟨rfl, hb4⟩
 have HB4 := Lib.hid (ext_trans HB3.out hb4)
 have hk4 := (hb4.block _ (lt_block Hk3.out)).trans Hk3.out
 have Hk4 := Lib.hid hk4
 clear c0 c1 c2 c3 c4 c5 hk4 hb4
 by_cases h0 : errC g its.xs n = 0
 rotate_left
 ·
  have q0 : (errC g its.xs n != 0) = true := by simpa using h0
  have q1 : (errC g its.xs n == 0) = false := by simpa using h0
  clear h0
  generalize errC g its.xs n = ee at *
  go_wp2_with fail
  go_ret
  exact ⟨rfl, HB4.out⟩
 have H0 := Lib.hid h0
 rw [h0]
 have hfew := (errC_zero h0).few
 clear h0
 by_cases hl : its.xs.length = 0
 ·
  have q0 : ((its.xs.length : Int) == 0) = true := by simp [hl]
  go_wp2_with fail
  go_ret
  exact ⟨rfl, HB4.out⟩
 have q0 : ((its.xs.length : Int) == 0) = false := by simp; intro h; rw [h] at hl; exact hl rfl
 obtain ⟨i0, z0, hi0, hz0, hz1, hz2, hzs⟩ := parts_item
 have hflat : (its.xs.flatMap ItemG.cells).length = its.xs.length * 6 := by
  generalize its.xs = l
  induction l with
  | nil => rfl
  | cons x l ih => rw [List.flatMap_cons, List.length_append, ih, ItemG.size_cells, List.length_cons]; omega
 have hone : ∀ u ∈ its.xs.flatMap ItemG.cells, u.oneCell' = true := by
  intro u hu
  obtain ⟨x, _, hx⟩ := List.mem_flatMap.1 hu
  simp [ItemG.cells] at hx
  rcases hx with rfl | rfl | rfl | rfl | rfl | rfl <;> rfl
 have A1 : 0 + its.xs.length ≤ maxLen := by unfold maxLen; omega
 have A2 : (0 + its.xs.length) * 64 ≤ 140737488355328 := by omega
 have hR4 := Lib.hid (HI.out _ (ext_alloc HB4.out (.cells #[] 47))).lies.rd
 go_wp2_with (at_builtin; refine wpList_append_rd rfl _ _ 27 rfl w4.heap.size 47 i0 z0 6 64 Tryz.underlying27 hi0 hz0 hz1 hz2 hzs (by decide) (.slice (some ⟨w4.heap.size, 0, none⟩) 0 0) 0 [] rfl its.addr its.xs.length its.cap (its.xs.flatMap ItemG.cells) rfl (own_empty (World.alloc_heap_new _ _) (Nat.le_refl _)) hflat hR4.out hone A1 A2 (by simp) ?_; intro v5 w5 hown5 hgrow5 hv5; clear hv5)
 have hle : OwnL ItemG.cells 47 6 (w4.alloc (.cells #[] 47)) w4.heap.size (.slice (some ⟨w4.heap.size, 0, none⟩) 0 0) [] := own_empty (World.alloc_heap_new _ _) (Nat.le_refl _)
 have hB5 := below_own (ext_alloc HB4.out _) hle HB4.out.size hgrow5
 have h5 : OwnL ItemG.cells 47 6 w5 w4.heap.size v5 its.xs := by unfold OwnL; simpa using hown5
 obtain ⟨gb, cap, cur, rfl, hgb, hblk, hc1, hc2⟩ := own_some h5 (by omega)
 have HB45 := Lib.hid (below_own (ext_alloc (Below.refl w4.heap.size w4) _) hle (Nat.le_refl _) hgrow5)
 have HB5 := Lib.hid hB5
 have H5 := Lib.hid h5
 have Hblk := Lib.hid hblk
 have hgw : w.heap.size ≤ gb := Nat.le_trans HB4.out.size hgb
 have hgl := lt_block hblk
 clear hown5 hgrow5 hle hB5 h5 hblk hone hflat A1 A2 hR4
 have hLp : 0 < its.xs.length := by omega
 have hia : (IntKind.i64.wrap (a : Int)).tmod (its.xs.length : Int) = ((a % its.xs.length : Nat) : Int) := by rw [IntWalk.i64_in _ (by omega)]; rfl
 have hib : (IntKind.i64.wrap (b : Int)).tmod (its.xs.length : Int) = ((b % its.xs.length : Nat) : Int) := by rw [IntWalk.i64_in _ (by omega)]; rfl
 have hil : a % its.xs.length < its.xs.length := Nat.mod_lt _ hLp
 have hkl : b % its.xs.length < its.xs.length := Nat.mod_lt _ hLp
 generalize a % its.xs.length = i at *
 generalize b % its.xs.length = k at *
 have hl0 : ¬ (its.xs.length : Int) = 0 := by omega
 have Hwa := Lib.hid (show IntKind.i64.wrap (a : Int) = (a : Int) from IntWalk.i64_in _ (by omega))
 have Hwb := Lib.hid (show IntKind.i64.wrap (b : Int) = (b : Int) from IntWalk.i64_in _ (by omega))
 have Hia := Lib.hid hia
 have Hib := Lib.hid hib
 clear hia hib
 go_still (by kernel_rfl)
 rw [Hia.out, Hib.out, Hwa.out, Hwb.out]
 go_wp2_with fail
 change Code.wp _ _ _ _ (World.drew w5)
 obtain ⟨w6, hw6⟩ : ∃ v, w5.drew.drew = v := ⟨_, rfl⟩
 have hb6 : Below w5.heap.size w5 w6 := by rw [← hw6]; exact ext_drew (ext_drew (Below.refl _ _))
 have H6 := H5.out.ext hb6
 have hC6i := own_cells H6 i hil
 have hC6k := own_cells H6 k hkl
 have hperm := Lib.hid (swap_perm its.xs i k hil hkl)
 have hblk6 := (hb6.block _ hgl).trans Hblk.out
 obtain ⟨zi, hzi⟩ : ∃ z, its.xs[i] = z := ⟨_, rfl⟩
 obtain ⟨zk, hzk⟩ : ∃ z, its.xs[k] = z := ⟨_, rfl⟩
 rw [hzi, hzk] at hperm
 rw [hzi] at hC6i
 rw [hzk] at hC6k
 have H7 := own_set6 (i := i) H6 rfl hil zk
 have hk7 : k < (its.xs.set i zk).length := by rw [List.length_set]; exact hkl
 have H8 := own_set6 (i := k) H7 rfl hk7 zi
 have HB8 := Lib.hid (set6_below (set6_below (ext_trans HB5.out hb6) hgw (i * 6) zk) hgw (k * 6) zi)
 have HB48 := Lib.hid (set6_below (set6_below (ext_trans HB45.out hb6) hgb (i * 6) zk) hgb (k * 6) zi)
 have hlen8 : ((its.xs.set i zk).set k zi).length = its.xs.length := by rw [List.length_set, List.length_set]
 have hI8 := own_items (l := (its.xs.set i zk).set k zi) (g := gb) (cap := cap) (by rw [hlen8]; exact H8) (by rw [hlen8]; exact hc1) hc2 (fun x hx => (HI.out w (Below.refl _ _)).tgt x (hperm.out.mem_iff.2 hx)) HB8.out
 obtain ⟨w7, hw7⟩ : ∃ v, set6 w6 gb (i * 6) zk = v := ⟨_, rfl⟩
 rw [hw7] at H7 H8 HB8 hI8 HB48
 have hC7 : ∃ z, CellsI w7 gb (k * 6) z := ⟨_, own_cells (l := its.xs.set i zk) (by rw [List.length_set]; exact H7) k hk7⟩
 obtain ⟨zq, hC7⟩ := hC7
 obtain ⟨g7, cap7, cur7, e7, _, hblk7, hcc7⟩ := own_some H7 (by omega)
 clear hcc7
 have hg7 : gb = g7 := by
  injection e7 with e7 _ _
  injection e7 with e7
  injection e7
 clear e7
 subst hg7
 have zf6 := fun n => frozen_one hblk6 n
 have zf7 := fun n => frozen_one hblk7 n
 have HI8 := Lib.hid hI8
 have Hperm := Lib.hid hperm
 have hil' : (i : Int) < (its.xs.length : Int) := by omega
 have hkl' : (k : Int) < (its.xs.length : Int) := by omega
 clear H6 H7 H8 hblk6 hblk7 hI8 hperm hzi hzk
 obtain ⟨p0, p1, p2, p3, p4, p5⟩ := hC6i
 obtain ⟨q0', q1, q2, q3, q4, q5⟩ := hC6k
 obtain ⟨r0, r1, r2, r3, r4, r5⟩ := hC7
 have Hw7 := Lib.hid hw7
 have Hgl := Lib.hid hgl
 have Hw6 := Lib.hid hw6
 clear hc1 hc2 hw6 hw7 Hia Hib hl q0 hml hfew hb6
 refine wpIn_wide (n := 0) |>.1 ?_
 refine wpIn_meetF (fun (_ : Unit) a => { a with tmps := ((((((((((((((a.tmps.setIfInBounds 58 (.slice (some ⟨gb, 0, none⟩) its.xs.length cap)).setIfInBounds 59 (.int .i64 (i : Int))).setIfInBounds 60 (.slice (some ⟨gb, 0, none⟩) its.xs.length cap)).setIfInBounds 61 (.int .i64 (k : Int))).setIfInBounds 62 (.slice (some ⟨gb, 0, none⟩) its.xs.length cap)).setIfInBounds 63 (.int .i64 (k : Int))).setIfInBounds 64 (.pointer (some ⟨gb, k * 6, none⟩))).setIfInBounds 65 (.agg #[.int .i64 zk.cat, .int .i64 zk.frm, .int .i64 zk.unt, .int .i64 zk.cost, .slice zk.tgt.addr zk.tgt.xs.length zk.tgt.cap, .int .i64 zk.term])).setIfInBounds 66 (.slice (some ⟨gb, 0, none⟩) its.xs.length cap)).setIfInBounds 67 (.int .i64 (i : Int))).setIfInBounds 68 (.pointer (some ⟨gb, i * 6, none⟩))).setIfInBounds 69 (.agg #[.int .i64 zi.cat, .int .i64 zi.frm, .int .i64 zi.unt, .int .i64 zi.cost, .slice zi.tgt.addr zi.tgt.xs.length zi.tgt.cap, .int .i64 zi.term])).setIfInBounds 70 (.pointer (some ⟨gb, i * 6, none⟩))).setIfInBounds 71 (.pointer (some ⟨gb, k * 6, none⟩))) }) (fun _ v => v = set6 w7 gb (k * 6) zi) ?_ ?_
 ·
  refine wpIn_region_cls (fun _ => True) (by kernel_rfl) ?_
  rw [Hw6.out]
  refine wpAnyC_take (i := 0) rfl (by kernel_rfl) (by kernel_rfl) (by kernel_rfl) (fun _ _ _ h => h) (by kernel_rfl) (fun V hV => (by skip; go_simp <;> rfl)) ?_
  refine wpAnyC_take (i := 1) rfl (by kernel_rfl) (by kernel_rfl) (by kernel_rfl) (fun _ _ _ h => h) (by kernel_rfl) (fun V hV => (by skip; go_simp <;> rfl)) ?_
  refine wpAnyC_take (i := 2) rfl (by kernel_rfl) (by kernel_rfl) (by kernel_rfl) (fun _ _ _ h => h) (by kernel_rfl) (fun V hV => (by skip; go_simp <;> rfl)) ?_
  refine wpAnyC_take (i := 3) rfl (by kernel_rfl) (by kernel_rfl) (by kernel_rfl) (fun _ _ _ h => h) (by kernel_rfl) (fun V hV => (by skip; go_simp <;> rfl)) ?_
  refine wpAnyC_take (i := 4) rfl (by kernel_rfl) (by kernel_rfl) (by kernel_rfl) (fun _ _ _ h => h) (by kernel_rfl) (fun V hV => (by skip; go_simp <;> rfl)) ?_
  refine wpAnyC_take (i := 5) rfl (by kernel_rfl) (by kernel_rfl) (by kernel_rfl) (fun _ _ _ h => h) (by kernel_rfl) (fun V hV => (by skip; go_simp <;> rfl)) ?_
  refine wpAnyC_take (i := 6) rfl (by kernel_rfl) (by kernel_rfl) (by kernel_rfl) (fun _ _ _ h => h) (by kernel_rfl) (fun V hV => (by skip; go_simp <;> rfl)) ?_
  refine wpAnyC_take (i := 8) rfl (by kernel_rfl) (by kernel_rfl) (by kernel_rfl) (fun _ _ _ h => h) (by kernel_rfl) (fun V hV => (by skip; go_simp <;> rfl)) ?_
  refine wpAnyC_take (i := 9) rfl (by kernel_rfl) (by kernel_rfl) (by kernel_rfl) (fun _ _ _ h => h) (by kernel_rfl) (fun V hV => (by skip; go_simp <;> rfl)) ?_
  refine wpAnyC_take (i := 10) rfl (by kernel_rfl) (by kernel_rfl) (by kernel_rfl) (fun _ _ _ h => h) (by kernel_rfl) (fun V hV => (by skip; go_simp <;> rfl)) ?_
  refine wpAnyC_ready (rs := [7, 11]) trivial (by kernel_rfl) (by simp) (AllC.cons rfl (fun K hK => ?_) (AllC.cons rfl (fun K hK => ?_) AllC.nil))
  ·
   go_simp
   refine hK _ _ ?_
   clear hK K
   refine wpAnyC_ready (rs := [11]) trivial (by kernel_rfl) (by simp) (AllC.cons rfl (fun K hK => ?_) AllC.nil)
   go_simp
   refine hK _ _ ?_
   clear hK K
   refine wpAnyC_take (i := 12) rfl (by kernel_rfl) (by kernel_rfl) (by kernel_rfl) (fun _ _ _ h => h) (by kernel_rfl) (fun V hV => (by skip; go_simp <;> rfl)) ?_
   refine wpAnyC_ready (rs := [13]) trivial (by kernel_rfl) (by simp) (AllC.cons rfl (fun K hK => ?_) AllC.nil)
   go_simp
   refine hK _ _ ?_
   clear hK K
   change wpAnyC _ _ _ _ _ _ _ _ (set6 w6 gb (i * 6) zk)
   rw [Hw7.out]
   refine wpAnyC_take (i := 14) rfl (by kernel_rfl) (by kernel_rfl) (by kernel_rfl) (fun _ _ _ h => h) (by kernel_rfl) (fun V hV => (by skip; go_simp <;> rfl)) ?_
   refine wpAnyC_ready (rs := [15]) trivial (by kernel_rfl) (by simp) (AllC.cons rfl (fun K hK => ?_) AllC.nil)
   go_simp
   refine hK _ _ ?_
   clear hK K
   refine wpAnyC_done trivial (by kernel_rfl) ?_ _
   refine ⟨(), ?_, rfl⟩
   kernel_rfl
  ·
   go_simp
   refine hK _ _ ?_
   clear hK K
   refine wpAnyC_ready (rs := [7]) trivial (by kernel_rfl) (by simp) (AllC.cons rfl (fun K hK => ?_) AllC.nil)
   go_simp
   refine hK _ _ ?_
   clear hK K
   refine wpAnyC_take (i := 12) rfl (by kernel_rfl) (by kernel_rfl) (by kernel_rfl) (fun _ _ _ h => h) (by kernel_rfl) (fun V hV => (by skip; go_simp <;> rfl)) ?_
   refine wpAnyC_ready (rs := [13]) trivial (by kernel_rfl) (by simp) (AllC.cons rfl (fun K hK => ?_) AllC.nil)
   go_simp
   refine hK _ _ ?_
   clear hK K
   change wpAnyC _ _ _ _ _ _ _ _ (set6 w6 gb (i * 6) zk)
   rw [Hw7.out]
   refine wpAnyC_take (i := 14) rfl (by kernel_rfl) (by kernel_rfl) (by kernel_rfl) (fun _ _ _ h => h) (by kernel_rfl) (fun V hV => (by skip; go_simp <;> rfl)) ?_
   refine wpAnyC_ready (rs := [15]) trivial (by kernel_rfl) (by simp) (AllC.cons rfl (fun K hK => ?_) AllC.nil)
   go_simp
   refine hK _ _ ?_
   clear hK K
   refine wpAnyC_done trivial (by kernel_rfl) ?_ _
   refine ⟨(), ?_, rfl⟩
   kernel_rfl
 ·
  rintro - v rfl
  obtain ⟨w8, hw8⟩ : ∃ v, set6 w7 gb (k * 6) zi = v := ⟨_, rfl⟩
  rw [hw8] at HB8 HI8 HB48 ⊢
  have hop := order_plain H0.out Hperm.out.out
  obtain ⟨⟨cc, ce⟩, hcc⟩ : ∃ x, countR g its.xs n = x := ⟨_, rfl⟩
  obtain ⟨⟨t1, c1', o1, e1⟩, hbb⟩ : ∃ x, bestR g its.xs n = x := ⟨_, rfl⟩
  obtain ⟨⟨t2, c2', o2, e2⟩, hbb2⟩ : ∃ x, bestR g ((its.xs.set i zk).set k zi) n = x := ⟨_, rfl⟩
  rw [hcc, hbb, hbb2] at hop
  obtain ⟨h08, hcc2, hbe⟩ := hop
  obtain ⟨rfl, rfl, rfl⟩ : c2' = c1' ∧ o2 = o1 ∧ e2 = e1 := by simpa using hbe
  have he1 : e2 = 0 := by
   have h := hbb
   unfold bestR at h
   rw [if_neg (by simp [H0.out])] at h
   split at h <;> simp at h <;> exact h.2.2.2.symm
  subst he1
  have Hcc := Lib.hid hcc
  have Hcc2 := Lib.hid hcc2
  have Hbb := Lib.hid hbb
  have Hbb2 := Lib.hid hbb2
  have Hlen8 := Lib.hid hlen8
  clear hw8 hcc hcc2 hbb hbb2 hbe h08 p0 p1 p2 p3 p4 p5 q0' q1 q2 q3 q4 q5 r0 r1 r2 r3 r4 r5 zf6 zf7 hk7 hlen8 Hw6 Hw7
  have HK := Lib.hid ((HB48.out.block _ (lt_block Hk4.out)).trans Hk4.out)
  have hkc := HK.out
  have c0 := gblk hkc 0
  have c1 := gblk hkc 1
  have c2 := gblk hkc 2
  have c3 := gblk hkc 3
  have c4 := gblk hkc 4
  have c5 := gblk hkc 5
  clear hkc
  gi_wp2_with fail
  go_wp2_with fail
  clear c0 c1 c2 c3 c4 c5
  refine (count_at (HT.out _ HB8.out) (HG.out _ HB8.out) Hs.out (HI.out _ HB8.out) Hcc.out).mono ?_
  rintro e w9 ⟨rfl, hb⟩
  replace HK := Lib.hid ((hb.block _ (lt_block HK.out)).trans HK.out)
  replace HB8 := Lib.hid (ext_trans HB8.out hb)
  replace HI8 := Lib.hid (HI8.out.ext hb)
  clear hb
  have hkc := HK.out
  have c0 := gblk hkc 0
  have c1 := gblk hkc 1
  have c2 := gblk hkc 2
  have c3 := gblk hkc 3
  have c4 := gblk hkc 4
  have c5 := gblk hkc 5
  clear hkc
  go_wp2_with fail
  clear c0 c1 c2 c3 c4 c5
  refine (count_atS Hlen8.out (HT.out _ HB8.out) (HG.out _ HB8.out) Hs.out HI8.out Hcc2.out).mono ?_
  rintro e w10 ⟨rfl, hb⟩
  replace HK := Lib.hid ((hb.block _ (lt_block HK.out)).trans HK.out)
  replace HB8 := Lib.hid (ext_trans HB8.out hb)
  replace HI8 := Lib.hid (HI8.out.ext hb)
  clear hb
  have hkc := HK.out
  have c0 := gblk hkc 0
  have c1 := gblk hkc 1
  have c2 := gblk hkc 2
  have c3 := gblk hkc 3
  have c4 := gblk hkc 4
  have c5 := gblk hkc 5
  clear hkc
  go_wp2_with fail
  clear c0 c1 c2 c3 c4 c5
  refine (best_at (HT.out _ HB8.out) (HG.out _ HB8.out) Hs.out (HI.out _ HB8.out) Hbb.out).mono ?_
  rintro e w11 ⟨x1, rfl, _, hb⟩
  replace HK := Lib.hid ((hb.block _ (lt_block HK.out)).trans HK.out)
  replace HB8 := Lib.hid (ext_trans HB8.out hb)
  replace HI8 := Lib.hid (HI8.out.ext hb)
  obtain ⟨w12, hw⟩ : ∃ v, w11.alloc (.cells #[.int .i64 x1.rule, .int .i64 x1.item, .int .i64 x1.frm, .int .i64 x1.unt, .slice x1.kids.addr x1.kids.len x1.kids.cap] 32) = v := ⟨_, rfl⟩
  replace hb : Below w11.heap.size w11 w12 := by rw [← hw]; exact ext_alloc (Below.refl _ _) _
  replace HK := Lib.hid ((hb.block _ (lt_block HK.out)).trans HK.out)
  replace HB8 := Lib.hid (ext_trans HB8.out hb)
  replace HI8 := Lib.hid (HI8.out.ext hb)
  clear hb
  have hkc := HK.out
  have c0 := gblk hkc 0
  have c1 := gblk hkc 1
  have c2 := gblk hkc 2
  have c3 := gblk hkc 3
  have c4 := gblk hkc 4
  have c5 := gblk hkc 5
  clear hkc
  go_wp2_with fail
  clear c0 c1 c2 c3 c4 c5 hw
  refine (best_atS Hlen8.out (HT.out _ HB8.out) (HG.out _ HB8.out) Hs.out HI8.out Hbb2.out).mono ?_
  rintro e w13 ⟨x2, rfl, _, hb⟩
  have HB9 := Lib.hid (ext_trans HB8.out hb)
  clear hb
  go_wp2_with fail
  go_ret
  exact ⟨by simp, ext_alloc HB9.out _⟩
end Go.Proofs.YthojaplnimoacaaGreatDoor
