/- Texts of this claim, one after the other: RelB, RelC, Rel5, Law38a, OpenH. -/
import Derived.Test.YtmindojbkedmlaaM7
import Derived.Test.YtmindojbkedmlaaM6
import Derived.Test.YtmindojbkedmlaaM1
import Derived.Test.YtmindojbkedmlaaM2
import Derived.WalkMore
import Derived.PinnedBridge
import Derived.OpenVars
import Derived.Deep.Slices
import Derived.Deep.Fields
import Derived.Lib.SmallJoins
import Derived.ProofKit
import Derived.LaidMore
import Derived.OpenShut
import Derived.Lay
import Derived.Stop.Joined
import Derived.Below
import Derived.ChangeSame
import Derived.Carry
/- Package releases: Shows. -/
namespace Go.Proofs.Ytmindojbkedmlaa
open Go.RowKit Go.Han
attribute [local irreducible] wpStill wpQuiet
attribute [local go_sem] Oper.semAt_some
set_option maxRecDepth 100000

theorem heap_set_same {w : World} {g j e : Nat} {u : Value} {c : Array Value} {fr : Nat × Nat} (h : w.heap[g]? = some (.cells c e fr)) : (w.setCell ⟨g, j, none⟩ u).heap[g]? = some (.cells (c.setIfInBounds j u) e fr) := by
  obtain ⟨hlt, hk⟩ := Array.getElem?_eq_some_iff.1 h
  show (w.heap.modify g _)[g]? = _
  rw [Array.getElem?_eq_getElem (by rw [Array.size_modify]; exact hlt), Array.getElem_modify_self, hk]
  rfl
theorem own_set {w : World} {base e size n g j : Nat} {v : Value} {xs : List Value} (h : w.ownsRow base e size v n xs) (hg : v.ownBlock = some g) (u : Value) : (w.setCell ⟨g, j, none⟩ u).ownsRow base e size v n (xs.set j u) := by
  rcases h.2 with ⟨rfl, _⟩ | ⟨g', cap, cur, rfl, hb, hc, hn, hm, hs, ht⟩
  · cases hg
  · obtain rfl : g' = g := by simpa [Value.ownBlock] using hg
    refine ⟨by simp [h.1], .inr ⟨g', cap, cur.setIfInBounds j u, rfl, hb, heap_set_same hc, hn, hm, by simp [hs], ?_⟩⟩
    rw [Array.toList_setIfInBounds, List.take_set, ht]
theorem boxed_other {W : World} {B B' j : Nat} {t : TypeId} {v u : Value} (h : Boxed W B t v) (hne : B ≠ B') : Boxed (W.setCell ⟨B', j, none⟩ u) B t v := (Below.heap_setCell _ _ _ _ hne).trans h
theorem only_grow {M : Nat → Prop} {a w w' : World} {row : Option Nat} (h : Only M a w) (hg : w.grownBy w' row) (ho : ∀ g, row = some g → a.heap.size ≤ g) : Only M a w' :=
  ⟨hg.os.trans h.os, hg.tape.trans h.tape, hg.output.trans h.output, Nat.le_trans h.size hg.size, fun i hi hn => (hg.block i (Nat.lt_of_lt_of_le hi h.size) (fun e => by have := ho i e.symm; omega)).trans (h.block i hi hn)⟩
def openB (S : List Stp) : Bool := match S.getLast? with | some x => x.state == 0 | none => false
theorem openB_snoc (S : List Stp) (x : Stp) : openB (S ++ [x]) = (x.state == 0) := by unfold openB; simp
theorem spansF_snoc : ∀ (S : List Stp) (x : Stp),
    (openB S = false ∧ spansF (S ++ [x]) = spansF S ++ (if x.state = 0 then [⟨x.at_, 1099511627776⟩] else [])) ∨
    (openB S = true ∧ ∃ r f, spansF S = r ++ [⟨f, 1099511627776⟩] ∧ spansF (S ++ [x]) = (r ++ [⟨f, x.at_⟩]) ++ (if x.state = 0 then [⟨x.at_, 1099511627776⟩] else []))
  | [], x => .inl ⟨rfl, by simp [spansF]⟩
  | [y], x => by
    by_cases h : y.state = 0
    · exact .inr ⟨by simp [openB, h], [], y.at_, by simp [spansF, h], by simp [spansF, h]⟩
    · exact .inl ⟨by simp [openB, h], by simp [spansF, h]⟩
  | z :: y :: t, x => by
    have ho : openB (z :: y :: t) = openB (y :: t) := by unfold openB; simp
    rw [ho]
    have e : ∀ t', spansF (z :: y :: t') = (if z.state = 0 then [⟨z.at_, y.at_⟩] else []) ++ spansF (y :: t') := fun t' => by rw [spansF]
    rcases spansF_snoc (y :: t) x with ⟨h1, h2⟩ | ⟨h1, r, f, h2, h3⟩
    · refine .inl ⟨h1, ?_⟩
      rw [List.cons_append, List.cons_append, e, e, ← List.cons_append, h2, List.append_assoc]
    · refine .inr ⟨h1, (if z.state = 0 then [⟨z.at_, y.at_⟩] else []) ++ r, f, ?_, ?_⟩
      · rw [e, h2, List.append_assoc]
      · rw [List.cons_append, List.cons_append, e, ← List.cons_append, h3]
        simp only [List.append_assoc]
theorem nflat_set (r : List Spn) (f e t : Int) : (nflat (r ++ [⟨f, e⟩])).set (r.length * 2 + 1) (.int .i64 t) = nflat (r ++ [⟨f, t⟩]) := by
  unfold nflat
  have hl : (r.flatMap Spn.cells).length = r.length * 2 := flat_len Spn.cells 2 Spn.size_cells r
  rw [List.flatMap_append, List.flatMap_append, List.set_append_right _ _ (by omega), hl]
  simp [Spn.cells]
/-- Between two rounds. -/
def SpInv (Wl : World) (bX bO : Nat) (own : Nat → Prop) (pre : List Stp) (X : World) : Prop :=
  ∃ v, (∀ k, own k ↔ (k = bX ∨ k = bO ∨ v.ownBlock = some k)) ∧ Boxed X bX 34 v ∧ Boxed X bO 4 (.bool (openB pre)) ∧ OwnN X Wl.heap.size v (spansF pre) ∧ Only (fun k => k = bX ∨ k = bO) Wl X
theorem only_iterM {M own : Nat → Prop} {B0 : Nat} {a b c : World} (h : Only M a b) (k : IterStep B0 (fun _ => False) own b c) (hB : a.heap.size ≤ B0) : Only M a c :=
  ⟨k.os.trans h.os, k.tape.trans h.tape, k.output.trans h.output, Nat.le_trans h.size k.size, fun i hi hn => (k.block i (Nat.lt_of_lt_of_le hi h.size) (.inl ⟨by omega, fun h => h⟩)).trans (h.block i hi hn)⟩
theorem spInv_stable (Wl : World) (bX bO B1 : Nat) (hB : Wl.heap.size ≤ B1) : Stable B1 (fun _ => False) (SpInv Wl bX bO) := by
  rintro own pre W W' ⟨v, ho, hv, hv2, hr, hon⟩ st
  exact ⟨v, ho, (st.block _ hv.lt (.inr ((ho _).2 (.inl rfl)))).trans hv, (st.block _ hv2.lt (.inr ((ho _).2 (.inr (.inl rfl))))).trans hv2, ownsRow_of_block hr fun g hg => st.block g (hr.lt g hg).2 (.inr ((ho _).2 (.inr (.inr hg)))), only_iterM hon st (by omega)⟩
def SpAsg (Wl : World) (bX bO : Nat) (F : Value → Value → Array Value) (x : Stp) (a' : Act) (own : Nat → Prop) (pre : List Stp) (W : World) : Prop :=
  ∃ bx own1, a' = { tmps := F (.pointer (some ⟨bx, 0, none⟩)) (.agg #[.int .i64 x.at_, .int .i64 x.state, .bool true]), defers := [] } ∧ (∀ k, own k ↔ (own1 k ∨ k = bx)) ∧ ¬ own1 bx ∧ Wl.heap.size ≤ bx ∧ W.heap[bx]? = some (.cells #[.int .i64 x.at_, .int .i64 x.state, .bool true] 47 (0, 0)) ∧ SpInv Wl bX bO own1 pre W
theorem spAsg_stable (Wl : World) (bX bO : Nat) (F : Value → Value → Array Value) (x : Stp) (a' : Act) (B1 : Nat) (hB : Wl.heap.size ≤ B1) : Stable B1 (fun _ => False) (SpAsg Wl bX bO F x a') := by
  rintro own pre W W' ⟨bx, own1, ha', ho, hn, hb, hx, hI⟩ st
  exact ⟨bx, own1, ha', ho, hn, hb, (st.block _ (lt_block hx) (.inr ((ho _).2 (.inr rfl)))).trans hx, spInv_stable Wl bX bO B1 hB own1 pre W W' hI ⟨st.os, st.tape, st.output, st.size, fun k hk h => st.block k hk (h.imp id fun h => (ho k).2 (.inl h))⟩⟩
set_option maxHeartbeats 4000000 in
theorem Shows_any (A : Option Addr) (c : Nat) (l : List House) (s b g kn : Int) (w : World) (hr : Rd w A (hflat l)) (hm : l.length ≤ 9223372036854775807) :
    Calls Try.prog 17 #[.slice A l.length c, .int .i64 s, .int .i64 b, .int .i64 g, .int .i64 kn] w (ShowPost l s b g kn w) := by
  obtain ⟨i0, hi0, iz0, is0, ib0⟩ := info_parts info_spn
  obtain ⟨W1, hW1⟩ : ∃ W, w.alloc (.cells #[.slice none 0 0] 34) = W := ⟨_, rfl⟩
  have hB1 : Below w.heap.size w W1 := by subst hW1; exact ext_alloc (Below.refl _ _) _
  have k1 : Boxed W1 w.heap.size 34 (.slice none 0 0) := by subst hW1; exact Boxed.new _ _ _
  have hz1 : W1.heap.size = w.heap.size + 1 := by subst hW1; simp
  have cC := Lib.hid (checkR_any A c l s b g kn W1 (hr.ext hB1) hm)
  unfold RelPost at cC
  unfold ShowPost
  have HW1 := Lib.hid hW1
  have Hz1 := Lib.hid hz1
  have K1 := Lib.hid k1
  clear hW1 hz1 k1
  by_cases hre : relE l s b g kn = 0
  · have hok := rel_ok.1 hre
    have HR : Hid (spnR l s b g kn = spansF (stpL l s b g kn)) := by show _ = _; unfold spnR; rw [if_pos hre]; rfl
    have hsl := stpL_len (l := l) (s := s) (b := b) (g := g) (kn := kn)
    have hlen := (hchk_ok hok.chk).1
    have hS8 : (stpL l s b g kn).length ≤ 8000 := by omega
    have cS := Lib.hid (fun W (hW : Below w.heap.size w W) => steps_any A c l s b g kn W (hr.ext hW) hok)
    have cI := Lib.hid (fun W (hW : Below w.heap.size w W) (bm bl bs bb bg bk mp : Nat) (hat : StepsAt A c l s b g kn bm bl bs bb bg bk mp W) => And.intro (steps1 A c l s b g kn bm bl bs bb bg bk mp W hat (hr.ext hW) hok) (steps_alive hat (hr.ext hW)))
    rw [hre] at cC
    rw [hre, HR.out]
    have hAlt : ∀ a, A = some a → l ≠ [] → a.block < w.heap.size := fun a ha hl => by
      obtain ⟨b, off, he, hb, _⟩ := hou_elem hr (k := 0) (List.length_pos_iff.2 hl)
      rw [he] at ha; cases ha; exact hb
    have HAlt := Lib.hid hAlt
    generalize stpL l s b g kn = S at *
    clear HR hok hre hr hsl hAlt
    refine calls_of_wpAt Try.func17 rfl ?_
    simp only [Try.ntmps17, List.size_toArray, List.length_cons, List.length_nil, Nat.reduceAdd, Nat.reduceSub, Array.replicate_succ, Array.replicate_zero, List.push_toArray, List.append_toArray, List.nil_append, List.cons_append]
    refine wpAt_seq_wp fun Q1 hQ1 => ?_
    go_wp2_with fail
    rw [HW1.out]
    refine wpAt_seq_wp fun Q2 hQ2 => ?_
    go_wp2_with fail
    refine cC.out.mono ?_
    rintro e w2 ⟨rfl, hb2⟩
    clear cC HW1
    go_wp2_with fail
    refine wpAt_seq_wp fun Q3 hQ3 => ?_
    go_wp2_with fail
    obtain ⟨w3, hw3⟩ : ∃ W, w2.alloc (.cells #[.bool false] 4) = W := ⟨_, rfl⟩
    have hb3 : Below w2.heap.size w2 w3 := by subst hw3; exact ext_alloc (Below.refl _ _) _
    have k3 : Boxed w3 w2.heap.size 4 (.bool false) := by subst hw3; exact Boxed.new _ _ _
    have hz3 : w3.heap.size = w2.heap.size + 1 := by subst hw3; simp
    have hB3 := ext_trans hB1 (ext_trans hb2 hb3)
    rw [hw3]
    have kX3 : Boxed w3 w.heap.size 34 (.slice none 0 0) := (K1.out.kept (gbelow_grown hb2 none) (by simp)).kept (gbelow_grown hb3 none) (by simp)
    have K3 := Lib.hid k3
    have KX3 := Lib.hid kX3
    have Hz3 := Lib.hid hz3
    have Hs2 := Lib.hid hb2.size
    clear hw3 k3 kX3 hz3 hb2 K1 hb3
    refine wpAt_seq ?_
    refine wpAt_seq_wp fun Q4 hQ4 => ?_
    go_wp2_with fail
    refine (cS.out w3 hB3).mono ?_
    rintro e w4 ⟨bm, bl, bs, bb, bg, bk, mp, rfl, hat, hb4, n1, n2, n3, n4, n5, n6, n7⟩
    have hB4 := ext_trans hB3 hb4
    obtain ⟨hit, hal⟩ := cI.out w4 hB4 bm bl bs bb bg bk mp hat
    have k4 := K3.out.kept (gbelow_grown hb4 none) (by simp)
    have kX4 := KX3.out.kept (gbelow_grown hb4 none) (by simp)
    have hsz4 := hb4.size
    clear cS cI hat hb4 K3 KX3
    go_wp2_with fail
    refine wpAt_block ?_
    have hz3 := Hz3.out
    have hz1 := Hz1.out
    have hs2 := Hs2.out
    have hnX : ¬ StepsR A l bm bl bs bb bg bk mp w.heap.size := by
      rintro (h | h | h | h | h | h | h | ⟨hl, a, ha, h⟩)
      iterate 7 omega
      have := HAlt.out a ha hl
      omega
    have hnO : ¬ StepsR A l bm bl bs bb bg bk mp w2.heap.size := by
      rintro (h | h | h | h | h | h | h | ⟨hl, a, ha, h⟩)
      iterate 7 omega
      have := HAlt.out a ha hl
      omega
    refine wp_rangeN (xs := S) (R := StepsR A l bm bl bs bb bg bk mp) (M := fun _ => False) (w0 := w4) Try.func17 (by rfl) steps_enter hit (fun k hk => ⟨hal k hk, rfl⟩) (fun _ => rfl)
      (SpInv w4 w.heap.size w2.heap.size) (fun _ _ _ _ => False) (spInv_stable w4 _ _ _ (Nat.le_refl _)) (fun c _ _ _ _ h _ => h) (fun k => k = w.heap.size ∨ k = w2.heap.size) ?_ ?_
      (SpAsg w4 w.heap.size w2.heap.size (fun px vx => #[.slice A l.length c, .int .i64 s, .int .i64 b, .int .i64 g, .int .i64 kn, undef, undef, undef, undef, undef, .pointer (some ⟨w.heap.size, 0, none⟩), .int .i64 0, .int .i64 0, .pointer (some ⟨w2.heap.size, 0, none⟩), px, .slice A l.length c, .int .i64 s, .int .i64 b, .int .i64 g, .int .i64 kn, .int .i64 0, .int .i64 0, .bool false, undef, .slice A l.length c, .int .i64 s, .int .i64 b, .int .i64 g, .int .i64 kn, .func (.func 82) #[] #[.pointer (some ⟨bm, 0, none⟩), .pointer (some ⟨bl, 0, none⟩), .pointer (some ⟨bs, 0, none⟩), .pointer (some ⟨bb, 0, none⟩), .pointer (some ⟨bg, 0, none⟩), .pointer (some ⟨bk, 0, none⟩)], vx, undef, undef, undef, undef, undef, undef, undef, undef, undef, undef, undef, undef, undef, undef, undef, undef, undef, undef, undef, undef])) (fun x a' => spAsg_stable w4 _ _ _ x a' _ (Nat.le_refl _)) ?_ ?_ ?_ ?_
    · rintro k (rfl | rfl)
      · exact ⟨by omega, hnX⟩
      · exact ⟨by omega, hnO⟩
    · exact ⟨.slice none 0 0, fun k => by simp [Value.ownBlock], kX4, k4, OwnL.nil _ _ _ _ _, Only.refl _ _⟩
    · rintro l1 own pre x X hI hl1 hl2 ho hpre
      refine wpIn_mono (Q := Exit.then (fun a' W' => ∃ own', BodyStep own own' X W' ∧ SpAsg w4 w.heap.size w2.heap.size (fun px vx => #[.slice A l.length c, .int .i64 s, .int .i64 b, .int .i64 g, .int .i64 kn, undef, undef, undef, undef, undef, .pointer (some ⟨w.heap.size, 0, none⟩), .int .i64 0, .int .i64 0, .pointer (some ⟨w2.heap.size, 0, none⟩), px, .slice A l.length c, .int .i64 s, .int .i64 b, .int .i64 g, .int .i64 kn, .int .i64 0, .int .i64 0, .bool false, undef, .slice A l.length c, .int .i64 s, .int .i64 b, .int .i64 g, .int .i64 kn, .func (.func 82) #[] #[.pointer (some ⟨bm, 0, none⟩), .pointer (some ⟨bl, 0, none⟩), .pointer (some ⟨bs, 0, none⟩), .pointer (some ⟨bb, 0, none⟩), .pointer (some ⟨bg, 0, none⟩), .pointer (some ⟨bk, 0, none⟩)], vx, undef, undef, undef, undef, undef, undef, undef, undef, undef, undef, undef, undef, undef, undef, undef, undef, undef, undef, undef, undef]) x a' own' pre W') (fun _ _ _ => False)) ?_ (fun e a w h => h)
      have hlv : ∀ k, own k → k < X.heap.size := fun k hk => (ho k hk).2.1
      have hwX : w4.heap.size ≤ X.heap.size := by omega
      clear hz3 hz1
      unfold encS
      gi_wp2
      refine ⟨fun k => own k ∨ k = X.heap.size, BodyStep.turn ((BodyStep.refl hlv).alloc _) ?_ ?_, X.heap.size, own, rfl, fun k => Iff.rfl, fun h => by have := hlv _ h; omega, hwX, World.alloc_heap_new _ _, ?_⟩
      · rintro k (h | h)
        · exact .inl h
        · exact .inr (by omega)
      · rintro k (h | h)
        · have := hlv k h; simp; omega
        · simp; omega
      · exact spInv_stable w4 _ _ X.heap.size hwX own pre X _ hI ((IterStep.refl X.heap.size _ _ _).alloc _)
    · rintro l1 own pre x a' X ⟨bx, own1, rfl, hoi, hnb, hbl, hbx1, v, hown, hv, hv2, hrow, hon⟩ hl1 hl2 ho hpre
      have hlen1 : pre.length < 8000 := by have := List.IsPrefix.length_le hpre; simp at this; omega
      have hlv : ∀ k, own k → k < X.heap.size := fun k hk => (ho k hk).2.1
      have hXO : w.heap.size ≠ w2.heap.size := by omega
      have hbxO : bx ≠ (⟨w2.heap.size, 0, none⟩ : Addr).block := by show bx ≠ w2.heap.size; omega
      have hXl : w.heap.size < w4.heap.size := by omega
      have hOl : w2.heap.size < w4.heap.size := by omega
      have hbd0 := BodyStep.refl hlv
      clear hit hal hnX hnO kX4 k4 hz3 hz1 hs2 hlen ho hl1
      rcases spansF_snoc pre x with ⟨hop, hsn⟩ | ⟨hop, r, f, hsp, hsn⟩
      · have Hsn := Lib.hid hsn
        have hql : (spansF pre).length ≤ 10000 := Nat.le_trans (spansF_len pre) (by omega)
        rw [hop] at hv2
        clear hop hsn
        have cX1 := hv.cell
        have cO1 := hv2.frozen
        have cOc := hv2.cell
        have p0 : X.cell? ⟨bx, 0, none⟩ = some (.int .i64 x.at_) := gblk hbx1 0
        have p1 : X.cell? ⟨bx, 1, none⟩ = some (.int .i64 x.state) := gblk hbx1 1
        by_cases hx0 : x.state = 0
        · have g1 : (x.state == 0) = true := by simp [hx0]
          have HN : Hid (spansF (pre ++ [x]) = spansF pre ++ [⟨x.at_, 1099511627776⟩]) := by show _ = _; rw [Hsn.out, if_pos hx0]
          have HO : Hid (openB (pre ++ [x]) = true) := by show _ = _; rw [openB_snoc, g1]
          obtain ⟨X2, hX2⟩ : ∃ V, X.setCell ⟨w2.heap.size, 0, none⟩ (.bool true) = V := ⟨_, rfl⟩
          have hvX2 : Boxed X2 w.heap.size 34 v := by subst hX2; exact boxed_other hv hXO
          have hvO2 : Boxed X2 w2.heap.size 4 (.bool true) := by subst hX2; exact Boxed.set _ hv2
          have hbx2 : X2.heap[bx]? = some (.cells #[.int .i64 x.at_, .int .i64 x.state, .bool true] 47 (0, 0)) := by subst hX2; exact (Below.heap_setCell _ _ _ _ hbxO).trans hbx1
          have hrow2 : OwnN X2 w4.heap.size v (spansF pre) := by subst hX2; exact ownsRow_setCell_below hrow (by show w2.heap.size < w4.heap.size; omega) _
          have hon2 : Only (fun k => k = w.heap.size ∨ k = w2.heap.size) w4 X2 := by subst hX2; exact hon.setCell (.inl (.inr rfl)) _
          have hbd2 : BodyStep own own X X2 := by subst hX2; exact hbd0.setCell (.inl ((hoi _).2 (.inl ((hown _).2 (.inr (.inl rfl)))))) _
          have cX2 := hvX2.cell
          have cO2 := hvO2.cell
          have q0 : X2.cell? ⟨bx, 0, none⟩ = some (.int .i64 x.at_) := gblk hbx2 0
          obtain ⟨A1, A2⟩ := spn_room (n := (spansF pre).length) hql
          have hs2X := hon2.size
          clear hx0
          gi_wp2_with (gi_at_builtin; refine wpListIn_append_at _ rfl _ _ 34 rfl w4.heap.size 76 i0 _ 2 16 Try.underlying34 hi0 iz0 is0 ib0 rfl (by decide) _ _ _ rfl (hrow2.alloc _) ⟨X2.heap.size, 0, none⟩ 1 1 (Spn.cells ⟨x.at_, 1099511627776⟩) rfl rfl (gcells_new _ _ _) (spn_one _) A1 A2 (by simp; omega) ?_; intro v' w5 hown5 hgrow hat; obtain ⟨g', cap', rfl⟩ := ownsRow_succ hown5; have hne : (some w.heap.size : Option Nat) ≠ (v : Value).ownBlock := fun e => (by have := (World.ownsRow.lt hrow2 _ e.symm).1; omega); have hvX5 := (hvX2.alloc _).kept hgrow hne; have hc5 := hvX5.cell; have hf5 := hvX5.frozen)
          have hneO : (some w2.heap.size : Option Nat) ≠ (v : Value).ownBlock := fun e => by have := (World.ownsRow.lt hrow2 _ e.symm).1; omega
          have hvO5 := (hvO2.alloc _).kept hgrow hneO
          have hs5 : OwnN w5 w4.heap.size (.slice (some ⟨g', 0, none⟩) ((spansF pre).length + 1) cap') (spansF pre ++ [⟨x.at_, 1099511627776⟩]) := OwnL.snoc (f := Spn.cells) ⟨x.at_, 1099511627776⟩ hown5
          have hon5 : Only (fun k => k = w.heap.size ∨ k = w2.heap.size) w4 w5 := only_grow (hon2.alloc _) hgrow (fun g hg => (World.ownsRow.lt hrow2 g hg).1)
          have hbd5 : BodyStep own own X w5 := (hbd2.alloc _).grown hgrow (fun k hk => .inl ((hoi k).2 (.inl ((hown k).2 (.inr (.inr (hk)))))))
          refine ⟨fun k => k = w.heap.size ∨ k = w2.heap.size ∨ k = g', BodyStep.turn (hbd5.setCell (p := ⟨w.heap.size, 0, none⟩) (.inl ((hoi _).2 (.inl ((hown _).2 (.inl rfl))))) _) ?_ ?_, _, fun k => by simp [Value.ownBlock, eq_comm], hvX5.set _, ?_, ?_, ?_⟩
          · rintro k (rfl | rfl | rfl)
            · exact .inl ((hoi _).2 (.inl ((hown _).2 (.inl rfl))))
            · exact .inl ((hoi _).2 (.inl ((hown _).2 (.inr (.inl rfl)))))
            · rcases hat with h | h
              · exact .inl ((hoi _).2 (.inl ((hown _).2 (.inr (.inr (h.symm))))))
              · have h' : k = X2.heap.size + 1 := by simpa [Value.ownBlock] using h
                exact .inr (by have := hbd2.size; omega)
          · rintro k (rfl | rfl | rfl)
            · exact (hvX5.set _).lt
            · exact (boxed_other hvO5 hXO.symm).lt
            · have := (World.ownsRow.lt hs5 k rfl).2; simpa [World.setCell] using this
          · rw [HO.out]; exact boxed_other hvO5 hXO.symm
          · rw [HN.out]; exact ownsRow_setCell_below (a := (⟨w.heap.size, 0, none⟩ : Addr)) hs5 hXl _
          · exact hon5.setCell (.inl (.inl rfl)) _
        · have g1 : (x.state == 0) = false := by simpa using hx0
          have HN : Hid (spansF (pre ++ [x]) = spansF pre) := by show _ = _; rw [Hsn.out, if_neg hx0, List.append_nil]
          have HO : Hid (openB (pre ++ [x]) = false) := by show _ = _; rw [openB_snoc, g1]
          obtain ⟨X2, hX2⟩ : ∃ V, X.setCell ⟨w2.heap.size, 0, none⟩ (.bool false) = V := ⟨_, rfl⟩
          have hvX2 : Boxed X2 w.heap.size 34 v := by subst hX2; exact boxed_other hv hXO
          have hvO2 : Boxed X2 w2.heap.size 4 (.bool false) := by subst hX2; exact Boxed.set _ hv2
          have hrow2 : OwnN X2 w4.heap.size v (spansF pre) := by subst hX2; exact ownsRow_setCell_below hrow (by show w2.heap.size < w4.heap.size; omega) _
          have hon2 : Only (fun k => k = w.heap.size ∨ k = w2.heap.size) w4 X2 := by subst hX2; exact hon.setCell (.inl (.inr rfl)) _
          have hbd2 : BodyStep own own X X2 := by subst hX2; exact hbd0.setCell (.inl ((hoi _).2 (.inl ((hown _).2 (.inr (.inl rfl)))))) _
          have cX2 := hvX2.cell
          have cO2 := hvO2.cell
          have hfin : Hid (∃ own', BodyStep own own' X X2 ∧ SpInv w4 w.heap.size w2.heap.size own' (pre ++ [x]) X2) := by
            refine ⟨own1, BodyStep.turn hbd2 (fun k hk => .inl ((hoi k).2 (.inl hk))) (fun k hk => hbd2.live k ((hoi k).2 (.inl hk))), v, fun k => (hown k).trans (by rfl), hvX2, by rw [HO.out]; exact hvO2, by rw [HN.out]; exact hrow2, hon2⟩
          clear hx0 hvX2 hvO2 hrow2 hon2 hbd2
          gi_wp2_with fail
          exact hfin.out
      · rw [hop] at hv2
        have hql : (r ++ [(⟨f, x.at_⟩ : Spn)]).length ≤ 10000 := by have := spansF_len pre; rw [hsp] at this; simp at this ⊢; omega
        rw [hsp] at hrow
        obtain ⟨gg, cc, cur, hvv, hgb, hgh⟩ : ∃ g cap cur, v = .slice (some ⟨g, 0, none⟩) (r ++ [(⟨f, 1099511627776⟩ : Spn)]).length cap ∧ w4.heap.size ≤ g ∧ X.heap[g]? = some (.cells cur 76 (0, 0)) ∧ (r.length * 2 + 1 < cur.size) := by
          rcases hrow.2 with ⟨_, hn⟩ | ⟨g, cap, cur, h1, h2, h3, h4, _, h6, _⟩
          · simp at hn
          · refine ⟨g, cap, cur, h1, h2, h3, ?_⟩
            have : (r ++ [(⟨f, 1099511627776⟩ : Spn)]).length = r.length + 1 := by simp
            omega
        obtain ⟨hgh, hsz⟩ := hgh
        obtain ⟨nn, hnn⟩ : ∃ n, (r ++ [(⟨f, 1099511627776⟩ : Spn)]).length = n := ⟨_, rfl⟩
        have hnn' : r.length = nn - 1 ∧ 1 ≤ nn ∧ nn ≤ 10000 := by rw [← hnn]; simp; simp at hql; omega
        rw [hnn] at hvv
        subst hvv
        have hbg : bx ≠ gg := fun e => hnb ((hown bx).2 (.inr (.inr (by rw [e]; rfl))))
        obtain ⟨X1, hX1⟩ : ∃ V, X.setCell ⟨gg, (nn - 1) * 2 + 1, none⟩ (.int .i64 x.at_) = V := ⟨_, rfl⟩
        have hrowX1 : OwnN X1 w4.heap.size (.slice (some ⟨gg, 0, none⟩) nn cc) (r ++ [⟨f, x.at_⟩]) := by
          have h := own_set (j := r.length * 2 + 1) hrow (g := gg) rfl (.int .i64 x.at_)
          have e := nflat_set r f 1099511627776 x.at_
          unfold nflat at e
          rw [e] at h
          rw [← hX1, ← hnn'.1]
          show World.ownsRow _ _ _ _ _ _ _
          rw [show (r ++ [(⟨f, x.at_⟩ : Spn)]).length = (r ++ [(⟨f, 1099511627776⟩ : Spn)]).length by simp]
          exact h
        have hvX1 : Boxed X1 w.heap.size 34 (.slice (some ⟨gg, 0, none⟩) nn cc) := by subst hX1; exact boxed_other hv (by omega)
        have hvO1 : Boxed X1 w2.heap.size 4 (.bool true) := by subst hX1; exact boxed_other hv2 (by omega)
        have hbxX1 : X1.heap[bx]? = some (.cells #[.int .i64 x.at_, .int .i64 x.state, .bool true] 47 (0, 0)) := by subst hX1; exact (Below.heap_setCell _ _ _ _ hbg).trans hbx1
        have honX1 : Only (fun k => k = w.heap.size ∨ k = w2.heap.size) w4 X1 := by subst hX1; exact hon.setCell (.inr hgb) _
        have hbdX1 : BodyStep own own X X1 := by subst hX1; exact hbd0.setCell (p := ⟨gg, (nn - 1) * 2 + 1, none⟩) (.inl ((hoi _).2 (.inl ((hown _).2 (.inr (.inr rfl)))))) _
        have y0 := hv.cell
        have y1 := hv2.cell
        have y2 : X.cell? ⟨bx, 0, none⟩ = some (.int .i64 x.at_) := gblk hbx1 0
        obtain ⟨y3v, y3⟩ : ∃ u, X.cell? ⟨gg, (nn - 1) * 2 + 1, none⟩ = some u := ⟨_, by rw [gblk hgh]; exact Array.getElem?_eq_getElem (by rw [← hnn'.1]; exact hsz)⟩
        have y4 : X.frozen? ⟨gg, (nn - 1) * 2 + 1, none⟩ = false := by simp [World.frozen?, hgh]
        have z2 : IntKind.i64.wrap ((nn : Int) - 1) = (nn : Int) - 1 := IntWalk.i64_in _ (by omega)
        have z3 : (0 : Int) ≤ (nn : Int) - 1 := by omega
        have z4 : (nn : Int) - 1 < nn := by omega
        have z5 : ((nn : Int) - 1).toNat = nn - 1 := by omega
        have z6 : (1 : Int) ≤ (nn : Int) := by omega
        clear hop hsp hnn hrow hgh
        generalize r ++ [(⟨f, x.at_⟩ : Spn)] = q at hrowX1 hsn hql
        have Hsn := Lib.hid hsn
        clear hsn hnn'
        have cX1 := hvX1.cell
        have cO1 := hvO1.frozen
        have cOc := hvO1.cell
        have p0 : X1.cell? ⟨bx, 0, none⟩ = some (.int .i64 x.at_) := gblk hbxX1 0
        have p1 : X1.cell? ⟨bx, 1, none⟩ = some (.int .i64 x.state) := gblk hbxX1 1
        by_cases hx0 : x.state = 0
        · have g1 : (x.state == 0) = true := by simp [hx0]
          have HN : Hid (spansF (pre ++ [x]) = q ++ [⟨x.at_, 1099511627776⟩]) := by show _ = _; rw [Hsn.out, if_pos hx0]
          have HO : Hid (openB (pre ++ [x]) = true) := by show _ = _; rw [openB_snoc, g1]
          obtain ⟨X2, hX2⟩ : ∃ V, X1.setCell ⟨w2.heap.size, 0, none⟩ (.bool true) = V := ⟨_, rfl⟩
          have hvX2 : Boxed X2 w.heap.size 34 (.slice (some ⟨gg, 0, none⟩) nn cc) := by subst hX2; exact boxed_other hvX1 hXO
          have hvO2 : Boxed X2 w2.heap.size 4 (.bool true) := by subst hX2; exact Boxed.set _ hvO1
          have hbx2 : X2.heap[bx]? = some (.cells #[.int .i64 x.at_, .int .i64 x.state, .bool true] 47 (0, 0)) := by subst hX2; exact (Below.heap_setCell _ _ _ _ hbxO).trans hbxX1
          have hrow2 : OwnN X2 w4.heap.size (.slice (some ⟨gg, 0, none⟩) nn cc) (q) := by subst hX2; exact ownsRow_setCell_below hrowX1 (by show w2.heap.size < w4.heap.size; omega) _
          have hon2 : Only (fun k => k = w.heap.size ∨ k = w2.heap.size) w4 X2 := by subst hX2; exact honX1.setCell (.inl (.inr rfl)) _
          have hbd2 : BodyStep own own X X2 := by subst hX2; exact hbdX1.setCell (.inl ((hoi _).2 (.inl ((hown _).2 (.inr (.inl rfl)))))) _
          have cX2 := hvX2.cell
          have cO2 := hvO2.cell
          have q0 : X2.cell? ⟨bx, 0, none⟩ = some (.int .i64 x.at_) := gblk hbx2 0
          obtain ⟨A1, A2⟩ := spn_room (n := (q).length) hql
          have hs2X := hon2.size
          clear hx0
          gi_wp2_with (gi_at_builtin; refine wpListIn_append_at _ rfl _ _ 34 rfl w4.heap.size 76 i0 _ 2 16 Try.underlying34 hi0 iz0 is0 ib0 rfl (by decide) _ _ _ rfl (hrow2.alloc _) ⟨X2.heap.size, 0, none⟩ 1 1 (Spn.cells ⟨x.at_, 1099511627776⟩) rfl rfl (gcells_new _ _ _) (spn_one _) A1 A2 (by simp; omega) ?_; intro v' w5 hown5 hgrow hat; obtain ⟨g', cap', rfl⟩ := ownsRow_succ hown5; have hne : (some w.heap.size : Option Nat) ≠ ((.slice (some ⟨gg, 0, none⟩) nn cc) : Value).ownBlock := fun e => (by have := (World.ownsRow.lt hrow2 _ e.symm).1; omega); have hvX5 := (hvX2.alloc _).kept hgrow hne; have hc5 := hvX5.cell; have hf5 := hvX5.frozen)
          have hneO : (some w2.heap.size : Option Nat) ≠ ((.slice (some ⟨gg, 0, none⟩) nn cc) : Value).ownBlock := fun e => by have := (World.ownsRow.lt hrow2 _ e.symm).1; omega
          have hvO5 := (hvO2.alloc _).kept hgrow hneO
          have hs5 : OwnN w5 w4.heap.size (.slice (some ⟨g', 0, none⟩) ((q).length + 1) cap') (q ++ [⟨x.at_, 1099511627776⟩]) := OwnL.snoc (f := Spn.cells) ⟨x.at_, 1099511627776⟩ hown5
          have hon5 : Only (fun k => k = w.heap.size ∨ k = w2.heap.size) w4 w5 := only_grow (hon2.alloc _) hgrow (fun g hg => (World.ownsRow.lt hrow2 g hg).1)
          have hbd5 : BodyStep own own X w5 := (hbd2.alloc _).grown hgrow (fun k hk => .inl ((hoi k).2 (.inl ((hown k).2 (.inr (.inr (hk)))))))
          refine ⟨fun k => k = w.heap.size ∨ k = w2.heap.size ∨ k = g', BodyStep.turn (hbd5.setCell (p := ⟨w.heap.size, 0, none⟩) (.inl ((hoi _).2 (.inl ((hown _).2 (.inl rfl))))) _) ?_ ?_, _, fun k => by simp [Value.ownBlock, eq_comm], hvX5.set _, ?_, ?_, ?_⟩
          · rintro k (rfl | rfl | rfl)
            · exact .inl ((hoi _).2 (.inl ((hown _).2 (.inl rfl))))
            · exact .inl ((hoi _).2 (.inl ((hown _).2 (.inr (.inl rfl)))))
            · rcases hat with h | h
              · exact .inl ((hoi _).2 (.inl ((hown _).2 (.inr (.inr (h.symm))))))
              · have h' : k = X2.heap.size + 1 := by simpa [Value.ownBlock] using h
                exact .inr (by have := hbd2.size; omega)
          · rintro k (rfl | rfl | rfl)
            · exact (hvX5.set _).lt
            · exact (boxed_other hvO5 hXO.symm).lt
            · have := (World.ownsRow.lt hs5 k rfl).2; simpa [World.setCell] using this
          · rw [HO.out]; exact boxed_other hvO5 hXO.symm
          · rw [HN.out]; exact ownsRow_setCell_below (a := (⟨w.heap.size, 0, none⟩ : Addr)) hs5 hXl _
          · exact hon5.setCell (.inl (.inl rfl)) _
        · have g1 : (x.state == 0) = false := by simpa using hx0
          have HN : Hid (spansF (pre ++ [x]) = q) := by show _ = _; rw [Hsn.out, if_neg hx0, List.append_nil]
          have HO : Hid (openB (pre ++ [x]) = false) := by show _ = _; rw [openB_snoc, g1]
          obtain ⟨X2, hX2⟩ : ∃ V, X1.setCell ⟨w2.heap.size, 0, none⟩ (.bool false) = V := ⟨_, rfl⟩
          have hvX2 : Boxed X2 w.heap.size 34 (.slice (some ⟨gg, 0, none⟩) nn cc) := by subst hX2; exact boxed_other hvX1 hXO
          have hvO2 : Boxed X2 w2.heap.size 4 (.bool false) := by subst hX2; exact Boxed.set _ hvO1
          have hrow2 : OwnN X2 w4.heap.size (.slice (some ⟨gg, 0, none⟩) nn cc) (q) := by subst hX2; exact ownsRow_setCell_below hrowX1 (by show w2.heap.size < w4.heap.size; omega) _
          have hon2 : Only (fun k => k = w.heap.size ∨ k = w2.heap.size) w4 X2 := by subst hX2; exact honX1.setCell (.inl (.inr rfl)) _
          have hbd2 : BodyStep own own X X2 := by subst hX2; exact hbdX1.setCell (.inl ((hoi _).2 (.inl ((hown _).2 (.inr (.inl rfl)))))) _
          have cX2 := hvX2.cell
          have cO2 := hvO2.cell
          have hfin : Hid (∃ own', BodyStep own own' X X2 ∧ SpInv w4 w.heap.size w2.heap.size own' (pre ++ [x]) X2) := by
            refine ⟨own1, BodyStep.turn hbd2 (fun k hk => .inl ((hoi k).2 (.inl hk))) (fun k hk => hbd2.live k ((hoi k).2 (.inl hk))), (.slice (some ⟨gg, 0, none⟩) nn cc), fun k => (hown k).trans (by rfl), hvX2, by rw [HO.out]; exact hvO2, by rw [HN.out]; exact hrow2, hon2⟩
          clear hx0 hvX2 hvO2 hrow2 hon2 hbd2
          gi_wp2_with fail
          exact hfin.out
    · rintro D own X hD hoD ⟨v, hown, hv, hv2, hrow, hon⟩ hdef
      obtain ⟨A9, c9, rfl, hrd9, _⟩ := OwnL.form (by omega) hrow
      have hc := hv.cell
      have hf := hv.frozen
      have hXl : w.heap.size < w4.heap.size := by omega
      have hDX : w.heap.size ≠ D := by have := hoD w.heap.size ((hown _).2 (.inl rfl)); omega
      have hq1 : ∀ u, (X.setCell ⟨w.heap.size, 0, none⟩ u).heap[D]? = some (.deferred (some [])) := fun u => (Below.heap_setCell _ _ _ _ (by show D ≠ w.heap.size; omega)).trans hdef
      have hspl : (spansF S).length ≤ 10000 := Nat.le_trans (spansF_len S) (by omega)
      have hbw : Below w.heap.size w (X.setCell ⟨w.heap.size, 0, none⟩ (.slice A9 (spansF S).length c9)) := by
        have h1 : Only (fun k => k = w.heap.size ∨ k = w2.heap.size) w X := ⟨hon.os.trans hB4.os, hon.tape.trans hB4.tape, hon.output.trans hB4.output, Nat.le_trans hB4.size hon.size, fun i hi hn => (hon.block i (Nat.lt_of_lt_of_le hi hB4.size) hn).trans (hB4.block i hi)⟩
        exact (h1.setCell (p := (⟨w.heap.size, 0, none⟩ : Addr)) (.inl (.inl rfl)) _).below (fun k hk => by rcases hk with rfl | rfl <;> omega)
      have hrdS : Rd ((X.setCell ⟨w.heap.size, 0, none⟩ (.slice A9 (spansF S).length c9)).putObj D (.deferred none)) A9 (nflat (spansF S)) := by
        have h := ownsRow_putObj (ownsRow_setCell_below (a := (⟨w.heap.size, 0, none⟩ : Addr)) hrow hXl (.slice A9 (spansF S).length c9)) (.deferred none) (hq1 _) rfl
        obtain ⟨A', c', e', hr', _⟩ := OwnL.form (f := Spn.cells) (l := spansF S) (by omega) h
        obtain ⟨rfl, rfl⟩ : A9 = A' ∧ c9 = c' := by simpa using e'
        exact hr'
      have hcS := (hv.set (.slice A9 (spansF S).length c9)).cell
      clear hit hal hnX hnO kX4 k4 hz3 hz1 hs2
      refine wpAt_wp ?_
      go_wp2
      refine leavesM_ret (W := X.setCell ⟨w.heap.size, 0, none⟩ (.slice A9 (spansF S).length c9)) (v := .tuple #[.slice A9 (spansF S).length c9, .int .i64 0]) (hq1 _) ?_ ?_
      · have hcD : ((X.setCell ⟨w.heap.size, 0, none⟩ (.slice A9 (spansF S).length c9)).putObj D (.deferred none)).cell? ⟨w.heap.size, 0, none⟩ = some (.slice A9 (spansF S).length c9) := Boxed.cell (t := 34) ((World.putObj_heap_other hDX).trans (hv.set _))
        simp [results, Try.results17, go_sem, hcD]
      · exact ⟨A9, c9, rfl, hrdS, hspl, hbw.trans (putObj_below _ _ (by omega))⟩
    · rintro D own c pre X _ _ _ h
      exact h.elim
  · have HR : Hid (spnR l s b g kn = []) := by show _ = _; unfold spnR; rw [if_neg hre]
    rw [HR.out]
    have hc1 : (relE l s b g kn != 0) = true := by simpa using hre
    generalize relE l s b g kn = re at *
    clear hre HR
    refine calls_of_wpAt Try.func17 rfl ?_
    simp only [Try.ntmps17, List.size_toArray, List.length_cons, List.length_nil, Nat.reduceAdd, Nat.reduceSub, Array.replicate_succ, Array.replicate_zero, List.push_toArray, List.append_toArray, List.nil_append, List.cons_append]
    refine wpAt_seq_wp fun Q1 hQ1 => ?_
    go_wp2_with fail
    rw [HW1.out]
    refine wpAt_seq_wp fun Q2 hQ2 => ?_
    go_wp2_with fail
    refine cC.out.mono ?_
    rintro e w2 ⟨rfl, hb2⟩
    clear cC HW1
    have kX := K1.out.kept (gbelow_grown hb2 none) (by simp)
    have kc := kX.cell
    have kf := kX.frozen
    have hv5 := kX.set (.slice none 0 0)
    have hbw : Below w.heap.size w (w2.setCell ⟨w.heap.size, 0, none⟩ (.slice none 0 0)) := Below.setCell (ext_trans hB1 hb2) (Nat.le_refl _) _
    go_wp2_with fail
    refine leavesM_plain (v := .tuple #[.slice none 0 0, .int .i64 re]) ?_ ?_
    · simp [results, Try.results17, go_sem, (hv5.cell)]
    · exact ⟨none, 0, rfl, Rd.nil _ _, Nat.zero_le _, hbw⟩
end Go.Proofs.Ytmindojbkedmlaa

/- Package releases: Next. -/
namespace Go.Proofs.Ytmindojbkedmlaa
open Go.RowKit Go.Han
attribute [local irreducible] wpStill wpQuiet
attribute [local go_sem] Oper.semAt_some
set_option maxRecDepth 100000

set_option maxHeartbeats 4000000 in
theorem NextR_any (A : Option Addr) (c : Nat) (l : List House) (s b g kn t : Int) (w : World) (hr : Rd w A (hflat l)) (hm : l.length ≤ 9223372036854775807) :
    Calls Try.prog 21 #[.slice A l.length c, .int .i64 s, .int .i64 b, .int .i64 g, .int .i64 kn, .int .i64 t] w (NextPost l s b g kn t w) := by
  have cC := Shows_any A c l s b g kn w hr hm
  unfold ShowPost at cC
  unfold NextPost
  by_cases hre : relE l s b g kn = 0
  · have HE : Hid (nxtE l s b g kn t = if timeB t then 0 else 1) := by show _ = _; unfold nxtE; rw [if_pos hre]
    have HS : Hid (spnR l s b g kn = spnL l s b g kn) := by show _ = _; unfold spnR; rw [if_pos hre]
    rw [hre] at cC
    cases htb : timeB t
    · have HF : Hid (nxtE l s b g kn t = 1) := by show _ = _; rw [HE.out, htb]; rfl
      have HR : Hid (nxtR l s b g kn t = (0, false)) := by show _ = _; unfold nxtR; rw [HF.out]; rfl
      rw [HF.out, HR.out]
      generalize spnR l s b g kn = S at *
      have cC := Lib.hid cC
      have hq : t < 0 ∨ (¬ t < 0 ∧ 1099511627776 ≤ t) := by
        by_cases h1 : t < 0
        · exact .inl h1
        · refine .inr ⟨h1, ?_⟩
          by_cases h2 : t < 1099511627776
          · rw [timeB_iff.2 ⟨by omega, h2⟩] at htb; cases htb
          · omega
      clear hre HR HF HE HS htb
      rcases hq with h1 | ⟨h1, h2⟩
      · have q1 : decide (t < 0) = true := decide_eq_true h1
        clear h1
        go_enter Try.func21, Try.ntmps21
        go_wp2_with fail
        go_step3
        go_wp2_with fail
        refine cC.out.mono ?_
        rintro e w1 ⟨A1, c1, rfl, hr1, hl1, hb1⟩
        clear cC
        go_wp2_with fail
        rw [Exit.noGoto_ret]
        go_ret3
        exact ⟨rfl, hb1⟩
      · have q1 : decide (t < 0) = false := decide_eq_false h1
        have q2 : decide (1099511627776 ≤ t) = true := decide_eq_true h2
        clear h1 h2
        go_enter Try.func21, Try.ntmps21
        go_wp2_with fail
        go_step3
        go_wp2_with fail
        refine cC.out.mono ?_
        rintro e w1 ⟨A1, c1, rfl, hr1, hl1, hb1⟩
        clear cC
        go_wp2_with fail
        rw [Exit.noGoto_ret]
        go_ret3
        exact ⟨rfl, hb1⟩
    · have HF : Hid (nxtE l s b g kn t = 0) := by show _ = _; rw [HE.out, htb]; rfl
      have HR : Hid (nxtR l s b g kn t = nextV (nextF t (spnR l s b g kn))) := by show _ = _; unfold nxtR; rw [HF.out, HS.out]; rfl
      rw [HF.out, HR.out]
      obtain ⟨ht0, ht1⟩ := timeB_iff.1 htb
      generalize spnR l s b g kn = S at *
      have cC := Lib.hid cC
      have q1 : decide (t < 0) = false := decide_eq_false (by omega)
      have q2 : decide (1099511627776 ≤ t) = false := decide_eq_false (by omega)
      clear hre HR HF HE HS htb hr ht0 ht1
      go_enter Try.func21, Try.ntmps21
      go_wp2_with fail
      go_step3
      go_wp2_with fail
      refine cC.out.mono ?_
      rintro e w1 ⟨A1, c1, rfl, hr1, hl1, hb1⟩
      clear cC
      go_wp2_with fail
      go_step3
      go_wp2_with fail
      go_loopw [12, 13, 38] (fun vu vo i wr => ∃ k : Nat, k ≤ S.length ∧ i = .int .i64 k ∧ vu = .int .i64 0 ∧ vo = .bool false ∧ Below w1.heap.size w1 wr ∧ Hid (nextF t S = nextF t (S.drop k))) (fun _ _ i _ => S.length - (intOf i).toNat)
      case atStart => exact ⟨0, Nat.zero_le _, rfl, rfl, rfl, Below.refl _ _, rfl⟩
      case round =>
        obtain ⟨k, hk, rfl, rfl, rfl, hBr, HN⟩ := hrel
        by_cases hlt : k < S.length
        · obtain ⟨b1, off, rfl, hb, hc⟩ := spn_elem hr1 hlt
          obtain ⟨d0, d1⟩ := hc wr hBr
          have hd := nextF_drop (t := t) hlt
          have hlt2 : (k : Int) < S.length := by omega
          clear hc
          generalize S[k] = x at *
          have Hd := Lib.hid hd
          obtain ⟨V, hV⟩ : ∃ V, wr.alloc (.cells #[.int .i64 x.frm, .int .i64 x.until_] 76) = V := ⟨_, rfl⟩
          have hbV : Below wr.heap.size wr V := by subst hV; exact ext_alloc (Below.refl _ _) _
          have hxV : V.heap[wr.heap.size]? = some (.cells #[.int .i64 x.frm, .int .i64 x.until_] 76 (0, 0)) := by subst hV; exact galloc_at _ _ _ rfl
          have p0 : V.cell? ⟨wr.heap.size, 0, none⟩ = some (.int .i64 x.frm) := gblk hxV 0
          have p1 : V.cell? ⟨wr.heap.size, 1, none⟩ = some (.int .i64 x.until_) := gblk hxV 1
          have hBV := ext_trans hBr hbV
          clear hd hxV hbV
          by_cases h : t < x.until_
          · have g1 : decide (x.until_ ≤ t) = false := decide_eq_false (by omega)
            by_cases h2 : t < x.frm
            · have HF : Hid (nextF t S = some x.frm) := by show _ = _; rw [HN.out, Hd.out, if_pos h, show max t x.frm = x.frm by omega]
              clear Hd HN h
              go_wp2_with fail
              rw [Exit.noGoto_ret]
              go_ret3
              exact ⟨by rw [HF.out]; rfl, ext_trans hb1 hBV⟩
            · have HF : Hid (nextF t S = some t) := by show _ = _; rw [HN.out, Hd.out, if_pos h, show max t x.frm = t by omega]
              have g2 : decide (t < x.frm) = false := decide_eq_false h2
              clear Hd HN h h2
              go_wp2_with fail
              rw [Exit.noGoto_ret]
              go_ret3
              exact ⟨by rw [HF.out]; rfl, ext_trans hb1 hBV⟩
          · have HF : Hid (nextF t S = nextF t (S.drop (k + 1))) := by show _ = _; rw [HN.out, Hd.out, if_neg h]
            have g1 : decide (x.until_ ≤ t) = true := decide_eq_true (by omega)
            clear Hd HN h
            go_wp2_with fail
            go_roundw
            case rel => exact ⟨k + 1, by omega, by go_num, rfl, rfl, hBV, HF⟩
            case measure => simp [intOf]; omega
        · obtain rfl : k = S.length := by omega
          have HF : Hid (nextF t S = none) := by show _ = _; rw [HN.out, List.drop_length]; rfl
          clear HN
          go_wp2_with fail
          rw [Exit.noGoto_ret]
          go_ret3
          exact ⟨by rw [HF.out]; rfl, ext_trans hb1 hBr⟩
  · have HE : Hid (nxtE l s b g kn t = relE l s b g kn) := by show _ = _; unfold nxtE; rw [if_neg hre]
    have HR : Hid (nxtR l s b g kn t = (0, false)) := by show _ = _; unfold nxtR; rw [HE.out, if_neg hre]
    rw [HE.out, HR.out]
    have hc1 : (relE l s b g kn != 0) = true := by simpa using hre
    generalize relE l s b g kn = re at *
    generalize spnR l s b g kn = S at *
    have cC := Lib.hid cC
    clear hre HR HE
    go_enter Try.func21, Try.ntmps21
    go_wp2_with fail
    go_step3
    go_wp2_with fail
    refine cC.out.mono ?_
    rintro e w1 ⟨A1, c1, rfl, hr1, hl1, hb1⟩
    go_wp2_with fail
    rw [Exit.noGoto_ret]
    go_ret3
    exact ⟨rfl, hb1⟩
end Go.Proofs.Ytmindojbkedmlaa

/- Releases: law 38's right. -/
namespace Go.Proofs.Ytmindojbkedmlaa
open Go.RowKit Go.Han
attribute [local irreducible] wpStill wpQuiet
set_option maxRecDepth 100000

theorem right38_any (A : Option Addr) (c : Nat) (l : List House) (s b g kn : Int) (w : World) (hr : Rd w A (hflat l)) (hm : l.length ≤ 9223372036854775807) :
    Calls Try.prog 23 #[.slice A l.length c, .int .i64 s, .int .i64 b, .int .i64 g, .int .i64 kn] w fun e w' => e = .returned (.bool (fewHB l.length && (relE l s b g kn == 0))) ∧ Below w.heap.size w w' := by
  have cF := Lib.hid (few38_any A c l.length w)
  have cE := error38_any A c l s b g kn w hr hm
  unfold RelPost at cE
  have cE' := Lib.hid cE
  clear cE
  generalize fewHB l.length = p at *
  generalize relE l s b g kn = re at *
  cases p
  · go_enter Try.func23, Try.ntmps23
    go_wp2_with fail
    refine cF.out.mono ?_
    rintro e w1 ⟨rfl, rfl⟩
    go_wp2_with fail
    go_ret
    exact ⟨rfl, Below.refl _ _⟩
  · go_enter Try.func23, Try.ntmps23
    go_wp2_with fail
    refine cF.out.mono ?_
    rintro e w1 ⟨rfl, rfl⟩
    go_wp2_with fail
    refine cE'.out.mono ?_
    rintro e w1 ⟨rfl, hb1⟩
    go_wp2_with fail
    go_ret
    exact ⟨by simp, hb1⟩
end Go.Proofs.Ytmindojbkedmlaa

/- Laws 38: sane; ReleasesSpec, ReleasesNextSpec. -/
namespace Go.Proofs.Ytmindojbkedmlaa
open Go.RowKit Go.Han
attribute [local irreducible] wpStill wpQuiet
set_option maxRecDepth 100000

theorem rd_pre {w : World} {A : Option Addr} {xs ys : List Value} (h : Rd w A (xs ++ ys)) : Rd w A xs := by
  rcases h with h | ⟨b, off, rfl, hb, hc⟩
  · exact .inl (List.append_eq_nil_iff.1 h).1
  · exact .inr ⟨b, off, rfl, hb, fun j u hu => hc j u (by rw [List.getElem?_append_left (List.getElem?_eq_some_iff.1 hu).1]; exact hu)⟩
theorem line_at {l : List House} {s b g kn e : Int} {S : List Stp} (A : Option Addr) (c : Nat) (w : World) (hr : Rd w A (hflat l)) (h1 : stpR l s b g kn = S) (h2 : relE l s b g kn = e) (hm : l.length ≤ 1000) :
    Calls Try.prog 15 #[.slice A l.length c, .int .i64 s, .int .i64 b, .int .i64 g, .int .i64 kn] w fun e' w' => ∃ A' c', e' = .returned (.tuple #[.slice A' S.length c', .int .i64 e]) ∧ Rd w' A' (pflat S) ∧ Below w.heap.size w w' := by
  have h := Timeline_any A c l s b g kn w hr (by omega)
  unfold LinePost at h
  rw [h1, h2] at h
  refine h.mono ?_
  rintro e' w' ⟨A', c', rfl, hrd, _, hb⟩
  exact ⟨A', c', rfl, hrd, hb⟩
theorem show_at {l : List House} {s b g kn e : Int} {S : List Spn} (A : Option Addr) (c : Nat) (w : World) (hr : Rd w A (hflat l)) (h1 : spnR l s b g kn = S) (h2 : relE l s b g kn = e) (hm : l.length ≤ 1000) :
    Calls Try.prog 17 #[.slice A l.length c, .int .i64 s, .int .i64 b, .int .i64 g, .int .i64 kn] w fun e' w' => ∃ A' c', e' = .returned (.tuple #[.slice A' S.length c', .int .i64 e]) ∧ Rd w' A' (nflat S) ∧ Below w.heap.size w w' := by
  have h := Shows_any A c l s b g kn w hr (by omega)
  unfold ShowPost at h
  rw [h1, h2] at h
  refine h.mono ?_
  rintro e' w' ⟨A', c', rfl, hrd, _, hb⟩
  exact ⟨A', c', rfl, hrd, hb⟩
theorem next_at {l : List House} {s b g kn t e u : Int} {ok : Bool} (A : Option Addr) (c : Nat) (w : World) (hr : Rd w A (hflat l)) (h1 : nxtR l s b g kn t = (u, ok)) (h2 : nxtE l s b g kn t = e) (hm : l.length ≤ 1000) :
    Calls Try.prog 21 #[.slice A l.length c, .int .i64 s, .int .i64 b, .int .i64 g, .int .i64 kn, .int .i64 t] w fun e' w' => e' = .returned (.tuple #[.int .i64 u, .bool ok, .int .i64 e]) ∧ Below w.heap.size w w' := by
  have h := NextR_any A c l s b g kn t w hr (by omega)
  unfold NextPost at h
  rw [h1, h2] at h
  exact h
abbrev lD : List House := [⟨1, 3, -1, 0, 1099511627776, -1, 50, 1099511627776, 0, 30⟩]
abbrev s1 : List Stp := [⟨0, 0⟩]
abbrev s3 : List Stp := [⟨0, 0⟩, ⟨50, 1⟩, ⟨130, 0⟩]
abbrev x1 : List Spn := [⟨0, 1099511627776⟩]
theorem rx1 : stpR [] 0 0 0 0 = s1 ∧ relE [] 0 0 0 0 = 0 := ⟨by kernel_rfl, by kernel_rfl⟩
theorem rx2 : spnR [] 0 0 0 0 = x1 := by kernel_rfl
theorem rx3 : nxtR [] 0 0 0 0 7 = (7, true) ∧ nxtE [] 0 0 0 0 7 = 0 := ⟨by kernel_rfl, by kernel_rfl⟩
theorem rx4 : stpR [] 64 0 0 0 = [] ∧ relE [] 64 0 0 0 = 1 := ⟨by kernel_rfl, by kernel_rfl⟩
theorem rx5 : nxtR [] 0 0 0 0 (-1) = (0, false) ∧ nxtE [] 0 0 0 0 (-1) = 1 := ⟨by kernel_rfl, by kernel_rfl⟩
theorem rx6 : stpR lD 0 100 0 0 = s3 ∧ relE lD 0 100 0 0 = 0 := ⟨by kernel_rfl, by kernel_rfl⟩
theorem rx7 : nxtR lD 0 100 0 0 60 = (130, true) ∧ nxtE lD 0 100 0 0 60 = 0 := ⟨by kernel_rfl, by kernel_rfl⟩
set_option maxHeartbeats 4000000 in
theorem sane38_any (w : World) : Calls Try.prog 13 #[] w fun e w' => e = .returned (.bool true) ∧ Below w.heap.size w w' := by
  go_enter Try.func13, Try.ntmps13
  go_wp2_with fail
  refine (line_at none 0 w (Rd.nil _ _) rx1.1 rx1.2 (by decide)).mono ?_
  rintro e w1 ⟨B1, d1, rfl, hr1, hb1⟩
  have Hr1 := Lib.hid hr1
  clear hr1
  go_wp2_with fail
  refine (show_at none 0 w1 (Rd.nil _ _) rx2 rx1.2 (by decide)).mono ?_
  rintro e w2 ⟨B2, d2, rfl, hr2, hb2⟩
  have hB2 := ext_trans hb1 hb2
  have Hr1 := Lib.hid (Hr1.out.ext hb2)
  have Hr2 := Lib.hid hr2
  clear hr2 hb1 hb2
  go_wp2_with fail
  refine (next_at none 0 w2 (Rd.nil _ _) rx3.1 rx3.2 (by decide)).mono ?_
  rintro e w3 ⟨rfl, hb3⟩
  have hB3 := ext_trans hB2 hb3
  have Hr1 := Lib.hid (Hr1.out.ext hb3)
  have Hr2 := Lib.hid (Hr2.out.ext hb3)
  clear hB2 hb3
  go_wp2_with fail
  refine (line_at none 0 w3 (Rd.nil _ _) rx4.1 rx4.2 (by decide)).mono ?_
  rintro e w4 ⟨B4, d4, rfl, _, hb4⟩
  have hB4 := ext_trans hB3 hb4
  have Hr1 := Lib.hid (Hr1.out.ext hb4)
  have Hr2 := Lib.hid (Hr2.out.ext hb4)
  clear hB3 hb4
  go_wp2_with fail
  refine (next_at none 0 w4 (Rd.nil _ _) rx5.1 rx5.2 (by decide)).mono ?_
  rintro e w5 ⟨rfl, hb5⟩
  obtain ⟨w6, hw6⟩ : ∃ W, w5.alloc (.cells #[.int .i64 1, .int .i64 3, .int .i64 (-1), .int .i64 0, .int .i64 1099511627776, .int .i64 (-1), .int .i64 50, .int .i64 1099511627776, .int .i64 0, .int .i64 30] 52) = W := ⟨_, rfl⟩
  have hb6 : Below w5.heap.size w5 w6 := by subst hw6; exact ext_alloc (Below.refl _ _) _
  have hd6 : Rd w6 (some ⟨w5.heap.size, 0, none⟩) (hflat lD) := by subst hw6; exact grd_new rfl
  have hB6 := ext_trans hB4 (ext_trans hb5 hb6)
  have Hr1 := Lib.hid (Hr1.out.ext (ext_trans hb5 hb6))
  have Hr2 := Lib.hid (Hr2.out.ext (ext_trans hb5 hb6))
  have Hd6 := Lib.hid hd6
  have HW6 := Lib.hid hw6
  clear hB4 hb5 hb6 hw6 hd6
  go_wp2_with fail
  rw [HW6.out]
  clear HW6
  refine (line_at (some ⟨w5.heap.size, 0, none⟩) 1 w6 Hd6.out rx6.1 rx6.2 (by decide)).mono ?_
  rintro e w7 ⟨B7, d7, rfl, hr7, hb7⟩
  have hB7 := ext_trans hB6 hb7
  have Hr1 := Lib.hid (Hr1.out.ext hb7)
  have Hr2 := Lib.hid (Hr2.out.ext hb7)
  have Hd6 := Lib.hid (Hd6.out.ext hb7)
  have Hr7 := Lib.hid hr7
  clear hB6 hb7 hr7
  go_wp2_with fail
  refine (next_at (some ⟨w5.heap.size, 0, none⟩) 1 w7 Hd6.out rx7.1 rx7.2 (by decide)).mono ?_
  rintro e w8 ⟨rfl, hb8⟩
  have hB8 := ext_trans hB7 hb8
  have Hr1 := Lib.hid (Hr1.out.ext hb8)
  have Hr2 := Lib.hid (Hr2.out.ext hb8)
  have Hr7 := Lib.hid (Hr7.out.ext hb8)
  clear hB7 hb8 Hd6
  obtain ⟨w9, hw9⟩ : ∃ W, w8.alloc (.cells #[.int .i64 0, .int .i64 0, .bool true, .int .i64 50, .int .i64 1, .bool true, .int .i64 130, .int .i64 0, .bool true] 47) = W := ⟨_, rfl⟩
  have hb9 : Below w8.heap.size w8 w9 := by subst hw9; exact ext_alloc (Below.refl _ _) _
  have hd9 : Rd w9 (some ⟨w8.heap.size, 0, none⟩) (pflat s3) := by subst hw9; exact grd_new rfl
  have hd1 : Rd w9 (some ⟨w8.heap.size, 0, none⟩) (pflat s1) := rd_pre (ys := pflat [⟨50, 1⟩, ⟨130, 0⟩]) hd9
  have hB9 := ext_trans hB8 hb9
  have c1 := Lib.hid (sameSteps_any B1 (some ⟨w8.heap.size, 0, none⟩) d1 3 s1 s1 w9 (Hr1.out.ext hb9) hd1 (by decide))
  have c2 := Lib.hid (fun W (hW : Below w9.heap.size w9 W) => sameSpans_any B2 (some ⟨W.heap.size, 0, none⟩) d2 1 x1 x1 (W.alloc (.cells #[.int .i64 0, .int .i64 1099511627776] 76)) (((Hr2.out.ext hb9).ext hW).ext (ext_alloc (Below.refl _ _) _)) (grd_new rfl) (by decide))
  have c3 := Lib.hid (fun W (hW : Below w9.heap.size w9 W) => sameSteps_any B7 (some ⟨w8.heap.size, 0, none⟩) d7 3 s3 s3 W ((Hr7.out.ext hb9).ext hW) (hd9.ext hW) (by decide))
  have HW9 := Lib.hid hw9
  clear hw9 hd9 hd1 Hr1 Hr2 Hr7
  go_wp2_with fail
  rw [HW9.out]
  refine c1.out.mono ?_
  rintro e w10 ⟨rfl, hb10⟩
  clear c1 HW9
  go_wp2_with fail
  refine (c2.out w10 hb10).mono ?_
  rintro e w11 ⟨rfl, hb11⟩
  have hb11' := ext_trans hb10 (ext_trans (ext_alloc (Below.refl w10.heap.size w10) _) hb11)
  clear c2
  go_wp2_with fail
  refine (c3.out w11 hb11').mono ?_
  rintro e w12 ⟨rfl, hb12⟩
  clear c3
  go_wp2_with fail
  go_ret
  exact ⟨rfl, ext_trans hB9 (ext_trans hb11' hb12)⟩
/-- What is asked of the arguments of a law. -/
structure ArgsR (w : World) (A : Option Addr) (l : List House) : Prop where
  hr : Rd w A (hflat l)
  hm : l.length ≤ 9223372036854775807
theorem ArgsR.ext {w W : World} {A : Option Addr} {l : List House} (h : ArgsR w A l) (hb : Below w.heap.size w W) : ArgsR W A l := ⟨h.hr.ext hb, h.hm⟩
set_option maxHeartbeats 2000000 in
theorem ReleasesSpec_any (A : Option Addr) (c : Nat) (l : List House) (s b g kn : Int) (w : World) (h : ArgsR w A l) :
    Calls Try.prog 4 #[.slice A l.length c, .int .i64 s, .int .i64 b, .int .i64 g, .int .i64 kn] w fun e w' => e = .returned (.bool true) ∧ Below w.heap.size w w' := by
  go_enter Try.func4, Try.ntmps4
  go_wp2_with fail
  refine (sane38_any w).mono ?_
  rintro e w1 ⟨rfl, hb1⟩
  go_wp2_with fail
  refine (few38_any _ _ _ w1).mono ?_
  rintro e w' ⟨rfl, rfl⟩
  cases hf : fewHB l.length
  · go_wp2_with fail
    go_ret
    exact ⟨rfl, hb1⟩
  · clear hf
    have h1 := h.ext hb1
    have c1 := Lib.hid (Timeline_any A c l s b g kn w1 h1.hr h1.hm)
    have c2 := Lib.hid (fun W (hW : Below w1.heap.size w1 W) => Timeline38_any A c l s b g kn W (h1.ext hW).hr h1.hm)
    have c3 := Lib.hid (fun W (hW : Below w1.heap.size w1 W) => Shows_any A c l s b g kn W (h1.ext hW).hr h1.hm)
    have c4 := Lib.hid (fun W (hW : Below w1.heap.size w1 W) => Shows38_any A c l s b g kn W (h1.ext hW).hr h1.hm)
    unfold LinePost at c1 c2
    unfold ShowPost at c3 c4
    generalize stpR l s b g kn = S at *
    generalize spnR l s b g kn = X at *
    generalize relE l s b g kn = ae at *
    clear h1 h
    go_wp2_with fail
    refine c1.out.mono ?_
    rintro e w2 ⟨A2, d2, rfl, hr2, hl2, hb2⟩
    go_wp2_with fail
    refine (c2.out w2 hb2).mono ?_
    rintro e w3 ⟨A3, d3, rfl, hr3, _, hb3⟩
    have hB3 := ext_trans hb2 hb3
    go_wp2_with fail
    refine (c3.out w3 hB3).mono ?_
    rintro e w4 ⟨A4, d4, rfl, hr4, hl4, hb4⟩
    have hB4 := ext_trans hB3 hb4
    go_wp2_with fail
    refine (c4.out w4 hB4).mono ?_
    rintro e w5 ⟨A5, d5, rfl, hr5, _, hb5⟩
    have hB5 := ext_trans hB4 hb5
    have cS := Lib.hid (sameSteps_any A2 A3 d2 d3 S S w5 (((hr2.ext hb3).ext hb4).ext hb5) ((hr3.ext hb4).ext hb5) (by omega))
    have cX := Lib.hid (fun W (hW : Below w5.heap.size w5 W) => sameSpans_any A4 A5 d4 d5 X X W ((hr4.ext hb5).ext hW) (hr5.ext hW) (by omega))
    clear c1 c2 c3 c4 hb2 hb3 hb4 hb5 hr2 hr3 hr4 hr5 hB3 hB4 hl2 hl4
    rw [decide_eq_true rfl] at cS
    have cX : Hid (∀ W (hW : Below w5.heap.size w5 W), Calls Try.prog 20 #[.slice A4 X.length d4, .slice A5 X.length d5] W fun e w' => e = .returned (.bool true) ∧ Below W.heap.size W w') := fun W hW => by
      have h := cX.out W hW
      rw [decide_eq_true rfl] at h
      exact h
    go_wp2_with fail
    refine cS.out.mono ?_
    rintro e w6 ⟨rfl, hb6⟩
    clear cS
    go_wp2_with fail
    refine (cX.out w6 hb6).mono ?_
    rintro e w7 ⟨rfl, hb7⟩
    clear cX
    go_wp2_with fail
    go_ret
    exact ⟨rfl, ext_trans hb1 (ext_trans hB5 (ext_trans hb6 hb7))⟩
set_option maxHeartbeats 2000000 in
theorem ReleasesNextSpec_any (A : Option Addr) (c : Nat) (l : List House) (s b g kn t : Int) (w : World) (h : ArgsR w A l) :
    Calls Try.prog 5 #[.slice A l.length c, .int .i64 s, .int .i64 b, .int .i64 g, .int .i64 kn, .int .i64 t] w fun e w' => e = .returned (.bool true) ∧ Below w.heap.size w w' := by
  go_enter Try.func5, Try.ntmps5
  go_wp2_with fail
  refine (sane38_any w).mono ?_
  rintro e w1 ⟨rfl, hb1⟩
  go_wp2_with fail
  refine (few38_any _ _ _ w1).mono ?_
  rintro e w' ⟨rfl, rfl⟩
  cases hf : fewHB l.length
  · go_wp2_with fail
    go_ret
    exact ⟨rfl, hb1⟩
  · clear hf
    have h1 := h.ext hb1
    have c1 := Lib.hid (NextR_any A c l s b g kn t w1 h1.hr h1.hm)
    have c2 := Lib.hid (fun W (hW : Below w1.heap.size w1 W) => Next38_any A c l s b g kn t W (h1.ext hW).hr h1.hm)
    unfold NextPost at c1 c2
    generalize nxtR l s b g kn t = r at *
    generalize nxtE l s b g kn t = ae at *
    clear h1 h
    go_wp2_with fail
    refine c1.out.mono ?_
    rintro e w2 ⟨rfl, hb2⟩
    go_wp2_with fail
    refine (c2.out w2 hb2).mono ?_
    rintro e w3 ⟨rfl, hb3⟩
    go_wp2_with fail
    go_ret
    exact ⟨rfl, ext_trans hb1 (ext_trans hb2 hb3)⟩
end Go.Proofs.Ytmindojbkedmlaa

/- How the arguments of the statements read: decisions, sights, slices of them, numbers. -/
namespace Go.Proofs.Ytmindojbkedmlaa
open Go.RowKit Go.Han Go.ChangeShapes Go.WideShapes Go.ChangeAt Go.Deep
set_option maxRecDepth 100000

theorem own_knob : ownKnob Try.prog.godebug = none := by kernel_rfl
theorem laid_out : laidOutB Try.prog = true := by kernel_rfl
abbrev laidL : List (String × DataW Unit) := []
section
variable {H : Type} {enc : TypeId × Value → H} {w : World} {base : Nat} {spare : Nat → Bool} {held : Bool}
theorem cells_int : Try.prog.cellsOf 3 = 1 := by kernel_rfl
/-- A struct of n ints. -/
theorem trod_ints {t n : Nat} (hu : ∃ fs : Array Field, Try.prog.underlying t = some (.struct fs) ∧ fs.toList.map (fun f => (f.type, f.offset)) = (List.range n).map (fun i => (3, i)) ∧ Try.prog.cellsOf t = n)
    {fuel : Nat} {cs : List Value} {x : DataW H × List MemPlace} (h : DataW.trod enc Try.prog w base spare held fuel t cs = some x) : ∃ xs : List Int, xs.length = n ∧ cs = xs.map (Value.int .i64) := by
  obtain ⟨fs, hu, hf, hc⟩ := hu
  obtain ⟨ys, m, _, _, hlen, hxl, hat⟩ := DataW.trod_struct hu h
  rw [hc] at hlen
  have hsz : fs.size = n := by have := congrArg List.length hf; simpa using this
  have each : ∀ i, i < n → ∃ a : Int, cs[i]? = some (.int .i64 a) := by
    intro i hi
    have h1 : (fs.toList.map (fun f => (f.type, f.offset)))[i]? = some (3, i) := by rw [hf]; simp [hi]
    rw [List.getElem?_map] at h1
    cases hfi : fs.toList[i]? with
    | none => rw [hfi] at h1; cases h1
    | some f =>
      rw [hfi] at h1
      simp only [Option.map_some, Option.some.injEq, Prod.mk.injEq] at h1
      have h2 := hat i f (by simpa using hfi)
      rw [h1.1, h1.2, cells_int, List.getElem?_eq_getElem (by omega)] at h2
      obtain ⟨a, ha, _⟩ := DataW.trod_int Try.underlying3 h2
      refine ⟨a, ?_⟩
      have h3 : (cs.drop i).take 1 = [cs[i]] := by
        have hi' : i < cs.length := by omega
        rw [List.drop_eq_getElem_cons hi']; rfl
      rw [h3] at ha
      rw [List.getElem?_eq_getElem (by omega)]
      simpa using ha
  refine ⟨(List.range n).map (fun i => if h : i < n then Classical.choose (each i h) else 0), by simp, ?_⟩
  refine List.ext_getElem? fun i => ?_
  rcases Nat.lt_or_ge i n with hi | hi
  · rw [Classical.choose_spec (each i hi)]
    simp [hi]
  · rw [List.getElem?_eq_none (by omega), List.getElem?_eq_none (by simpa using hi)]
theorem house_und : ∃ fs : Array Field, Try.prog.underlying 52 = some (.struct fs) ∧ fs.toList.map (fun f => (f.type, f.offset)) = (List.range 10).map (fun i => (3, i)) ∧ Try.prog.cellsOf 52 = 10 := ⟨_, Try.underlying52, by kernel_rfl, by kernel_rfl⟩
theorem sight_und : ∃ fs : Array Field, Try.prog.underlying 60 = some (.struct fs) ∧ fs.toList.map (fun f => (f.type, f.offset)) = (List.range 5).map (fun i => (3, i)) ∧ Try.prog.cellsOf 60 = 5 := ⟨_, Try.underlying60, by kernel_rfl, by kernel_rfl⟩
theorem trod_house {fuel : Nat} {cs : List Value} {x : DataW H × List MemPlace} (h : DataW.trod enc Try.prog w base spare held fuel 52 cs = some x) : ∃ y : House, cs = y.cells := by
  obtain ⟨xs, hl, rfl⟩ := trod_ints house_und h
  match xs, hl with
  | [a, b, c, d, e, f, g, i, j, k], _ => exact ⟨⟨a, b, c, d, e, f, g, i, j, k⟩, rfl⟩
theorem trod_sight {fuel : Nat} {cs : List Value} {x : DataW H × List MemPlace} (h : DataW.trod enc Try.prog w base spare held fuel 60 cs = some x) : ∃ y : Sight, cs = y.cells := by
  obtain ⟨xs, hl, rfl⟩ := trod_ints sight_und h
  match xs, hl with
  | [a, b, c, d, e], _ => exact ⟨⟨a, b, c, d, e⟩, rfl⟩

/-- The end of a row's proof: the call has only laid new blocks. -/
theorem post_below {P : Program} {f : Func} {s : ChangeSpec} {apart fresh handsOn again : Bool} {W W' : World} {args : Array Value} {v : Value} {ds gs : List (DataW H)} {before pa pv : List MemPlace}
    (hW : DataW.Whole enc P f.params.toList s.vars apart W args.toList ds gs before)
    (hres : ∀ (b : Nat) (sp : Nat → Bool) (hd : Bool), DataW.TrodAll enc P W' b sp hd f.resultTypes.toList (v.resultList f.resultTypes.size) (s.fn H (ds ++ gs)).results [])
    (hargs : ∀ sp : Nat → Bool, (∀ p ∈ before, sp p.block = true) → DataW.TrodAll enc P W' 0 sp true f.params.toList args.toList (s.fn H (ds ++ gs)).args pa)
    (hvars : ∀ sp : Nat → Bool, (∀ p ∈ before, sp p.block = true) → DataW.TrodVars enc P W' sp s.vars (s.fn H (ds ++ gs)).vars pv)
    (hps : before = pa ++ pv) (hb : Below W.heap.size W W')
    (hok : ∀ (j : Nat) (t : TypeId) (r : Value), f.resultTypes[j]? = some t → (v.resultList f.resultTypes.size)[j]? = some r → Value.okWide P W' .any 0 t r) :
    s.post enc P f apart fresh handsOn again W args v W' := by
  have hlt : ∀ p ∈ before, p.block < W.heap.size := fun p hp => hW.lt p hp
  have hold : ∀ p ∈ before, (fun b => decide (b < W.heap.size)) p.block = true := fun p hp => by simpa using hlt p hp
  refine ⟨ds, gs, before, [], pa, pv, hW, hres _ _ _, hargs _ hold, hvars _ hold, World.keptBut_mono (fun p hp => ⟨hp, ?_⟩) (hb.frame (· ∈ before)), fun _ => ?_⟩
  · rw [hps, List.mem_append] at hp
    exact Or.inr hp
  · obtain ⟨_, _, _, _, _, hz, hn⟩ := hW
    refine ⟨hok, _, _, ([] ++ pa) ++ pv, ⟨[] ++ pa, pv, trodAll_append (hargs _ (fun _ _ => rfl)) (hres _ _ _), hvars _ (fun _ _ => rfl), rfl, ?_, ?_⟩, ?_⟩
    · intro b off hp
      have hin : MemPlace.cell b off ∈ before := by rw [hps]; simpa using hp
      rw [hb.frozen (hlt _ hin)]
      exact hz b off hin
    · intro ha
      have := hn ha
      rw [hps] at this
      simpa using this
    · intro p hp _
      rw [hps]
      simpa using hp

/-- A slice whose elements each read as s cells. -/
theorem open_rows {α : Type} (f : α → List Value) (s : Nat) (d0 : α) {t e : TypeId} (ht : Try.prog.underlying t = some (.slice e)) (hs : Try.prog.cellsOf e = s) (hs0 : 0 < s) (hf : ∀ y, (f y).length = s)
    (hel : ∀ (fuel : Nat) (cs : List Value) (x : DataW H × List MemPlace), DataW.trod enc Try.prog w 0 spare held fuel e cs = some x → ∃ y : α, cs = f y)
    {fuel : Nat} {cs : List Value} {x : DataW H × List MemPlace} (h : DataW.trod enc Try.prog w 0 spare held fuel t cs = some x) :
    ∃ (A : Option Addr) (cp : Nat) (l : List α), cs = [.slice A l.length cp] ∧ Rd w A (l.flatMap f) ∧ (A = none → l = []) ∧ l.length ≤ maxLen := by
  rcases open_slice ht h with ⟨rfl, _⟩ | ⟨a, len, cap, m, n, D, Pl, rfl, _, hl, hm, hmm, _, hi⟩
  · exact ⟨none, 0, [], rfl, Rd.nil _ _, fun _ => rfl, Nat.zero_le _⟩
  · have hlm : len ≤ m := by rw [hmm]; split <;> omega
    have each : ∀ i, i < len → ∃ y : α, ∀ j u, (f y)[j]? = some u → w.cell? (a.add (i * s + j)) = some u := by
      intro i hil
      obtain ⟨cs', hc, htr⟩ := hi i (by omega)
      obtain ⟨y, rfl⟩ := hel _ _ _ htr
      refine ⟨y, fun j u hu => ?_⟩
      rw [hs] at hc
      obtain ⟨_, hcl, hat⟩ := World.cells?_some hc
      have hj : j < s := by rw [← hf y]; exact (List.getElem?_eq_some_iff.1 hu).1
      rw [← Go.Deep.add_add, hat j hj, hu]
    refine ⟨some a, cap, (List.range len).map (fun i => if h : i < len then Classical.choose (each i h) else d0), by rw [List.length_map, List.length_range], ?_, (fun h => by cases h), by rw [List.length_map, List.length_range]; omega⟩
    rcases Nat.eq_zero_or_pos len with rfl | hpos
    · exact .inl (by simp)
    · have hsp : a.spot = none ∧ a.block < w.heap.size := by
        obtain ⟨y0, h0⟩ := each 0 hpos
        have hl0 : 0 < (f y0).length := by rw [hf]; exact hs0
        have := h0 0 _ (List.getElem?_eq_getElem hl0)
        rw [Nat.zero_mul, Nat.zero_add] at this
        have hc : w.cell? a = some _ := this
        refine ⟨?_, lt_cell hc⟩
        unfold World.cell? at hc
        split at hc
        · split at hc
          · cases hc
          · rename_i hn; simpa using hn
        · cases hc
      obtain ⟨b, off, sp⟩ := a
      obtain ⟨rfl, hb⟩ := hsp
      refine .inr ⟨b, off, rfl, hb, fun j u hu => ?_⟩
      have hj : j < len * s := by
        have := (List.getElem?_eq_some_iff.1 hu).1
        rwa [flat_len f s hf, List.length_map, List.length_range] at this
      have hk : j / s < len := by rw [Nat.div_lt_iff_lt_mul hs0]; exact hj
      have hjs : j % s < s := Nat.mod_lt _ hs0
      have e : j / s * s + j % s = j := by rw [Nat.mul_comm]; exact Nat.div_add_mod j s
      have hg := flat_get f s hf ((List.range len).map (fun i => if h : i < len then Classical.choose (each i h) else d0)) (j / s) (j % s) (by simpa using hk) hjs
      rw [e, hu, List.getElem_map, List.getElem_range, dif_pos hk] at hg
      have := Classical.choose_spec (each (j / s) hk) (j % s) u hg.symm
      rw [e] at this
      unfold Addr.add at this
      split at this
      · rename_i h0; subst h0; exact this
      · exact this
end
section
variable {H : Type} {enc : TypeId × Value → H} {P : Program} {w : World} {base : Nat} {spare : Nat → Bool} {held : Bool}
theorem trodAll_below (hl : laidOutB P = true) {W W' : World} (hb : Below W.heap.size W W') {sp : Nat → Bool} : ∀ {ts : List TypeId} {vs : List Value} {ds : List (DataW H)} {ps : List MemPlace}, (ts.all fun t => P.readableRec t && decide (t < P.types.size)) = true →
    DataW.TrodAll enc P W 0 (fun _ => true) true ts vs ds ps → (∀ x ∈ ps, x.block < W.heap.size) → (∀ x ∈ ps, sp x.block = true) → DataW.TrodAll enc P W' 0 sp true ts vs ds ps
  | [], vs, ds, ps, _, h, _, _ => by
    obtain ⟨rfl, rfl, rfl⟩ := trodAll_nil h
    exact trodAll_mk0
  | t :: ts, vs, ds, ps, hr, h, hlt, hsp => by
    simp only [List.all_cons, Bool.and_eq_true, decide_eq_true_eq] at hr
    obtain ⟨v, vs', d, ds', p, q, rfl, rfl, rfl, hd, hrest⟩ := trodAll_cons h
    exact trodAll_cons_mk (WideElems.Trod_stays hl hr.1.1 hr.1.2 hd (fun x hx => hb.same (hlt x (by simp [hx]))) (fun x hx => hsp x (by simp [hx])))
      (trodAll_below hl hb hr.2 hrest (fun x hx => hlt x (by simp [hx])) (fun x hx => hsp x (by simp [hx])))
theorem args_two {t0 t1 : TypeId} {args : Array Value} {ds : List (DataW H)} {ps : List MemPlace} (h : DataW.TrodAll enc P w base spare held [t0, t1] args.toList ds ps) :
    ∃ v0 v1 d0 d1 p0 p1, args = #[v0, v1] ∧ ds = [d0, d1] ∧ DataW.Trod enc P w base spare held t0 v0 d0 p0 ∧ DataW.Trod enc P w base spare held t1 v1 d1 p1 := by
  obtain ⟨v0, s0, d0, e0, p0, q0, hargs, rfl, rfl, h0, r0⟩ := trodAll_cons h
  obtain ⟨v1, s1, d1, e1, p1, q1, rfl, rfl, rfl, h1, r1⟩ := trodAll_cons r0
  obtain ⟨rfl, rfl, rfl⟩ := trodAll_nil r1
  exact ⟨v0, v1, d0, d1, p0, p1, by cases args; simp_all, rfl, h0, h1⟩
theorem args_three {t0 t1 t2 : TypeId} {args : Array Value} {ds : List (DataW H)} {ps : List MemPlace} (h : DataW.TrodAll enc P w base spare held [t0, t1, t2] args.toList ds ps) :
    ∃ v0 v1 v2 d0 d1 d2 p0 p1 p2, args = #[v0, v1, v2] ∧ ds = [d0, d1, d2] ∧ DataW.Trod enc P w base spare held t0 v0 d0 p0 ∧ DataW.Trod enc P w base spare held t1 v1 d1 p1 ∧ DataW.Trod enc P w base spare held t2 v2 d2 p2 := by
  obtain ⟨v0, s0, d0, e0, p0, q0, hargs, rfl, rfl, h0, r0⟩ := trodAll_cons h
  obtain ⟨v1, s1, d1, e1, p1, q1, rfl, rfl, rfl, h1, r1⟩ := trodAll_cons r0
  obtain ⟨v2, s2, d2, e2, p2, q2, rfl, rfl, rfl, h2, r2⟩ := trodAll_cons r1
  obtain ⟨rfl, rfl, rfl⟩ := trodAll_nil r2
  exact ⟨v0, v1, v2, d0, d1, d2, p0, p1, p2, by cases args; simp_all, rfl, h0, h1, h2⟩
theorem args_four {t0 t1 t2 t3 : TypeId} {args : Array Value} {ds : List (DataW H)} {ps : List MemPlace} (h : DataW.TrodAll enc P w base spare held [t0, t1, t2, t3] args.toList ds ps) :
    ∃ v0 v1 v2 v3 d0 d1 d2 d3 p0 p1 p2 p3, args = #[v0, v1, v2, v3] ∧ ds = [d0, d1, d2, d3] ∧ DataW.Trod enc P w base spare held t0 v0 d0 p0 ∧ DataW.Trod enc P w base spare held t1 v1 d1 p1 ∧ DataW.Trod enc P w base spare held t2 v2 d2 p2 ∧ DataW.Trod enc P w base spare held t3 v3 d3 p3 := by
  obtain ⟨v0, s0, d0, e0, p0, q0, hargs, rfl, rfl, h0, r0⟩ := trodAll_cons h
  obtain ⟨v1, s1, d1, e1, p1, q1, rfl, rfl, rfl, h1, r1⟩ := trodAll_cons r0
  obtain ⟨v2, s2, d2, e2, p2, q2, rfl, rfl, rfl, h2, r2⟩ := trodAll_cons r1
  obtain ⟨v3, s3, d3, e3, p3, q3, rfl, rfl, rfl, h3, r3⟩ := trodAll_cons r2
  obtain ⟨rfl, rfl, rfl⟩ := trodAll_nil r3
  exact ⟨v0, v1, v2, v3, d0, d1, d2, d3, p0, p1, p2, p3, by cases args; simp_all, rfl, h0, h1, h2, h3⟩
theorem args_six {t0 t1 t2 t3 t4 t5 : TypeId} {args : Array Value} {ds : List (DataW H)} {ps : List MemPlace} (h : DataW.TrodAll enc P w base spare held [t0, t1, t2, t3, t4, t5] args.toList ds ps) :
    ∃ v0 v1 v2 v3 v4 v5 d0 d1 d2 d3 d4 d5 p0 p1 p2 p3 p4 p5, args = #[v0, v1, v2, v3, v4, v5] ∧ ds = [d0, d1, d2, d3, d4, d5] ∧ DataW.Trod enc P w base spare held t0 v0 d0 p0 ∧ DataW.Trod enc P w base spare held t1 v1 d1 p1 ∧ DataW.Trod enc P w base spare held t2 v2 d2 p2 ∧ DataW.Trod enc P w base spare held t3 v3 d3 p3 ∧ DataW.Trod enc P w base spare held t4 v4 d4 p4 ∧ DataW.Trod enc P w base spare held t5 v5 d5 p5 := by
  obtain ⟨v0, s0, d0, e0, p0, q0, hargs, rfl, rfl, h0, r0⟩ := trodAll_cons h
  obtain ⟨v1, s1, d1, e1, p1, q1, rfl, rfl, rfl, h1, r1⟩ := trodAll_cons r0
  obtain ⟨v2, s2, d2, e2, p2, q2, rfl, rfl, rfl, h2, r2⟩ := trodAll_cons r1
  obtain ⟨v3, s3, d3, e3, p3, q3, rfl, rfl, rfl, h3, r3⟩ := trodAll_cons r2
  obtain ⟨v4, s4, d4, e4, p4, q4, rfl, rfl, rfl, h4, r4⟩ := trodAll_cons r3
  obtain ⟨v5, s5, d5, e5, p5, q5, rfl, rfl, rfl, h5, r5⟩ := trodAll_cons r4
  obtain ⟨rfl, rfl, rfl⟩ := trodAll_nil r5
  exact ⟨v0, v1, v2, v3, v4, v5, d0, d1, d2, d3, d4, d5, p0, p1, p2, p3, p4, p5, by cases args; simp_all, rfl, h0, h1, h2, h3, h4, h5⟩
theorem args_five {t0 t1 t2 t3 t4 : TypeId} {args : Array Value} {ds : List (DataW H)} {ps : List MemPlace} (h : DataW.TrodAll enc P w base spare held [t0, t1, t2, t3, t4] args.toList ds ps) :
    ∃ v0 v1 v2 v3 v4 d0 d1 d2 d3 d4 p0 p1 p2 p3 p4, args = #[v0, v1, v2, v3, v4] ∧ ds = [d0, d1, d2, d3, d4] ∧ DataW.Trod enc P w base spare held t0 v0 d0 p0 ∧ DataW.Trod enc P w base spare held t1 v1 d1 p1 ∧ DataW.Trod enc P w base spare held t2 v2 d2 p2 ∧ DataW.Trod enc P w base spare held t3 v3 d3 p3 ∧ DataW.Trod enc P w base spare held t4 v4 d4 p4 := by
  obtain ⟨v0, s0, d0, e0, p0, q0, hargs, rfl, rfl, h0, r0⟩ := trodAll_cons h
  obtain ⟨v1, s1, d1, e1, p1, q1, rfl, rfl, rfl, h1, r1⟩ := trodAll_cons r0
  obtain ⟨v2, s2, d2, e2, p2, q2, rfl, rfl, rfl, h2, r2⟩ := trodAll_cons r1
  obtain ⟨v3, s3, d3, e3, p3, q3, rfl, rfl, rfl, h3, r3⟩ := trodAll_cons r2
  obtain ⟨v4, s4, d4, e4, p4, q4, rfl, rfl, rfl, h4, r4⟩ := trodAll_cons r3
  obtain ⟨rfl, rfl, rfl⟩ := trodAll_nil r4
  exact ⟨v0, v1, v2, v3, v4, d0, d1, d2, d3, d4, p0, p1, p2, p3, p4, by cases args; simp_all, rfl, h0, h1, h2, h3, h4⟩
theorem args_seven {t0 t1 t2 t3 t4 t5 t6 : TypeId} {args : Array Value} {ds : List (DataW H)} {ps : List MemPlace} (h : DataW.TrodAll enc P w base spare held [t0, t1, t2, t3, t4, t5, t6] args.toList ds ps) :
    ∃ v0 v1 v2 v3 v4 v5 v6 d0 d1 d2 d3 d4 d5 d6 p0 p1 p2 p3 p4 p5 p6, args = #[v0, v1, v2, v3, v4, v5, v6] ∧ ds = [d0, d1, d2, d3, d4, d5, d6] ∧ DataW.Trod enc P w base spare held t0 v0 d0 p0 ∧ DataW.Trod enc P w base spare held t1 v1 d1 p1 ∧ DataW.Trod enc P w base spare held t2 v2 d2 p2 ∧ DataW.Trod enc P w base spare held t3 v3 d3 p3 ∧ DataW.Trod enc P w base spare held t4 v4 d4 p4 ∧ DataW.Trod enc P w base spare held t5 v5 d5 p5 ∧ DataW.Trod enc P w base spare held t6 v6 d6 p6 := by
  obtain ⟨v0, s0, d0, e0, p0, q0, hargs, rfl, rfl, h0, r0⟩ := trodAll_cons h
  obtain ⟨v1, s1, d1, e1, p1, q1, rfl, rfl, rfl, h1, r1⟩ := trodAll_cons r0
  obtain ⟨v2, s2, d2, e2, p2, q2, rfl, rfl, rfl, h2, r2⟩ := trodAll_cons r1
  obtain ⟨v3, s3, d3, e3, p3, q3, rfl, rfl, rfl, h3, r3⟩ := trodAll_cons r2
  obtain ⟨v4, s4, d4, e4, p4, q4, rfl, rfl, rfl, h4, r4⟩ := trodAll_cons r3
  obtain ⟨v5, s5, d5, e5, p5, q5, rfl, rfl, rfl, h5, r5⟩ := trodAll_cons r4
  obtain ⟨v6, s6, d6, e6, p6, q6, rfl, rfl, rfl, h6, r6⟩ := trodAll_cons r5
  obtain ⟨rfl, rfl, rfl⟩ := trodAll_nil r6
  exact ⟨v0, v1, v2, v3, v4, v5, v6, d0, d1, d2, d3, d4, d5, d6, p0, p1, p2, p3, p4, p5, p6, by cases args; simp_all, rfl, h0, h1, h2, h3, h4, h5, h6⟩
end
theorem witness_laid (os : Os) (args : Array Value) : laidMetH Try.prog laidL ((World.laidAll Try.prog os laidL).forCall (fun _ _ => 0) ⟨#[], args, []⟩).memory := by
  rw [MakeChecks.laidMetH_plain _ _ _ (by kernel_rfl)]
  exact laidMet_laidAll _ (by kernel_rfl) (by kernel_rfl)
end Go.Proofs.Ytmindojbkedmlaa
