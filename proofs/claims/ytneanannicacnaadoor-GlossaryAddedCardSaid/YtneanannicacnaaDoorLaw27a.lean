/- The examples with which the statements about glossaries begin: sane. -/
import Derived.Test.YtneanannicacnaaDoorLaw27s
import Derived.Deep.RegionWith
namespace Go.Proofs.YtneanannicacnaaDoor
open Go.RowKit Go.Han
attribute [local irreducible] wpStill wpQuiet
set_option maxRecDepth 100000

def TermMade (no at_ : Int) (target : ByteArray) (A : Option Addr) (n c : Nat) (w : World) (e : Ending) (w' : World) : Prop :=
  ∃ b, b < w'.heap.size ∧ w.heap.size ≤ b ∧ e = .returned (.agg #[.int .i64 no, .int .i64 at_, .int .i64 at_, .int .i64 1, .slice A n c, .slice (some ⟨b, 0, none⟩) 1 1, .string sNoun, .bool false]) ∧ Below w.heap.size w w' ∧ w'.heap[b]? = some (.cells #[.string target] 9 (0, 0))
theorem term_any (no at_ : Int) (target : ByteArray) (A : Option Addr) (n c : Nat) (w : World) : Calls Tryd.prog 61 #[.int .i64 no, .int .i64 at_, .string target, .slice A n c] w (TermMade no at_ target A n c w) := by
  go_enter Tryd.func61, Tryd.ntmps61
  go_wp2_with fail
  exact bodyPost_ret (v := .agg #[.int .i64 no, .int .i64 at_, .int .i64 at_, .int .i64 1, .slice A n c, .slice (some ⟨w.heap.size + 1, 0, none⟩) 1 1, .string sNoun, .bool false]) (by simp [results, Tryd.results61, go_sem, sNoun]) rfl ⟨w.heap.size + 1, by simp, by omega, rfl, ext_alloc (ext_alloc (Below.refl _ _) _) _, galloc_at _ _ _ (by simp)⟩

theorem stand_ok (A : Option Addr) (cp : Nat) (l S : List Term) (lang t u : Int) (n m : Nat) (W : World) (hT : Tabs W) (hr : TermsAt W A l) (hm : l.length ≤ 1024) (hn : l.length = n) (h0 : standE l lang t u = 0) (hS : standT l lang t u = S) (hk : S.length = m) :
    Calls Tryd.prog 37 #[.slice A n cp, .int .i64 lang, .int .i64 t, .int .i64 u] W fun e W' => Below W.heap.size W W' ∧ ∃ B c, e = .returned (.tuple #[.slice B m c, .int .i64 0]) ∧ TermsAt W' B S := by
  subst hn hk
  refine (Standing_any A cp l lang t u W hT hr (by omega)).mono ?_
  rintro e W' ⟨hb, ⟨hne, _⟩ | ⟨_, B, c, rfl, hB, _⟩⟩
  · exact absurd h0 hne
  · rw [hS] at hB ⊢
    exact ⟨hb, B, c, rfl, hB⟩
theorem stand_no (A : Option Addr) (cp : Nat) (l : List Term) (lang t u : Int) (n : Nat) (W : World) (hT : Tabs W) (hr : TermsAt W A l) (hm : l.length ≤ 1024) (hn : l.length = n) (E : Int) (h0 : standE l lang t u = E) (hE : E ≠ 0) :
    Calls Tryd.prog 37 #[.slice A n cp, .int .i64 lang, .int .i64 t, .int .i64 u] W fun e W' => Below W.heap.size W W' ∧ e = .returned (.tuple #[.slice none 0 0, .int .i64 E]) := by
  subst hn h0
  refine (Standing_any A cp l lang t u W hT hr (by omega)).mono ?_
  rintro e W' ⟨hb, ⟨_, rfl⟩ | ⟨hz, _⟩⟩
  · exact ⟨hb, rfl⟩
  · exact absurd hz hE
theorem find_ok (A : Option Addr) (cp : Nat) (l : List Term) (lang : Int) (s : StrS) (i t u : Int) (n m : Nat) (V : Value) (W : World) (hT : Tabs W) (hr : TermsAt W A l) (hs : s.lies W) (hm : l.length ≤ 1024) (hn : l.length = n) (hk : s.xs.length = m) (hV : findV l lang s.xs i t u = V) :
    Calls Tryd.prog 39 #[.slice A n cp, .int .i64 lang, .slice s.addr m s.cap, .int .i64 i, .int .i64 t, .int .i64 u] W fun e W' => e = .returned V ∧ Below W.heap.size W W' := by
  subst hn hk hV
  exact Find_any A cp l lang s i t u W hT hr hs (by omega)
theorem same_ok (A B : Option Addr) (c d : Nat) (l : List Term) (n : Nat) (W : World) (hr : TermsAt W A l) (hr' : TermsAt W B l) (hm : l.length ≤ 1024) (hn : l.length = n) (h : sameTermsB l l = true) :
    Calls Tryd.prog 36 #[.slice A n c, .slice B n d] W fun e W' => e = .returned (.bool true) ∧ Below W.heap.size W W' := by
  subst hn
  have := sameL27_any A B c d l l W hr hr' (by omega)
  rw [h] at this
  exact this
theorem TermsAt.of_blk {W : World} {b t : Nat} {fr : Nat × Nat} {cs : Array Value} {l : List Term} (h : W.heap[b]? = some (.cells cs t fr)) (hc : cs.toList = tflat l) (hl : ∀ x ∈ l, x.lies W) : TermsAt W (some ⟨b, 0, none⟩) l := ⟨grd_blk h hc, hl⟩
theorem StrS.of_blk {W : World} {b t c : Nat} {fr : Nat × Nat} {cs : Array Value} {xs : List ByteArray} (h : W.heap[b]? = some (.cells cs t fr)) (hc : cs.toList = strs xs) (h1 : xs.length ≤ c) (h2 : c ≤ 1024) : StrS.lies W ⟨some ⟨b, 0, none⟩, c, xs⟩ := ⟨grd_blk h hc, h1, by show c ≤ _; omega, fun h => by cases h⟩
theorem gL_len (a b c d e f g : Option Addr) : (gL a b c d e f g).length ≤ 1024 := by show 4 ≤ 1024; omega
theorem add_ok (A : Option Addr) (cp : Nat) (l S : List Term) (x : Term) (n m : Nat) (W : World) (hT : Tabs W) (hr : TermsAt W A l) (hx : x.lies W) (hA : A ≠ none) (hm : l.length ≤ 1024) (hn : l.length = n) (h0 : addE l x = 0) (hS : addL l x = S) (hk : S.length = m) :
    Calls Tryd.prog 32 #[.slice A n cp, .agg x.cells.toArray] W fun e W' => Below W.heap.size W W' ∧ ∃ B c, e = .returned (.tuple #[.slice B m c, .int .i64 0]) ∧ TermsAt W' B S := by
  subst hn hk
  refine (AddT_any A cp l x W hT hr hx (fun h => absurd h hA) (by omega)).mono ?_
  rintro e W' ⟨hb, ⟨hne, _⟩ | ⟨_, B, c, rfl, hB, _⟩⟩
  · exact absurd h0 hne
  · rw [hS] at hB ⊢
    exact ⟨hb, B, c, rfl, hB⟩
theorem add_no (A : Option Addr) (cp : Nat) (l : List Term) (x : Term) (n : Nat) (W : World) (hT : Tabs W) (hr : TermsAt W A l) (hx : x.lies W) (hA : A ≠ none) (hm : l.length ≤ 1024) (hn : l.length = n) (E : Int) (h0 : addE l x = E) (hE : E ≠ 0) :
    Calls Tryd.prog 32 #[.slice A n cp, .agg x.cells.toArray] W fun e W' => Below W.heap.size W W' ∧ e = .returned (.tuple #[.slice none 0 0, .int .i64 E]) := by
  subst hn h0
  refine (AddT_any A cp l x W hT hr hx (fun h => absurd h hA) (by omega)).mono ?_
  rintro e W' ⟨hb, ⟨_, rfl⟩ | ⟨hz, _⟩⟩
  · exact ⟨hb, rfl⟩
  · exact absurd hz hE
theorem TermsAt.cut {W : World} {b off : Nat} {l : List Term} (h : TermsAt W (some ⟨b, off, none⟩) l) (i n o : Nat) (ho : o = off + i * 8) : TermsAt W (some ⟨b, o, none⟩) ((l.drop i).take n) := by
  subst ho
  refine ⟨?_, fun x hx => h.lie x (List.mem_of_mem_drop (List.mem_of_mem_take hx))⟩
  rcases h.rd with h0 | ⟨b', off', he, hb, hc⟩
  · have hl : l = [] := by
      cases l with
      | nil => rfl
      | cons x l => simp [tflat, Term.cells] at h0
    rw [hl]; simp only [List.drop_nil, List.take_nil]; exact Rd.nil _ _
  · cases he
    refine .inr ⟨b, off + i * 8, rfl, hb, fun j u hu => ?_⟩
    rw [Nat.add_assoc]
    refine hc (i * 8 + j) u ?_
    by_cases hi : i ≤ l.length
    · have h1 : tflat l = tflat (l.take i) ++ (tflat ((l.drop i).take n) ++ tflat ((l.drop i).drop n)) := by
        unfold tflat
        rw [← List.flatMap_append, List.take_append_drop, ← List.flatMap_append, List.take_append_drop]
      have h2 : (tflat (l.take i)).length = i * 8 := by rw [tflat_length, List.length_take, Nat.min_eq_left hi]
      rw [h1, List.getElem?_append_right (by omega), h2, Nat.add_sub_cancel_left, List.getElem?_append_left (List.getElem?_eq_some_iff.1 hu).1]
      exact hu
    · rw [List.drop_of_length_le (by omega), List.take_nil] at hu
      cases hu
theorem check_ok (A : Option Addr) (cp : Nat) (l : List Term) (n : Nat) (V : Int) (W : World) (hT : Tabs W) (hr : TermsAt W A l) (hm : l.length ≤ 1024) (hn : l.length = n) (hV : checkT l = V) :
    Calls Tryd.prog 34 #[.slice A n cp] W fun e w' => e = .returned (.int .i64 V) ∧ Below W.heap.size W w' := by
  subst hn hV
  exact CheckT_any A cp l W hT hr (by omega)
/-- The memory that the examples lay. -/
structure Mem27 (nA nB nC nG bl : Nat) (a b c d e f g : Option Addr) (W : World) : Prop where
  mA : W.heap[nA]? = some (.cells (gA a b).cells.toArray 51 (0, 0))
  mB : W.heap[nB]? = some (.cells (gB c d).cells.toArray 51 (0, 0))
  mC : W.heap[nC]? = some (.cells (gC e f).cells.toArray 51 (0, 0))
  mG : W.heap[nG]? = some (.cells (gG g).cells.toArray 51 (0, 0))
  ts : TermsAt W (some ⟨bl, 0, none⟩) (gL a b c d e f g)
theorem Mem27.ext {nA nB nC nG bl : Nat} {a b c d e f g : Option Addr} {W W' : World} (h : Mem27 nA nB nC nG bl a b c d e f g W) (hb : Below W.heap.size W W') : Mem27 nA nB nC nG bl a b c d e f g W' :=
  ⟨(hb.block _ (lt_block h.mA)).trans h.mA, (hb.block _ (lt_block h.mB)).trans h.mB, (hb.block _ (lt_block h.mC)).trans h.mC, (hb.block _ (lt_block h.mG)).trans h.mG, h.ts.ext hb⟩
set_option maxHeartbeats 4000000 in
theorem sane27_any (w : World) (hT : Tabs w) : Calls Tryd.prog 30 #[] w fun e w' => e = .returned (.bool true) ∧ Below w.heap.size w w' := by
  go_enter Tryd.func30, Tryd.ntmps30
  go_wp2_with fail
  refine (term_any _ _ _ _ _ _ _).mono ?_
  rintro e w2 ⟨b1, hb1, hb1', rfl, hB2, hx2⟩
  go_wp2_with fail
  refine (term_any _ _ _ _ _ _ _).mono ?_
  rintro e w4 ⟨b2, hb2, hb2', rfl, hB4, hx4⟩
  have y0 : w2.heap[w.heap.size]? = some (.cells #[.string sPoint] 9 (0, 0)) := (hB2.block _ (by simp)).trans (World.alloc_heap_new _ _)
  have hB02 : Below w.heap.size w w2 := ext_trans (ext_alloc (Below.refl _ _) _) hB2
  have y1 : w4.heap[w2.heap.size]? = some (.cells #[.string sPoint, .string sOf, .string sOrder] 9 (0, 0)) := (hB4.block _ (by simp)).trans (World.alloc_heap_new _ _)
  have hB24 : Below w2.heap.size w2 w4 := ext_trans (ext_alloc (Below.refl _ _) _) hB4
  clear hB2 hB4
  go_wp2_with fail
  obtain ⟨w5, hw5⟩ : ∃ w5, ((w4.alloc (.cells #[.int .i64 1, .int .i64 0, .int .i64 0, .int .i64 1, .slice (some ⟨w.heap.size, 0, none⟩) 1 1, .slice (some ⟨b1, 0, none⟩) 1 1, .string sNoun, .bool false] 51)).alloc (.cells #[.int .i64 2, .int .i64 0, .int .i64 0, .int .i64 1, .slice (some ⟨w2.heap.size, 0, none⟩) 3 3, .slice (some ⟨b2, 0, none⟩) 1 1, .string sNoun, .bool false] 51)).alloc (.cells #[.string sPoint] 9) = w5 := ⟨_, rfl⟩
  change Calls _ _ _ (((w4.alloc (.cells #[.int .i64 1, .int .i64 0, .int .i64 0, .int .i64 1, .slice (some ⟨w.heap.size, 0, none⟩) 1 1, .slice (some ⟨b1, 0, none⟩) 1 1, .string sNoun, .bool false] 51)).alloc (.cells #[.int .i64 2, .int .i64 0, .int .i64 0, .int .i64 1, .slice (some ⟨w2.heap.size, 0, none⟩) 3 3, .slice (some ⟨b2, 0, none⟩) 1 1, .string sNoun, .bool false] 51)).alloc (.cells #[.string sPoint] 9)) _
  rw [hw5]
  have z0 : w5.heap[w4.heap.size]? = some (.cells #[.int .i64 1, .int .i64 0, .int .i64 0, .int .i64 1, .slice (some ⟨w.heap.size, 0, none⟩) 1 1, .slice (some ⟨b1, 0, none⟩) 1 1, .string sNoun, .bool false] 51 (0, 0)) := by rw [← hw5]; exact (Below.heap_alloc _ _ _ (by simp; omega)).trans ((Below.heap_alloc _ _ _ (by simp)).trans (World.alloc_heap_new _ _))
  have z1 : w5.heap[w4.heap.size + 1]? = some (.cells #[.int .i64 2, .int .i64 0, .int .i64 0, .int .i64 1, .slice (some ⟨w2.heap.size, 0, none⟩) 3 3, .slice (some ⟨b2, 0, none⟩) 1 1, .string sNoun, .bool false] 51 (0, 0)) := by rw [← hw5]; exact (Below.heap_alloc _ _ _ (by simp)).trans (galloc_at _ _ _ (by simp))
  have z2 : w5.heap[w4.heap.size + 1 + 1]? = some (.cells #[.string sPoint] 9 (0, 0)) := by rw [← hw5]; exact galloc_at _ _ _ (by simp)
  have hB45 : Below w4.heap.size w4 w5 := by rw [← hw5]; exact ext_alloc (ext_alloc (ext_alloc (Below.refl _ _) _) _) _
  clear hw5
  refine (term_any _ _ _ _ _ _ _).mono ?_
  rintro e w6 ⟨b3, hb3, hb3', rfl, hB56, hx6⟩
  have a0 := (hB56.block _ (lt_block z0)).trans z0
  have a1 := (hB56.block _ (lt_block z1)).trans z1
  have hn0 : w4.heap.size < w6.heap.size := lt_block a0
  have hn1 : w4.heap.size + 1 < w6.heap.size := lt_block a1
  have hn4 : w4.heap.size < w6.heap.size + 1 := by omega
  have hn5 : w4.heap.size < w6.heap.size + 1 + 1 := by omega
  have hn6 : w4.heap.size + 1 < w6.heap.size + 1 := by omega
  have hn7 : w4.heap.size + 1 < w6.heap.size + 1 + 1 := by omega
  have hn8 : w4.heap.size < w6.heap.size + 1 + 1 + 1 := by omega
  have hn9 : w4.heap.size + 1 < w6.heap.size + 1 + 1 + 1 := by omega
  have hn2 : w4.heap.size ≠ w6.heap.size := by omega
  have hn3 : w4.heap.size + 1 ≠ w6.heap.size := by omega
  have g0 := gblk a0 0
  have g1 := gblk a0 1
  have g2 := gblk a0 2
  have g3 := gblk a0 3
  have g4 := gblk a0 4
  have g5 := gblk a0 5
  have g6 := gblk a0 6
  have g7 := gblk a0 7
  have h0 := gblk a1 0
  have h1 := gblk a1 1
  have h2 := gblk a1 2
  have h3 := gblk a1 3
  have h4 := gblk a1 4
  have h5 := gblk a1 5
  have h6 := gblk a1 6
  have h7 := gblk a1 7
  go_wp2_with fail
  obtain ⟨w7, hw7⟩ : ∃ w7, (((w6.alloc (.cells #[.int .i64 3, .int .i64 10, .int .i64 20, .int .i64 1, .slice (some ⟨w4.heap.size + 1 + 1, 0, none⟩) 1 1, .slice (some ⟨b3, 0, none⟩) 1 1, .string sNoun, .bool false] 51)).alloc (.cells #[.string sPoint] 9)).alloc (.cells #[.int .i64 4, .int .i64 30, .int .i64 30, .int .i64 1, .slice (some ⟨w6.heap.size + 1, 0, none⟩) 1 1, .slice none 0 0, .string ⟨#[]⟩, .bool true] 51)).alloc (.cells #[.int .i64 1, .int .i64 0, .int .i64 0, .int .i64 1, .slice (some ⟨w.heap.size, 0, none⟩) 1 1, .slice (some ⟨b1, 0, none⟩) 1 1, .string sNoun, .bool false, .int .i64 2, .int .i64 0, .int .i64 0, .int .i64 1, .slice (some ⟨w2.heap.size, 0, none⟩) 3 3, .slice (some ⟨b2, 0, none⟩) 1 1, .string sNoun, .bool false, .int .i64 3, .int .i64 10, .int .i64 20, .int .i64 1, .slice (some ⟨w4.heap.size + 1 + 1, 0, none⟩) 1 1, .slice (some ⟨b3, 0, none⟩) 1 1, .string sNoun, .bool false, .int .i64 4, .int .i64 30, .int .i64 30, .int .i64 1, .slice (some ⟨w6.heap.size + 1, 0, none⟩) 1 1, .slice none 0 0, .string ⟨#[]⟩, .bool true] 51) = w7 := ⟨_, rfl⟩
  change Calls _ _ _ ((((w6.alloc (.cells #[.int .i64 3, .int .i64 10, .int .i64 20, .int .i64 1, .slice (some ⟨w4.heap.size + 1 + 1, 0, none⟩) 1 1, .slice (some ⟨b3, 0, none⟩) 1 1, .string sNoun, .bool false] 51)).alloc (.cells #[.string sPoint] 9)).alloc (.cells #[.int .i64 4, .int .i64 30, .int .i64 30, .int .i64 1, .slice (some ⟨w6.heap.size + 1, 0, none⟩) 1 1, .slice none 0 0, .string ⟨#[]⟩, .bool true] 51)).alloc (.cells #[.int .i64 1, .int .i64 0, .int .i64 0, .int .i64 1, .slice (some ⟨w.heap.size, 0, none⟩) 1 1, .slice (some ⟨b1, 0, none⟩) 1 1, .string sNoun, .bool false, .int .i64 2, .int .i64 0, .int .i64 0, .int .i64 1, .slice (some ⟨w2.heap.size, 0, none⟩) 3 3, .slice (some ⟨b2, 0, none⟩) 1 1, .string sNoun, .bool false, .int .i64 3, .int .i64 10, .int .i64 20, .int .i64 1, .slice (some ⟨w4.heap.size + 1 + 1, 0, none⟩) 1 1, .slice (some ⟨b3, 0, none⟩) 1 1, .string sNoun, .bool false, .int .i64 4, .int .i64 30, .int .i64 30, .int .i64 1, .slice (some ⟨w6.heap.size + 1, 0, none⟩) 1 1, .slice none 0 0, .string ⟨#[]⟩, .bool true] 51)) _
  rw [hw7]
  have v0 : w7.heap[w6.heap.size]? = some (.cells #[.int .i64 3, .int .i64 10, .int .i64 20, .int .i64 1, .slice (some ⟨w4.heap.size + 1 + 1, 0, none⟩) 1 1, .slice (some ⟨b3, 0, none⟩) 1 1, .string sNoun, .bool false] 51 (0, 0)) := by rw [← hw7]; exact (Below.heap_alloc _ _ _ (by simp only [World.size_alloc]; omega)).trans ((Below.heap_alloc _ _ _ (by simp only [World.size_alloc]; omega)).trans ((Below.heap_alloc _ _ _ (by simp only [World.size_alloc]; omega)).trans (World.alloc_heap_new _ _)))
  have v1 : w7.heap[w6.heap.size + 1]? = some (.cells #[.string sPoint] 9 (0, 0)) := by rw [← hw7]; exact (Below.heap_alloc _ _ _ (by simp only [World.size_alloc]; omega)).trans ((Below.heap_alloc _ _ _ (by simp only [World.size_alloc]; omega)).trans (galloc_at _ _ _ (by simp)))
  have v2 : w7.heap[w6.heap.size + 1 + 1]? = some (.cells #[.int .i64 4, .int .i64 30, .int .i64 30, .int .i64 1, .slice (some ⟨w6.heap.size + 1, 0, none⟩) 1 1, .slice none 0 0, .string ⟨#[]⟩, .bool true] 51 (0, 0)) := by rw [← hw7]; exact (Below.heap_alloc _ _ _ (by simp only [World.size_alloc]; omega)).trans (galloc_at _ _ _ (by simp))
  have v3 : w7.heap[w6.heap.size + 1 + 1 + 1]? = some (.cells #[.int .i64 1, .int .i64 0, .int .i64 0, .int .i64 1, .slice (some ⟨w.heap.size, 0, none⟩) 1 1, .slice (some ⟨b1, 0, none⟩) 1 1, .string sNoun, .bool false, .int .i64 2, .int .i64 0, .int .i64 0, .int .i64 1, .slice (some ⟨w2.heap.size, 0, none⟩) 3 3, .slice (some ⟨b2, 0, none⟩) 1 1, .string sNoun, .bool false, .int .i64 3, .int .i64 10, .int .i64 20, .int .i64 1, .slice (some ⟨w4.heap.size + 1 + 1, 0, none⟩) 1 1, .slice (some ⟨b3, 0, none⟩) 1 1, .string sNoun, .bool false, .int .i64 4, .int .i64 30, .int .i64 30, .int .i64 1, .slice (some ⟨w6.heap.size + 1, 0, none⟩) 1 1, .slice none 0 0, .string ⟨#[]⟩, .bool true] 51 (0, 0)) := by rw [← hw7]; exact galloc_at _ _ _ (by simp)
  have hB67 : Below w6.heap.size w6 w7 := by rw [← hw7]; exact ext_alloc (ext_alloc (ext_alloc (ext_alloc (Below.refl _ _) _) _) _) _
  have hB27 : Below w2.heap.size w2 w7 := ext_trans hB24 (ext_trans hB45 (ext_trans hB56 hB67))
  have hB47 : Below w4.heap.size w4 w7 := ext_trans hB45 (ext_trans hB56 hB67)
  have hB57 : Below w5.heap.size w5 w7 := ext_trans hB56 hB67
  have hB07 : Below w.heap.size w w7 := ext_trans hB02 hB27
  have lA : (gA (some ⟨w.heap.size, 0, none⟩) (some ⟨b1, 0, none⟩)).lies w7 := ⟨StrS.of_blk ((hB27.block _ (lt_block y0)).trans y0) rfl (by decide) (by decide), StrS.of_blk ((hB27.block _ hb1).trans hx2) rfl (by decide) (by decide)⟩
  have lB : (gB (some ⟨w2.heap.size, 0, none⟩) (some ⟨b2, 0, none⟩)).lies w7 := ⟨StrS.of_blk ((hB47.block _ (lt_block y1)).trans y1) rfl (by decide) (by decide), StrS.of_blk ((hB47.block _ hb2).trans hx4) rfl (by decide) (by decide)⟩
  have lC : (gC (some ⟨w4.heap.size + 1 + 1, 0, none⟩) (some ⟨b3, 0, none⟩)).lies w7 := ⟨StrS.of_blk ((hB57.block _ (lt_block z2)).trans z2) rfl (by decide) (by decide), StrS.of_blk ((hB67.block _ hb3).trans hx6) rfl (by decide) (by decide)⟩
  have lG : (gG (some ⟨w6.heap.size + 1, 0, none⟩)).lies w7 := ⟨StrS.of_blk v1 rfl (by decide) (by decide), ⟨Rd.nil _ _, Nat.le_refl _, by show (0 : Nat) ≤ _; omega, fun _ => rfl⟩⟩
  have M : Mem27 w4.heap.size (w4.heap.size + 1) w6.heap.size (w6.heap.size + 1 + 1) (w6.heap.size + 1 + 1 + 1) (some ⟨w.heap.size, 0, none⟩) (some ⟨b1, 0, none⟩) (some ⟨w2.heap.size, 0, none⟩) (some ⟨b2, 0, none⟩) (some ⟨w4.heap.size + 1 + 1, 0, none⟩) (some ⟨b3, 0, none⟩) (some ⟨w6.heap.size + 1, 0, none⟩) w7 := by
    refine ⟨(hB57.block _ (lt_block z0)).trans z0, (hB57.block _ (lt_block z1)).trans z1, v0, v2, TermsAt.of_blk v3 rfl ?_⟩
    intro x hx
    simp only [gL, List.mem_cons, List.not_mem_nil, or_false] at hx
    rcases hx with rfl | rfl | rfl | rfl
    · exact lA
    · exact lB
    · exact lC
    · exact lG
  have HM := Lib.hid M
  have hT7 := Lib.hid (utf_ext hT hB07)
  have HB07 := Lib.hid hB07
  clear hw7 v0 v1 v2 v3 hB67 hB27 hB47 hB57 hB07 lA lB lC lG M y0 y1 z0 z1 z2 a0 a1 hn0 hn1 hn2 hn3 hn4 hn5 hn6 hn7 hn8 hn9 hb1 hb1' hb2 hb2' hb3 hb3' hx2 hx4 hx6 hB02 hB24 hB45 hB56 hT
  clear g0 g1 g2 g3 g4 g5 g6 g7 h0 h1 h2 h3 h4 h5 h6 h7
  generalize w4.heap.size = nA at *
  generalize w6.heap.size = nC at *
  obtain ⟨na, hna⟩ : ∃ na, na = w.heap.size := ⟨_, rfl⟩
  rw [← hna] at HM ⊢
  have Hna := Lib.hid hna
  clear hna
  generalize w2.heap.size = nc at *
  refine (stand_ok _ _ _ _ _ _ _ _ _ w7 hT7.out HM.out.ts (gL_len _ _ _ _ _ _ _) rfl (ex_st1 _ _ _ _ _ _ _).1 (ex_st1 _ _ _ _ _ _ _).2 rfl).mono ?_
  rintro e W1 ⟨hb1, B1, c1, rfl, hS1⟩
  have HB1 := Lib.hid hb1
  go_wp2_with fail
  refine (stand_ok _ _ _ _ _ _ _ _ _ W1 (utf_ext hT7.out HB1.out) (HM.out.ext HB1.out).ts (gL_len _ _ _ _ _ _ _) rfl (ex_st2 _ _ _ _ _ _ _).1 (ex_st2 _ _ _ _ _ _ _).2 rfl).mono ?_
  rintro e W2 ⟨hb2, B2, c2, rfl, hS2⟩
  have HB2 := Lib.hid (ext_trans HB1.out hb2)
  go_wp2_with fail
  refine (stand_ok _ _ _ _ _ _ _ _ _ W2 (utf_ext hT7.out HB2.out) (HM.out.ext HB2.out).ts (gL_len _ _ _ _ _ _ _) rfl (ex_st3 _ _ _ _ _ _ _).1 (ex_st3 _ _ _ _ _ _ _).2 rfl).mono ?_
  rintro e W3 ⟨hb3, B3, c3, rfl, hS3⟩
  have HS := Lib.hid (And.intro (hS1.ext (ext_trans hb2 hb3)) (And.intro (hS2.ext hb3) hS3))
  have HM := Lib.hid (HM.out.ext (ext_trans HB2.out hb3))
  have hT7 := Lib.hid (utf_ext hT7.out (ext_trans HB2.out hb3))
  have HB07 := Lib.hid (ext_trans HB07.out (ext_trans HB2.out hb3))
  have HB3 := Lib.hid (Below.refl W3.heap.size W3)
  clear hS1 hS2 hS3
  go_wp2_with fail
  refine (stand_ok none 0 [] [] 0 0 0 0 0 W3 (utf_ext hT7.out HB3.out) (TermsAt.nil _ _) (by decide) rfl ex_st4.1 rfl rfl).mono ?_
  rintro e W4 ⟨hb4, B4, c4, rfl, _⟩
  have HB4 := Lib.hid (ext_trans HB3.out hb4)
  go_wp2_with fail
  refine (stand_no none 0 [] 32 0 0 0 W4 (utf_ext hT7.out HB4.out) (TermsAt.nil _ _) (by decide) rfl 1 ex_st4.2 (by decide)).mono ?_
  rintro e W5 ⟨hb5, rfl⟩
  have HB5 := Lib.hid (ext_trans HB4.out hb5)
  go_wp2_with fail
  obtain ⟨Wa, hWa⟩ : ∃ Wa, W5.alloc (.cells #[.string ⟨#[97]⟩, .string sPoint, .string sOf, .string sOrder] 9) = Wa := ⟨_, rfl⟩
  change Calls _ _ _ (W5.alloc (.cells #[.string ⟨#[97]⟩, .string sPoint, .string sOf, .string sOrder] 9)) _
  rw [hWa]
  have hwd : Wa.heap[W5.heap.size]? = some (.cells #[.string ⟨#[97]⟩, .string sPoint, .string sOf, .string sOrder] 9 (0, 0)) := by rw [← hWa]; exact World.alloc_heap_new _ _
  have hWd4 := Lib.hid (StrS.of_blk (c := 4) (xs := [⟨#[97]⟩, sPoint, sOf, sOrder]) hwd rfl (by decide) (by decide))
  have hWd3 : Hid (StrS.lies Wa ⟨some ⟨W5.heap.size, 0, none⟩, 4, [⟨#[97]⟩, sPoint, sOf]⟩) := by
    have h := hWd4.out
    refine ⟨?_, by show (3 : Nat) ≤ 4; omega, by show (4 : Nat) ≤ _; omega, fun h => by cases h⟩
    rcases h.rd with h0 | ⟨b, off, he, hb, hc⟩
    · cases h0
    · refine .inr ⟨b, off, he, hb, fun j u hu => hc j u ?_⟩
      have hj : j < 3 := (List.getElem?_eq_some_iff.1 hu).1
      rcases (show j = 0 ∨ j = 1 ∨ j = 2 by omega) with rfl | rfl | rfl <;> exact hu
  have HBa : Hid (Below W3.heap.size W3 Wa) := by show Below _ _ _; rw [← hWa]; exact ext_alloc HB5.out _
  clear hWa hwd hb1 hb2 hb3 hb4 hb5
  generalize W5.heap.size = nw at *
  refine (find_ok _ _ _ _ ⟨some ⟨nw, 0, none⟩, 4, [⟨#[97]⟩, sPoint, sOf, sOrder]⟩ _ _ _ _ _ _ Wa (utf_ext hT7.out HBa.out) (HM.out.ext HBa.out).ts hWd4.out (gL_len _ _ _ _ _ _ _) rfl rfl (ex_f1 _ _ _ _ _ _ _)).mono ?_
  rintro e Wb ⟨rfl, hbb⟩
  have HBb := Lib.hid (ext_trans HBa.out hbb)
  have Hab := Lib.hid hbb
  go_wp2_with fail
  refine (find_ok _ _ _ _ ⟨some ⟨nw, 0, none⟩, 4, [⟨#[97]⟩, sPoint, sOf]⟩ _ _ _ _ _ _ Wb (utf_ext hT7.out HBb.out) (HM.out.ext HBb.out).ts (hWd3.out.ext Hab.out) (gL_len _ _ _ _ _ _ _) rfl rfl (ex_f2 _ _ _ _ _ _ _)).mono ?_
  rintro e Wc ⟨rfl, hbc⟩
  have HBc := Lib.hid (ext_trans HBb.out hbc)
  have Hac := Lib.hid (ext_trans Hab.out hbc)
  go_wp2_with fail
  refine (find_ok _ _ _ _ ⟨some ⟨nw, 0, none⟩, 4, [⟨#[97]⟩, sPoint, sOf, sOrder]⟩ _ _ _ _ _ _ Wc (utf_ext hT7.out HBc.out) (HM.out.ext HBc.out).ts (hWd4.out.ext Hac.out) (gL_len _ _ _ _ _ _ _) rfl rfl (ex_f3 _ _ _ _ _ _ _)).mono ?_
  rintro e Wd ⟨rfl, hbd⟩
  have HBd := Lib.hid (ext_trans HBc.out hbd)
  have hno : ∀ W : World, StrS.lies W ⟨none, 0, []⟩ := fun W => ⟨Rd.nil _ _, Nat.le_refl _, by show (0 : Nat) ≤ _; omega, fun _ => rfl⟩
  have Hno := Lib.hid hno
  clear hno hbb hbc hbd
  go_wp2_with fail
  refine (find_ok none 0 [] 0 ⟨none, 0, []⟩ 1 0 0 0 0 _ Wd (utf_ext hT7.out HBd.out) (TermsAt.nil _ _) (Hno.out _) (by decide) rfl rfl ex_f4).mono ?_
  rintro e We ⟨rfl, hbe⟩
  have HBe := Lib.hid (ext_trans HBd.out hbe)
  go_wp2_with fail
  refine (find_ok none 0 [] 0 ⟨none, 0, []⟩ 0 0 0 0 0 _ We (utf_ext hT7.out HBe.out) (TermsAt.nil _ _) (Hno.out _) (by decide) rfl rfl ex_f5).mono ?_
  rintro e Wf ⟨rfl, hbf⟩
  have HBf := Lib.hid (ext_trans HBe.out hbf)
  have Mf := HM.out.ext HBf.out
  have l0 := lt_block Mf.mA
  have l1 := lt_block Mf.mB
  have l2 := lt_block Mf.mC
  have l3 := lt_block Mf.mG
  have u0 : Wf.cell? ⟨nA, 0, none⟩ = some (.int .i64 1) := gblk Mf.mA 0
  have u1 : Wf.cell? ⟨nA, 1, none⟩ = some (.int .i64 0) := gblk Mf.mA 1
  have u2 : Wf.cell? ⟨nA, 2, none⟩ = some (.int .i64 0) := gblk Mf.mA 2
  have u3 : Wf.cell? ⟨nA, 3, none⟩ = some (.int .i64 1) := gblk Mf.mA 3
  have u4 : Wf.cell? ⟨nA, 4, none⟩ = some (.slice (some ⟨na, 0, none⟩) 1 1) := gblk Mf.mA 4
  have u5 : Wf.cell? ⟨nA, 5, none⟩ = some (.slice (some ⟨b1, 0, none⟩) 1 1) := gblk Mf.mA 5
  have u6 : Wf.cell? ⟨nA, 6, none⟩ = some (.string sNoun) := gblk Mf.mA 6
  have u7 : Wf.cell? ⟨nA, 7, none⟩ = some (.bool false) := gblk Mf.mA 7
  have v0 : Wf.cell? ⟨nA + 1, 0, none⟩ = some (.int .i64 2) := gblk Mf.mB 0
  have v1 : Wf.cell? ⟨nA + 1, 1, none⟩ = some (.int .i64 0) := gblk Mf.mB 1
  have v2 : Wf.cell? ⟨nA + 1, 2, none⟩ = some (.int .i64 0) := gblk Mf.mB 2
  have v3 : Wf.cell? ⟨nA + 1, 3, none⟩ = some (.int .i64 1) := gblk Mf.mB 3
  have v4 : Wf.cell? ⟨nA + 1, 4, none⟩ = some (.slice (some ⟨nc, 0, none⟩) 3 3) := gblk Mf.mB 4
  have v5 : Wf.cell? ⟨nA + 1, 5, none⟩ = some (.slice (some ⟨b2, 0, none⟩) 1 1) := gblk Mf.mB 5
  have v6 : Wf.cell? ⟨nA + 1, 6, none⟩ = some (.string sNoun) := gblk Mf.mB 6
  have v7 : Wf.cell? ⟨nA + 1, 7, none⟩ = some (.bool false) := gblk Mf.mB 7
  have x0 : Wf.cell? ⟨nC, 0, none⟩ = some (.int .i64 3) := gblk Mf.mC 0
  have x1 : Wf.cell? ⟨nC, 1, none⟩ = some (.int .i64 10) := gblk Mf.mC 1
  have x2 : Wf.cell? ⟨nC, 2, none⟩ = some (.int .i64 20) := gblk Mf.mC 2
  have x3 : Wf.cell? ⟨nC, 3, none⟩ = some (.int .i64 1) := gblk Mf.mC 3
  have x4 : Wf.cell? ⟨nC, 4, none⟩ = some (.slice (some ⟨nA + 1 + 1, 0, none⟩) 1 1) := gblk Mf.mC 4
  have x5 : Wf.cell? ⟨nC, 5, none⟩ = some (.slice (some ⟨b3, 0, none⟩) 1 1) := gblk Mf.mC 5
  have x6 : Wf.cell? ⟨nC, 6, none⟩ = some (.string sNoun) := gblk Mf.mC 6
  have x7 : Wf.cell? ⟨nC, 7, none⟩ = some (.bool false) := gblk Mf.mC 7
  have y0 : Wf.cell? ⟨nC + 1 + 1, 0, none⟩ = some (.int .i64 4) := gblk Mf.mG 0
  have y1 : Wf.cell? ⟨nC + 1 + 1, 1, none⟩ = some (.int .i64 30) := gblk Mf.mG 1
  have y2 : Wf.cell? ⟨nC + 1 + 1, 2, none⟩ = some (.int .i64 30) := gblk Mf.mG 2
  have y3 : Wf.cell? ⟨nC + 1 + 1, 3, none⟩ = some (.int .i64 1) := gblk Mf.mG 3
  have y4 : Wf.cell? ⟨nC + 1 + 1, 4, none⟩ = some (.slice (some ⟨nC + 1, 0, none⟩) 1 1) := gblk Mf.mG 4
  have y5 : Wf.cell? ⟨nC + 1 + 1, 5, none⟩ = some (.slice none 0 0) := gblk Mf.mG 5
  have y6 : Wf.cell? ⟨nC + 1 + 1, 6, none⟩ = some (.string ⟨#[]⟩) := gblk Mf.mG 6
  have y7 : Wf.cell? ⟨nC + 1 + 1, 7, none⟩ = some (.bool true) := gblk Mf.mG 7
  have HMf := Lib.hid Mf
  clear Mf hbe hbf
  go_wp2_with fail
  obtain ⟨Wg, hWg⟩ : ∃ Wg, Wf.alloc (.cells #[.int .i64 1, .int .i64 0, .int .i64 0, .int .i64 1, .slice (some ⟨na, 0, none⟩) 1 1, .slice (some ⟨b1, 0, none⟩) 1 1, .string sNoun, .bool false, .int .i64 3, .int .i64 10, .int .i64 20, .int .i64 1, .slice (some ⟨nA + 1 + 1, 0, none⟩) 1 1, .slice (some ⟨b3, 0, none⟩) 1 1, .string sNoun, .bool false, .int .i64 4, .int .i64 30, .int .i64 30, .int .i64 1, .slice (some ⟨nC + 1, 0, none⟩) 1 1, .slice none 0 0, .string ⟨#[]⟩, .bool true] 51) = Wg := ⟨_, rfl⟩
  change Calls _ _ _ (Wf.alloc (.cells #[.int .i64 1, .int .i64 0, .int .i64 0, .int .i64 1, .slice (some ⟨na, 0, none⟩) 1 1, .slice (some ⟨b1, 0, none⟩) 1 1, .string sNoun, .bool false, .int .i64 3, .int .i64 10, .int .i64 20, .int .i64 1, .slice (some ⟨nA + 1 + 1, 0, none⟩) 1 1, .slice (some ⟨b3, 0, none⟩) 1 1, .string sNoun, .bool false, .int .i64 4, .int .i64 30, .int .i64 30, .int .i64 1, .slice (some ⟨nC + 1, 0, none⟩) 1 1, .slice none 0 0, .string ⟨#[]⟩, .bool true] 51)) _
  rw [hWg]
  have hWgb : Wg.heap[Wf.heap.size]? = some (.cells #[.int .i64 1, .int .i64 0, .int .i64 0, .int .i64 1, .slice (some ⟨na, 0, none⟩) 1 1, .slice (some ⟨b1, 0, none⟩) 1 1, .string sNoun, .bool false, .int .i64 3, .int .i64 10, .int .i64 20, .int .i64 1, .slice (some ⟨nA + 1 + 1, 0, none⟩) 1 1, .slice (some ⟨b3, 0, none⟩) 1 1, .string sNoun, .bool false, .int .i64 4, .int .i64 30, .int .i64 30, .int .i64 1, .slice (some ⟨nC + 1, 0, none⟩) 1 1, .slice none 0 0, .string ⟨#[]⟩, .bool true] 51 (0, 0)) := by rw [← hWg]; exact World.alloc_heap_new _ _
  have hBg : Below Wf.heap.size Wf Wg := by rw [← hWg]; exact ext_alloc (Below.refl _ _) _
  have HBg := Lib.hid (ext_trans HBf.out hBg)
  have hMg := HMf.out.ext hBg
  have hlie : ∀ x ∈ gL (some ⟨na, 0, none⟩) (some ⟨b1, 0, none⟩) (some ⟨nc, 0, none⟩) (some ⟨b2, 0, none⟩) (some ⟨nA + 1 + 1, 0, none⟩) (some ⟨b3, 0, none⟩) (some ⟨nC + 1, 0, none⟩), x.lies Wg := hMg.ts.lie
  have hLA : (gA (some ⟨na, 0, none⟩) (some ⟨b1, 0, none⟩)).lies Wg := hlie _ (by simp [gL])
  have hLB : (gB (some ⟨nc, 0, none⟩) (some ⟨b2, 0, none⟩)).lies Wg := hlie _ (by simp [gL])
  have hLC : (gC (some ⟨nA + 1 + 1, 0, none⟩) (some ⟨b3, 0, none⟩)).lies Wg := hlie _ (by simp [gL])
  have hLG : (gG (some ⟨nC + 1, 0, none⟩)).lies Wg := hlie _ (by simp [gL])
  have hTg : TermsAt Wg (some ⟨Wf.heap.size, 0, none⟩) [gA (some ⟨na, 0, none⟩) (some ⟨b1, 0, none⟩), gC (some ⟨nA + 1 + 1, 0, none⟩) (some ⟨b3, 0, none⟩), gG (some ⟨nC + 1, 0, none⟩)] := by
    refine TermsAt.of_blk hWgb rfl ?_
    intro x hx
    simp only [List.mem_cons, List.not_mem_nil, or_false] at hx
    rcases hx with rfl | rfl | rfl
    · exact hLA
    · exact hLC
    · exact hLG
  have cAdd := add_ok (some ⟨Wf.heap.size, 0, none⟩) 3 _ _ _ 3 4 Wg (utf_ext hT7.out HBg.out) hTg hLB (by simp) (by show 3 ≤ 1024; omega) rfl (ex_a1 _ _ _ _ _ _ _).1 (ex_a1 _ _ _ _ _ _ _).2 rfl
  clear u0 u1 u2 u3 u4 u5 u6 u7 v0 v1 v2 v3 v4 v5 v6 v7 x0 x1 x2 x3 x4 x5 x6 x7 y0 y1 y2 y3 y4 y5 y6 y7 l0 l1 l2 l3 hWg hWgb hlie hLA hLB hLC hLG hTg
  have HBfg := Lib.hid hBg
  clear hBg
  generalize Wf.heap.size = nf at *
  refine cAdd.mono ?_
  rintro e Wh ⟨hbh, Bh, ch, rfl, hSh⟩
  have HBh := Lib.hid (ext_trans HBg.out hbh)
  have Mh := HM.out.ext HBh.out
  have u0 : Wh.cell? ⟨nA, 0, none⟩ = some (.int .i64 1) := gblk Mh.mA 0
  have u1 : Wh.cell? ⟨nA, 1, none⟩ = some (.int .i64 0) := gblk Mh.mA 1
  have u2 : Wh.cell? ⟨nA, 2, none⟩ = some (.int .i64 0) := gblk Mh.mA 2
  have u3 : Wh.cell? ⟨nA, 3, none⟩ = some (.int .i64 1) := gblk Mh.mA 3
  have u4 : Wh.cell? ⟨nA, 4, none⟩ = some (.slice (some ⟨na, 0, none⟩) 1 1) := gblk Mh.mA 4
  have u5 : Wh.cell? ⟨nA, 5, none⟩ = some (.slice (some ⟨b1, 0, none⟩) 1 1) := gblk Mh.mA 5
  have u6 : Wh.cell? ⟨nA, 6, none⟩ = some (.string sNoun) := gblk Mh.mA 6
  have u7 : Wh.cell? ⟨nA, 7, none⟩ = some (.bool false) := gblk Mh.mA 7
  have cAd2 := Lib.hid (add_no (some ⟨nC + 1 + 1 + 1, 0, none⟩) 4 _ (gA (some ⟨na, 0, none⟩) (some ⟨b1, 0, none⟩)) 4 Wh (utf_ext hT7.out HBh.out) Mh.ts (Mh.ts.lie _ (by simp [gL])) (by simp) (gL_len _ _ _ _ _ _ _) rfl 181 (ex_a2 _ _ _ _ _ _ _) (by decide))
  clear Mh hMg cAdd
  go_wp2_with fail
  refine cAd2.out.mono ?_
  rintro e Wi ⟨hbi, rfl⟩
  have HBi := Lib.hid (ext_trans HBh.out hbi)
  have Hhi := Lib.hid hbi
  have Mi := HM.out.ext HBi.out
  clear u0 u1 u2 u3 u4 u5 u6 u7 cAd2 hbi hbh
  have y0 : Wi.cell? ⟨nC + 1 + 1, 0, none⟩ = some (.int .i64 4) := gblk Mi.mG 0
  have y1 : Wi.cell? ⟨nC + 1 + 1, 1, none⟩ = some (.int .i64 30) := gblk Mi.mG 1
  have y2 : Wi.cell? ⟨nC + 1 + 1, 2, none⟩ = some (.int .i64 30) := gblk Mi.mG 2
  have y3 : Wi.cell? ⟨nC + 1 + 1, 3, none⟩ = some (.int .i64 1) := gblk Mi.mG 3
  have y4 : Wi.cell? ⟨nC + 1 + 1, 4, none⟩ = some (.slice (some ⟨nC + 1, 0, none⟩) 1 1) := gblk Mi.mG 4
  have y5 : Wi.cell? ⟨nC + 1 + 1, 5, none⟩ = some (.slice none 0 0) := gblk Mi.mG 5
  have y6 : Wi.cell? ⟨nC + 1 + 1, 6, none⟩ = some (.string ⟨#[]⟩) := gblk Mi.mG 6
  have y7 : Wi.cell? ⟨nC + 1 + 1, 7, none⟩ = some (.bool true) := gblk Mi.mG 7
  clear Mi
  go_wp2_with fail
  obtain ⟨Wj, hWj⟩ : ∃ Wj, (Wi.alloc (.cells #[.int .i64 4, .int .i64 30, .int .i64 30, .int .i64 1, .slice (some ⟨nC + 1, 0, none⟩) 1 1, .slice (some ⟨Wi.heap.size + 1, 0, none⟩) 1 1, .string ⟨#[]⟩, .bool true] 51)).alloc (.cells #[.string ⟨#[120]⟩] 9) = Wj := ⟨_, rfl⟩
  change Calls _ _ _ ((Wi.alloc (.cells #[.int .i64 4, .int .i64 30, .int .i64 30, .int .i64 1, .slice (some ⟨nC + 1, 0, none⟩) 1 1, .slice (some ⟨Wi.heap.size + 1, 0, none⟩) 1 1, .string ⟨#[]⟩, .bool true] 51)).alloc (.cells #[.string ⟨#[120]⟩] 9)) _
  rw [hWj]
  have j0 : Wj.heap[Wi.heap.size]? = some (.cells #[.int .i64 4, .int .i64 30, .int .i64 30, .int .i64 1, .slice (some ⟨nC + 1, 0, none⟩) 1 1, .slice (some ⟨Wi.heap.size + 1, 0, none⟩) 1 1, .string ⟨#[]⟩, .bool true] 51 (0, 0)) := by rw [← hWj]; exact (Below.heap_alloc _ _ _ (by simp)).trans (World.alloc_heap_new _ _)
  have j1 : Wj.heap[Wi.heap.size + 1]? = some (.cells #[.string ⟨#[120]⟩] 9 (0, 0)) := by rw [← hWj]; exact galloc_at _ _ _ (by simp)
  have hBj : Below Wi.heap.size Wi Wj := by rw [← hWj]; exact ext_alloc (ext_alloc (Below.refl _ _) _) _
  have HBj := Lib.hid (ext_trans HBi.out hBj)
  have hSh2 := Lib.hid (hSh.ext (ext_trans Hhi.out hBj))
  have HJ0 := Lib.hid j0
  have HJ1 := Lib.hid j1
  clear hWj j0 j1 y0 y1 y2 y3 y4 y5 y6 y7 hSh hBj
  generalize Wi.heap.size = nj at *
  have T1 := HS.out.1.ext HBj.out
  have T5 := (HM.out.ext HBj.out).ts
  refine (same_ok _ _ _ _ [gA (some ⟨na, 0, none⟩) (some ⟨b1, 0, none⟩), gB (some ⟨nc, 0, none⟩) (some ⟨b2, 0, none⟩)] 2 Wj T1 (T5.cut 0 2 0 rfl) (by show 2 ≤ 1024; omega) rfl (ex_s1 _ _ _ _)).mono ?_
  rintro e Wk ⟨rfl, hbk⟩
  have HBk := Lib.hid (ext_trans HBj.out hbk)
  have Hjk := Lib.hid hbk
  clear T1 T5 hbk
  have T2 := Lib.hid (HS.out.2.1.ext HBk.out)
  have T5 := Lib.hid ((HM.out.ext HBk.out).ts)
  go_wp2_with fail
  refine (same_ok _ _ _ _ [gB (some ⟨nc, 0, none⟩) (some ⟨b2, 0, none⟩), gC (some ⟨nA + 1 + 1, 0, none⟩) (some ⟨b3, 0, none⟩)] 2 Wk T2.out (T5.out.cut 1 2 8 rfl) (by show 2 ≤ 1024; omega) rfl (ex_s2 _ _ _ _)).mono ?_
  rintro e Wl ⟨rfl, hbl⟩
  have HBl := Lib.hid (ext_trans HBk.out hbl)
  have Hjl := Lib.hid (ext_trans Hjk.out hbl)
  clear T2 T5 hbl
  have T3 := Lib.hid (HS.out.2.2.ext HBl.out)
  have T5 := Lib.hid ((HM.out.ext HBl.out).ts)
  go_wp2_with fail
  refine (same_ok _ _ _ _ [gB (some ⟨nc, 0, none⟩) (some ⟨b2, 0, none⟩)] 1 Wl T3.out (T5.out.cut 1 1 8 rfl) (by show 1 ≤ 1024; omega) rfl (ex_s3 _ _)).mono ?_
  rintro e Wm ⟨rfl, hbm⟩
  have HBm := Lib.hid (ext_trans HBl.out hbm)
  have Hjm := Lib.hid (ext_trans Hjl.out hbm)
  clear T3 T5 hbm
  have T4 := Lib.hid (hSh2.out.ext Hjm.out)
  have T5 := Lib.hid ((HM.out.ext HBm.out).ts)
  go_wp2_with fail
  refine (same_ok _ _ _ _ _ 4 Wm T4.out T5.out (gL_len _ _ _ _ _ _ _) rfl (ex_s4 _ _ _ _ _ _ _)).mono ?_
  rintro e Wn ⟨rfl, hbn⟩
  have HBn := Lib.hid (ext_trans HBm.out hbn)
  have Hjn := Lib.hid (ext_trans Hjm.out hbn)
  clear T4 T5 hbn
  have T5 := Lib.hid ((HM.out.ext HBn.out).ts)
  go_wp2_with fail
  refine (check_ok _ _ _ 4 _ Wn (utf_ext hT7.out HBn.out) T5.out (gL_len _ _ _ _ _ _ _) rfl (ex_check _ _ _ _ _ _ _)).mono ?_
  rintro e Wo ⟨rfl, hbo⟩
  have HBo := Lib.hid (ext_trans HBn.out hbo)
  have Hjo := Lib.hid (ext_trans Hjn.out hbo)
  have hj0 := (Hjo.out.block _ (lt_block HJ0.out)).trans HJ0.out
  have hj1 := (Hjo.out.block _ (lt_block HJ1.out)).trans HJ1.out
  have y0 : Wo.cell? ⟨nj, 0, none⟩ = some (.int .i64 4) := gblk hj0 0
  have y1 : Wo.cell? ⟨nj, 1, none⟩ = some (.int .i64 30) := gblk hj0 1
  have y2 : Wo.cell? ⟨nj, 2, none⟩ = some (.int .i64 30) := gblk hj0 2
  have y3 : Wo.cell? ⟨nj, 3, none⟩ = some (.int .i64 1) := gblk hj0 3
  have y4 : Wo.cell? ⟨nj, 4, none⟩ = some (.slice (some ⟨nC + 1, 0, none⟩) 1 1) := gblk hj0 4
  have y5 : Wo.cell? ⟨nj, 5, none⟩ = some (.slice (some ⟨nj + 1, 0, none⟩) 1 1) := gblk hj0 5
  have y6 : Wo.cell? ⟨nj, 6, none⟩ = some (.string ⟨#[]⟩) := gblk hj0 6
  have y7 : Wo.cell? ⟨nj, 7, none⟩ = some (.bool true) := gblk hj0 7
  have HJ2 := Lib.hid hj1
  clear T5 hbo hj0 hj1
  go_wp2_with fail
  obtain ⟨Wp, hWp⟩ : ∃ Wp, Wo.alloc (.cells #[.int .i64 4, .int .i64 30, .int .i64 30, .int .i64 1, .slice (some ⟨nC + 1, 0, none⟩) 1 1, .slice (some ⟨nj + 1, 0, none⟩) 1 1, .string ⟨#[]⟩, .bool true] 51) = Wp := ⟨_, rfl⟩
  change Calls _ _ _ (Wo.alloc (.cells #[.int .i64 4, .int .i64 30, .int .i64 30, .int .i64 1, .slice (some ⟨nC + 1, 0, none⟩) 1 1, .slice (some ⟨nj + 1, 0, none⟩) 1 1, .string ⟨#[]⟩, .bool true] 51)) _
  rw [hWp]
  have jp : Wp.heap[Wo.heap.size]? = some (.cells #[.int .i64 4, .int .i64 30, .int .i64 30, .int .i64 1, .slice (some ⟨nC + 1, 0, none⟩) 1 1, .slice (some ⟨nj + 1, 0, none⟩) 1 1, .string ⟨#[]⟩, .bool true] 51 (0, 0)) := by rw [← hWp]; exact World.alloc_heap_new _ _
  have hBp : Below Wo.heap.size Wo Wp := by rw [← hWp]; exact ext_alloc (Below.refl _ _) _
  have HBp := Lib.hid (ext_trans HBo.out hBp)
  have TP : TermsAt Wp (some ⟨Wo.heap.size, 0, none⟩) [gP (some ⟨nC + 1, 0, none⟩) (some ⟨nj + 1, 0, none⟩)] := by
    refine TermsAt.of_blk jp rfl ?_
    intro x hx
    obtain rfl := List.mem_singleton.1 hx
    have hG := ((HM.out.ext HBp.out).ts.lie (gG (some ⟨nC + 1, 0, none⟩)) (by simp [gL])).1
    exact ⟨hG, StrS.of_blk ((hBp.block _ (lt_block HJ2.out)).trans HJ2.out) rfl (by show 1 ≤ 1; omega) (by show 1 ≤ 1024; omega)⟩
  have cP := check_ok _ 1 _ 1 _ Wp (utf_ext hT7.out HBp.out) TP (by show 1 ≤ 1024; omega) rfl (ex_checkP _ _)
  clear hWp jp hBp TP y0 y1 y2 y3 y4 y5 y6 y7
  generalize Wo.heap.size = no at *
  refine cP.mono ?_
  rintro e Wq ⟨rfl, hbq⟩
  have HBq := Lib.hid (ext_trans HBp.out hbq)
  clear cP hbq
  go_wp2_with fail
  go_ret
  exact ⟨rfl, by first | exact ext_trans HB07.out HBq.out | (rw [Hna.out]; exact ext_trans HB07.out HBq.out)⟩
end Go.Proofs.YtneanannicacnaaDoor
