/- Texts of this claim, one after the other: Runes, Word, Disp1, Disp2, Row, InsSpot, Disp3, Row2, DelSpot. -/
import Derived.Test.YtfbhfimejcdopaaGreatDoorN1
import Derived.Defers
import Derived.Laws.EntriesVeiled
import Derived.Laws.CopyOwn
import Derived.Laws.CopyRow
import Derived.Deep.AppendLies
import Derived.Lib.AppendZerosOnto
import Derived.Lib.Overlaps
import Derived.StillTailTactics
import Derived.Deep.LoopGhost
import Derived.Deep.Draws
import Derived.Shelf.SlSortCmp.QuietGrown
import Derived.Laws.AppendOwn
import Derived.Lib.SliceRun
/- package text: the code points of a string: the function that recovers. -/
namespace Go.Proofs.YtfbhfimejcdopaaGreatDoor
open Go.RowKit Go.Han

theorem runes1_ret (b1 b2 : Nat) (w : World) :
    CallsD Tryz.prog 92 #[.pointer (some ⟨b1, 0, none⟩), .pointer (some ⟨b2, 0, none⟩)] .returning w fun e u' w' => u' = .returning ∧ e = .returned (.tuple #[]) ∧ w' = w := by
  refine callsD_of_wpS Tryz.func92 rfl fun c₀ cs hu => ?_
  simp only [Tryz.ntmps92, List.size_toArray, List.length_cons, List.length_nil, Nat.reduceAdd, Nat.reduceSub, Array.replicate_succ, Array.replicate_zero, List.push_toArray, List.append_toArray, List.nil_append, List.cons_append]
  apply wpS_seq
  apply wpS_region
  simp [wpOpsS, go_sem, recoverD, hu, Exit.thenS]
  refine wpS_of_wp ?_
  go_wp2
  cases c₀
  simp_all [bodyPostS, results, Tryz.results92]

def RecPost (b1 b2 : Nat) (u : FrameMode) (w : World) (e : Ending) (u' : FrameMode) (w' : World) : Prop :=
  u' = u ∧ e = .returned (.tuple #[]) ∧ Only (fun k => k = b1 ∨ k = b2) w w' ∧ w'.heap[b1]? = some (.cells #[.slice none 0 0] 61 (0, 0)) ∧ w'.heap[b2]? = some (.cells #[.int .i64 90] 26 (0, 0))
set_option maxRecDepth 100000 in
set_option maxHeartbeats 400000 in
theorem runes1_pan (b1 b2 : Nat) (v1 v2 : Value) (w : World) (h1 : w.heap[b1]? = some (.cells #[v1] 61 (0, 0))) (h2 : w.heap[b2]? = some (.cells #[v2] 26 (0, 0))) :
    CallsD Tryz.prog 92 #[.pointer (some ⟨b1, 0, none⟩), .pointer (some ⟨b2, 0, none⟩)] (.panicking [{ v := .iface 124 (.agg #[]), recovered := false }]) w (RecPost b1 b2 (.panicking [{ v := .iface 124 (.agg #[]), recovered := true }]) w) := by
  have hne : b1 ≠ b2 := by
    rintro rfl
    rw [h1] at h2; simp at h2
  have c1 := cell_one h1
  have c2 := cell_one h2
  have f1 := frozen_one h1 0
  have f2 := frozen_one h2 0
  have hta : ∀ w, (Instr.typeAssert (.iface 124 (.agg #[])) 20 124 true).run Tryz.prog w = .ok (.tuple #[.agg #[], .bool true]) w := fun _ => by kernel_rfl
  have l1 := lt_block h1
  have l2 := lt_block h2
  refine callsD_of_wpS Tryz.func92 rfl fun c₀ cs hu => ?_
  simp only [Tryz.ntmps92, List.size_toArray, List.length_cons, List.length_nil, Nat.reduceAdd, Nat.reduceSub, Array.replicate_succ, Array.replicate_zero, List.push_toArray, List.append_toArray, List.nil_append, List.cons_append]
  apply wpS_seq
  apply wpS_region
  simp [wpOpsS, go_sem, recoverD, hu, Exit.thenS]
  refine wpS_of_wp ?_
  go_wp2
  have hb1 := (Below.heap_setCell (w.setCell ⟨b1, 0, none⟩ (.slice none 0 0)) ⟨b2, 0, none⟩ (.int .i64 90) b1 hne).trans (set_one h1 (.slice none 0 0))
  have hb2 := set_one (w := w.setCell ⟨b1, 0, none⟩ (.slice none 0 0)) ((Below.heap_setCell w ⟨b1, 0, none⟩ (.slice none 0 0) b2 hne.symm).trans h2) (.int .i64 90)
  exact ⟨rfl, _, rfl, _, results_none rfl _ _ _, rfl, rfl, (((Only.refl (fun k => k = b1 ∨ k = b2) w).setCell (p := ⟨b1, 0, none⟩) (.inl (.inl rfl)) _).setCell (p := ⟨b2, 0, none⟩) (.inl (.inr rfl)) _).alloc _,
    (Below.heap_alloc _ _ _ (lt_block hb1)).trans hb1, (Below.heap_alloc _ _ _ (lt_block hb2)).trans hb2⟩

def RunesPost (s : ByteArray) (w : World) (e : Ending) (w' : World) : Prop :=
  Below w.heap.size w w' ∧
    ((s.size > 4096 ∧ e = .returned (.tuple #[.slice none 0 0, .int .i64 2])) ∨
     (s.size ≤ 4096 ∧ (runes s.data.toList).2 = false ∧ e = .returned (.tuple #[.slice none 0 0, .int .i64 90])) ∨
     (s.size ≤ 4096 ∧ (runes s.data.toList).2 = true ∧ ∃ A c, e = .returned (.tuple #[.slice A (runes s.data.toList).1.length c, .int .i64 0]) ∧ Rd w' A ((runes s.data.toList).1.map fun r : Nat => .int .i64 (r : Int))))

theorem points_any (s : ByteArray) (w : World) : Calls Tryz.prog 93 #[.string s] w fun e w' =>
    e = .returned (.func (.func 106) #[] #[.pointer (some ⟨w.heap.size, 0, none⟩)]) ∧ w.alloc (.cells #[.string s] 9) = w' := by
  have hmf : ∀ (fn : Fn) (first cap : Array Value) (w : World), (Instr.makeFunc fn first cap).run Tryz.prog w = .ok (.func fn first cap) w := fun _ _ _ _ => rfl
  go_enter Tryz.func93, Tryz.ntmps93
  go_wp2
  go_ret
  exact ⟨rfl, rfl⟩

set_option maxRecDepth 100000 in
set_option maxHeartbeats 400000 in
theorem runes_any (s : ByteArray) (w : World) (hT : Tabs w) : Calls Tryz.prog 74 #[.string s] w (RunesPost s w) := by
  have hmf : ∀ (fn : Fn) (first cap : Array Value) (w : World), (Instr.makeFunc fn first cap).run Tryz.prog w = .ok (.func fn first cap) w := fun _ _ _ _ => rfl
  by_cases hs : s.size ≤ 4096
  · have h1 : ¬ (4096 : Int) < (s.size : Int) := by omega
    go_enter_defers Tryz.func74, Tryz.ntmps74
    go_wp2_with fail
    refine (points_any _ _).mono ?_
    rintro e w1 ⟨rfl, rfl⟩
    go_wp2_with fail
    have hb0 : ((w.alloc (.cells #[.slice none 0 0] 61)).alloc (.cells #[.int .i64 0] 26)).heap[w.heap.size]? = some (.cells #[.slice none 0 0] 61 (0, 0)) := (Below.heap_alloc _ _ _ (by simp)).trans (World.alloc_heap_new _ _)
    have hb1 : ((w.alloc (.cells #[.slice none 0 0] 61)).alloc (.cells #[.int .i64 0] 26)).heap[w.heap.size + 1]? = some (.cells #[.int .i64 0] 26 (0, 0)) := by
      have := World.alloc_heap_new (w.alloc (.cells #[.slice none 0 0] 61)) (.cells #[.int .i64 0] 26); rwa [World.size_alloc] at this
    obtain ⟨W2, hW2⟩ : ∃ W2, (w.alloc (.cells #[.slice none 0 0] 61)).alloc (.cells #[.int .i64 0] 26) = W2 := ⟨_, rfl⟩
    have hB2 : Below w.heap.size w W2 := by rw [← hW2]; exact ((Below.refl _ _).alloc (Nat.le_refl _) _).alloc (by simp) _
    have hz2 : W2.heap.size = w.heap.size + 2 := by rw [← hW2]; simp
    simp only [hW2] at hb0 hb1 ⊢
    have hT2 : Tabs W2 := utf_ext hT hB2
    have hit := points1 W2.heap.size s (W2.alloc (.cells #[.string s] 9)) (utf_ext hT2 ((Below.refl _ _).alloc (Nat.le_refl _) _)) (World.alloc_heap_new _ _)
    have hlt := utf_lt hT2
    rw [show w.heap.size + 1 + 1 = W2.heap.size by omega]
    have hrl := runes_length s.data.toList
    have hsz := Lib.size_eq s
    refine (collect_int _ _ _ _ _ _ _ _ _ hit (enters_of Tryz.func106 (by kernel_rfl) rfl) (fun k hk => ⟨?_, rfl⟩) (by omega)).mono ?_
    · rcases hk with rfl | hk
      · simp
      · have := hlt k hk; simp; omega
    rintro e w3 ⟨hon, h⟩
    have hB3 : Below w.heap.size w w3 := ⟨hon.os.trans hB2.os, hon.tape.trans hB2.tape, hon.output.trans hB2.output, Nat.le_trans hB2.size (Nat.le_trans (by simp) hon.size), fun k hk => (hon.block k (by simp; omega) (by omega)).trans ((Below.heap_alloc _ _ _ (by omega)).trans (hB2.block k hk))⟩
    have hb03 : w3.heap[w.heap.size]? = some (.cells #[.slice none 0 0] 61 (0, 0)) := (hon.block _ (by simp; omega) (by omega)).trans ((Below.heap_alloc _ _ _ (by omega)).trans hb0)
    have hb13 : w3.heap[w.heap.size + 1]? = some (.cells #[.int .i64 0] 26 (0, 0)) := (hon.block _ (by simp; omega) (by omega)).trans ((Below.heap_alloc _ _ _ (by omega)).trans hb1)
    clear hW2 hit
    rcases h with ⟨hpn, v, he, hrow⟩ | ⟨ch, hpn, he⟩
    · have c0 := cell_one hb03
      have c1 := cell_one hb13
      have f0 := frozen_one hb03 0
      have f1 := frozen_one hb13 0
      have hsz3 := lt_block hb13
      have hok : (runes s.data.toList).2 = true := by
        unfold runesEnd at hpn
        split at hpn
        · assumption
        · cases hpn
      have hsl := SlOf.of_own hrow
      obtain ⟨A, c, rfl, hn, hm, hl2, hrd⟩ := hsl
      subst he
      clear hl2 hn hm hb0 hb1 hlt hrl hsz hpn hsz3 hon hT2 hB2
      rw [List.length_map]
      go_wp2
      refine leaves_cons (f := 92) (args := #[.pointer (some ⟨w.heap.size, 0, none⟩), .pointer (some ⟨w.heap.size + 1, 0, none⟩)]) (by simp) (by simp [go_sem]) ?_
      refine (runes1_ret _ _ _).mono ?_
      rintro e u' w'' ⟨rfl, rfl, rfl⟩
      simp [Leaves, settle, results, Tryz.results74, go_sem, c0, c1]
      have hB4 : Below w.heap.size w ((w3.setCell ⟨w.heap.size, 0, none⟩ (.slice A (runes s.data.toList).1.length c)).setCell ⟨w.heap.size + 1, 0, none⟩ (.int .i64 0)) := (hB3.setCell (p := ⟨w.heap.size, 0, none⟩) (Nat.le_refl _) _).setCell (p := ⟨w.heap.size + 1, 0, none⟩) (by simp) _
      refine ⟨hB4, .inr (.inr ⟨hs, hok, A, c, rfl, ?_⟩)⟩
      refine hrd.block (by simp [World.setCell]) fun a ha => ?_
      subst ha
      have hage := hrow.lt a.block rfl
      simp at hage
      rw [Below.heap_setCell _ _ _ _ (by simp; omega), Below.heap_setCell _ _ _ _ (by simp; omega)]
    · subst he
      have hok : (runes s.data.toList).2 = false ∧ ch = wrongChain := by
        unfold runesEnd at hpn
        split at hpn
        · cases hpn
        · rename_i hf
          exact ⟨by simpa using hf, by injection hpn with h; exact h.symm⟩
      obtain ⟨hok, rfl⟩ := hok
      refine leaves_cons (f := 92) (args := #[.pointer (some ⟨w.heap.size, 0, none⟩), .pointer (some ⟨w.heap.size + 1, 0, none⟩)]) (by simp) (by simp [go_sem]) ?_
      refine (runes1_pan _ _ _ _ _ hb03 hb13).mono ?_
      rintro e u' w'' ⟨rfl, rfl, hon4, hx0, hx1⟩
      simp [Leaves, settle, results, Tryz.results74, go_sem, cell_one hx0, cell_one hx1]
      exact ⟨⟨hon4.os.trans hB3.os, hon4.tape.trans hB3.tape, hon4.output.trans hB3.output, Nat.le_trans hB3.size hon4.size, fun k hk => (hon4.block k (Nat.lt_of_lt_of_le hk hB3.size) (by omega)).trans (hB3.block k hk)⟩, .inr (.inl ⟨hs, hok, rfl⟩)⟩
  · have h1 : (4096 : Int) < (s.size : Int) := by omega
    go_enter_defers Tryz.func74, Tryz.ntmps74
    go_wp2_with fail
    refine leaves_cons (f := 92) (args := #[.pointer (some ⟨w.heap.size, 0, none⟩), .pointer (some ⟨w.heap.size + 1, 0, none⟩)]) (by simp) (by simp [go_sem]) ?_
    refine (runes1_ret _ _ _).mono ?_
    rintro e u' w'' ⟨rfl, rfl, rfl⟩
    simp [Leaves, settle, results, Tryz.results74, go_sem]
    refine ⟨((Below.refl _ _).alloc (Nat.le_refl _) _).alloc (by simp) _, .inl ⟨by omega, rfl⟩⟩
end Go.Proofs.YtfbhfimejcdopaaGreatDoor

/- package text: whether a text is a word. -/
namespace Go.Proofs.YtfbhfimejcdopaaGreatDoor
open Go.RowKit Go.Han

theorem among_any (A : Option Addr) (n c : Nat) (w : World) : Calls Tryz.prog 96 #[.slice A n c] w fun e w' =>
    (∃ lb, e = .returned (.func (.func 108) #[] lb)) ∧ Below w.heap.size w w' := by
  have hmf : ∀ (fn : Fn) (first cap : Array Value) (w : World), (Instr.makeFunc fn first cap).run Tryz.prog w = .ok (.func fn first cap) w := fun _ _ _ _ => rfl
  go_enter Tryz.func96, Tryz.ntmps96
  go_wp2
  go_ret
  exact ⟨⟨_, rfl⟩, (Below.refl _ _).alloc (Nat.le_refl _) _⟩

def ClassesPost (w : World) (e : Ending) (w' : World) : Prop :=
  Below w.heap.size w w' ∧ ∃ b, e = .returned (.slice (some ⟨b, 0, none⟩) 4 4) ∧ w'.cell? ⟨b, 1, none⟩ = some (.func (.func 95) #[] #[])
set_option maxRecDepth 100000 in
set_option maxHeartbeats 400000 in
theorem classes_any (w : World) : Calls Tryz.prog 76 #[] w (ClassesPost w) := by
  go_enter Tryz.func76, Tryz.ntmps76
  go_wp2_with fail
  refine (among_any _ _ _ _).mono ?_
  rintro e w1 ⟨⟨lb1, rfl⟩, hb1⟩
  have hz1 := hb1.size
  simp at hz1
  go_wp2_with fail
  refine (among_any _ _ _ _).mono ?_
  rintro e w2 ⟨⟨lb2, rfl⟩, hb2⟩
  go_wp2_with fail
  refine (among_any _ _ _ _).mono ?_
  rintro e w3 ⟨⟨lb3, rfl⟩, hb3⟩
  go_wp2
  go_ret
  refine ⟨?_, _, rfl, ?_⟩
  · repeat (first | exact Below.refl _ _ | refine ext_alloc ?_ _ | (refine ext_trans ?_ (by assumption)))
  · simp [go_sem]

/-- Whether a text is a word. -/
def wordB (s : ByteArray) : Bool := decide (s.size ≤ 64) && decide (0 < s.size) && (runes s.data.toList).2 && !(runes s.data.toList).1.any fun r => spaceB (r : Int)

theorem space_pred (w : World) : PredInt 95 #[] spaceB w :=
  ⟨enters_of Tryz.func95 (by kernel_rfl) rfl, fun x W _ => classes1_any x W⟩

set_option maxRecDepth 100000 in
set_option maxHeartbeats 400000 in
theorem word_any (s : ByteArray) (w : World) (hT : Tabs w) : Calls Tryz.prog 65 #[.string s] w fun e w' => e = .returned (.bool (wordB s)) ∧ Below w.heap.size w w' := by
  go_enter Tryz.func65, Tryz.ntmps65
  go_wp2_with fail
  refine (runes_any s w hT).mono ?_
  rintro e w1 ⟨hb1, h⟩
  rcases h with ⟨hs, he⟩ | ⟨hs, hok, he⟩ | ⟨hs, hok, A, c, he, hrd⟩
  · subst he
    have H : Hid (wordB s = false) := by unfold wordB; rw [show decide (s.size ≤ 64) = false by simp; omega]; rfl
    clear hs
    go_wp2
    go_ret
    exact ⟨by rw [H.out]; rfl, hb1⟩
  · subst he
    have H : Hid (wordB s = false) := by unfold wordB; rw [hok]; simp [Hid]
    clear hs hok
    go_wp2
    go_ret
    exact ⟨by rw [H.out]; rfl, hb1⟩
  · subst he
    by_cases h0 : 0 < s.size
    · by_cases h64 : s.size ≤ 64
      · have H : Hid (wordB s = !(runes s.data.toList).1.any fun r => spaceB (r : Int)) := by unfold wordB; simp [h0, h64, hok, Hid]
        have g1 : (0 : Int) < s.size := by omega
        have g2 : (s.size : Int) ≤ 64 := by omega
        have hlen : (runes s.data.toList).1.length ≤ 64 := by have := runes_length s.data.toList; have := Lib.size_eq s; omega
        clear hok h0 h64 hs
        go_wp2_with fail
        refine (classes_any _).mono ?_
        rintro e w2 ⟨hb2, b, rfl, hcell⟩
        go_wp2_with fail
        have hrd2 : Rd w2 A (((runes s.data.toList).1.map fun r : Nat => (r : Int)).map (.int .i64)) := by
          rw [List.map_map]; exact hrd.ext hb2
        have cf := containsFunc_int 95 #[] spaceB A c ((runes s.data.toList).1.map fun r : Nat => (r : Int)) w2 (space_pred w2) hrd2 (by rw [List.length_map]; omega)
        rw [List.length_map, List.any_map] at cf
        refine cf.mono ?_
        rintro e w3 ⟨rfl, hb3⟩
        clear hrd hrd2 cf hcell
        go_wp2
        go_ret
        exact ⟨by rw [H.out]; rfl, ext_trans (ext_trans hb1 hb2) hb3⟩
      · have H : Hid (wordB s = false) := by unfold wordB; rw [show decide (s.size ≤ 64) = false by simpa using h64]; rfl
        have g1 : (0 : Int) < s.size := by omega
        have g2 : ¬ (s.size : Int) ≤ 64 := by omega
        clear hok h0 h64 hs
        go_wp2
        go_ret
        exact ⟨by rw [H.out]; rfl, hb1⟩
    · have H : Hid (wordB s = false) := by unfold wordB; rw [show decide (0 < s.size) = false by simpa using h0]; simp [Hid]
      have g1 : ¬ (0 : Int) < s.size := by omega
      clear hok h0 hs
      go_wp2
      go_ret
      exact ⟨by rw [H.out]; rfl, hb1⟩
end Go.Proofs.YtfbhfimejcdopaaGreatDoor

/- Package display: what is right, the check of a display, the function that recovers. -/
namespace Go.Proofs.YtfbhfimejcdopaaGreatDoor
open Go.RowKit Go.Han

structure Spot where
  id : Int
  ver : Int
  text : ByteArray
  deriving DecidableEq
def Spot.cells (x : Spot) : List Value := [.int .i64 x.id, .int .i64 x.ver, .string x.text]
def Spot.val (x : Spot) : Value := .agg #[.int .i64 x.id, .int .i64 x.ver, .string x.text]
theorem Spot.size_cells (x : Spot) : x.cells.length = 3 := rfl

def idB (n : Int) : Bool := decide (0 ≤ n) && decide (n ≤ 1048576)
def timeB (n : Int) : Bool := decide (0 ≤ n) && decide (n < 1099511627776)
def Spot.ok (x : Spot) : Bool := idB x.id && idB x.ver && wordB x.text
def checkFrom : Int → List Spot → Bool
  | _, [] => true
  | last, x :: l => x.ok && decide (last < x.id) && checkFrom x.id l
def checkE (l : List Spot) : Int := if 1024 < l.length then 2 else if checkFrom (-1) l then 0 else 490

def errChain (n : Int) : List PanicEntry := [{ v := .iface 26 (.int .i64 n), recovered := false }]
/-- The call returns nothing (n is 0), or panics with the error n; nothing that was there has turned. -/
def NeedPost (n : Int) (w : World) (e : Ending) (w' : World) : Prop :=
  Below w.heap.size w w' ∧ ((n = 0 ∧ e = .returned (.tuple #[])) ∨ (n ≠ 0 ∧ e = .panicked (errChain n)))

theorem need_t (b : Bool) (k : Int) (w : World) (h : b = true) :
    Calls Tryz.prog 45 #[.bool b, .int .i64 k] w fun e w' => e = .returned (.tuple #[]) ∧ w = w' := by
  subst h
  go_enter Tryz.func45, Tryz.ntmps45
  go_wp2
  go_end0
  exact ⟨rfl, rfl⟩
theorem need_f (b : Bool) (k : Int) (w : World) (h : b = false) :
    Calls Tryz.prog 45 #[.bool b, .int .i64 k] w fun e w' => e = .panicked (errChain k) ∧ w = w' := by
  subst h
  go_enter Tryz.func45, Tryz.ntmps45
  go_wp2
  exact ⟨rfl, rfl, rfl⟩
theorem id_any (n : Int) (w : World) :
    Calls Tryz.prog 64 #[.int .i64 n] w fun e w' => e = .returned (.bool (idB n)) ∧ w = w' := by
  go_enter Tryz.func64, Tryz.ntmps64
  go_wp2
  all_goals go_ret
  · simp [idB, *]
  · have : ¬ 0 ≤ n := by omega
    simp [idB, *]
theorem time_any (n : Int) (w : World) :
    Calls Tryz.prog 61 #[.int .i64 n] w fun e w' => e = .returned (.bool (timeB n)) ∧ w = w' := by
  go_enter Tryz.func61, Tryz.ntmps61
  go_wp2
  all_goals go_ret
  · simp [timeB, *]
  · have : ¬ 0 ≤ n := by omega
    simp [timeB, *]
theorem right_any (x : Spot) (w : World) (hT : Tabs w) :
    Calls Tryz.prog 46 #[x.val] w fun e w' => e = .returned (.bool x.ok) ∧ Below w.heap.size w w' := by
  obtain ⟨i, v, s⟩ := x
  have hB : Below w.heap.size w (w.alloc (.cells #[.int .i64 i, .int .i64 v, .string s] 37)) := (Below.refl _ _).alloc (Nat.le_refl _) _
  have hT' := utf_ext hT hB
  have Hok : Hid (Spot.ok ⟨i, v, s⟩ = (idB i && idB v && wordB s)) := rfl
  unfold Spot.val
  go_enter Tryz.func46, Tryz.ntmps46
  go_wp2_with fail
  refine (id_any _ _).mono ?_
  rintro e w' ⟨rfl, rfl⟩
  generalize idB i = b1 at *
  cases b1
  · go_wp2
    go_ret
    exact ⟨by rw [Hok.out]; rfl, hB⟩
  go_wp2_with fail
  refine (id_any _ _).mono ?_
  rintro e w' ⟨rfl, rfl⟩
  generalize idB v = b2 at *
  cases b2
  · go_wp2
    go_ret
    exact ⟨by rw [Hok.out]; rfl, hB⟩
  go_wp2_with fail
  refine (word_any s _ hT').mono ?_
  rintro e w2 ⟨rfl, hb2⟩
  go_wp2
  go_ret
  exact ⟨by rw [Hok.out]; rfl, ext_trans hB hb2⟩

theorem checkFrom_drop (l : List Spot) (k : Nat) (h : k < l.length) (last : Int) :
    checkFrom last (l.drop k) = (l[k].ok && decide (last < l[k].id) && checkFrom l[k].id (l.drop (k + 1))) := by
  rw [List.drop_eq_getElem_cons h]; rfl

set_option maxRecDepth 100000 in
set_option maxHeartbeats 400000 in
theorem check_any (A : Option Addr) (c : Nat) (l : List Spot) (w : World) (hT : Tabs w) (hr : Rd w A (l.flatMap Spot.cells)) (hm : l.length ≤ 9223372036854775807) :
    Calls Tryz.prog 28 #[.slice A l.length c] w (NeedPost (checkE l) w) := by
  by_cases hl : l.length ≤ 1024
  · go_enter Tryz.func28, Tryz.ntmps28
    go_wp2_with fail
    refine (need_t _ _ _ (by simp; omega)).mono ?_
    rintro e w' ⟨rfl, rfl⟩
    go_wp2_with fail
    go_loopw [2, 11] (fun t i wr => ∃ (k : Nat) (last : Int), k ≤ l.length ∧ i = .int .i64 k ∧ t = .int .i64 last ∧ Below w.heap.size w wr ∧ Hid (checkFrom (-1) l = checkFrom last (l.drop k))) (fun _ i _ => l.length - (intOf i).toNat)
    case atStart => exact ⟨0, _, Nat.zero_le _, rfl, rfl, Below.refl _ _, rfl⟩
    case round =>
      obtain ⟨k, last, hk, rfl, rfl, hB, HR⟩ := hrel
      have hz := hB.size
      by_cases hlt : k < l.length
      · obtain ⟨b, off, rfl, hb, hc⟩ := hr.elem Spot.size_cells (by omega) hlt
        have h1 := (hB.cell (p := ⟨b, off + k * 3 + 0, none⟩) hb).trans (hc 0 _ rfl)
        have h2 := (hB.cell (p := ⟨b, off + k * 3 + 1, none⟩) hb).trans (hc 1 _ rfl)
        have h3 := (hB.cell (p := ⟨b, off + k * 3 + 2, none⟩) hb).trans (hc 2 _ rfl)
        have hT1 := utf_ext (utf_ext hT hB) ((Below.refl _ wr).alloc (Nat.le_refl _) (.cells #[.int .i64 l[k].id, .int .i64 l[k].ver, .string l[k].text] 37))
        have Hd := Lib.hid (checkFrom_drop l k hlt last)
        clear hc hr
        simp only [Nat.add_zero] at h1
        go_wp2_with fail
        refine (right_any l[k] _ hT1).mono ?_
        rintro e w1 ⟨rfl, hb1⟩
        obtain ⟨hc1, hf1⟩ := bcell hb1
        have hz1 := hb1.size
        have hB1 : Below w.heap.size w w1 := (hB.alloc hz _).trans (hb1.mono (by simp; omega))
        simp at hz1
        generalize hrb : l[k].ok = rb at *
        have Hrb := Lib.hid hrb; clear hrb
        have hfin : ∀ b : Bool, b = (rb && decide (last < l[k].id)) → checkE l = if b then (if checkFrom l[k].id (l.drop (k + 1)) then 0 else 490) else 490 := by
          rintro b rfl
          unfold checkE
          rw [if_neg (by omega), HR.out, Hd.out]
          cases rb <;> simp
          by_cases h : last < l[k].id <;> simp [h]
        have Hfin := Lib.hid hfin
        clear hfin
        cases rb
        · go_wp2_with fail
          refine (need_f _ _ _ rfl).mono ?_
          rintro e w' ⟨rfl, rfl⟩
          have h5 := Hfin.out false rfl
          simp at h5
          exact ⟨rfl, hB1, .inr ⟨by rw [h5]; decide, by rw [h5]⟩⟩
        · by_cases hlast : last < l[k].id
          · go_wp2_with fail
            refine (need_t _ _ _ (by simp)).mono ?_
            rintro e w' ⟨rfl, rfl⟩
            go_wp2
            go_roundw
            case rel => exact ⟨k + 1, l[k].id, by omega, by go_num, rfl, hB1, by show checkFrom (-1) l = _; rw [HR.out, Hd.out]; simp [hlast]⟩
            case measure => simp [intOf]; omega
          · go_wp2_with fail
            refine (need_f _ _ _ (by simp [hlast])).mono ?_
            rintro e w' ⟨rfl, rfl⟩
            have h5 := Hfin.out false (by simp [hlast])
            simp at h5
            exact ⟨rfl, hB1, .inr ⟨by rw [h5]; decide, by rw [h5]⟩⟩
      · have hk' : k = l.length := by omega
        have h5 : Hid (checkE l = 0) := by
          unfold checkE
          rw [if_neg (by omega), HR.out, hk']; simp [checkFrom, Hid]
        clear hk' HR
        go_wp2
        go_end0
        exact ⟨hB, .inl ⟨h5.out, rfl⟩⟩
  · have h5 : checkE l = 2 := by unfold checkE; rw [if_pos (by omega)]
    go_enter Tryz.func28, Tryz.ntmps28
    have H5 := Lib.hid h5
    clear h5
    go_wp2_with fail
    refine (need_f _ _ _ (by simp; omega)).mono ?_
    rintro e w' ⟨rfl, rfl⟩
    exact ⟨rfl, Below.refl _ _, .inr ⟨by rw [H5.out]; decide, by rw [H5.out]⟩⟩

/-! ### caught: the deferred function -/
theorem caught_ret (b : Nat) (w : World) :
    CallsD Tryz.prog 27 #[.pointer (some ⟨b, 0, none⟩)] .returning w fun e u' w' => u' = .returning ∧ e = .returned (.tuple #[]) ∧ w' = w := by
  refine callsD_of_wpS Tryz.func27 rfl fun c₀ cs hu => ?_
  simp only [Tryz.ntmps27, List.size_toArray, List.length_cons, List.length_nil, Nat.reduceAdd, Nat.reduceSub, Array.replicate_succ, Array.replicate_zero, List.push_toArray, List.append_toArray, List.nil_append, List.cons_append]
  apply wpS_seq
  apply wpS_region
  simp [wpOpsS, go_sem, recoverD, hu, Exit.thenS]
  refine wpS_of_wp ?_
  go_wp2
  cases c₀
  simp_all [bodyPostS, results, Tryz.results27]

def CaughtPost (n : Int) (b : Nat) (w : World) (e : Ending) (u' : FrameMode) (w' : World) : Prop :=
  u' = .panicking [{ v := .iface 26 (.int .i64 n), recovered := true }] ∧ e = .returned (.tuple #[]) ∧ w' = w.setCell ⟨b, 0, none⟩ (.int .i64 n)
theorem caught_pan (b : Nat) (v : Value) (n : Int) (w : World) (h1 : w.heap[b]? = some (.cells #[v] 26 (0, 0))) :
    CallsD Tryz.prog 27 #[.pointer (some ⟨b, 0, none⟩)] (.panicking (errChain n)) w (CaughtPost n b w) := by
  have c1 := cell_one h1
  have f1 := frozen_one h1 0
  have hta : ∀ w, (Instr.typeAssert (.iface 26 (.int .i64 n)) 20 26 true).run Tryz.prog w = .ok (.tuple #[.int .i64 n, .bool true]) w := fun _ => by kernel_rfl
  unfold errChain
  refine callsD_of_wpS Tryz.func27 rfl fun c₀ cs hu => ?_
  simp only [Tryz.ntmps27, List.size_toArray, List.length_cons, List.length_nil, Nat.reduceAdd, Nat.reduceSub, Array.replicate_succ, Array.replicate_zero, List.push_toArray, List.append_toArray, List.nil_append, List.cons_append]
  apply wpS_seq
  apply wpS_region
  simp [wpOpsS, go_sem, recoverD, hu, Exit.thenS]
  refine wpS_of_wp ?_
  go_wp2
  exact ⟨rfl, _, rfl, _, results_none rfl _ _ _, rfl, rfl, rfl⟩

/-- The error of a display. -/
theorem Check_any (A : Option Addr) (c : Nat) (l : List Spot) (w : World) (hT : Tabs w) (hr : Rd w A (l.flatMap Spot.cells)) (hm : l.length ≤ 9223372036854775807) :
    Calls Tryz.prog 18 #[.slice A l.length c] w fun e w' => e = .returned (.int .i64 (checkE l)) ∧ Below w.heap.size w w' := by
  obtain ⟨W1, hW1⟩ : ∃ W1, w.alloc (.cells #[.int .i64 0] 26) = W1 := ⟨_, rfl⟩
  have hb0 : W1.heap[w.heap.size]? = some (.cells #[.int .i64 0] 26 (0, 0)) := by rw [← hW1]; exact World.alloc_heap_new _ _
  have hB1 : Below w.heap.size w W1 := by rw [← hW1]; exact (Below.refl _ _).alloc (Nat.le_refl _) _
  have hz1 : W1.heap.size = w.heap.size + 1 := by rw [← hW1]; simp
  go_enter_defers Tryz.func18, Tryz.ntmps18
  go_wp2_with fail
  refine (check_any A c l W1 (utf_ext hT hB1) (hr.ext hB1) hm).mono ?_
  rintro e w2 ⟨hb2, h⟩
  have hB2 := ext_trans hB1 hb2
  have hb02 : w2.heap[w.heap.size]? = _ := (hb2.block _ (by omega)).trans hb0
  clear hb0 hz1 hW1
  rcases h with ⟨hn, rfl⟩ | ⟨hn, rfl⟩
  · have c0 := cell_one hb02
    have f0 := frozen_one hb02 0
    have Hn := Lib.hid hn
    clear hn
    go_wp2
    refine leaves_cons (f := 27) (args := #[.pointer (some ⟨w.heap.size, 0, none⟩)]) (by simp) (by simp [go_sem]) ?_
    refine (caught_ret _ _).mono ?_
    rintro e u' w'' ⟨rfl, rfl, rfl⟩
    simp [Leaves, settle, results, Tryz.results18, go_sem, c0]
    refine ⟨by rw [Hn.out], hB2.setCell (p := ⟨w.heap.size, 0, none⟩) (Nat.le_refl _) _⟩
  · refine leaves_cons (f := 27) (args := #[.pointer (some ⟨w.heap.size, 0, none⟩)]) (by simp) (by simp [go_sem]) ?_
    refine (caught_pan _ _ _ _ hb02).mono ?_
    rintro e u' w'' ⟨rfl, rfl, rfl⟩
    simp [Leaves, settle, results, Tryz.results18, go_sem, cell_one hb02]
    exact hB2.setCell (p := ⟨w.heap.size, 0, none⟩) (Nat.le_refl _) _
end Go.Proofs.YtfbhfimejcdopaaGreatDoor

/- Package display: the map of kinds; a change is examined. -/
namespace Go.Proofs.YtfbhfimejcdopaaGreatDoor
open Go.RowKit Go.Han

structure Change where
  at_ : Int
  kind : Int
  spot : Spot
def Change.cells (x : Change) : List Value := [.int .i64 x.at_, .int .i64 x.kind, .int .i64 x.spot.id, .int .i64 x.spot.ver, .string x.spot.text]
def Change.val (x : Change) : Value := .agg #[.int .i64 x.at_, .int .i64 x.kind, .int .i64 x.spot.id, .int .i64 x.spot.ver, .string x.spot.text]
theorem Change.size_cells (x : Change) : x.cells.length = 5 := rfl
def cflat (l : List Change) : List Value := l.flatMap Change.cells
def upTo (t : Int) (l : List Change) : List Change := l.takeWhile (fun c => decide (c.at_ ≤ t))

def fv (f : Nat) : Value := .func (.func f) #[] #[]
def kEs : Array MapEntry := #[⟨.int .i64 1, .agg #[fv 53, fv 54], 0⟩, ⟨.int .i64 2, .agg #[fv 56, fv 57], 1⟩, ⟨.int .i64 3, .agg #[fv 59, fv 60], 2⟩]
/-- Block g is the map of kinds. -/
def KMap (w : World) (g : Nat) : Prop := w.heap[g]? = some (.map kEs 3)
theorem KMap.ext {w w' : World} {g : Nat} (h : KMap w g) (hb : Below w.heap.size w w') : KMap w' g := (hb.block g (lt_block h)).trans h

theorem kinds_any (w : World) : Calls Tryz.prog 38 #[] w fun e w' => e = .returned (.map (some w.heap.size)) ∧ w.alloc (.map kEs 3) = w' := by
  have hmm := @run_makeMap Tryz.prog
  have hk1 : ∀ (W : World) (v : Value), (Instr.mapUpdate 69 (.map (some W.heap.size)) (.int .i64 1) v).run Tryz.prog (W.alloc (.map #[] 0)) = .ok () (W.alloc (.map #[⟨.int .i64 1, v, 0⟩] 1)) := fun W v => by
    rw [run_mapUpdate_new 1 v Tryz.underlying69 Tryz.underlying3 (World.alloc_heap_new _ _) rfl, putObj_alloc]; rfl
  have hk2 : ∀ (W : World) (u v : Value), (Instr.mapUpdate 69 (.map (some W.heap.size)) (.int .i64 2) v).run Tryz.prog (W.alloc (.map #[⟨.int .i64 1, u, 0⟩] 1)) = .ok () (W.alloc (.map #[⟨.int .i64 1, u, 0⟩, ⟨.int .i64 2, v, 1⟩] 2)) := fun W u v => by
    rw [run_mapUpdate_new 2 v Tryz.underlying69 Tryz.underlying3 (World.alloc_heap_new _ _) rfl, putObj_alloc]; rfl
  have hk3 : ∀ (W : World) (u x v : Value), (Instr.mapUpdate 69 (.map (some W.heap.size)) (.int .i64 3) v).run Tryz.prog (W.alloc (.map #[⟨.int .i64 1, u, 0⟩, ⟨.int .i64 2, x, 1⟩] 2)) = .ok () (W.alloc (.map #[⟨.int .i64 1, u, 0⟩, ⟨.int .i64 2, x, 1⟩, ⟨.int .i64 3, v, 2⟩] 3)) := fun W u x v => by
    rw [run_mapUpdate_new 3 v Tryz.underlying69 Tryz.underlying3 (World.alloc_heap_new _ _) rfl, putObj_alloc]; rfl
  go_enter Tryz.func38, Tryz.ntmps38
  go_wp2
  go_ret
  exact ⟨rfl, rfl⟩

def kindB (n : Int) : Bool := decide (1 ≤ n) && decide (n ≤ 3)
def Change.ok (c : Change) : Bool := kindB c.kind && timeB c.at_ && c.spot.ok
/-- What the map of kinds has at a number. -/
def kVal (a b : Nat) : Value := .agg #[fv a, fv b]
theorem kinds_look (n : Int) {W : World} {g : Nat} (h : KMap W g) (ok : Bool) :
    (n = 1 ∧ (Instr.lookup 69 (.map (some g)) (.int .i64 1) ok).run Tryz.prog W = .ok (if ok then .tuple #[kVal 53 54, .bool true] else kVal 53 54) W) ∨
    (n = 2 ∧ (Instr.lookup 69 (.map (some g)) (.int .i64 2) ok).run Tryz.prog W = .ok (if ok then .tuple #[kVal 56 57, .bool true] else kVal 56 57) W) ∨
    (n = 3 ∧ (Instr.lookup 69 (.map (some g)) (.int .i64 3) ok).run Tryz.prog W = .ok (if ok then .tuple #[kVal 59 60, .bool true] else kVal 59 60) W) ∨
    (kindB n = false ∧ (Instr.lookup 69 (.map (some g)) (.int .i64 n) ok).run Tryz.prog W = .ok (if ok then .tuple #[.agg #[.nilFunc, .nilFunc], .bool false] else .agg #[.nilFunc, .nilFunc]) W) := by
  have key := @run_lookup_int Tryz.prog W g 3 kEs 69 3 87 .i64
  by_cases h1 : n = 1
  · exact .inl ⟨h1, key 1 Tryz.underlying69 Tryz.underlying3 h (i := 0) rfl ok⟩
  by_cases h2 : n = 2
  · exact .inr (.inl ⟨h2, key 2 Tryz.underlying69 Tryz.underlying3 h (i := 1) rfl ok⟩)
  by_cases h3 : n = 3
  · exact .inr (.inr (.inl ⟨h3, key 3 Tryz.underlying69 Tryz.underlying3 h (i := 2) rfl ok⟩))
  refine .inr (.inr (.inr ⟨?_, ?_⟩))
  · unfold kindB
    by_cases h : 1 ≤ n
    · have : ¬ n ≤ 3 := by omega
      simp [this]
    · simp [h]
  · refine run_lookup_none n _ Tryz.underlying69 Tryz.underlying3 (fun _ => by kernel_rfl) h ?_ ok
    have e1 : (n == 1) = false := by simpa using h1
    have e2 : (n == 2) = false := by simpa using h2
    have e3 : (n == 3) = false := by simpa using h3
    simp [kEs, Instr.findNow, Instr.sameNow, e1, e2, e3]

set_option maxRecDepth 100000 in
set_option maxHeartbeats 800000 in
theorem examine_any (c : Change) (g : Nat) (w : World) (hT : Tabs w) (hg : KMap w g) :
    Calls Tryz.prog 39 #[c.val, .map (some g)] w (NeedPost (if c.ok then 0 else 490) w) := by
  obtain ⟨t, k, ⟨i, v, s⟩⟩ := c
  obtain ⟨n, hn⟩ : ∃ n : Int, n = (if Change.ok ⟨t, k, ⟨i, v, s⟩⟩ then 0 else 490) := ⟨_, rfl⟩
  rw [← hn]
  unfold Change.ok at hn
  simp only at hn
  obtain ⟨W1, hW1⟩ : ∃ W1, w.alloc (.cells #[.int .i64 t, .int .i64 k, .int .i64 i, .int .i64 v, .string s] 40) = W1 := ⟨_, rfl⟩
  have hB1 : Below w.heap.size w W1 := by rw [← hW1]; exact (Below.refl _ _).alloc (Nat.le_refl _) _
  have hz1 : W1.heap.size = w.heap.size + 1 := by rw [← hW1]; simp
  have hg1 := hg.ext hB1
  have hT1 := utf_ext hT hB1
  have c0 : W1.cell? ⟨w.heap.size, 0, none⟩ = some (.int .i64 t) := by rw [← hW1]; simp [go_sem]
  have c1 : W1.cell? ⟨w.heap.size, 1, none⟩ = some (.int .i64 k) := by rw [← hW1]; simp [go_sem]
  have c2 : W1.cell? ⟨w.heap.size, 2, none⟩ = some (.int .i64 i) := by rw [← hW1]; simp [go_sem]
  have c3 : W1.cell? ⟨w.heap.size, 3, none⟩ = some (.int .i64 v) := by rw [← hW1]; simp [go_sem]
  have c4 : W1.cell? ⟨w.heap.size, 4, none⟩ = some (.string s) := by rw [← hW1]; simp [go_sem]
  have hlt : w.heap.size < W1.heap.size := by omega
  clear hz1
  unfold Change.val
  have Hn : Hid (∀ b, b = kindB k → n = (if (b && timeB t && Spot.ok ⟨i, v, s⟩) = true then 0 else 490)) := fun b hb => by subst hb; exact hn
  clear hn
  rcases kinds_look k hg1 true with ⟨rfl, hl⟩ | ⟨rfl, hl⟩ | ⟨rfl, hl⟩ | ⟨hk, hl⟩
  all_goals simp only [if_true, kVal, fv] at hl
  case inl | inr.inl | inr.inr.inl =>
    have Hn1 := Lib.hid (Hn.out true rfl)
    clear Hn
    go_enter Tryz.func39, Tryz.ntmps39
    go_wp2_with fail
    refine (time_any _ _).mono ?_
    rintro e w' ⟨rfl, rfl⟩
    generalize timeB t = b1 at *
    cases b1
    · go_wp2_with fail
      refine (need_f _ _ _ rfl).mono ?_
      rintro e w' ⟨rfl, rfl⟩
      have h5 := Hn1.out
      simp at h5
      exact ⟨rfl, ext_alloc hB1 _, .inr ⟨by omega, by rw [h5]⟩⟩
    · go_wp2_with fail
      refine (right_any ⟨i, v, s⟩ _ (by exact utf_ext hT1 ((Below.refl _ W1).alloc (Nat.le_refl _) _))).mono ?_
      rintro e w2 ⟨rfl, hb2⟩
      have hB2 := ext_trans (ext_alloc hB1 _) hb2
      generalize Spot.ok ⟨i, v, s⟩ = b2 at *
      cases b2
      · go_wp2_with fail
        refine (need_f _ _ _ rfl).mono ?_
        rintro e w' ⟨rfl, rfl⟩
        have h5 := Hn1.out
        simp at h5
        exact ⟨rfl, hB2, .inr ⟨by omega, by rw [h5]⟩⟩
      · go_wp2_with fail
        refine (need_t _ _ _ rfl).mono ?_
        rintro e w' ⟨rfl, rfl⟩
        have h5 := Hn1.out
        simp at h5
        have H5 := Lib.hid h5
        clear h5
        go_wp2
        go_end0
        exact ⟨hB2, .inl ⟨H5.out, rfl⟩⟩
  case inr.inr.inr =>
    have h5 := Hn.out false hk.symm
    simp at h5
    have H5 := Lib.hid h5
    clear h5 Hn hk
    go_enter Tryz.func39, Tryz.ntmps39
    go_wp2_with fail
    refine (need_f _ _ _ rfl).mono ?_
    rintro e w' ⟨rfl, rfl⟩
    have h5 := H5.out
    exact ⟨rfl, ext_alloc hB1 _, .inr ⟨by omega, by rw [h5]⟩⟩
end Go.Proofs.YtfbhfimejcdopaaGreatDoor

/- Rows of cells: copy, append of zero values, clear, at elements of any number of cells. No program in sight. -/
namespace Go.Han
open Go.RowKit

/-- Block g is a row that holds the cells cur, none frozen. -/
def Row (w : World) (g t : Nat) (cur : List Value) : Prop := w.heap[g]? = some (.cells cur.toArray t (0, 0))
theorem Row.lt {w : World} {g t : Nat} {cur : List Value} (h : Row w g t cur) : g < w.heap.size := lt_block h
theorem Row.cell {w : World} {g t : Nat} {cur : List Value} (h : Row w g t cur) (j : Nat) : w.cell? ⟨g, j, none⟩ = cur[j]? := by
  unfold Row at h
  simp [World.cell?, h]
theorem Row.frozen {w : World} {g t : Nat} {cur : List Value} (h : Row w g t cur) (j : Nat) : w.frozen? ⟨g, j, none⟩ = false := by
  unfold Row at h
  simp [World.frozen?, h]
theorem Row.ext {w w' : World} {g t : Nat} {cur : List Value} (h : Row w g t cur) (hb : Below w.heap.size w w') : Row w' g t cur := (hb.block g h.lt).trans h
theorem Row.far {w w' : World} {g t : Nat} {cur : List Value} (h : Row w g t cur) {row : Option Nat} (hg : w.grownBy w' row) (hne : some g ≠ row) : Row w' g t cur := (hg.block g h.lt hne).trans h
theorem Row.drew {w : World} {g t : Nat} {cur : List Value} (h : Row w g t cur) : Row w.drew g t cur := h
theorem Row.rd {w : World} {g t : Nat} {cur : List Value} (h : Row w g t cur) (off : Nat) {xs : List Value} (hx : ∀ (j : Nat) (u : Value), xs[j]? = some u → cur[off + j]? = some u) : Rd w (some ⟨g, off, none⟩) xs :=
  .inr ⟨g, off, rfl, h.lt, fun j u hu => (h.cell _).trans (hx j u hu)⟩

section
variable {P : Program} (w : World)

theorem add_none (g o j : Nat) : (⟨g, o, none⟩ : Addr).add j = ⟨g, o + j, none⟩ := by unfold Addr.add; split <;> simp_all

theorem setRow_row {g t : Nat} {cur : List Value} (h : Row w g t cur) (cur' : List Value) : Row (w.setRow g cur'.toArray) g t cur' ∧ w.grownBy (w.setRow g cur'.toArray) (some g) ∧ (w.setRow g cur'.toArray).heap.size = w.heap.size := by
  refine ⟨setRow_heap w g _ _ t _ h, ?_, by simp [World.setRow]⟩
  exact ⟨rfl, rfl, rfl, by simp [World.setRow], fun k _ hne => by simp [World.setRow, Array.getElem?_modify]; intro e; exact absurd (by rw [e]) hne⟩

/-- copy, into a row; the source read first. -/
theorem run_copy_rows (dT sT ty elem size : Nat) (hu : P.underlying dT = some (.slice elem)) {i : TypeInfo} (hi : P.info? elem = some i) (hs : i.size = size) (g o dLen dCap : Nat) (A : Option Addr) (sLen sCap t : Nat) (cur cs : List Value)
    (hg : Row w g t cur) (hn : cs.length = Nat.min sLen dLen * size) (hsrc : Rd w A cs) (hfit : o + cs.length ≤ cur.length) (h1 : ∀ v ∈ cs, v.oneCell' = true) :
    (Builtin.copy_ #[dT, sT] ty #[.slice (some ⟨g, o, none⟩) dLen dCap, .slice A sLen sCap]).run P w = .ok (goInt (Nat.min sLen dLen)) (w.setRow g (splice cur o cs).toArray) := by
  have hfc : (Builtin.firstCells size (Nat.min sLen dLen) (.slice A sLen sCap)).run P w = .ok cs.toArray w := by
    rcases hsrc with rfl | ⟨b, off, rfl, _, hc⟩
    · cases A with
      | none => exact run_firstCells_none w _ _ _ _
      | some a => exact run_firstCells_some w size _ a sLen sCap [] (by simpa using hn) (by simp)
    · exact run_firstCells_some w size _ ⟨b, off, none⟩ sLen sCap cs hn (fun j v hv => by rw [add_none]; exact hc j v hv)
  have hst := run_storeCells_at (P := P) g o t cs 0 cur.toArray w hg (by simpa using hfit) h1
  simp only [Nat.add_zero] at hst
  subst hs
  have hsz : ∀ w, (Go.sizeOf elem).run P w = .ok i.size w := fun w => by simp [Go.sizeOf, typeInfo, hi]
  simp only [Builtin.copy_, Builtin.lenOf, Sem.run_bind, Sem.run_pure, Result.andThen_ok, run_underlying hu, hsz, hfc, List.getElem?_toArray, List.getElem?_cons_zero, List.getElem?_cons_succ]
  simp only [hst, Result.andThen_ok, splice, List.append_assoc]

theorem wp_copy_rows {o : Oper} {a : Act} {K : Act → World → Prop} {Q : Exit → Act → World → Prop} (d s : Operand) (dT sT : TypeId) (ho : o.op = .call { callee := .builtin .copy, args := #[d, s], argTypes := #[dT, sT] })
    (elem size : Nat) (hu : P.underlying dT = some (.slice elem)) {i : TypeInfo} (hi : P.info? elem = some i) (hs : i.size = size) (g off dLen dCap : Nat) (A : Option Addr) (sLen sCap t : Nat) (cur cs : List Value)
    (hd : a.eval d = .slice (some ⟨g, off, none⟩) dLen dCap) (hx : a.eval s = .slice A sLen sCap)
    (hg : Row w g t cur) (hn : cs.length = Nat.min sLen dLen * size) (hsrc : Rd w A cs) (hfit : off + cs.length ≤ cur.length) (h1 : ∀ v ∈ cs, v.oneCell' = true)
    (h : ∀ w', Row w' g t (splice cur off cs) → w.grownBy w' (some g) → w'.heap.size = w.heap.size → K (a.put o.dst (goInt (Nat.min sLen dLen))) w') : o.wp P a w K Q := by
  have hr := run_copy_rows (P := P) w dT sT o.type elem size hu hi hs g off dLen dCap A sLen sCap t cur cs hg hn hsrc hfit h1
  obtain ⟨r1, r2, r3⟩ := setRow_row w hg (splice cur off cs)
  unfold Oper.wp execOp
  simp only [ho, resolve, invoke, builtin, Sem.run_bind, Sem.run_pure, Result.andThen_ok, List.map_toArray, List.map_cons, List.map_nil, hd, hx, hr]
  exact h _ r1 r2 r3
theorem wpList_copy_rows {ops : Array Oper} {rest : List Oper} {o : Oper} {a : Act} {Q : Exit → Act → World → Prop} (hgd : o.guard = none) (d s : Operand) (dT sT : TypeId) (ho : o.op = .call { callee := .builtin .copy, args := #[d, s], argTypes := #[dT, sT] })
    (elem size : Nat) (hu : P.underlying dT = some (.slice elem)) {i : TypeInfo} (hi : P.info? elem = some i) (hs : i.size = size) (g off dLen dCap : Nat) (A : Option Addr) (sLen sCap t : Nat) (cur cs : List Value)
    (hd : a.eval d = .slice (some ⟨g, off, none⟩) dLen dCap) (hx : a.eval s = .slice A sLen sCap)
    (hg : Row w g t cur) (hn : cs.length = Nat.min sLen dLen * size) (hsrc : Rd w A cs) (hfit : off + cs.length ≤ cur.length) (h1 : ∀ v ∈ cs, v.oneCell' = true)
    (h : ∀ w', Row w' g t (splice cur off cs) → w.grownBy w' (some g) → w'.heap.size = w.heap.size → wpList P ops Q rest (a.put o.dst (goInt (Nat.min sLen dLen))) w') : wpList P ops Q (o :: rest) a w :=
  wpList_plain hgd fun _ hK => wp_copy_rows w d s dT sT ho elem size hu hi hs g off dLen dCap A sLen sCap t cur cs hd hx hg hn hsrc hfit h1 fun w' h2 h3 h4 => hK _ _ (h w' h2 h3 h4)

/-- append(s[:i], make([]T, k)...) where there is no room: a new row. -/
theorem wpList_append_zeros {ops : Array Oper} {rest : List Oper} {o : Oper} {a : Act} {Q : Exit → Act → World → Prop} (hgd : o.guard = none) (s x : Operand) (t tn : TypeId) (ho : o.op = .call { callee := .builtin .append, args := #[s, x], argTypes := #[t, tn] })
    (e : TypeId) (i : TypeInfo) (z : Value) (size bytes : Nat) (kq kn : IntKind) (ht : P.underlying t = some (.slice e)) (htn : P.underlying tn = some (.int kn)) (hi : P.info? e = some i) (hz : i.zero = some z) (hsize : i.size = size) (hby : i.bytes = bytes) (hzs : z.cells.size = size) (hsz : 0 < size)
    (A : Option Addr) (sLen sCap k : Nat) (olds : List Value) (hs : a.eval s = .slice A sLen sCap) (hx : a.eval x = .int kq k) (hl : olds.length = sLen * size) (hold : Rd w A olds)
    (h0 : 0 < k) (hg : sCap < sLen + k) (h63 : sLen + k ≤ maxLen) (hbytes : (sLen + k) * bytes ≤ 140737488355328)
    (h : ∀ cap w' R, Row w' w.heap.size e (olds ++ R) → (olds ++ R).length = cap * size → sLen + k ≤ cap → cap ≤ maxLen → Below w.heap.size w w' → w'.heap.size = w.heap.size + 1 → wpList P ops Q rest (a.put o.dst (.slice (some ⟨w.heap.size, 0, none⟩) (sLen + k) cap)) w') :
    wpList P ops Q (o :: rest) a w := by
  refine wpList_plain hgd fun K hK => ?_
  subst hsize; subst hby
  have hsmall : sLen + k ≤ 9223372036854775807 := by simp only [maxLen] at h63; omega
  have hfc : (Builtin.firstCells i.size sLen (.slice A sLen sCap)).run P w.drew = .ok olds.toArray w.drew := by
    rcases hold with rfl | ⟨b, off, rfl, _, hc⟩
    · cases A with
      | none => exact run_firstCells_none w.drew _ _ _ _
      | some a => exact run_firstCells_some w.drew _ _ a sLen sCap [] (by simpa using hl) (by simp)
    · exact run_firstCells_some w.drew _ _ ⟨b, off, none⟩ sLen sCap olds hl (fun j v hv => by rw [add_none]; exact hc j v hv)
  have hr := Lib.run_append_grow_zeros (P := P) w t tn o.type e i z kq kn ht htn hi hz A sLen sCap olds hfc k h0 hsz hg (by omega) (by have := Nat.mul_le_mul_right i.bytes (show k ≤ sLen + k by omega); omega) (growslice_fits (by omega) hbytes)
  have hge := grownCap_ge w (sLen + k) sCap e
  have hcm := grownCap_le_maxLen w (sLen + k) sCap e h63
  unfold Oper.wp execOp
  simp only [ho, resolve, invoke, builtin, Sem.run_bind, Sem.run_pure, Result.andThen_ok, List.map_toArray, List.map_cons, List.map_nil, hs, hx, hr]
  refine hK _ _ (h (grownCap w (sLen + k) sCap e) _ ((Builtin.zeroCells z.cells k).toList ++ (Builtin.zeroCells z.cells (grownCap w (sLen + k) sCap e - (sLen + k))).toList) ?_ ?_ hge hcm ?_ (by simp))
  · unfold Row
    rw [show w.heap.size = w.drew.heap.size from rfl, World.alloc_heap_new]
    congr 2
    apply Array.ext'
    simp
  · simp only [List.length_append, hl, Array.length_toList, size_zeroCells, hzs, ← Nat.add_mul]
    congr 1
    omega
  · exact (Below.refl _ _).drew.alloc (Nat.le_refl _) _

theorem splice_at {α : Type} (X Z C : List α) (p : Nat) (hp : X.length = p) : splice (X ++ Z) p C = X ++ (C ++ Z.drop C.length) := by
  subst hp
  unfold splice
  rw [List.take_left, List.drop_append, List.drop_of_length_le (by omega), List.nil_append, Nat.add_sub_cancel_left]
end

/-- The cells xs with ys put in at p. -/
def putIn {α : Type} (xs : List α) (p : Nat) (ys : List α) : List α := xs.take p ++ (ys ++ xs.drop p)
theorem putIn_length {α : Type} (xs ys : List α) (p : Nat) (hp : p ≤ xs.length) : (putIn xs p ys).length = xs.length + ys.length := by
  simp [putIn]; omega
/-- Into a row that begins with xs and has room: what is behind p moves on, then ys goes in. -/
theorem splice_room {α : Type} (xs R ys : List α) (p : Nat) (hp : p ≤ xs.length) (hr : ys.length ≤ R.length) :
    splice (splice (xs ++ R) (p + ys.length) (xs.drop p)) p ys = putIn xs p ys ++ R.drop ys.length := by
  have hl : ((xs.drop p ++ R).take ys.length).length = ys.length := by simp; omega
  have h1 : xs ++ R = (xs.take p ++ ((xs.drop p ++ R).take ys.length)) ++ (xs.drop p ++ R).drop ys.length := by
    rw [List.append_assoc, List.take_append_drop, ← List.append_assoc, List.take_append_drop]
  have hlen : (xs.take p ++ ((xs.drop p ++ R).take ys.length)).length = p + ys.length := by
    rw [List.length_append, hl, List.length_take, Nat.min_eq_left hp]
  rw [h1, splice_at _ _ _ (p + ys.length) hlen, List.append_assoc, splice_at _ _ _ p (by simp; omega)]
  unfold putIn
  rw [List.append_assoc, List.append_assoc]
  congr 2
  have e1 : (((xs.drop p ++ R).take ys.length) ++ (xs.drop p ++ ((xs.drop p ++ R).drop ys.length).drop (xs.drop p).length)).drop ys.length = xs.drop p ++ ((xs.drop p ++ R).drop ys.length).drop (xs.drop p).length := by
    rw [List.drop_append, hl, Nat.sub_self, List.drop_zero, List.drop_of_length_le (by rw [hl]; exact Nat.le_refl _), List.nil_append]
  have e2 : ((xs.drop p ++ R).drop ys.length).drop (xs.drop p).length = R.drop ys.length := by
    rw [List.drop_drop, Nat.add_comm, ← List.drop_drop, List.drop_left]
  rw [e2] at e1 ⊢
  exact e1
theorem splice_fresh {α : Type} (xs R ys : List α) (p : Nat) (hp : p ≤ xs.length) :
    splice (splice (xs.take p ++ R) p ys) (p + ys.length) (xs.drop p) = putIn xs p ys ++ R.drop (ys.length + (xs.length - p)) := by
  have hl : (xs.take p ++ ys).length = p + ys.length := by rw [List.length_append, List.length_take, Nat.min_eq_left hp]
  rw [splice_at _ _ _ p (by simp; omega), ← List.append_assoc, splice_at _ _ _ (p + ys.length) hl]
  unfold putIn
  rw [List.append_assoc, List.append_assoc, List.append_assoc, List.drop_drop, List.length_drop]
end Go.Han

/- slices.Insert of one element at hansard/api.Spot: into a slice of one's own. -/
namespace Go.Proofs.YtfbhfimejcdopaaGreatDoor
open Go.RowKit Go.Han

theorem info_spot : (Tryz.prog.info? 37).map (fun i => (i.size, i.bytes)) = some (3, 32) := by kernel_rfl
theorem infoz_spot : ((Tryz.prog.info? 37).bind (·.zero)).map (·.cells.size) = some 3 := by kernel_rfl
theorem parts_spot : ∃ i z, Tryz.prog.info? 37 = some i ∧ i.zero = some z ∧ i.size = 3 ∧ i.bytes = 32 ∧ z.cells.size = 3 := by
  have h1 := info_spot
  have h2 := infoz_spot
  cases hi : Tryz.prog.info? 37 with
  | none => rw [hi] at h1; cases h1
  | some i =>
    rw [hi] at h1 h2
    simp only [Option.map_some, Option.some.injEq, Prod.mk.injEq, Option.bind_some] at h1 h2
    cases hz : i.zero with
    | none => rw [hz] at h2; cases h2
    | some z =>
      rw [hz] at h2
      exact ⟨i, z, rfl, hz, h1.1, h1.2, by simpa using h2⟩

def InsPost_spot (base n : Nat) (v : Value) (zs : List Value) (w : World) (e : Ending) (w' : World) : Prop :=
  ∃ v', e = .returned v' ∧ w'.ownsRow base 37 3 v' n zs ∧ w.grownBy w' v.ownBlock ∧ (v'.ownBlock = v.ownBlock ∨ ∃ k, v'.ownBlock = some k ∧ w.heap.size ≤ k)

set_option maxRecDepth 100000 in
set_option maxHeartbeats 1000000 in
theorem insert_spot (base n i vb : Nat) (v : Value) (xs ys : List Value) (w : World) (hown : w.ownsRow base 37 3 v n xs) (hin : i ≤ n) (hv : Row w vb 37 ys) (hys : ys.length = 3)
    (hy1 : ∀ u ∈ ys, u.oneCell' = true) (hx1 : ∀ u ∈ xs, u.oneCell' = true) (hne : v.ownBlock ≠ some vb) (hn : n ≤ 1000000) (hbase : base ≤ w.heap.size) :
    Calls Tryz.prog 55 #[v, .int .i64 i, .slice (some ⟨vb, 0, none⟩) 1 1] w (InsPost_spot base (n + 1) v (putIn xs (i * 3) ys) w) := by
  obtain ⟨i0, z, hi0, hz0, hs0, hb0, hzs⟩ := parts_spot
  have hxl := hown.1
  have hrdv : Rd w (some ⟨vb, 0, none⟩) ys := hv.rd 0 (fun j u h => by simpa using h)
  by_cases hlast : i = n
  · -- at the end: append
    have hput : putIn xs (i * 3) ys = xs ++ ys := by
      unfold putIn
      rw [hlast, ← hxl, List.take_of_length_le (Nat.le_refl _), List.drop_of_length_le (Nat.le_refl _), List.append_nil]
    rw [hput]
    clear hput
    subst hlast
    obtain ⟨A, c, rfl, hnc, hcm⟩ : ∃ A c, v = .slice A i c ∧ i ≤ c ∧ c ≤ maxLen := by
      rcases hown.2 with ⟨rfl, rfl⟩ | ⟨g, cap, cur, rfl, _, _, h1, h2, _⟩
      · exact ⟨none, 0, rfl, Nat.le_refl _, by unfold maxLen; omega⟩
      · exact ⟨_, _, rfl, h1, h2⟩
    unfold maxLen at hcm
    go_enter Tryz.func55, Tryz.ntmps55
    go_wp2_with (at_builtin; go_loud (refine wpList_append_lies _ rfl (.tmp 23) (.tmp 24) 22 rfl base 37 i0 z 3 32 Tryz.underlying22 hi0 hz0 hs0 hb0 hzs (by decide) (.slice A i c) i xs rfl hown ⟨vb, 0, none⟩ 1 1 ys rfl (by rw [hys]) (fun j u hu => by rw [add_none, Nat.zero_add]; exact (hv.cell j).trans hu) hy1 (by decide) (by unfold maxLen; omega) (by omega) hbase _ rfl ?_); intro g' c' w1 hown1 hgr hat hlt)
    all_goals
      go_ret
      cases A
      all_goals
        refine ⟨_, rfl, hown1, hgr, ?_⟩
        rcases hat with h | h
        · exact .inl h.symm
        · exact .inr ⟨g', rfl, by omega⟩
  · -- before the end
    have hlt : i < n := by omega
    obtain ⟨g, c, cur, rfl, hbg, hrow, hnc, hcm, hcs, htk⟩ : ∃ g cap cur, v = .slice (some ⟨g, 0, none⟩) n cap ∧ base ≤ g ∧ w.heap[g]? = some (.cells cur 37 (0, 0)) ∧ n ≤ cap ∧ cap ≤ maxLen ∧ cur.size = cap * 3 ∧ cur.toList.take (n * 3) = xs := by
      rcases hown.2 with ⟨_, h0⟩ | h
      · omega
      · exact h
    have hne' : g ≠ vb := fun e => hne (by rw [e]; rfl)
    have hR : Row w g 37 (xs ++ cur.toList.drop (n * 3)) := by
      unfold Row
      rw [← htk, List.take_append_drop]
      exact hrow
    have hRl : (xs ++ cur.toList.drop (n * 3)).length = c * 3 := by
      rw [← htk, List.take_append_drop, Array.length_toList]; exact hcs
    generalize cur.toList.drop (n * 3) = R at *
    clear hrow hcs htk cur hown
    have hnci : (n : Int) ≤ (c : Int) := by omega
    by_cases hroom : n + 1 ≤ c
    · have g1 : ¬ ((c : Int) < (n : Int) + 1) := by omega
      have hov : ∀ (o lb cb : Nat), (callFunc 71 #[.slice (some ⟨vb, 0, none⟩) 1 1, .slice (some ⟨g, o, none⟩) lb cb]).run Tryz.prog w = .ok (.value (.bool false)) w := by
        intro o lb cb
        have hsz : ∀ w, (Go.sizeOf 37).run Tryz.prog w = .ok 3 w := fun w => by simp [Go.sizeOf, typeInfo, hi0, hs0]
        rw [run_callFunc_extern Tryz.func71 (by kernel_rfl) (by kernel_rfl) (by kernel_rfl) (e := Extern.SlicesOverlaps.overlaps #[22, 22] #[4]) (by kernel_rfl),
          Lib.run_overlaps_apart w 22 4 37 Tryz.underlying22 3 hsz ⟨vb, 0, none⟩ ⟨g, o, none⟩ 1 1 lb cb (Ne.symm hne') 37 37 3 (c * 3) (by unfold Row at hv; simp [World.shape?, hv, hys]) (by unfold Row at hR; simp [World.shape?, hR]; simpa using hRl) (by omega) (hv.frozen 0) (hv.frozen _)]
        rfl
      have hw1 : IntKind.i64.wrap ((i : Int) + 1) = (i : Int) + 1 := by rw [IntKind.wrap_i64]; omega
      have hw2 : ((i : Int) + 1).toNat = i + 1 := by omega
      unfold maxLen at hcm
      have Hcm := Lib.hid hcm
      go_enter Tryz.func55, Tryz.ntmps55
      go_wp2_with fail
      have hz1 : (0 : Int) ≤ (i : Int) + 1 := by omega
      have hci : ¬ c = i + 1 := by omega
      have hci2 : ¬ c = i := by omega
      have hin2 : (i : Int) ≤ (n : Int) + 1 := by omega
      go_still_tail 8, (by kernel_rfl)
      change wpList _ _ _ _ _ w.drew
      generalize hwd : w.drew = w2
      have hR2 : Row w2 g 37 (xs ++ R) := by rw [← hwd]; exact hR
      have hv2 : Row w2 vb 37 ys := by rw [← hwd]; exact hv
      have hbd : w.grownBy w2 (some g) := by rw [← hwd]; exact ⟨rfl, rfl, rfl, Nat.le_refl _, fun _ _ _ => rfl⟩
      clear hwd hR hv hrdv hov
      have hxd : (xs.drop (i * 3)).length = (n - i) * 3 := by rw [List.length_drop, hxl, Nat.sub_mul]
      have hmin : Nat.min (n + 1 - i) (n - i) = n - i := Nat.min_eq_right (by omega)
      have hcl : (n + 1) * 3 ≤ c * 3 := Nat.mul_le_mul_right _ hroom
      have hRl2 : xs.length + R.length = c * 3 := by rw [← List.length_append]; exact hRl
      refine wpList_copy_rows w2 rfl (.tmp 73) (.tmp 76) 22 22 rfl 37 3 Tryz.underlying22 hi0 hs0 g ((i + 1) * 3) (n - i) (c - (i + 1)) (some ⟨g, i * 3, none⟩) (n + 1 - i) (c - i) 37 (xs ++ R) (xs.drop (i * 3)) rfl rfl hR2 (by rw [hmin]; exact hxd)
        (hR2.rd _ fun j u hu => ?_) (by rw [hxd, List.length_append]; omega) (fun u hu => hx1 u (List.mem_of_mem_drop hu)) fun w3 hR3 hg3 hz3 => ?_
      · rw [List.getElem?_drop] at hu
        rw [List.getElem?_append_left (List.getElem?_eq_some_iff.1 hu).1]
        exact hu
      have hv3 : Row w3 vb 37 ys := hv2.far hg3 (by simpa using Ne.symm hne')
      rw [hmin]
      clear hR2 hv2
      have hmul : (i + 1) * 3 = i * 3 + ys.length := by rw [Nat.succ_mul, hys]
      have hile : i * 3 ≤ n * 3 := Nat.mul_le_mul_right _ hin
      have hcn : n * 3 + 3 ≤ c * 3 := by rw [Nat.succ_mul] at hcl; exact hcl
      have hsr : splice (splice (xs ++ R) ((i + 1) * 3) (xs.drop (i * 3))) (i * 3) ys = putIn xs (i * 3) ys ++ R.drop ys.length := by
        rw [hmul]; exact splice_room xs R ys _ (by omega) (by omega)
      have hslen : (splice (xs ++ R) ((i + 1) * 3) (xs.drop (i * 3))).length = c * 3 := by
        unfold splice
        simp only [List.length_append, List.length_take, List.length_drop]
        omega
      go_wp2_with (with_reducible (refine wpList_copy_rows w3 rfl (.tmp 80) (.tmp 81) 22 22 rfl 37 3 Tryz.underlying22 hi0 hs0 g (i * 3) (n + 1 - i) (c - i) (some ⟨vb, 0, none⟩) 1 1 37 _ ys ?_ ?_ hR3 ?_ ?_ ?_ hy1 fun w4 hR4 hg4 hz4 => ?_))
      · rfl
      · rfl
      · rw [hys, show Nat.min 1 (n + 1 - i) = 1 from Nat.min_eq_left (by omega)]
      · exact hv3.rd 0 (fun j u h => by simpa using h)
      · rw [hslen]; omega
      go_ret
      rw [hsr] at hR4
      have hpl : (putIn xs (i * 3) ys).length = (n + 1) * 3 := by rw [putIn_length _ _ _ (by omega), hys, hxl, Nat.succ_mul]
      refine ⟨_, rfl, ⟨hpl, .inr ⟨g, c, _, rfl, hbg, hR4, hroom, by unfold maxLen; exact Hcm.out, ?_, ?_⟩⟩, (hbd.trans hg3).trans hg4, .inl rfl⟩
      · rw [List.size_toArray, List.length_append, hpl, List.length_drop, hys, Nat.succ_mul]; omega
      · exact List.take_left' hpl
    · have hcn : c = n := by omega
      subst hcn
      have g1 : (c : Int) < (c : Int) + 1 := by omega
      have hw1 : IntKind.i64.wrap ((i : Int) + 1) = (i : Int) + 1 := by rw [IntKind.wrap_i64]; omega
      have hw2 : ((i : Int) + 1).toNat = i + 1 := by omega
      have hR0 : R = [] := List.eq_nil_of_length_eq_zero (by rw [List.length_append, hxl] at hRl; omega)
      subst hR0
      rw [List.append_nil] at hR
      unfold maxLen at hcm
      have hk : ((c : Int) + 1 - (i : Int)) = ((c + 1 - i : Nat) : Int) := by omega
      have hxt : (xs.take (i * 3)).length = i * 3 := by
        rw [List.length_take, Nat.min_eq_left]
        rw [hxl]; exact Nat.mul_le_mul_right _ hin
      have hadd : i + (c + 1 - i) = c + 1 := by omega
      go_enter Tryz.func55, Tryz.ntmps55
      go_wp2_with (at_builtin; go_loud (refine wpList_append_zeros w rfl (.tmp 34) (.tmp 39) 22 3 rfl 37 i0 z 3 32 .i64 .i64 Tryz.underlying22 Tryz.underlying3 hi0 hz0 hs0 hb0 hzs (by decide) (some ⟨g, 0, none⟩) i c (c + 1 - i) (xs.take (i * 3)) rfl ?hx1 hxt (hR.rd 0 ?hx2) (by omega) (by omega) (by unfold maxLen; omega) (by omega) ?hx3))
      case hx1 => rfl
      case hx2 =>
        intro j u hu
        rw [Nat.zero_add]
        rw [List.getElem?_take] at hu
        split at hu
        · exact hu
        · cases hu
      case hx3 =>
        intro cap w1 R1 hR1 hl1 hc1 hm1 hb1 hz1
        have hv1 := hv.ext hb1
        have hgw : g < w.heap.size := hR.lt
        have hvw : vb < w.heap.size := hv.lt
        have hR01 := hR.ext hb1
        have hg1 : w.grownBy w1 (some w.heap.size) := ⟨hb1.os, hb1.tape, hb1.output, hb1.size, fun k hk _ => hb1.block k hk⟩
        have hci : ¬ cap = i := by omega
        have hci1 : ¬ cap = i + 1 := by omega
        have hi1 : (i : Int) ≤ (c : Int) + 1 := by omega
        have hi0' : (i : Int) + 1 ≤ (c : Int) + 1 := by omega
        have hz1' : (0 : Int) ≤ (i : Int) + 1 := by omega
        have hcm1 : cap ≤ 9223372036854775807 := by unfold maxLen at hm1; omega
        clear hv hR hm1
        go_wp2_with (with_reducible (refine wpList_copy_rows w1 rfl (.tmp 43) (.tmp 44) 22 22 rfl 37 3 Tryz.underlying22 hi0 hs0 w.heap.size (i * 3) (c + 1 - i) (cap - i) (some ⟨vb, 0, none⟩) 1 1 37 _ ys ?_ ?_ hR1 ?_ ?_ ?_ hy1 fun w2 hR2 hg2 hz2 => ?_))
        · rfl
        · rfl
        · rw [hys, show Nat.min 1 (c + 1 - i) = 1 from Nat.min_eq_left (by omega)]
        · exact hv1.rd 0 (fun j u h => by simpa using h)
        · rw [List.length_append, hxt, hys]
          have : i * 3 + 3 ≤ cap * 3 := by rw [← Nat.succ_mul]; exact Nat.mul_le_mul_right _ (by omega)
          omega
        have hR02 := hR01.far hg2 (by intro e; simp at e; omega)
        clear hR1 hv1 hR01
        go_still_tail 8, (by kernel_rfl)
        change wpList _ _ _ _ _ w2.drew
        generalize hwd : w2.drew = w3
        have hR3 : Row w3 w.heap.size 37 (splice (xs.take (i * 3) ++ R1) (i * 3) ys) := by rw [← hwd]; exact hR2
        have hR03 : Row w3 g 37 xs := by rw [← hwd]; exact hR02
        have hg3 : w2.grownBy w3 (some w.heap.size) := by rw [← hwd]; exact ⟨rfl, rfl, rfl, Nat.le_refl _, fun _ _ _ => rfl⟩
        clear hwd hR2 hR02
        have hxd : (xs.drop (i * 3)).length = (c - i) * 3 := by rw [List.length_drop, hxl, Nat.sub_mul]
        have hmin : Nat.min (c - i) (c - i) = c - i := Nat.min_eq_left (Nat.le_refl _)
        have hci2 : ¬ c = i := by omega
        have hslen : (splice (xs.take (i * 3) ++ R1) (i * 3) ys).length = cap * 3 := by
          unfold splice
          simp only [List.length_append, List.length_take, List.length_drop, hxl] at hl1 ⊢
          omega
        have hile : i * 3 ≤ c * 3 := Nat.mul_le_mul_right _ hin
        have hmul : (i + 1) * 3 = i * 3 + ys.length := by rw [Nat.succ_mul, hys]
        have hcs : (c + 1) * 3 ≤ cap * 3 := Nat.mul_le_mul_right _ (by omega)
        have hcs' : (c + 1) * 3 = c * 3 + 3 := Nat.succ_mul _ _
        have hcis : (c - i) * 3 = c * 3 - i * 3 := Nat.sub_mul _ _ _
        have hl3 : i * 3 + R1.length = cap * 3 := hl1
        refine wpList_copy_rows w3 rfl (.tmp 50) (.tmp 53) 22 22 rfl 37 3 Tryz.underlying22 hi0 hs0 w.heap.size ((i + 1) * 3) (c - i) (cap - (i + 1)) (some ⟨g, i * 3, none⟩) (c - i) (c - i) 37 (splice (xs.take (i * 3) ++ R1) (i * 3) ys) (xs.drop (i * 3)) rfl (by simp only [Act.eval, Array.getD_eq_getD_getElem?, List.getElem?_toArray, List.getElem?_cons_succ, List.getElem?_cons_zero, Option.getD_some, hci2, if_false]) hR3 (by rw [hmin]; exact hxd)
          (hR03.rd _ fun j u hu => by rw [List.getElem?_drop] at hu; exact hu) (by rw [hxd, hslen]; omega) (fun u hu => hx1 u (List.mem_of_mem_drop hu)) fun w4 hR4 hg4 hz4 => ?_
        rw [hmin]
        go_wp2
        go_ret
        have hsr : splice (splice (xs.take (i * 3) ++ R1) (i * 3) ys) ((i + 1) * 3) (xs.drop (i * 3)) = putIn xs (i * 3) ys ++ R1.drop (ys.length + (xs.length - i * 3)) := by
          rw [hmul]; exact splice_fresh xs R1 ys _ (by omega)
        rw [hsr] at hR4
        have hpl : (putIn xs (i * 3) ys).length = (c + 1) * 3 := by rw [putIn_length _ _ _ (by omega), hys, hxl, Nat.succ_mul]
        have hge := ((hg1.trans hg2).trans hg3).trans hg4
        refine ⟨_, rfl, ⟨hpl, .inr ⟨_, cap, _, rfl, hbase, hR4, by omega, by unfold maxLen; omega, ?_, ?_⟩⟩, ⟨hge.os, hge.tape, hge.output, hge.size, fun k hk _ => hge.block k hk (by intro e; simp at e; omega)⟩, .inr ⟨_, rfl, Nat.le_refl _⟩⟩
        · rw [List.size_toArray, List.length_append, hpl, List.length_drop, hys]; omega
        · exact List.take_left' hpl
end Go.Proofs.YtfbhfimejcdopaaGreatDoor

/- Package display: the search. -/
namespace Go.Proofs.YtfbhfimejcdopaaGreatDoor
open Go.RowKit Go.Han
attribute [local irreducible] wpStill wpQuiet

def numFn (n : Int) : Value := .func (.func 63) #[.int .i64 n] #[]
theorem compare_any (n : Int) (x : Spot) (w : World) : Calls Tryz.prog 63 #[.int .i64 n, x.val, .agg #[]] w fun e w' => e = .returned (.int .i64 (Lib.compareInt x.id n)) ∧ Below w.heap.size w w' := by
  obtain ⟨i, v, s⟩ := x
  unfold Spot.val
  simp only
  have hc := fun W => Tryz.cmp_Compare_int i n W
  generalize Lib.compareInt i n = r at *
  go_enter Tryz.func63, Tryz.ntmps63
  go_wp2_with fail
  refine (hc _).mono ?_
  rintro e w' ⟨rfl, rfl⟩
  go_wp2
  go_ret
  exact ⟨rfl, ((Below.refl _ _).alloc (Nat.le_refl _) _).alloc (by simp) _⟩

theorem below_grow (B : Nat) (w : World) (q : Nat) (os : Array Obj) (hB : B ≤ w.heap.size) : Below B w (Sort.grow (w.drewN q) os) :=
  ⟨rfl, rfl, rfl, by first | (simp [Sort.grow]; done) | (simp [Sort.grow]; omega), fun i hi => by
    show ((w.drewN q).heap ++ os)[i]? = _
    rw [Array.getElem?_append_left (by show i < w.heap.size; omega)]
    rfl⟩
theorem decide_beq (a b : Int) : decide (a = b) = (a == b) := by
  by_cases h : a = b <;> simp [h]
open Go.Sort in
theorem compare_grown (n : Int) (x : Spot) (w : World) : Calls Tryz.prog 63 #[.int .i64 n, x.val, .agg #[]] w fun e w' => e = .returned (.int .i64 (Lib.compareInt x.id n)) ∧ ∃ q os, w' = grow (w.drewN q) os := by
  obtain ⟨i, v, s⟩ := x
  unfold Spot.val
  simp only
  have hc := fun W => Tryz.cmp_Compare_int i n W
  generalize Lib.compareInt i n = r at *
  go_enter Tryz.func63, Tryz.ntmps63
  go_wp2_with fail
  refine (hc _).mono ?_
  rintro e w' ⟨rfl, rfl⟩
  go_wp2
  go_ret
  exact ⟨rfl, 0, _, by rw [alloc_eq_grow, alloc_eq_grow]; show grow (grow w _) _ = _; rw [grow_grow]; rfl⟩
/-- How many spots of l lie ahead of n: all that do are at the front. -/
structure Cut (n : Int) (l : List Spot) (k : Nat) : Prop where
  le : k ≤ l.length
  lo : ∀ (t : Nat) (h : t < l.length), t < k → l[t].id < n
  hi : ∀ (t : Nat) (h : t < l.length), k ≤ t → n ≤ l[t].id
def headB (n : Int) (l : List Spot) (k : Nat) : Bool := match l[k]? with | some x => x.id == n | none => false
def Asc (l : List Spot) : Prop := ∀ (a b : Nat) (ha : a < l.length) (hb : b < l.length), a < b → l[a].id < l[b].id

def SearchPost (n : Int) (l : List Spot) (w : World) (e : Ending) (w' : World) : Prop :=
  Below w.heap.size w w' ∧ ∃ k, Cut n l k ∧ e = .returned (.tuple #[.int .i64 k, .bool (headB n l k)])

set_option maxRecDepth 100000 in
set_option maxHeartbeats 1000000 in
theorem search_any (n : Int) (A : Option Addr) (c : Nat) (l : List Spot) (w : World) (hr : Rd w A (l.flatMap Spot.cells)) (hm : l.length < 4611686018427387904) (hs : Asc l) :
    Calls Tryz.prog 62 #[.slice A l.length c, .agg #[], numFn n] w (SearchPost n l w) := by
  have eg : ∀ args w, (callFunc 63 args).run Tryz.prog w = .ok (.enter 63 args) w := enters_of Tryz.func63 (by kernel_rfl) rfl
  have Hs := Lib.hid hs
  clear hs
  unfold numFn
  go_enter Tryz.func62, Tryz.ntmps62
  go_wp2
  go_loopg [9, 10] l.length (fun kx s9 s10 wr => ∃ lo hi : Nat, s9 = .int .i64 lo ∧ s10 = .int .i64 hi ∧ lo ≤ hi ∧ hi ≤ l.length ∧ hi - lo ≤ kx ∧ Below w.heap.size w wr ∧
    Hid ((∀ (t : Nat) (h : t < l.length), t < lo → l[t].id < n) ∧ (∀ (t : Nat) (h : t < l.length), hi ≤ t → n ≤ l[t].id)))
  case atStart => exact ⟨0, l.length, rfl, rfl, Nat.zero_le _, Nat.le_refl _, by omega, (Below.refl _ _).alloc (Nat.le_refl _) _, ⟨fun t h ht => absurd ht (Nat.not_lt_zero _), fun t h1 h2 => by omega⟩⟩
  case round =>
    obtain ⟨lo, hi, rfl, rfl, hlh, hin, hg, hB, I⟩ := hrel
    have hz := hB.size
    by_cases hlt : lo < hi
    · obtain ⟨md, hmd⟩ : ∃ md, (lo + hi) / 2 = md := ⟨_, rfl⟩
      have hmd1 : lo ≤ md := by omega
      have hmd2 : md < hi := by omega
      have hmid : md < l.length := by omega
      have h0m : ((lo : Int) + (hi : Int)) / 2 = (md : Int) := by omega
      obtain ⟨b, off, rfl, hb, hc⟩ := hr.elem Spot.size_cells (by omega) hmid
      have h1 := (hB.cell (p := ⟨b, off + md * 3 + 0, none⟩) hb).trans (hc 0 _ rfl)
      have h2 := (hB.cell (p := ⟨b, off + md * 3 + 1, none⟩) hb).trans (hc 1 _ rfl)
      have h3 := (hB.cell (p := ⟨b, off + md * 3 + 2, none⟩) hb).trans (hc 2 _ rfl)
      clear hc hr
      simp only [Nat.add_zero] at h1
      have hbx : b < wr.heap.size := by omega
      have hcmp : Hid (∀ W, Calls _ _ _ W fun e w' => e = .returned (.int .i64 (Lib.compareInt l[md].id n)) ∧ Below W.heap.size W w') := fun W => compare_any n l[md] W
      obtain ⟨r, hr⟩ : ∃ r, Lib.compareInt l[md].id n = r := ⟨_, rfl⟩
      rw [hr] at hcmp
      obtain ⟨x, hx⟩ : ∃ x, l[md] = x := ⟨_, rfl⟩
      rw [hx] at h1 h2 h3 hcmp hr
      have Hr := Lib.hid hr
      clear hr
      have Hx := Lib.hid hx
      clear hx
      go_wp2_with fail
      go_still_tail 6, (by kernel_rfl)
      change wpList _ _ _ _ _ wr.drew
      have hBd : Below w.heap.size w wr.drew := hB.drew
      generalize wr.drew = wd at *
      clear h1 h2 h3
      by_cases hrn : r < 0
      · have hxn : Hid (x.id < n) := by
          have h5 := Hr.out
          unfold Lib.compareInt at h5
          show x.id < n
          split at h5
          · assumption
          · split at h5 <;> omega
        go_wp2_with fail
        refine (hcmp.out _).mono ?_
        rintro e w1 ⟨rfl, hb1⟩
        have hB1 := hBd.trans (hb1.mono hBd.size)
        go_wp2
        go_roundg (hi - (md + 1))
        case measure => omega
        case rel =>
          refine ⟨md + 1, hi, by go_num, rfl, by omega, hin, Nat.le_refl _, hB1, ⟨fun t h ht => ?_, I.out.2⟩⟩
          by_cases he : t = md
          · subst he; rw [Hx.out]; exact hxn.out
          · have := Hs.out t md h hmid (by omega)
            rw [Hx.out] at this
            have := hxn.out
            omega
      · have hxn : Hid (n ≤ x.id) := by
          have h5 := Hr.out
          unfold Lib.compareInt at h5
          show n ≤ x.id
          split at h5
          · omega
          · omega
        go_wp2_with fail
        refine (hcmp.out _).mono ?_
        rintro e w1 ⟨rfl, hb1⟩
        have hB1 := hBd.trans (hb1.mono hBd.size)
        go_wp2
        go_roundg (md - lo)
        case measure => omega
        case rel =>
          refine ⟨lo, md, rfl, rfl, by omega, by omega, Nat.le_refl _, hB1, ⟨I.out.1, fun t h ht => ?_⟩⟩
          by_cases he : t = md
          · subst he; rw [Hx.out]; exact hxn.out
          · have := Hs.out md t hmid h (by omega)
            rw [Hx.out] at this
            have := hxn.out
            omega
    · obtain rfl : hi = lo := by omega
      have HC : Hid (Cut n l hi) := ⟨hin, I.out.1, I.out.2⟩
      by_cases hlt2 : hi < l.length
      · obtain ⟨b, off, rfl, hb, hc⟩ := hr.elem Spot.size_cells (by omega) hlt2
        have h1 := (hB.cell (p := ⟨b, off + hi * 3 + 0, none⟩) hb).trans (hc 0 _ rfl)
        have h2 := (hB.cell (p := ⟨b, off + hi * 3 + 1, none⟩) hb).trans (hc 1 _ rfl)
        have h3 := (hB.cell (p := ⟨b, off + hi * 3 + 2, none⟩) hb).trans (hc 2 _ rfl)
        clear hc hr
        simp only [Nat.add_zero] at h1
        have hbx : b < wr.heap.size := by omega
        have hcmp : Hid (∀ W, Calls _ _ _ W fun e w' => e = .returned (.int .i64 (Lib.compareInt l[hi].id n)) ∧ Below W.heap.size W w') := fun W => compare_any n l[hi] W
        have hhd : Hid (headB n l hi = decide (Lib.compareInt l[hi].id n = 0)) := by
          show headB n l hi = _
          unfold headB Lib.compareInt
          rw [List.getElem?_eq_getElem hlt2]
          simp only
          split
          · simp; omega
          · split
            · simp; omega
            · simp; omega
        obtain ⟨x, hx⟩ : ∃ x, l[hi] = x := ⟨_, rfl⟩
        rw [hx] at h1 h2 h3 hcmp hhd
        clear hx
        have mixed : Tryz.prog.follows .mixedOrders = true := by kernel_rfl
        have g1 : ∀ (q : Nat) (os : Array Obj), (Sort.grow (wr.drewN q) os).cell? ⟨b, off + hi * 3, none⟩ = some (.int .i64 x.id) := fun q os => cell_grown (by exact hbx) h1 q os
        have g2 : ∀ (q : Nat) (os : Array Obj), (Sort.grow (wr.drewN q) os).cell? ⟨b, off + hi * 3 + 1, none⟩ = some (.int .i64 x.ver) := fun q os => cell_grown (by exact hbx) h2 q os
        have g3 : ∀ (q : Nat) (os : Array Obj), (Sort.grow (wr.drewN q) os).cell? ⟨b, off + hi * 3 + 2, none⟩ = some (.string x.text) := fun q os => cell_grown (by exact hbx) h3 q os
        clear hcmp
        have hcmp := Lib.hid (fun W => compare_grown n x W)
        go_wp2_with fail
        go_quiet_grown (refine Calls.grown_of (hcmp.out _))
        go_wp2
        go_ret2
        refine ⟨hB.trans (below_grow _ _ _ _ hz), hi, HC.out, ?_⟩
        rw [hhd.out, decide_beq]
        rfl
      · have mixed : Tryz.prog.follows .mixedOrders = true := by kernel_rfl
        clear hr Hs I hlh hg hlt eg
        go_wp2_with fail
        go_still (by kernel_rfl)
        change Exit.then _ _ _ _ wr.drew
        have hBd := hB.drew
        generalize wr.drew = wd at *
        go_wp2
        go_ret2
        refine ⟨hBd, hi, HC.out, ?_⟩
        unfold headB
        rw [List.getElem?_eq_none (by omega)]
        rfl
end Go.Proofs.YtfbhfimejcdopaaGreatDoor

/- Rows of cells: append where there is room (any source, overlapping too), clear. No program in sight. -/
namespace Go.Han
open Go.RowKit
section
variable {P : Program} (w : World)

theorem run_append_rows (t ty elem size : Nat) (ht : P.underlying t = some (.slice elem)) {i : TypeInfo} (hi : P.info? elem = some i) (hs : i.size = size) (g sLen sCap : Nat) (A : Option Addr) (m mCap : Nat) (cur cs : List Value)
    (hg : Row w g elem cur) (hn : cs.length = m * size) (hsrc : Rd w A cs) (hroom : sLen + m ≤ sCap) (hfit : sLen * size + cs.length ≤ cur.length) (h1 : ∀ v ∈ cs, v.oneCell' = true) :
    (Builtin.append_ #[t, t] ty #[.slice (some ⟨g, 0, none⟩) sLen sCap, .slice A m mCap]).run P w = .ok (.slice (some ⟨g, 0, none⟩) (sLen + m) sCap) (w.setRow g (splice cur (sLen * size) cs).toArray) := by
  subst hs
  have hfc : (Builtin.firstCells i.size m (.slice A m mCap)).run P w = .ok cs.toArray w := by
    rcases hsrc with rfl | ⟨b, off, rfl, _, hc⟩
    · cases A with
      | none => exact run_firstCells_none w _ _ _ _
      | some a => exact run_firstCells_some w _ _ a m mCap [] (by simpa using hn) (by simp)
    · exact run_firstCells_some w _ _ ⟨b, off, none⟩ m mCap cs hn (fun j v hv => by rw [add_none]; exact hc j v hv)
  have hst := run_storeCells_at (P := P) g (sLen * i.size) elem cs 0 cur.toArray w hg (by simpa using hfit) h1
  simp only [Nat.add_zero] at hst
  simp [Builtin.append_, run_underlying ht, sizeOf, typeInfo, hi, Builtin.lenOf, hroom, hfc, Addr.add_lit, hst, splice, List.append_assoc]

theorem wpList_append_rows {ops : Array Oper} {rest : List Oper} {o : Oper} {a : Act} {Q : Exit → Act → World → Prop} (hgd : o.guard = none) (s x : Operand) (t : TypeId) (ho : o.op = .call { callee := .builtin .append, args := #[s, x], argTypes := #[t, t] })
    (elem size : Nat) (ht : P.underlying t = some (.slice elem)) {i : TypeInfo} (hi : P.info? elem = some i) (hs : i.size = size) (g sLen sCap : Nat) (A : Option Addr) (m mCap : Nat) (cur cs : List Value)
    (hd : a.eval s = .slice (some ⟨g, 0, none⟩) sLen sCap) (hx : a.eval x = .slice A m mCap)
    (hg : Row w g elem cur) (hn : cs.length = m * size) (hsrc : Rd w A cs) (hroom : sLen + m ≤ sCap) (hfit : sLen * size + cs.length ≤ cur.length) (h1 : ∀ v ∈ cs, v.oneCell' = true)
    (h : ∀ w', Row w' g elem (splice cur (sLen * size) cs) → w.grownBy w' (some g) → w'.heap.size = w.heap.size → wpList P ops Q rest (a.put o.dst (.slice (some ⟨g, 0, none⟩) (sLen + m) sCap)) w') : wpList P ops Q (o :: rest) a w := by
  refine wpList_plain hgd fun K hK => ?_
  have hr := run_append_rows (P := P) w t o.type elem size ht hi hs g sLen sCap A m mCap cur cs hg hn hsrc hroom hfit h1
  obtain ⟨r1, r2, r3⟩ := setRow_row w hg (splice cur (sLen * size) cs)
  unfold Oper.wp execOp
  simp only [ho, resolve, invoke, builtin, Sem.run_bind, Sem.run_pure, Result.andThen_ok, List.map_toArray, List.map_cons, List.map_nil, hd, hx, hr]
  exact hK _ _ (h _ r1 r2 r3)

theorem run_clear_rows (t ty elem size : Nat) (ht : P.underlying t = some (.slice elem)) {i : TypeInfo} (hi : P.info? elem = some i) {z : Value} (hz : i.zero = some z) (hzs : z.cells.size = size) (g off n c : Nat) (hn : 0 < n) (cur : List Value)
    (hg : Row w g elem cur) (hfit : off + n * size ≤ cur.length) (h1 : ∀ v ∈ (Builtin.zeroCells z.cells n).toList, v.oneCell' = true) :
    (Builtin.clear_ #[t] ty #[.slice (some ⟨g, off, none⟩) n c]).run P w = .ok (.tuple #[]) (w.setRow g (splice cur off (Builtin.zeroCells z.cells n).toList).toArray) := by
  have hv : ∀ w, (zeroValue elem).run P w = .ok z w := fun w => by simp [zeroValue, typeInfo, hi, hz]
  have hst := run_storeCells_at (P := P) g off elem (Builtin.zeroCells z.cells n).toList 0 cur.toArray w hg (by simp [size_zeroCells, hzs]; omega) h1
  simp only [Nat.add_zero] at hst
  obtain ⟨m, rfl⟩ : ∃ m, n = m + 1 := ⟨n - 1, by omega⟩
  simp [Builtin.clear_, run_underlying ht, hv, hst, splice, List.append_assoc]

theorem wpList_clear_rows {ops : Array Oper} {rest : List Oper} {o : Oper} {a : Act} {Q : Exit → Act → World → Prop} (hgd : o.guard = none) (s : Operand) (t : TypeId) (ho : o.op = .call { callee := .builtin .clear, args := #[s], argTypes := #[t] })
    (elem size : Nat) (ht : P.underlying t = some (.slice elem)) {i : TypeInfo} (hi : P.info? elem = some i) {z : Value} (hz : i.zero = some z) (hzs : z.cells.size = size) (g off n c : Nat) (hn : 0 < n) (cur : List Value)
    (hd : a.eval s = .slice (some ⟨g, off, none⟩) n c) (hg : Row w g elem cur) (hfit : off + n * size ≤ cur.length) (h1 : ∀ v ∈ (Builtin.zeroCells z.cells n).toList, v.oneCell' = true)
    (h : ∀ w' zs, Row w' g elem (splice cur off zs) → zs.length = n * size → w.grownBy w' (some g) → w'.heap.size = w.heap.size → wpList P ops Q rest (a.put o.dst (.tuple #[])) w') : wpList P ops Q (o :: rest) a w := by
  refine wpList_plain hgd fun K hK => ?_
  have hr := run_clear_rows (P := P) w t o.type elem size ht hi hz hzs g off n c hn cur hg hfit h1
  obtain ⟨r1, r2, r3⟩ := setRow_row w hg (splice cur off (Builtin.zeroCells z.cells n).toList)
  unfold Oper.wp execOp
  simp only [ho, resolve, invoke, builtin, Sem.run_bind, Sem.run_pure, Result.andThen_ok, List.map_toArray, List.map_cons, List.map_nil, hd, hr]
  exact hK _ _ (h _ _ r1 (by simp [size_zeroCells, hzs]) r2 r3)

theorem run_storeAt_rows (ty elem size : Nat) {i : TypeInfo} (hi : P.info? ty = some i) (hs : i.size = size) (g off : Nat) (cells : Array Value) (cur : List Value)
    (hg : Row w g elem cur) (hn : cells.size = size) (hfit : off + size ≤ cur.length) (h1 : ∀ v ∈ cells.toList, v.oneCell' = true) :
    (Instr.storeAt ty (.pointer (some ⟨g, off, none⟩)) (.agg cells)).run P w = .ok () (w.setRow g (splice cur off cells.toList).toArray) := by
  have hst := run_storeCells_at (P := P) g off elem cells.toList 0 cur.toArray w hg (by simp [hn]; omega) h1
  simp only [Nat.add_zero] at hst
  have hsz : ∀ w, (Go.sizeOf ty).run P w = .ok cells.size w := fun w => by simp [Go.sizeOf, typeInfo, hi, hs, hn]
  simp [Instr.storeAt, storeVar, Instr.sureAddr, Value.cells, hsz, hst, splice, List.append_assoc]

theorem wpList_store_rows {ops : Array Oper} {rest : List Oper} {o : Oper} {a : Act} {Q : Exit → Act → World → Prop} (hgd : o.guard = none) (p x : Operand) (ty : TypeId) (ho : o.op = .store ty p x)
    (elem size : Nat) {i : TypeInfo} (hi : P.info? ty = some i) (hs : i.size = size) (g off : Nat) (cells : Array Value) (cur : List Value)
    (hd : a.eval p = .pointer (some ⟨g, off, none⟩)) (hx : a.eval x = .agg cells) (hg : Row w g elem cur) (hn : cells.size = size) (hfit : off + size ≤ cur.length) (h1 : ∀ v ∈ cells.toList, v.oneCell' = true)
    (h : ∀ w', Row w' g elem (splice cur off cells.toList) → w.grownBy w' (some g) → w'.heap.size = w.heap.size → wpList P ops Q rest (a.put o.dst undef) w') : wpList P ops Q (o :: rest) a w := by
  refine wpList_plain hgd fun K hK => ?_
  have hr := run_storeAt_rows (P := P) w ty elem size hi hs g off cells cur hg hn hfit h1
  obtain ⟨r1, r2, r3⟩ := setRow_row w hg (splice cur off cells.toList)
  unfold Oper.wp execOp
  simp only [ho, Sem.run_bind, Sem.run_pure, Result.andThen_ok, hd, hx, hr]
  exact hK _ _ (h _ r1 r2 r3)
end
end Go.Han

/- slices.Delete of one element at hansard/api.Spot: out of a slice of one's own. -/
namespace Go.Proofs.YtfbhfimejcdopaaGreatDoor
open Go.RowKit Go.Han
attribute [local irreducible] wpStill wpQuiet

theorem zero1_spot : ((Tryz.prog.info? 37).bind (·.zero)).map (fun z => (Builtin.zeroCells z.cells 1).toList.all (·.oneCell')) = some true := by kernel_rfl

def DelPost_spot (base n : Nat) (v : Value) (zs : List Value) (w : World) (e : Ending) (w' : World) : Prop :=
  ∃ v', e = .returned v' ∧ w'.ownsRow base 37 3 v' n zs ∧ w.grownBy w' v.ownBlock ∧ v'.ownBlock = v.ownBlock

set_option maxRecDepth 100000 in
set_option maxHeartbeats 1000000 in
theorem delete_spot (base k i : Nat) (v : Value) (xs : List Value) (w : World) (hown : w.ownsRow base 37 3 v (k + 1) xs) (hin : i ≤ k) (hx1 : ∀ u ∈ xs, u.oneCell' = true) (hn : k + 1 ≤ 1000000) :
    Calls Tryz.prog 58 #[v, .int .i64 i, .int .i64 ((i : Int) + 1)] w (DelPost_spot base k v (xs.take (i * 3) ++ xs.drop ((i + 1) * 3)) w) := by
  obtain ⟨i0, z, hi0, hz0, hs0, hb0, hzs⟩ := parts_spot
  have hz1' : ∀ v ∈ (Builtin.zeroCells z.cells 1).toList, v.oneCell' = true := by
    have h := zero1_spot
    rw [hi0] at h
    simp only [Option.bind_some, hz0, Option.map_some, Option.some.injEq] at h
    exact List.all_eq_true.1 h
  have hxl := hown.1
  obtain ⟨g, c, cur, rfl, hbg, hrow, hnc, hcm, hcs, htk⟩ : ∃ g cap cur, v = .slice (some ⟨g, 0, none⟩) (k + 1) cap ∧ base ≤ g ∧ w.heap[g]? = some (.cells cur 37 (0, 0)) ∧ k + 1 ≤ cap ∧ cap ≤ maxLen ∧ cur.size = cap * 3 ∧ cur.toList.take ((k + 1) * 3) = xs := by
    rcases hown.2 with ⟨_, h0⟩ | h
    · omega
    · exact h
  have hR : Row w g 37 (xs ++ cur.toList.drop ((k + 1) * 3)) := by
    unfold Row
    rw [← htk, List.take_append_drop]
    exact hrow
  have hRl : (xs ++ cur.toList.drop ((k + 1) * 3)).length = c * 3 := by
    rw [← htk, List.take_append_drop, Array.length_toList]; exact hcs
  generalize cur.toList.drop ((k + 1) * 3) = R at *
  clear hrow hcs htk cur hown
  unfold maxLen at hcm
  have Hcm := Lib.hid hcm
  have hnci : ((k : Int) + 1) ≤ (c : Int) := by omega
  have hi1 : (i : Int) ≤ (i : Int) + 1 := by omega
  have hi2 : (i : Int) + 1 ≤ (k : Int) + 1 := by omega
  have hi0' : (0 : Int) ≤ (i : Int) + 1 := by omega
  have hw2 : ((i : Int) + 1).toNat = i + 1 := by omega
  have hii : ¬ ((i : Int) = (i : Int) + 1) := by omega
  have hik : i ≤ k + 1 := by omega
  have hic : i ≤ c := by omega
  have hic2 : i + 1 ≤ c := by omega
  have hic3 : (i : Int) + 1 ≤ (c : Int) := by omega
  have hA : Rd w (if c = i + 1 then some ⟨g, 0, none⟩ else some ⟨g, (i + 1) * 3, none⟩) (xs.drop ((i + 1) * 3)) := by
    by_cases h : c = i + 1
    · have : xs.drop ((i + 1) * 3) = [] := List.drop_of_length_le (by rw [hxl]; exact Nat.mul_le_mul_right _ (by omega))
      rw [this]; exact .inl rfl
    · rw [if_neg h]
      refine hR.rd _ fun j u hu => ?_
      rw [List.getElem?_drop] at hu
      rw [List.getElem?_append_left (List.getElem?_eq_some_iff.1 hu).1]
      exact hu
  obtain ⟨A, hAe⟩ : ∃ A : Option Addr, (if c = i + 1 then some ⟨g, 0, none⟩ else some ⟨g, (i + 1) * 3, none⟩) = A := ⟨_, rfl⟩
  rw [hAe] at hA
  go_enter Tryz.func58, Tryz.ntmps58
  go_wp2_with fail
  go_still_tail 6, (by kernel_rfl)
  change wpList _ _ _ _ _ w.drew
  generalize hwd : w.drew = w2
  have hR2 : Row w2 g 37 (xs ++ R) := by rw [← hwd]; exact hR
  have hA2 : Rd w2 A (xs.drop ((i + 1) * 3)) := by rw [← hwd]; exact hA
  have hbd : w.grownBy w2 (some g) := by rw [← hwd]; exact ⟨rfl, rfl, rfl, Nat.le_refl _, fun _ _ _ => rfl⟩
  clear hwd hR hA
  have hdl : (xs.drop ((i + 1) * 3)).length = (k - i) * 3 := by
    rw [List.length_drop, hxl, ← Nat.sub_mul]; congr 1; omega
  have hki : i + (k - i) = k := by omega
  have hkS : i * 3 + (k - i) * 3 = k * 3 := by rw [← Nat.add_mul, hki]
  have hkS1 : (k + 1) * 3 = k * 3 + 3 := Nat.succ_mul _ _
  have hcS : (k + 1) * 3 ≤ c * 3 := Nat.mul_le_mul_right _ hnc
  have hikS : i * 3 ≤ k * 3 := Nat.mul_le_mul_right _ hin
  have hkc1 : ¬ c = k := by omega
  have hk1 : k ≤ k + 1 := by omega
  have hkc : k ≤ c := by omega
  have hcl : (splice (xs ++ R) (i * 3) (xs.drop ((i + 1) * 3))).length = c * 3 := by
    unfold splice
    simp only [List.length_append, List.length_take, hxl] at hRl ⊢
    rw [List.length_drop (l := xs ++ R), List.length_append, hxl, hdl]
    omega
  refine wpList_append_rows w2 rfl (.tmp 22) (.tmp 25) 22 rfl 37 3 Tryz.underlying22 hi0 hs0 g i c A (k - i) (c - (i + 1)) (xs ++ R) (xs.drop ((i + 1) * 3)) rfl rfl hR2 hdl hA2 (by omega) (by rw [hdl, hRl]; omega) (fun u hu => hx1 u (List.mem_of_mem_drop hu)) fun w3 hR3 hg3 hs3 => ?_
  rw [hki]
  clear hAe hA2 hR2
  go_wp2_with (with_reducible (refine wpList_clear_rows w3 rfl (.tmp 31) 22 rfl 37 3 Tryz.underlying22 hi0 hz0 hzs g (k * 3) 1 (c - k) (by decide) _ ?_ hR3 ?_ hz1' fun w4 zs hR4 hzl hg4 hs4 => ?_))
  all_goals try (rfl; done)
  · rw [hcl]; omega
  · go_ret
    have hzl' : zs.length = 3 := by omega
    have hdl' : (xs.take (i * 3) ++ xs.drop ((i + 1) * 3)).length = k * 3 := by
      rw [List.length_append, hdl, List.length_take, hxl]; omega
    refine ⟨_, rfl, ⟨hdl', .inr ⟨g, c, _, rfl, hbg, hR4, hkc, by unfold maxLen; exact Hcm.out, ?_, ?_⟩⟩, (hbd.trans hg3).trans hg4, rfl⟩
    · generalize splice (xs ++ R) (i * 3) (xs.drop ((i + 1) * 3)) = L at hcl
      unfold splice
      simp only [List.size_toArray, List.length_append, List.length_take, List.length_drop, hcl, hzl']
      omega
    · have e1 : splice (xs ++ R) (i * 3) (xs.drop ((i + 1) * 3)) = (xs.take (i * 3) ++ xs.drop ((i + 1) * 3)) ++ (xs ++ R).drop (i * 3 + (xs.drop ((i + 1) * 3)).length) := by
        unfold splice
        rw [List.take_append_of_le_length (by omega), List.append_assoc]
      rw [e1, splice_at _ _ _ _ hdl']
      exact List.take_left' hdl'
end Go.Proofs.YtfbhfimejcdopaaGreatDoor
