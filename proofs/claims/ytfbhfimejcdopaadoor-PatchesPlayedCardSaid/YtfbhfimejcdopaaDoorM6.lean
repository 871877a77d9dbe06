/- Texts of this claim, one after the other: Pat1, KeysI, Pat2, Pat3, Pat4, Ref49k, PatL, True, Pat5, Step, Pat6. -/
import Derived.Test.YtfbhfimejcdopaaDoorM4
import Derived.Test.YtfbhfimejcdopaaDoorM5
import Derived.Test.YtfbhfimejcdopaaDoorIter
import Derived.Test.YtfbhfimejcdopaaDoorM1
import Derived.Test.YtfbhfimejcdopaaDoorM2
import Derived.Deep.RegionWith
import Derived.BigQuiet
import Derived.Shelf.SlMaps.Clone
import Derived.Shelf.SlIterI.Sorted
import Derived.Shelf.SlIterI.Nil
import Derived.Stop.RegionWithIn
import Derived.Sort.QuietTacIn
import Derived.Deep.Draws
import Derived.IntWalk
import Derived.WalkMore
import Derived.Deep.RegionLaw
import Derived.Deep.DrawnRows
import Derived.Deep.Upon
import Derived.Maps.AppendAt
import Derived.Deep.AppendLies
/- Package patches: maps from ids to spots: index, Clone, Copy. -/
namespace Go.Proofs.YtfbhfimejcdopaaDoor
open Go.RowKit Go.Han
attribute [local irreducible] wpStill wpQuiet
set_option maxRecDepth 100000

def idS : KeyShape Tryd.prog 3 Int := intShape Tryd.underlying3
theorem keyed_id : Maps.Keyed Tryd.prog 3 := Maps.int_keyed Tryd.underlying3
theorem spot_inj (x y : Spot) (h : x.val = y.val) : x = y := by
  obtain ⟨c, d, s⟩ := x
  obtain ⟨c', d', s'⟩ := y
  simp [Spot.val] at h
  obtain ⟨rfl, rfl, rfl⟩ := h
  rfl
def spE : ElemShape Spot := ⟨Spot.val, spot_inj⟩
theorem good_id {n : Int} (h : idB n = true) : idS.good n := by
  unfold idB at h
  simp at h
  show (Lit.int .i64 n).wf = true
  simp [Lit.wf, IntKind.min, IntKind.max, IntKind.signed, IntKind.bits]; omega
theorem zero_spot (w : World) : (zeroValue 52).run Tryd.prog w = .ok (spE.val ⟨0, 0, ⟨#[]⟩⟩) w := by kernel_rfl
theorem ok_idB {x : Spot} (h : x.ok = true) : idB x.id = true := by
  unfold Spot.ok at h
  simp only [Bool.and_eq_true] at h
  exact h.1.1

theorem id51_any (x : Spot) (w : World) : Calls Tryd.prog 92 #[.agg #[.int .i64 x.id, .int .i64 x.ver, .string x.text]] w fun e w' => e = .returned (.int .i64 x.id) ∧ w.alloc (.cells #[.int .i64 x.id, .int .i64 x.ver, .string x.text] 52) = w' := by
  go_enter Tryd.func92, Tryd.ntmps92
  go_wp2
  go_ret
  exact ⟨rfl, rfl⟩
def IdIn (y : Spot) (f : Int → Option Spot) (k b : Nat) (w5 : World) (e : Ending) (w' : World) : Prop :=
  ∃ w9, e = .returned (.int .i64 y.id) ∧ Below w5.heap.size w5 w' ∧ (Instr.mapUpdate 131 (.map (some w5.heap.size)) (.int .i64 y.id) (.agg #[.int .i64 y.id, .int .i64 y.ver, .string y.text])).run Tryd.prog w' = .ok () w9 ∧
    MapF w9 idS spE w5.heap.size (k + 1) (fun n => if n = y.id then some y else f n) ∧ w'.grownBy w9 (some w5.heap.size) ∧ w9.heap.size = w'.heap.size ∧ w'.cell? ⟨b, 0, none⟩ = some (.int .i64 y.id) ∧ w'.cell? ⟨b, 1, none⟩ = some (.int .i64 y.ver) ∧ w'.cell? ⟨b, 2, none⟩ = some (.string y.text)

set_option maxHeartbeats 4000000 in
theorem index_any (A : Option Addr) (cp : Nat) (l : List Spot) (w : World) (hr : Rd w A (flat l)) (hc : checkE l = 0) :
    Calls Tryd.prog 91 #[.slice A l.length cp, .func (.func 92) #[] #[]] w fun e w' => e = .returned (.map (some w.heap.size)) ∧ MapF w' idS spE w.heap.size l.length (fun n => getS n l) ∧ Below w.heap.size w w' := by
  have hmm := @run_makeMap Tryd.prog
  obtain ⟨hl, hok, hasc⟩ := (checkE_iff l).1 hc
  have Hr := Lib.hid hr
  have Hok := Lib.hid hok
  have Hasc := Lib.hid hasc
  clear hr hok hasc hc
  go_enter Tryd.func91, Tryd.ntmps91
  go_wp2_with fail
  go_loopw [11] (fun i wr => ∃ k : Nat, k ≤ l.length ∧ i = .int .i64 k ∧ Below w.heap.size w wr ∧ MapF wr idS spE w.heap.size k (fun n => getS n (l.take k))) (fun i _ => l.length - (intOf i).toNat)
  case atStart => exact ⟨0, Nat.zero_le _, rfl, ext_alloc (Below.refl _ _) _, MapF.made _ _ _⟩
  case round =>
    obtain ⟨k, hk, rfl, hB, hmap⟩ := hrel
    by_cases hlt : k < l.length
    · obtain ⟨b, off, rfl, hb, hcl⟩ := Hr.out.elem Spot.size_cells (by omega) hlt
      have d0 := (hB.cell (p := ⟨b, off + k * 3 + 0, none⟩) hb).trans (hcl 0 _ rfl)
      have d1 := (hB.cell (p := ⟨b, off + k * 3 + 1, none⟩) hb).trans (hcl 1 _ rfl)
      have d2 := (hB.cell (p := ⟨b, off + k * 3 + 2, none⟩) hb).trans (hcl 2 _ rfl)
      simp only [Nat.add_zero] at d0
      have hgd : idS.good l[k].id := good_id (ok_idB (Hok.out _ (List.getElem_mem hlt)))
      have htk : l.take (k + 1) = l.take k ++ [l[k]] := List.take_succ_eq_append_getElem hlt
      have hno : getS l[k].id (l.take k) = none := by
        refine getS_none (fun x hx => ?_)
        obtain ⟨j, hj, rfl⟩ := List.getElem_of_mem hx
        rw [List.length_take] at hj
        rw [List.getElem_take]
        have := Hasc.out j k (by omega) hlt (by omega)
        omega
      clear hcl
      generalize l[k] = y at *
      have Hfun : Hid (∀ n, idS.good n → getS n (l.take (k + 1)) = if n = y.id then some y else getS n (l.take k)) := by
        intro n _
        rw [htk, getS_app]
        by_cases e : n = y.id
        · subst e; rw [if_pos rfl, hno, getS_cons, if_pos rfl]; rfl
        · rw [if_neg e, getS_cons, if_neg (fun h => e h.symm), getS_nil]; cases getS n (l.take k) <;> rfl
      have Hgd := Lib.hid hgd
      have HMAP := Lib.hid hmap
      have Hkm : Hid (k < maxLen) := by show k < maxLen; unfold maxLen; omega
      obtain ⟨w7, hw7⟩ : ∃ w7, wr.alloc (.cells #[.int .i64 y.id, .int .i64 y.ver, .string y.text] 52) = w7 := ⟨_, rfl⟩
      have hB7 : Below wr.heap.size wr w7 := by rw [← hw7]; exact ext_alloc (Below.refl _ _) _
      have hx7 : w7.heap[wr.heap.size]? = some (.cells #[.int .i64 y.id, .int .i64 y.ver, .string y.text] 52 (0, 0)) := by rw [← hw7]; exact World.alloc_heap_new _ _
      have hB57 := ext_trans hB hB7
      have cA7 : Hid (∀ W, Below w7.heap.size w7 W → Calls Tryd.prog 92 #[.agg #[.int .i64 y.id, .int .i64 y.ver, .string y.text]] W (IdIn y (fun n => getS n (l.take k)) k wr.heap.size w)) := by
        intro W hbW
        have hW5 : Below w.heap.size w W := ext_trans hB57 hbW
        refine (id51_any y W).mono ?_
        rintro e w8 ⟨rfl, rfl⟩
        have hb8 : Below W.heap.size W (W.alloc (.cells #[.int .i64 y.id, .int .i64 y.ver, .string y.text] 52)) := ext_alloc (Below.refl _ _) _
        have hbb := ext_trans hbW hb8
        have hm8 : MapF (W.alloc (.cells #[.int .i64 y.id, .int .i64 y.ver, .string y.text] 52)) idS spE w.heap.size k (fun n => getS n (l.take k)) := HMAP.out.of_block ((ext_trans hB7 hbb).block _ HMAP.out.lt)
        obtain ⟨w9, hrun, hm9, hg9, hs9⟩ := hm8.store _ keyed_id Tryd.underlying131 Hkm.out y.id y Hgd.out
        have hx8 := (hbb.block _ (lt_block hx7)).trans hx7
        exact ⟨w9, rfl, ext_trans hW5 hb8, hrun, hm9, hg9, hs9, gblk hx8 0, gblk hx8 1, gblk hx8 2⟩
      have p0 := gblk hx7 0
      have p1 := gblk hx7 1
      have p2 := gblk hx7 2
      clear hmap htk hno hgd
      go_wp2_with fail
      go_region_with (go_at_call 92; refine (cA7.out _ ?_).mono ?_; (repeat (first | exact Below.refl _ _ | refine ext_drew ?_ | refine ext_alloc ?_ _)); rintro e w8 ⟨w9, rfl, hb8, hrun8, hm8, hg8, hs8, q0, q1, q2⟩)
      all_goals
        have hB9 : Below w.heap.size w w9 := ⟨hg8.os.trans hb8.os, hg8.tape.trans hb8.tape, hg8.output.trans hb8.output, Nat.le_trans hb8.size hg8.size, fun i hi => (hg8.block i (Nat.lt_of_lt_of_le hi hb8.size) (by simp; omega)).trans (hb8.block i hi)⟩
        have hm9 := hm8.congr Hfun.out
        clear q0 q1 q2 hrun8
        go_wp2_with fail
        go_roundw
        case rel => exact ⟨k + 1, by omega, by go_num, hB9, hm9⟩
        case measure => simp [intOf]; omega
    · obtain rfl : k = l.length := by omega
      rw [List.take_length] at hmap
      go_wp2_with fail
      go_ret
      exact ⟨rfl, hmap, hB⟩

set_option maxHeartbeats 2000000 in
theorem cloneM_any (b n : Nat) (f : Int → Option Spot) (w : World) (hm : MapF w idS spE b n f) :
    Calls Tryd.prog 93 #[.map (some b)] w fun e w' => e = .returned (.map (some w.heap.size)) ∧ MapF w' idS spE w.heap.size n f ∧ Below w.heap.size w w' := by
  obtain ⟨D, ⟨es, clock, hb, h2⟩, h3⟩ := hm
  have hq := fun w => run_eql_map_nil_sl (P := Tryd.prog) w 131 _ _ (some b) Tryd.underlying131
  go_enter Tryd.func93, Tryd.ntmps93
  go_wp2
  rw [run_callFunc_extern Tryd.func132 (by kernel_rfl) (by kernel_rfl) (by kernel_rfl) (e := Extern.MapsClone.clone) (by kernel_rfl), run_maps_clone_sl w 131 hb]
  simp only [Result.andThen]
  rw [Oper.upon_value]
  go_wp2
  rw [run_typeAssert_map_sl _ 131 _ _ _ _ Tryd.underlying131]
  simp only [Result.andThen]
  rw [Oper.upon_value]
  go_wp2
  go_ret
  exact ⟨rfl, ⟨D, ⟨es, clock, World.alloc_heap_new _ _, h2⟩, h3⟩, ext_alloc (Below.refl _ _) _⟩
end Go.Proofs.YtfbhfimejcdopaaDoor

/- The keys of a map with int keys, sorted: what they are, by what the map holds. No program in sight. -/
namespace Go.Han
open Go.RowKit Go.Maps

theorem intKeys_facts {H : Type} {P : Program} {k : TypeId} {R : Value → Option (DataW H × List MemPlace)} {w : World} {b n : Nat} {D0 : DataW H} (hown : w.ownsMap P k R b n D0) (K : Keyed P k) (hk : P.underlying k = some (.int .i64)) :
    (intKeys D0).Nodup ∧ ∀ x, x ∈ intKeys D0 ↔ has D0 (.int .i64 x) = true := by
  obtain ⟨es, hD, hpw, _⟩ := hown.entries K
  obtain ⟨es', hD', hko⟩ := hown.keysOf
  obtain rfl : es = es' := by rw [hD] at hD'; simpa using hD'
  subst hD
  have hkx : ∀ p ∈ es, ∃ x, p.1 = .int .i64 x := fun p hp => by
    obtain ⟨v, hv⟩ := hko p hp
    obtain ⟨x, _, hx, _⟩ := Maps.keyOf_i64 hk hv
    exact ⟨x, hx⟩
  refine ⟨?_, fun x => ?_⟩
  · show (es.map fun p => Go.intOf p.1).Nodup
    refine List.pairwise_map.2 (hpw.imp_of_mem fun {p q} hp' hq' hne e => hne ?_)
    obtain ⟨a, ha⟩ := hkx p hp'
    obtain ⟨b, hb⟩ := hkx q hq'
    rw [ha, hb] at e ⊢
    exact congrArg _ e
  · rw [has_eq, List.any_eq_true]
    show x ∈ (es.map fun p => Go.intOf p.1) ↔ _
    rw [List.mem_map]
    constructor
    · rintro ⟨p, hp', rfl⟩
      obtain ⟨a, ha⟩ := hkx p hp'
      exact ⟨p, hp', by rw [ha]; simp [Lit.sameKey, Go.intOf]⟩
    · rintro ⟨p, hp', hs⟩
      obtain ⟨a, ha⟩ := hkx p hp'
      rw [ha] at hs
      exact ⟨p, hp', by rw [ha]; simpa [Lit.sameKey, Go.intOf] using hs⟩
theorem sort_asc {l : List Int} (h : l.Nodup) : (l.mergeSort (fun x y => decide (x ≤ y))).Pairwise (fun a b => a < b) := by
  have tr : ∀ a b c : Int, decide (a ≤ b) = true → decide (b ≤ c) = true → decide (a ≤ c) = true := fun a b c h1 h2 => by simp at *; omega
  have to : ∀ a b : Int, (decide (a ≤ b) || decide (b ≤ a)) = true := fun a b => by simp; omega
  have h1 := List.pairwise_mergeSort tr to l
  have h2 : (l.mergeSort (fun x y => decide (x ≤ y))).Nodup := (List.mergeSort_perm l _).nodup_iff.2 h
  refine (h1.and h2).imp (fun hab => ?_)
  have := hab.1
  simp at this
  have := hab.2
  omega
/-- The sorted keys. -/
structure SortedKeys (P : Program) {k : TypeId} (hk : P.underlying k = some (.int .i64)) {β : Type} (f : Int → Option β) (T : List Int) : Prop where
  asc : T.Pairwise (fun a b => a < b)
  mem : ∀ x, x ∈ T ↔ ((intShape hk).good x ∧ (f x).isSome = true)
theorem sorted_keys {β : Type} {P : Program} {k : TypeId} (hk : P.underlying k = some (.int .i64)) {E : ElemShape β} {w : World} {b n : Nat} {D : DataW β} {f : Int → Option β} (hown : w.ownsMap P k E.read b n D) (hf : HoldsAt (intShape hk) D f) {ss : List Int} (hp : ss.Perm (intKeys D)) :
    SortedKeys P hk f (ss.mergeSort (fun x y => decide (x ≤ y))) := by
  obtain ⟨h1, h2⟩ := intKeys_facts hown (Maps.int_keyed hk) hk
  have h3 := intKeys_wf hown hk
  have hnd : ss.Nodup := hp.nodup_iff.2 h1
  refine ⟨sort_asc hnd, fun x => ?_⟩
  rw [List.mem_mergeSort, hp.mem_iff, h2 x]
  constructor
  · intro h
    have hg : (Lit.int .i64 x).wf = true := h3 x ((h2 x).2 h)
    refine ⟨hg, ?_⟩
    cases hx : f x with
    | none => have := (hf x hg).1 hx; change has D (.int .i64 x) = false at this; rw [this] at h; cases h
    | some c => rfl
  · rintro ⟨hg, hs⟩
    obtain ⟨c, hc⟩ := Option.isSome_iff_exists.1 hs
    exact ((hf x hg).2 c hc).1
end Go.Han

/- Package patches: the sorted ids of a map; maps.Copy. -/
namespace Go.Proofs.YtfbhfimejcdopaaDoor
open Go.RowKit Go.Han Go.Maps Go.Shelf
attribute [local irreducible] wpStill wpQuiet
set_option maxRecDepth 100000

theorem keysM_any (mb : Option Nat) (w : World) : Calls Tryd.prog 96 #[.map mb] w fun e w' => e = .returned (.func (.func 134) #[] #[.pointer (some ⟨w.heap.size, 0, none⟩)]) ∧ w.alloc (.cells #[.map mb] 131) = w' := by
  have hmf : ∀ (fn : Fn) (first cap : Array Value) (w : World), (Instr.makeFunc fn first cap).run Tryd.prog w = .ok (.func fn first cap) w := fun _ _ _ _ => rfl
  go_enter Tryd.func96, Tryd.ntmps96
  go_wp2
  go_ret
  exact ⟨rfl, rfl⟩
theorem sortsA (m : Nat) : AnyZI.SortsIn Tryd.prog Tryd.sortedA_ren Fence.wide m :=
  ⟨fun blk off cap ss W hH hblk hsz => callsIn_wide.2 (AnyM.slices_Sort_int Tryd.sortA blk off cap ss W hH hblk hsz),
   fun p cap W => callsIn_wide.2 (AnyM.slices_Sort_int_none Tryd.sortA p cap W)⟩
def SortPost (f : Int → Option Spot) (w : World) (e : Ending) (w' : World) : Prop :=
  Below w.heap.size w w' ∧ ∃ v T, e = .returned v ∧ SortedKeys Tryd.prog Tryd.underlying3 f T ∧ w'.ownsRow w.heap.size 3 1 v T.length (T.map fun x => Value.int .i64 x)
theorem sortedM_any (b n g : Nat) (f : Int → Option Spot) (w : World) (hm : MapF w idS spE b n f) (hn : n ≤ 100000) (hg : w.heap[g]? = some (.cells #[.map (some b)] 131 (0, 0))) :
    Calls Tryd.prog 95 #[.func (.func 134) #[] #[.pointer (some ⟨g, 0, none⟩)]] w (SortPost f w) := by
  obtain ⟨D, hown, hf⟩ := hm
  have hsz := hown.size_le
  have hseq : SeqGives Fence.wide 2 Tryd.prog 134 #[.pointer (some ⟨g, 0, none⟩)] encZ (fun ss => ss.Perm (intKeys D)) (Maps.size D) w :=
    AnyZI.keys_gives (ρ := Tryd.keysA_ren) { Tryd.keysA with } Fence.wide _ trivial rfl (by omega) g b n D _ (lt_block hg) (by rw [gblk hg]; rfl) hown
  have cS := AnyZI.sorted_in Tryd.sortedA Fence.wide 5 trivial trivial trivial trivial rfl (by omega) (sortsA _) (enters_of Tryd.func133 (by kernel_rfl) rfl) 134 #[.pointer (some ⟨g, 0, none⟩)] trivial (enters_of Tryd.func134 (by kernel_rfl) rfl) _ _ (by unfold maxLen; omega) (by omega) _ hseq
  change CallsIn _ _ Tryd.prog 95 _ _ _ at cS
  refine ((callsIn_wide (n := 5)).1 cS).mono ?_
  rintro e w' ⟨v, ss, rfl, hp, hrow, _, hb⟩
  refine ⟨hb, v, _, rfl, sorted_keys Tryd.underlying3 hown hf hp, ?_⟩
  rw [List.length_mergeSort]
  exact hrow
end Go.Proofs.YtfbhfimejcdopaaDoor

/- Package patches: maps.Copy at maps from ids to spots. -/
namespace Go.Han
open Go.RowKit Go.Maps
section
variable {α β : Type} {P : Program} {k : TypeId} (w : World) {ops : Array Oper} {rest : List Oper} {o : Oper} {a : Act} {Q : Exit → Act → World → Prop}
/-- range m, with how many entries are to come. -/
theorem wpList_range_f2 (hg : o.guard = none) (m : Operand) (t : TypeId) (hop : o.op = Op.range t m) (e : TypeId) (K : Keyed P k) (ht : P.underlying t = some (.map k e)) (S : KeyShape P k α) (E : ElemShape β) (b n : Nat) (f : α → Option β)
    (hm : a.eval m = .map (some b)) (hown : MapF w S E b n f)
    (hK : ∀ w' cnt, cnt ≤ n → RangeF w' S E b w.heap.size n f (fun x => (f x).isSome) cnt → w.grownBy w' none → w'.heap.size = w.heap.size + 1 → wpList P ops Q rest (a.put o.dst (.pointer (some ⟨w.heap.size, 0, none⟩))) w') :
    wpList P ops Q (o :: rest) a w := by
  obtain ⟨D, h1, h2⟩ := hown
  have hsz := h1.size_le
  refine wpList_range_own w hg m t hop k e K ht E.read b n D hm h1 fun w' hr hgr hs => hK w' _ hsz ⟨D, Maps.has D, hr, h2, fun x hx => ?_, fun l hl => ?_⟩ hgr hs
  · obtain ⟨g1, g2⟩ := h2 x hx
    show (f x).isSome = _
    cases hf : f x with
    | none => exact (g1 hf).symm
    | some c => exact ((g2 c hf).1).symm
  · obtain ⟨es', clock, _, F, _, hD⟩ := h1
    subst hD
    obtain ⟨p, hp, hpk⟩ := List.any_eq_true.1 hl
    obtain ⟨y, hy, rfl⟩ := List.mem_map.1 (mem_sorted.1 hp)
    obtain ⟨z, hz⟩ := F.reads y hy
    have hk' := WideElems.rd_key hz
    have e1 : (WideElems.rg P k E.read y).1 = z.1 := by rw [WideElems.rg_of hz]
    obtain ⟨x, hx, _, hl'⟩ := S.inv _ _ hk'
    exact ⟨x, hx, by rw [← hl', ← e1]; exact (WideAt.sameKey_eq hpk).symm⟩
end
end Go.Han
namespace Go.Proofs.YtfbhfimejcdopaaDoor
open Go.RowKit Go.Han
attribute [local irreducible] wpStill wpQuiet
set_option maxRecDepth 100000

def mergeF (fd fs : Int → Option Spot) (left : Int → Bool) (n : Int) : Option Spot := if left n = true then fd n else (fs n).or (fd n)
theorem mergeF_step {fd fs : Int → Option Spot} {left : Int → Bool} {x : Int} {c : Spot} (hl : left x = true) (hf : fs x = some c) (n : Int) :
    mergeF fd fs (fun y => left y && !decide (y = x)) n = if n = x then some c else mergeF fd fs left n := by
  unfold mergeF
  by_cases e : n = x
  · subst e
    rw [if_pos rfl, if_neg (by simp), hf]; rfl
  · rw [if_neg e]
    simp [e]
set_option maxHeartbeats 4000000 in
theorem copyM_any (bd bs nd ns : Nat) (fd fs : Int → Option Spot) (w : World) (hd : MapF w idS spE bd nd fd) (hs : MapF w idS spE bs ns fs) (hne : bd ≠ bs) (hroom : nd + ns ≤ 100000) :
    Calls Tryd.prog 94 #[.map (some bd), .map (some bs)] w fun e w' => e = .returned (.tuple #[]) ∧ MapF w' idS spE bd (nd + ns) (fun n => (fs n).or (fd n)) ∧ MapF w' idS spE bs ns fs ∧ w.grownBy w' (some bd) := by
  have hbd := hd.lt
  have hbs := hs.lt
  go_enter Tryd.func94, Tryd.ntmps94
  go_wp2_with (at_range; refine wpList_range_f2 _ rfl _ 131 rfl 52 keyed_id Tryd.underlying131 idS spE bs ns _ rfl hs ?_; intro w7 cnt0 hcnt hrg0 hg0 hs0)
  go_frame
  go_loopw [8] (fun _ wr => ∃ left cnt m, RangeF wr idS spE bs w.heap.size ns fs left cnt ∧ m + cnt ≤ nd + ns ∧ MapF wr idS spE bd m (mergeF fd fs left) ∧ w.grownBy wr (some bd)) (fun _ wr => wr.rangeLeft bs w.heap.size)
  case atStart =>
    refine ⟨_, _, nd, hrg0, by omega, (hd.of_block (hg0.block bd hbd (by simp))).congr (fun x _ => ?_), ⟨hg0.os, hg0.tape, hg0.output, by omega, fun i hi _ => hg0.block i hi (by simp)⟩⟩
    show (if (fs x).isSome = true then fd x else (fs x).or (fd x)) = fd x
    cases h : fs x
    · rfl
    · rfl
  case round =>
    obtain ⟨left, cnt, m, hrg, hmc, hm, hgw⟩ := hrel
    go_wp2_with (at_next; refine wpList_next_f _ rfl _ rfl keyed_id idS spE bs w.heap.size ns _ left cnt (fun x => .int .i64 x) (fun c => .agg #[.int .i64 c.id, .int .i64 c.ver, .string c.text]) (fun _ => rfl) (fun _ => rfl) rfl hrg ?_ ?_)
    · intro hl0
      have hm2 : MapF wr idS spE bd (nd + ns) (fun n => (fs n).or (fd n)) := (hm.mono (by omega)).congr (fun x hx => by unfold mergeF; rw [hl0 x hx]; rfl)
      have hbs2 := hrg.owns
      clear hl0
      go_wp2_with fail
      go_end0
      exact ⟨rfl, hm2, hbs2, hgw⟩
    · intro x c w8 cnt1 hgx hlx hfx hrg1 hlt1 hg1 hs1 hen
      have hrlt := hrg.lt
      have hmlt := hm.lt
      have hm8 : MapF w8 idS spE bd m (mergeF fd fs left) := hm.of_block (hg1.block bd hmlt (by simp; omega))
      have hmx := hm8.of_block (w' := w8.alloc (.cells #[.int .i64 c.id, .int .i64 c.ver, .string c.text] 52)) (Below.heap_alloc _ _ _ hm8.lt)
      have hkm : m < maxLen := by unfold maxLen; omega
      have hst := fun n => mergeF_step (fd := fd) hlx hfx n
      have Hlt1 := Lib.hid hlt1
      have Hrl := Lib.hid hrg.left_eq
      have Hst := Lib.hid hst
      have HRG := Lib.hid hrg1
      have hz8 : w.heap.size < w8.heap.size := by omega
      have hbd8 : bd < w8.heap.size := by omega
      have HG : Hid (w.grownBy (w8.alloc (.cells #[.int .i64 c.id, .int .i64 c.ver, .string c.text] 52)) (some bd)) := ⟨hg1.os.trans hgw.os, hg1.tape.trans hgw.tape, hg1.output.trans hgw.output, by have := hgw.size; simp; omega, fun i hi hne => by
        have h1 : i < wr.heap.size := by have := hgw.size; omega
        exact (Below.heap_alloc _ _ _ (by omega)).trans ((hg1.block i h1 (by simp; omega)).trans (hgw.block i hi hne))⟩
      clear hfx hlx hrg hlt1 hst hrg1 hgw hg1 hm hm8
      go_wp2_with (at_mapUpdate; refine wpList_mapUpdate_f _ rfl _ _ _ 131 rfl 52 keyed_id Tryd.underlying131 idS spE bd m _ rfl hmx hkm x c rfl rfl hgx ?_; intro w9 hm9 hg9 hs9)
      have hm10 := hm9.congr (fun y _ => Hst.out y)
      have hr9 : RangeF w9 idS spE bs w.heap.size ns fs (fun y => left y && !decide (y = x)) cnt1 := (HRG.out.kept (below_grownBy (ext_alloc (Below.refl _ _) _) none) (by simp) (by simp)).kept hg9 (by simp; omega) (by simp; omega)
      go_frame
      go_roundw
      case rel => exact ⟨_, cnt1, m + 1, hr9, by have := Hlt1.out; omega, hm10, ⟨hg9.os.trans HG.out.os, hg9.tape.trans HG.out.tape, hg9.output.trans HG.out.output, by have := HG.out.size; omega, fun i hi hne => (hg9.block i (Nat.lt_of_lt_of_le hi HG.out.size) hne).trans (HG.out.block i hi hne)⟩⟩
      case measure => rw [hr9.left_eq, Hrl.out]; exact Hlt1.out
end Go.Proofs.YtfbhfimejcdopaaDoor

/- Package patches: pairs, the spots of two displays by their ids, as an iterator. -/
namespace Go.Proofs.YtfbhfimejcdopaaDoor
open Go.RowKit Go.Han
attribute [local irreducible] wpStill wpQuiet
attribute [local go_sem] Oper.semAt_some
set_option maxRecDepth 100000

structure PairV where
  old : Spot
  now : Spot
  was : Bool
  is_ : Bool
def spot0 : Spot := ⟨0, 0, ⟨#[]⟩⟩
def pairOf (a b : List Spot) (n : Int) : PairV := ⟨(getS n a).getD spot0, (getS n b).getD spot0, (getS n a).isSome, (getS n b).isSome⟩
def encP (p : PairV) : Array Value := #[.agg #[.int .i64 p.old.id, .int .i64 p.old.ver, .string p.old.text, .int .i64 p.now.id, .int .i64 p.now.ver, .string p.now.text, .bool p.was, .bool p.is_]]
def PairV.cells (p : PairV) : List Value := [.int .i64 p.old.id, .int .i64 p.old.ver, .string p.old.text, .int .i64 p.now.id, .int .i64 p.now.ver, .string p.now.text, .bool p.was, .bool p.is_]
theorem pairs_any (A : Option Addr) (n cp : Nat) (B : Option Addr) (m d : Nat) (w : World) : Calls Tryd.prog 55 #[.slice A n cp, .slice B m d] w fun e w' =>
    e = .returned (.func (.func 90) #[] #[.pointer (some ⟨w.heap.size, 0, none⟩), .pointer (some ⟨w.heap.size + 1, 0, none⟩)]) ∧ (w.alloc (.cells #[.slice A n cp] 45)).alloc (.cells #[.slice B m d] 45) = w' := by
  have hmf : ∀ (fn : Fn) (first cap : Array Value) (w : World), (Instr.makeFunc fn first cap).run Tryd.prog w = .ok (.func fn first cap) w := fun _ _ _ _ => rfl
  go_enter Tryd.func55, Tryd.ntmps55
  go_wp2
  go_ret
  exact ⟨rfl, rfl⟩
/-- The sorted ids of both are the union. -/
theorem sorted_union {a b : List Spot} (ha : checkE a = 0) (hb : checkE b = 0) {T : List Int} (h : SortedKeys Tryd.prog Tryd.underlying3 (fun n => (getS n b).or (getS n a)) T) : T = unionI a b := by
  obtain ⟨_, oka, sa⟩ := (checkE_iff a).1 ha
  obtain ⟨_, okb, sb⟩ := (checkE_iff b).1 hb
  refine isU_uniq (a := a) (b := b) ⟨h.asc, fun n => ?_⟩ (diff_union 0 a b sa sb).1
  rw [h.mem n]
  have e : ((getS n b).or (getS n a)).isSome = true ↔ (getS n a).isSome = true ∨ (getS n b).isSome = true := by
    cases getS n a <;> cases getS n b <;> simp
  rw [e]
  refine ⟨And.right, fun hh => ⟨?_, hh⟩⟩
  rcases hh with hh | hh
  · obtain ⟨x, hx, rfl⟩ := getS_isSome hh; exact good_id (ok_idB (oka x hx))
  · obtain ⟨x, hx, rfl⟩ := getS_isSome hh; exact good_id (ok_idB (okb x hx))
theorem union_good {a b : List Spot} (ha : checkE a = 0) (hb : checkE b = 0) {n : Int} (hn : n ∈ unionI a b) : idS.good n := by
  obtain ⟨_, oka, sa⟩ := (checkE_iff a).1 ha
  obtain ⟨_, okb, sb⟩ := (checkE_iff b).1 hb
  rcases ((diff_union 0 a b sa sb).1.mem n).1 hn with hh | hh
  · obtain ⟨x, hx, rfl⟩ := getS_isSome hh; exact good_id (ok_idB (oka x hx))
  · obtain ⟨x, hx, rfl⟩ := getS_isSome hh; exact good_id (ok_idB (okb x hx))
theorem union_le {a b : List Spot} (ha : checkE a = 0) (hb : checkE b = 0) : (unionI a b).length ≤ 2048 := by
  obtain ⟨la, oka, sa⟩ := (checkE_iff a).1 ha
  obtain ⟨lb, okb, sb⟩ := (checkE_iff b).1 hb
  have := union_len (diff_union 0 a b sa sb).1
  omega
theorem below_grow1 {W w w1 : World} {bd : Nat} (h : Below W.heap.size W w) (g : w.grownBy w1 (some bd)) (hb : W.heap.size ≤ bd) : Below W.heap.size W w1 :=
  h.grown g h.size (fun k hk => by cases hk; exact hb)

theorem row_form {w : World} {base E : Nat} {v : Value} {T : List Int} (h : w.ownsRow base E 1 v T.length (T.map fun x => Value.int .i64 x)) :
    ∃ A cap, v = .slice A T.length cap ∧ ∀ (k : Nat) (hk : k < T.length), ∃ g, A = some ⟨g, 0, none⟩ ∧ base ≤ g ∧ g < w.heap.size ∧ w.cell? ⟨g, k, none⟩ = some (.int .i64 T[k]) := by
  rcases h.2 with ⟨rfl, hn⟩ | ⟨g, cap, cur, rfl, hb, hc, _, _, hsz, ht⟩
  · exact ⟨none, 0, by rw [hn], fun k hk => by omega⟩
  · refine ⟨_, cap, rfl, fun k hk => ⟨g, rfl, hb, lt_block hc, ?_⟩⟩
    rw [gblk hc]
    have h1 : (cur.toList.take (T.length * 1))[k]? = (T.map fun x => Value.int .i64 x)[k]? := by rw [ht]
    rw [List.getElem?_take, if_pos (by omega)] at h1
    simpa [hk] using h1
def PInv (W : World) (s6 : Nat) (R : Nat → Prop) (w6 : World) (J : (Nat → Prop) → List PairV → World → Prop) (a b : List Spot) (T : List Int) (i : Value) (wr : World) : Prop :=
  ∃ (own : Nat → Prop) (k : Nat), k ≤ T.length ∧ i = .int .i64 k ∧ J own ((T.take k).map (pairOf a b)) wr ∧ (∀ j, own j → ¬ R j) ∧ (∀ j, own j → j < wr.heap.size) ∧ (∀ j, own j → j < W.heap.size ∨ s6 ≤ j) ∧ s6 ≤ wr.heap.size ∧ (∀ j, (R j ∨ (W.heap.size ≤ j ∧ j < s6)) → wr.heap[j]? = w6.heap[j]?)
def pcells (o s : Option Spot) : Array Value := #[.int .i64 (o.getD spot0).id, .int .i64 (o.getD spot0).ver, .string (o.getD spot0).text, .int .i64 (s.getD spot0).id, .int .i64 (s.getD spot0).ver, .string (s.getD spot0).text, .bool o.isSome, .bool s.isSome]

set_option maxHeartbeats 1000000 in
theorem pairs1 (b1 b2 : Nat) (A B : Option Addr) (cpA cpB : Nat) (a b : List Spot) (R : Nat → Prop) (w0 : World)
    (hK : ∀ W : World, (∀ k, R k → W.heap[k]? = w0.heap[k]?) → W.heap[b1]? = some (.cells #[.slice A a.length cpA] 45 (0, 0)) ∧ W.heap[b2]? = some (.cells #[.slice B b.length cpB] 45 (0, 0)) ∧ Rd W A (flat a) ∧ Rd W B (flat b)) (ha : checkE a = 0) (hb : checkE b = 0) :
    IterC Tryd.prog 90 #[.pointer (some ⟨b1, 0, none⟩), .pointer (some ⟨b2, 0, none⟩)] encP R (fun _ => False) ((unionI a b).map (pairOf a b)) none w0 := by
  intro l' B0 J Jx Jp own₀ W hR hown hB0 hlive hJ hJx hY h0
  refine (callsIn_wide (n := 0)).1 ?_
  refine callsIn_of_wp Tryd.func90 rfl trivial ?_
  simp only [Tryd.ntmps90, List.size_toArray, List.length_cons, List.length_nil, Nat.reduceAdd, Nat.reduceSub, Array.replicate_succ, Array.replicate_zero, List.push_toArray, List.append_toArray, List.nil_append, List.cons_append]
  have hRB : ∀ k, R k → k < B0 := fun k hk => (hR k hk).1
  obtain ⟨k1, k2, kA, kB⟩ := hK W (fun k hk => (hR k hk).2)
  have c1 := cell_one k1
  have c2 := cell_one k2
  have n1 := lt_block k1
  have n2 := lt_block k2
  have cA := Lib.hid (fun W' (h : Below W.heap.size W W') => index_any A cpA a W' (kA.ext h) ha)
  have cB := Lib.hid (fun W' (h : Below W.heap.size W W') => index_any B cpB b W' (kB.ext h) hb)
  have HY := Lib.hid hY
  have HJ := Lib.hid hJ
  have HRB := Lib.hid hRB
  have hla := ((checkE_iff a).1 ha).1
  have hlb := ((checkE_iff b).1 hb).1
  have HSU := Lib.hid (fun T h => sorted_union ha hb (T := T) h)
  have HUG := Lib.hid (fun n => union_good ha hb (n := n))
  have HUL := Lib.hid (union_le ha hb)
  have H0 := Lib.hid h0
  have Hown := Lib.hid hown
  have Hlive := Lib.hid hlive
  clear hK hR hY hJx hJ hRB k1 k2 kA kB ha hb h0 hown hlive
  gi_wp2_with fail
  gi_region_with (first | (have hmark := hm1; refine ⟨trivial, rfl, (callsIn_wide.2 (cB.out _ ?_)).mono ?_⟩; (repeat (first | exact HB1 | refine ext_drew ?_)); rintro e w2 ⟨rfl, hm2, hb2⟩; have HB2 : Below W.heap.size W w2 := ext_trans (by repeat (first | exact HB1 | refine ext_drew ?_)) hb2; have hm12 := hm1.of_block (hb2.block _ hm1.lt); clear hmark) | (refine ⟨trivial, rfl, (callsIn_wide.2 (cA.out _ ?_)).mono ?_⟩; (repeat (first | exact Below.refl _ _ | refine ext_drew ?_)); rintro e w1 ⟨rfl, hm1, hb1⟩; have HB1 : Below W.heap.size W w1 := ext_trans (by repeat (first | exact Below.refl _ _ | refine ext_drew ?_)) hb1; have y2 := (HB1.cell (p := ⟨b2, 0, none⟩) n2).trans c2))
  all_goals
    have hs1 := HB1.size
    have hs2 := hb2.size
    have hl1 : W.heap.size < w1.heap.size := hm1.lt
    have hl2 : w1.heap.size < w2.heap.size := hm2.lt
    have cC := Lib.hid (cloneM_any W.heap.size a.length (fun n => getS n a) w2 hm12)
    have HM2 := Lib.hid hm2
    have HM12 := Lib.hid hm12
    clear y2 hm12 hm1 hm2
    gi_wp2_with fail
    refine ⟨trivial, rfl, (callsIn_wide.2 cC.out).mono ?_⟩
    rintro e w3 ⟨rfl, hm3, hb3⟩
    have hs3 := hb3.size
    have hl3 : w2.heap.size < w3.heap.size := hm3.lt
    have cP := Lib.hid (copyM_any w2.heap.size w1.heap.size a.length b.length (fun n => getS n a) (fun n => getS n b) w3 hm3 (HM2.out.of_block (hb3.block _ HM2.out.lt)) (by omega) (by omega))
    have HM12' := Lib.hid (HM12.out.of_block (hb3.block _ HM12.out.lt))
    have HB3 := ext_trans HB2 hb3
    clear hm3 HM2 HM12 cC
    gi_wp2_with fail
    refine ⟨trivial, rfl, (callsIn_wide.2 cP.out).mono ?_⟩
    rintro e w4 ⟨rfl, hm4, hm42, hg4⟩
    have hs4 := hg4.size
    have HM41 := Lib.hid (HM12'.out.of_block (hg4.block _ HM12'.out.lt (by simp; omega)))
    have HM42 := Lib.hid hm42
    have HM4 := Lib.hid hm4
    have HB4 : Below W.heap.size W w4 := HB3.grown hg4 HB3.size (fun k hk => by cases hk; omega)
    clear hm4 hm42 cP HM12'
    gi_wp2_with fail
    refine ⟨trivial, rfl, (callsIn_wide.2 (keysM_any (some w2.heap.size) w4)).mono ?_⟩
    rintro e w5 ⟨rfl, hw5⟩
    have hb5 : Below w4.heap.size w4 w5 := by rw [← hw5]; exact ext_alloc (Below.refl _ _) _
    have hs5 : w5.heap.size = w4.heap.size + 1 := by rw [← hw5]; simp
    have hx5 : w5.heap[w4.heap.size]? = some (.cells #[.map (some w2.heap.size)] 131 (0, 0)) := by rw [← hw5]; exact World.alloc_heap_new _ _
    have cS := Lib.hid (sortedM_any w2.heap.size (a.length + b.length) w4.heap.size (fun n => (getS n b).or (getS n a)) w5 (HM4.out.of_block (hb5.block _ HM4.out.lt)) (by omega) hx5)
    clear hw5 hx5
    gi_wp2_with fail
    refine ⟨trivial, rfl, (callsIn_wide.2 cS.out).mono ?_⟩
    rintro e w6 ⟨hb6, v, T, rfl, hsk, hrow⟩
    obtain rfl : T = unionI a b := HSU.out T hsk
    have hs6 := hb6.size
    obtain ⟨AT, cT, rfl, hel⟩ := row_form hrow
    have Hel := Lib.hid hel
    have hb46 := ext_trans hb5 hb6
    have HM61 := Lib.hid (HM41.out.of_block (hb46.block _ HM41.out.lt))
    have HM62 := Lib.hid (HM42.out.of_block (hb46.block _ HM42.out.lt))
    have HB6 := ext_trans HB4 hb46
    have hul : (unionI a b).length ≤ 2048 := HUL.out
    clear hel hrow hsk HM41 HM42 HM4 cS
    have hs06 : W.heap.size ≤ w6.heap.size := by omega
    gi_wp2_with fail
    gi_loopw [23] (fun i wr => PInv W w6.heap.size R w6 J a b (unionI a b) i wr) (fun i _ => (unionI a b).length - (intOf i).toNat)
    case atStart =>
      have hwo : W.os = w6.os ∧ W.tape = w6.tape := ⟨HB6.os.symm, HB6.tape.symm⟩
      refine ⟨own₀, 0, Nat.zero_le _, rfl, HJ.out own₀ [] W w6 H0.out ⟨HB6.os, HB6.tape, HB6.output, HB6.size, fun j hj _ => HB6.block j hj⟩, Hown.out, fun j hj => Nat.lt_of_lt_of_le (Hlive.out j hj) hs06, fun j hj => .inl (Hlive.out j hj), Nat.le_refl _, fun j _ => rfl⟩
    case round =>
      obtain ⟨own, k, hk, rfl, hj, hdis, hliv, hout, hsz, hkeep⟩ := hrel
      by_cases hlt : k < (unionI a b).length
      · obtain ⟨g, rfl, hbg, hgl, hcg⟩ := Hel.out k hlt
        have x0 := (World.cell?_of_block (w := w6) (a := ⟨g, k, none⟩) (hkeep g (.inr ⟨by omega, hgl⟩))).trans hcg
        have hmem := List.getElem_mem hlt
        have hgood := HUG.out _ hmem
        have htk : (unionI a b).take (k + 1) = (unionI a b).take k ++ [(unionI a b)[k]] := List.take_succ_eq_append_getElem hlt
        have hpre : ((unionI a b).take k).map (pairOf a b) ++ [pairOf a b (unionI a b)[k]] <+: (unionI a b).map (pairOf a b) := by
          refine ⟨((unionI a b).drop (k + 1)).map (pairOf a b), ?_⟩
          have e : [pairOf a b (unionI a b)[k]] = [(unionI a b)[k]].map (pairOf a b) := rfl
          rw [e, ← List.map_append, ← htk, ← List.map_append, List.take_append_drop]
        have hm1 := HM61.out.of_block (hkeep W.heap.size (.inr ⟨Nat.le_refl _, by omega⟩))
        have hm2 := HM62.out.of_block (hkeep w1.heap.size (.inr ⟨by omega, by omega⟩))
        have Htk := Lib.hid htk
        have Hpre := Lib.hid hpre
        have Hkeep := Lib.hid hkeep
        clear hmem htk hcg hpre hkeep
        generalize (unionI a b)[k] = n at *
        obtain ⟨o1, ho1⟩ : ∃ o, getS n a = o := ⟨_, rfl⟩
        obtain ⟨o2, ho2⟩ : ∃ o, getS n b = o := ⟨_, rfl⟩
        have HP : Hid (pairOf a b n = ⟨o1.getD spot0, o2.getD spot0, o1.isSome, o2.isSome⟩) := by show _ = _; unfold pairOf; rw [ho1, ho2]
        have hl1 : ∀ W', Below wr.heap.size wr W' → (Instr.lookup 131 (.map (some W.heap.size)) (.int .i64 n) true).run Tryd.prog W' = .ok (.tuple #[.agg #[.int .i64 (o1.getD spot0).id, .int .i64 (o1.getD spot0).ver, .string (o1.getD spot0).text], .bool o1.isSome]) W' := by
          intro W' hb'
          rw [← ho1]
          exact run_lookup_f W' keyed_id Tryd.underlying131 idS spE spot0 (zero_spot W') (hm1.of_block (hb'.block _ hm1.lt)) n hgood
        have hl2 : ∀ W', Below wr.heap.size wr W' → (Instr.lookup 131 (.map (some w1.heap.size)) (.int .i64 n) true).run Tryd.prog W' = .ok (.tuple #[.agg #[.int .i64 (o2.getD spot0).id, .int .i64 (o2.getD spot0).ver, .string (o2.getD spot0).text], .bool o2.isSome]) W' := by
          intro W' hb'
          rw [← ho2]
          exact run_lookup_f W' keyed_id Tryd.underlying131 idS spE spot0 (zero_spot W') (hm2.of_block (hb'.block _ hm2.lt)) n hgood
        clear ho1 ho2 hm1 hm2 hgood
        generalize o1.getD spot0 = y1 at *
        generalize o2.getD spot0 = y2 at *
        generalize o1.isSome = q1 at *
        generalize o2.isSome = q2 at *
        have HL2 := Lib.hid hl2
        have e1 := hl1 _ (ext_alloc (Below.refl wr.heap.size wr) (.cells #[.int .i64 0, .int .i64 0, .string ⟨#[]⟩, .int .i64 0, .int .i64 0, .string ⟨#[]⟩, .bool false, .bool false] 91))
        have e2 := hl2 _ (ext_alloc (Below.refl wr.heap.size wr) (.cells #[.int .i64 y1.id, .int .i64 y1.ver, .string y1.text, .int .i64 0, .int .i64 0, .string ⟨#[]⟩, .bool q1, .bool false] 91))
        have hj2 := HJ.out own _ wr (wr.alloc (.cells #[.int .i64 y1.id, .int .i64 y1.ver, .string y1.text, .int .i64 y2.id, .int .i64 y2.ver, .string y2.text, .bool q1, .bool q2] 91)) hj (IterStep.alloc (IterStep.refl _ _ _ _) _)
        obtain ⟨fn, tmps, assign, body, hy, hRd⟩ := HY.out own _ (pairOf a b n) _ hj2 Hpre.out hdis (fun j hj => by simp; have := hliv j hj; omega)
        rw [HP.out] at hy
        change (Instr.yield l' #[.agg #[.int .i64 y1.id, .int .i64 y1.ver, .string y1.text, .int .i64 y2.id, .int .i64 y2.ver, .string y2.text, .bool q1, .bool q2]]).run _ _ = _ at hy
        clear hl1 hl2 hj2 HL2
        gi_wp2_with fail
        refine ⟨rfl, hRd.mono ?_⟩
        rintro e W3 (⟨own', hbs, (⟨rfl, hj3⟩ | ⟨rfl, hjx⟩)⟩ | ⟨ch, rfl, hjp⟩)
        · clear e1 e2 hy hRd
          have hsz3 := hbs.size
          have hown3 := hbs.owns
          have hblk : ∀ j, j < wr.heap.size → ¬ own j → W3.heap[j]? = wr.heap[j]? := fun j h1 h2 => (hbs.block j (by simp; omega) h2).trans (Below.heap_alloc _ _ _ h1)
          simp only [World.size_alloc] at hsz3 hown3
          gi_wp2_with fail
          go_roundw
          case rel =>
            refine ⟨own', k + 1, by omega, by go_num, by rw [Htk.out]; rw [List.map_append]; exact hj3, fun j hjo hjR => ?_, fun j hjo => hbs.live j hjo, fun j hjo => ?_, by omega, fun j hjj => ?_⟩
            · rcases hown3 j hjo with h | h
              · exact hdis j h hjR
              · have := HRB.out j hjR; omega
            · rcases hown3 j hjo with h | h
              · exact hout j h
              · exact .inr (by omega)
            · have hj1 : j < wr.heap.size := by
                rcases hjj with h | h
                · have := HRB.out j h; omega
                · omega
              have hj2 : ¬ own j := fun ho => by
                rcases hjj with h | h
                · exact hdis j ho h
                · rcases hout j ho with h1 | h1 <;> omega
              rw [hblk j hj1 hj2]
              exact Hkeep.out j hjj
          case measure => simp [intOf]; omega
        · gi_wp2_with fail
          refine bodyPost_ret (results_none rfl _ _ _) rfl ?_
          exact .inr (.inl ⟨⟨_, rfl⟩, own', _, Hpre.out, hjx⟩)
        · exact ⟨rfl, .inr (.inr (.inl ⟨ch, rfl, hjp⟩))⟩
      · obtain rfl : k = (unionI a b).length := by omega
        rw [List.take_length] at hj
        gi_wp2_with fail
        go_end0
        exact .inl ⟨rfl, ⟨_, rfl⟩, own, hj⟩
end Go.Proofs.YtfbhfimejcdopaaDoor

/- The reference's package of displays: sizes. -/
namespace Go.Proofs.YtfbhfimejcdopaaDoor
open Go.RowKit Go.Han
attribute [local irreducible] wpStill wpQuiet
set_option maxRecDepth 100000

/-- Whether there are few spots, or too many. -/
def fewB (l : List Spot) : Bool := (l.take 70).all (fun x => decide (x.text.size ≤ 200)) && (decide (l.length ≤ 60) || (decide (1024 < l.length) && decide (l.length ≤ 1100)))
theorem few49_any (A : Option Addr) (c : Nat) (l : List Spot) (w : World) (hr : Rd w A (flat l)) (hm : l.length ≤ 9223372036854775807) :
    Calls Tryd.prog 52 #[.slice A l.length c] w fun e w' => e = .returned (.bool (fewB l)) ∧ w = w' := by
  have Hf : Hid (fewB l = ((l.take 70).all (fun x => decide (x.text.size ≤ 200)) && (decide (l.length ≤ 60) || (decide (1024 < l.length) && decide (l.length ≤ 1100))))) := rfl
  go_enter Tryd.func52, Tryd.ntmps52
  go_wp2_with fail
  go_loop [3] (fun i => ∃ k : Nat, k ≤ l.length ∧ k ≤ 70 ∧ i = .int .i64 k ∧ Hid (∀ (j : Nat) (hj : j < l.length), j < k → l[j].text.size ≤ 200)) (fun i => l.length - (intOf i).toNat)
  case atStart => exact ⟨0, Nat.zero_le _, Nat.zero_le _, rfl, fun j hj h => by omega⟩
  case round =>
    obtain ⟨k, hk, hk7, rfl, HR⟩ := hrel
    have hend : (k = l.length ∨ k = 70) → Hid (fewB l = (decide (l.length ≤ 60) || (decide (1024 < l.length) && decide (l.length ≤ 1100)))) := by
      intro h
      show _ = _
      rw [Hf.out]
      have : (l.take 70).all (fun x => decide (x.text.size ≤ 200)) = true := by
        rw [List.all_eq_true]
        intro x hx
        obtain ⟨j, hj, rfl⟩ := List.mem_iff_getElem.1 hx
        simp at hj
        rw [List.getElem_take]
        simpa using HR.out j (by omega) (by omega)
      rw [this, Bool.true_and]
    by_cases hlt : k < l.length
    · by_cases h70 : k < 70
      · obtain ⟨b, off, rfl, hb, hc⟩ := hr.elem Spot.size_cells (by omega) hlt
        have h3 := hc 2 _ rfl
        clear hc hr hend
        by_cases hs : l[k].text.size ≤ 200
        · have HS := Lib.hid hs
          have hs1 : ¬ (200 : Int) < l[k].text.size := by omega
          clear hs
          go_wp2_with fail
          go_round
          case rel =>
            refine ⟨k + 1, by omega, by omega, by go_num, fun j hj hjk => ?_⟩
            rcases Nat.lt_or_ge j k with h | h
            · exact HR.out j hj h
            · obtain rfl : j = k := by omega
              exact HS.out
          case measure => simp [intOf]; omega
        · have hs1 : (200 : Int) < l[k].text.size := by omega
          have HF : Hid (fewB l = false) := by
            show _ = _
            rw [Hf.out]
            have : (l.take 70).all (fun x => decide (x.text.size ≤ 200)) = false := by
              rw [List.all_eq_false]
              exact ⟨l[k], List.mem_take_iff_getElem.2 ⟨k, by omega, rfl⟩, by simpa using hs⟩
            rw [this, Bool.false_and]
          clear hs
          go_wp2_with fail
          go_ret
          exact ⟨by rw [HF.out]; rfl, rfl⟩
      · have HF := hend (.inr (by omega))
        clear hend HR hr
        by_cases g1 : l.length ≤ 60
        · omega
        have d1 : decide (l.length ≤ 60) = false := by simpa using g1
        have d7 : decide (k < 70) = false := by simpa using h70
        have i7 : ¬ (k : Int) < 70 := by omega
        have i1 : ¬ (l.length : Int) ≤ 60 := by omega
        by_cases g2 : 1024 < l.length
        · go_wp2
          all_goals go_ret
          all_goals (refine ⟨?_, rfl⟩; rw [HF.out]; first | (simp [*]; done) | (simp [*]; omega))
        · have i2 : ¬ (1024 : Int) < l.length := by omega
          go_wp2
          all_goals go_ret
          all_goals (refine ⟨?_, rfl⟩; rw [HF.out]; first | (simp [*]; done) | (simp [*]; omega))
    · have HF := hend (.inl (by omega))
      clear hend HR hr
      by_cases g1 : l.length ≤ 60
      · go_wp2
        all_goals go_ret
        all_goals (refine ⟨?_, rfl⟩; rw [HF.out]; first | (simp [*]; done) | (simp [*]; omega))
      · have i1 : ¬ (l.length : Int) ≤ 60 := by omega
        by_cases g2 : 1024 < l.length
        · go_wp2
          all_goals go_ret
          all_goals (refine ⟨?_, rfl⟩; rw [HF.out]; first | (simp [*]; done) | (simp [*]; omega))
        · have i2 : ¬ (1024 : Int) < l.length := by omega
          go_wp2
          all_goals go_ret
          all_goals (refine ⟨?_, rfl⟩; rw [HF.out]; first | (simp [*]; done) | (simp [*]; omega))

/-- Whether there are few changes, or too many. -/
def fewC (l : List Change) : Bool := (l.take 110).all (fun x => decide (x.spot.text.size ≤ 200)) && (decide (l.length ≤ 100) || (decide (4096 < l.length) && decide (l.length ≤ 4200)))
theorem fewc49_any (A : Option Addr) (c : Nat) (l : List Change) (w : World) (hr : Rd w A (cflat l)) (hm : l.length ≤ 9223372036854775807) :
    Calls Tryd.prog 22 #[.slice A l.length c] w fun e w' => e = .returned (.bool (fewC l)) ∧ w = w' := by
  have Hf : Hid (fewC l = ((l.take 110).all (fun x => decide (x.spot.text.size ≤ 200)) && (decide (l.length ≤ 100) || (decide (4096 < l.length) && decide (l.length ≤ 4200))))) := rfl
  go_enter Tryd.func22, Tryd.ntmps22
  go_wp2_with fail
  go_loop [3] (fun i => ∃ k : Nat, k ≤ l.length ∧ k ≤ 110 ∧ i = .int .i64 k ∧ Hid (∀ (j : Nat) (hj : j < l.length), j < k → l[j].spot.text.size ≤ 200)) (fun i => l.length - (intOf i).toNat)
  case atStart => exact ⟨0, Nat.zero_le _, Nat.zero_le _, rfl, fun j hj h => by omega⟩
  case round =>
    obtain ⟨k, hk, hk7, rfl, HR⟩ := hrel
    have hend : (k = l.length ∨ k = 110) → Hid (fewC l = (decide (l.length ≤ 100) || (decide (4096 < l.length) && decide (l.length ≤ 4200)))) := by
      intro h
      show _ = _
      rw [Hf.out]
      have : (l.take 110).all (fun x => decide (x.spot.text.size ≤ 200)) = true := by
        rw [List.all_eq_true]
        intro x hx
        obtain ⟨j, hj, rfl⟩ := List.mem_iff_getElem.1 hx
        simp at hj
        rw [List.getElem_take]
        simpa using HR.out j (by omega) (by omega)
      rw [this, Bool.true_and]
    by_cases hlt : k < l.length
    · by_cases h70 : k < 110
      · obtain ⟨b, off, rfl, hb, hc⟩ := hr.elem Change.size_cells (by omega) hlt
        have h3 := hc 4 _ rfl
        clear hc hr hend
        by_cases hs : l[k].spot.text.size ≤ 200
        · have HS := Lib.hid hs
          have hs1 : ¬ (200 : Int) < l[k].spot.text.size := by omega
          clear hs
          go_wp2_with fail
          go_round
          case rel =>
            refine ⟨k + 1, by omega, by omega, by go_num, fun j hj hjk => ?_⟩
            rcases Nat.lt_or_ge j k with h | h
            · exact HR.out j hj h
            · obtain rfl : j = k := by omega
              exact HS.out
          case measure => simp [intOf]; omega
        · have hs1 : (200 : Int) < l[k].spot.text.size := by omega
          have HF : Hid (fewC l = false) := by
            show _ = _
            rw [Hf.out]
            have : (l.take 110).all (fun x => decide (x.spot.text.size ≤ 200)) = false := by
              rw [List.all_eq_false]
              exact ⟨l[k], List.mem_take_iff_getElem.2 ⟨k, by omega, rfl⟩, by simpa using hs⟩
            rw [this, Bool.false_and]
          clear hs
          go_wp2_with fail
          go_ret
          exact ⟨by rw [HF.out]; rfl, rfl⟩
      · have HF := hend (.inr (by omega))
        clear hend HR hr
        by_cases g1 : l.length ≤ 100
        · omega
        have d1 : decide (l.length ≤ 100) = false := by simpa using g1
        have d7 : decide (k < 110) = false := by simpa using h70
        have i7 : ¬ (k : Int) < 110 := by omega
        have i1 : ¬ (l.length : Int) ≤ 100 := by omega
        by_cases g2 : 4096 < l.length
        · go_wp2
          all_goals go_ret
          all_goals (refine ⟨?_, rfl⟩; rw [HF.out]; first | (simp [*]; done) | (simp [*]; omega))
        · have i2 : ¬ (4096 : Int) < l.length := by omega
          go_wp2
          all_goals go_ret
          all_goals (refine ⟨?_, rfl⟩; rw [HF.out]; first | (simp [*]; done) | (simp [*]; omega))
    · have HF := hend (.inl (by omega))
      clear hend HR hr
      by_cases g1 : l.length ≤ 100
      · go_wp2
        all_goals go_ret
        all_goals (refine ⟨?_, rfl⟩; rw [HF.out]; first | (simp [*]; done) | (simp [*]; omega))
      · have i1 : ¬ (l.length : Int) ≤ 100 := by omega
        by_cases g2 : 4096 < l.length
        · go_wp2
          all_goals go_ret
          all_goals (refine ⟨?_, rfl⟩; rw [HF.out]; first | (simp [*]; done) | (simp [*]; omega))
        · have i2 : ¬ (4096 : Int) < l.length := by omega
          go_wp2
          all_goals go_ret
          all_goals (refine ⟨?_, rfl⟩; rw [HF.out]; first | (simp [*]; done) | (simp [*]; omega))


end Go.Proofs.YtfbhfimejcdopaaDoor

/- The laws of differences and of changes put together, in plain lists. No program in sight. -/
namespace Go.Proofs.YtfbhfimejcdopaaDoor
open Go.RowKit Go.Han

theorem few_len {l : List Spot} (hf : fewB l = true) (hc : checkE l = 0) : l.length ≤ 60 := by
  have h1 := ((checkE_iff l).1 hc).1
  unfold fewB at hf
  simp only [Bool.and_eq_true, Bool.or_eq_true, decide_eq_true_eq] at hf
  rcases hf.2 with h | h <;> omega
theorem diffK_len (t : Int) (a b : List Spot) : ∀ U : List Int, (diffK t a b U).length ≤ U.length
  | [] => Nat.le_refl _
  | n :: U => by
    have e : diffK t a b (n :: U) = chgG t (getS n a) (getS n b) ++ diffK t a b U := List.flatMap_cons ..
    rw [e, List.length_append, List.length_cons]
    have := chgG_len t (getS n a) (getS n b)
    have := diffK_len t a b U
    omega
theorem diffL_len (t : Int) {a b : List Spot} (ha : Asc a) (hb : Asc b) : (diffL t a b).length ≤ a.length + b.length := by
  obtain ⟨h1, h2⟩ := diff_union t a b ha hb
  rw [h2]
  have := diffK_len t a b (unionI a b)
  have := union_len h1
  omega
theorem applyE_of {a r : List Spot} {p : List Change} (hc : checkE a = 0) (hl : p.length ≤ 4096) (h : appR a p = (0, r)) : applyE a p = 0 ∧ applyO a p = r := by
  have h0 : applyE a p = 0 := by unfold applyE; rw [if_neg (by simpa using hc), if_neg (by omega), h]
  exact ⟨h0, by unfold applyO; rw [if_pos h0, h]⟩

/-! ### PatchesThere -/
structure There (t : Int) (a b : List Spot) (d : List Change) : Prop where
  at_ : ∀ c ∈ d, c.at_ = t
  ids : ∀ (i : Nat) (h : i + 1 < d.length), d[i].spot.id < d[i + 1].spot.id
  len : d.length ≤ 120
  made : applyE a d = 0 ∧ applyO a d = b
  none : d = [] ↔ a = b
  least : ∀ p, applyE a p = 0 → applyO a p = b → d.length ≤ p.length
theorem there_law {a b : List Spot} {t : Int} (ha : a.length ≤ 60) (hb : b.length ≤ 60) (h : diffE a b t = 0) : There t a b (diffL t a b) := by
  obtain ⟨h1, h2, h3, h4⟩ := diffE_zero h
  obtain ⟨_, _, aa⟩ := (checkE_iff a).1 h1
  obtain ⟨_, _, ab⟩ := (checkE_iff b).1 h2
  obtain ⟨u1, u2⟩ := diff_union t a b aa ab
  obtain ⟨k1, k2⟩ := diffK_ids t a b _ u1.asc
  have hl := diffL_len t aa ab
  refine ⟨fun c hc => ?_, fun i hi => ?_, by omega, applyE_of h1 (by omega) (diff_applied h3 (by omega) h1 h2 h4), diff_nil_iff h3 (by omega) h1 h2 h4, fun p hp1 hp2 => ?_⟩
  · rw [u2] at hc; exact (k2 c hc).1
  · rw [← u2] at k1
    have := List.pairwise_iff_getElem.1 k1 i (i + 1) (by simp; omega) (by simp; omega) (by omega)
    simpa using this
  · have := (applyE_zero hp1).2.2
    rw [hp2] at this
    exact diff_least aa ab this

/-! ### PatchesTurned -/
structure TurnedC (c d : Change) : Prop where
  id : c.spot.id = d.spot.id
  kinds : (c.kind = 1 ∧ d.kind = 2 ∧ c.spot = d.spot) ∨ (c.kind = 2 ∧ d.kind = 1 ∧ c.spot = d.spot) ∨ (c.kind = 3 ∧ d.kind = 3)
theorem chg_turn (t : Int) (n : Int) (a b : List Spot) : (chgG t (getS n a) (getS n b) = [] ∧ chgG t (getS n b) (getS n a) = []) ∨ ∃ c d, chgG t (getS n a) (getS n b) = [c] ∧ chgG t (getS n b) (getS n a) = [d] ∧ TurnedC c d := by
  cases hx : getS n a <;> cases hy : getS n b
  · exact .inl ⟨rfl, rfl⟩
  · exact .inr ⟨_, _, rfl, rfl, ⟨rfl, .inl ⟨rfl, rfl, rfl⟩⟩⟩
  · exact .inr ⟨_, _, rfl, rfl, ⟨rfl, .inr (.inl ⟨rfl, rfl, rfl⟩)⟩⟩
  · rename_i x y
    by_cases hv : x.ver = y.ver
    · exact .inl ⟨if_pos hv, if_pos hv.symm⟩
    · exact .inr ⟨_, _, if_neg hv, if_neg (fun e => hv e.symm), ⟨by rw [(getS_some hx).2, (getS_some hy).2], .inr (.inr ⟨rfl, rfl⟩)⟩⟩
inductive TurnedL : List Change → List Change → Prop
  | nil : TurnedL [] []
  | cons {c d : Change} {p q : List Change} : TurnedC c d → TurnedL p q → TurnedL (c :: p) (d :: q)
theorem turned_len : ∀ {p q : List Change}, TurnedL p q → p.length = q.length
  | _, _, .nil => rfl
  | _, _, .cons _ h => by simp [turned_len h]
theorem turned_at : ∀ {p q : List Change}, TurnedL p q → ∀ (i : Nat) (h : i < p.length) (h' : i < q.length), TurnedC p[i] q[i]
  | _, _, .nil, i, h, _ => absurd h (by simp)
  | _, _, .cons hc h, 0, _, _ => hc
  | _, _, .cons hc h, i + 1, h1, h2 => turned_at h i (by simpa using h1) (by simpa using h2)
theorem diffK_turn (t : Int) (a b : List Spot) : ∀ U : List Int, TurnedL (diffK t a b U) (diffK t b a U)
  | [] => .nil
  | n :: U => by
    have e1 : diffK t a b (n :: U) = chgG t (getS n a) (getS n b) ++ diffK t a b U := List.flatMap_cons ..
    have e2 : diffK t b a (n :: U) = chgG t (getS n b) (getS n a) ++ diffK t b a U := List.flatMap_cons ..
    rw [e1, e2]
    rcases chg_turn t n a b with ⟨h1, h2⟩ | ⟨c, d, h1, h2, h3⟩
    · rw [h1, h2]; exact diffK_turn t a b U
    · rw [h1, h2]; exact .cons h3 (diffK_turn t a b U)
theorem diffL_turn (t : Int) {a b : List Spot} (ha : Asc a) (hb : Asc b) : TurnedL (diffL t a b) (diffL t b a) := by
  obtain ⟨h1, h2⟩ := diff_union t a b ha hb
  rw [h2, diffL_of hb ha (isU_swap h1)]
  exact diffK_turn t a b _
theorem check_ne {l : List Spot} : checkE l ≠ 510 := by rcases checkE_range l with h | h | h <;> rw [h] <;> decide
theorem diffE_turn (a b : List Spot) (t : Int) : (diffE a b t = 0 ↔ diffE b a t = 0) ∧ (diffE a b t = 510 ↔ diffE b a t = 510) := by
  unfold diffE
  by_cases h1 : checkE a = 0
  · rw [if_neg (by simpa using h1)]
    by_cases h2 : checkE b = 0
    · have n1 : ¬ checkE a ≠ 0 := by simpa using h1
      have n2 : ¬ checkE b ≠ 0 := by simpa using h2
      rw [if_neg n2, if_neg n2, if_neg n1, clash_symm ((checkE_iff a).1 h1).2.2 ((checkE_iff b).1 h2).2.2]
      exact ⟨Iff.rfl, Iff.rfl⟩
    · rw [if_pos h2, if_pos h2]
      exact ⟨Iff.rfl, Iff.rfl⟩
  · rw [if_pos h1]
    by_cases h2 : checkE b = 0
    · rw [if_neg (by simpa using h2), if_pos h1]
      exact ⟨Iff.rfl, Iff.rfl⟩
    · rw [if_pos h2]
      exact ⟨⟨fun h => absurd h h1, fun h => absurd h h2⟩, ⟨fun h => absurd h check_ne, fun h => absurd h check_ne⟩⟩

/-! ### PatchesThen -/
def lastAt (p q : List Change) : Int := ((p ++ q).getLast?.map (fun c => c.at_)).getD 0
def thenE (a : List Spot) (p q : List Change) : Int := if applyE a p ≠ 0 then applyE a p else if applyE (applyO a p) q ≠ 0 then applyE (applyO a p) q else if p = [] ∧ q = [] then 0 else diffE a (applyO (applyO a p) q) (lastAt p q)
def thenO (a : List Spot) (p q : List Change) : List Change := if applyE a p ≠ 0 ∨ applyE (applyO a p) q ≠ 0 ∨ (p = [] ∧ q = []) then [] else diffO a (applyO (applyO a p) q) (lastAt p q)
theorem appR_len : ∀ (p : List Change) (s r : List Spot), appR s p = (0, r) → r.length ≤ s.length + p.length
  | [], s, r, e => by simp only [appR, Prod.mk.injEq, true_and] at e; rw [e]; simp
  | c :: p, s, r, e => by
    obtain ⟨h1, h2⟩ := appR_zero e
    obtain ⟨a1, a2, a3, a4⟩ := (doE_zero_iff s c).1 h1
    have := appR_len p _ r h2
    have := made_len_le ((checkE_iff s).1 a1).2.2 a3
    simp
    omega
theorem lastAt_time {a r s : List Spot} {p q : List Change} (hp : appR a p = (0, r)) (hq : appR r q = (0, s)) (hne : ¬ (p = [] ∧ q = [])) : timeB (lastAt p q) = true := by
  have h := appR_times (p ++ q) a s ((appR_app p q a r hp).trans hq)
  unfold lastAt
  cases hl : (p ++ q).getLast? with
  | none => rw [List.getLast?_eq_none_iff, List.append_eq_nil_iff] at hl; exact absurd hl hne
  | some c => exact h c (List.mem_of_getLast? hl)
structure ThenLaw (a : List Spot) (p q : List Change) : Prop where
  err : thenE a p q ≠ 0 → thenE a p q = 510 ∧ clashB a (applyO (applyO a p) q) = true ∧ thenO a p q = [] ∧ ¬ (p = [] ∧ q = [])
  made : thenE a p q = 0 → applyE a (thenO a p q) = 0 ∧ applyO a (thenO a p q) = applyO (applyO a p) q ∧ (thenO a p q).length ≤ p.length + q.length
theorem then_law {a : List Spot} {p q : List Change} (ha : a.length ≤ 60) (hp : p.length ≤ 100) (hq : q.length ≤ 100) (h1 : applyE a p = 0) (h2 : applyE (applyO a p) q = 0) : ThenLaw a p q := by
  obtain ⟨p1, p2, p3⟩ := applyE_zero h1
  obtain ⟨q1, q2, q3⟩ := applyE_zero h2
  have l1 := appR_len _ _ _ p3
  have l2 := appR_len _ _ _ q3
  have c3 := appR_check _ _ _ q1 q3
  by_cases hne : p = [] ∧ q = []
  · have e1 : thenE a p q = 0 := by unfold thenE; rw [if_neg (by simpa using h1), if_neg (by simpa using h2), if_pos hne]
    have e2 : thenO a p q = [] := by unfold thenO; rw [if_pos (.inr (.inr hne))]
    refine ⟨fun h => absurd e1 h, fun _ => ?_⟩
    rw [e2]
    obtain ⟨rfl, rfl⟩ := hne
    have ea : appR a [] = (0, a) := rfl
    obtain ⟨g1, g2⟩ := applyE_of p1 (by simp) ea
    exact ⟨g1, by rw [g2, g2], Nat.zero_le _⟩
  · have ht := lastAt_time p3 q3 hne
    have e1 : thenE a p q = diffE a (applyO (applyO a p) q) (lastAt p q) := by unfold thenE; rw [if_neg (by simpa using h1), if_neg (by simpa using h2), if_neg hne]
    have e2 : thenO a p q = diffO a (applyO (applyO a p) q) (lastAt p q) := by unfold thenO; rw [if_neg (by rintro (h | h | h); exact h h1; exact h h2; exact hne h)]
    have e3 : diffE a (applyO (applyO a p) q) (lastAt p q) = if clashB a (applyO (applyO a p) q) = true then 510 else 0 := by
      unfold diffE
      rw [if_neg (by simpa using p1), if_neg (by simpa using c3), if_neg (by rw [ht]; simp)]
    rw [← e1] at e3
    refine ⟨fun h => ?_, fun h => ?_⟩
    · by_cases hc : clashB a (applyO (applyO a p) q) = true
      · rw [if_pos hc] at e3
        exact ⟨e3, hc, by rw [e2]; unfold diffO; rw [if_neg (by rw [← e1]; exact h)], hne⟩
      · rw [if_neg hc] at e3; exact absurd e3 h
    · have hc : clashB a (applyO (applyO a p) q) = false := by
        cases hc : clashB a (applyO (applyO a p) q)
        · rfl
        · rw [hc, if_pos rfl, h] at e3; cases e3
      have e4 : thenO a p q = diffL (lastAt p q) a (applyO (applyO a p) q) := by rw [e2]; unfold diffO; rw [if_pos (by rw [← e1]; exact h)]
      rw [e4]
      have haa := ((checkE_iff a).1 p1).2.2
      have hcc := ((checkE_iff _).1 c3).2.2
      have hl := diffL_len (lastAt p q) haa hcc
      obtain ⟨g1, g2⟩ := applyE_of p1 (by omega) (diff_applied ht (by omega) p1 c3 hc)
      refine ⟨g1, g2, ?_⟩
      have := diff_least (t := lastAt p q) haa hcc ((appR_app p q a _ p3).trans q3)
      simpa using this

/-! ### PatchesPlayed -/
theorem runL_len : ∀ (p : List Change) (s r : List Spot), Asc s → s.length ≤ 1024 → runL s p = (0, r) → r.length ≤ s.length + p.length
  | [], s, r, _, _, e => by cases e; simp
  | c :: p, s, r, hs, hl, e => by
    rw [runL_step] at e
    split at e
    · cases e
    · rename_i h1
      split at e
      · cases e
      · rename_i h2
        have hf : fitsB c s = true := by simpa using h1
        have := runL_len p _ r (made_asc hs hf) (by omega) e
        have := made_len_le hs hf
        simp
        omega
theorem run_of_app : ∀ (p : List Change) (s r : List Spot), appR s p = (0, r) → runL s p = (0, r)
  | [], s, r, e => e
  | c :: p, s, r, e => by
    obtain ⟨h1, h2⟩ := appR_zero e
    obtain ⟨a1, a2, a3, a4⟩ := (doE_zero_iff s c).1 h1
    rw [runL_step, if_neg (by rw [a3]; simp), if_neg (by omega)]
    exact run_of_app p _ r h2
theorem exam_all : ∀ (n : Int) (p : List Change), examFrom n p = true → ∀ c ∈ p, c.ok = true ∧ n ≤ c.at_
  | _, [], _, c, hc => by cases hc
  | n, d :: p, h, c, hc => by
    unfold examFrom at h
    simp only [Bool.and_eq_true, decide_eq_true_eq] at h
    rcases List.mem_cons.1 hc with rfl | hc
    · exact ⟨h.1.1, h.1.2⟩
    · have := exam_all d.at_ p h.2 c hc
      exact ⟨this.1, by have := this.2; omega⟩
theorem exam_last : ∀ (n : Int) (p : List Change) (t : Int), examFrom n p = true → (∀ c, p.getLast? = some c → c.at_ ≤ t) → ∀ c ∈ p, c.at_ ≤ t
  | _, [], _, _, _, c, hc => by cases hc
  | n, [d], t, h, hl, c, hc => by
    rw [List.mem_singleton] at hc; subst hc; exact hl c rfl
  | n, d :: e :: p, t, h, hl, c, hc => by
    have h' := h
    unfold examFrom at h
    simp only [Bool.and_eq_true, decide_eq_true_eq] at h
    have ih := exam_last d.at_ (e :: p) t h.2 (fun c hc => hl c (by rw [List.getLast?_cons_cons]; exact hc))
    rcases List.mem_cons.1 hc with rfl | hc
    · have h1 := (exam_all c.at_ (e :: p) h.2 e (by simp)).2
      have h2 := ih e (by simp)
      omega
    · exact ih c hc
theorem exam_same : ∀ (n : Int) (q : List Change) (t : Int), n ≤ t → (∀ c ∈ q, c.ok = true ∧ c.at_ = t) → examFrom n q = true
  | _, [], _, _, _ => rfl
  | n, c :: q, t, hn, hq => by
    obtain ⟨h1, h2⟩ := hq c (by simp)
    unfold examFrom
    rw [h1, exam_same c.at_ q t (by omega) (fun d hd => hq d (by simp [hd]))]
    simp; omega
theorem exam_app : ∀ (n : Int) (p q : List Change) (t : Int), examFrom n p = true → (∀ c ∈ p, c.at_ ≤ t) → n ≤ t → (∀ c ∈ q, c.ok = true ∧ c.at_ = t) → examFrom n (p ++ q) = true
  | n, [], q, t, _, _, hn, hq => exam_same n q t hn hq
  | n, d :: p, q, t, h, hp, hn, hq => by
    unfold examFrom at h
    simp only [Bool.and_eq_true, decide_eq_true_eq] at h
    rw [List.cons_append]
    unfold examFrom
    rw [h.1.1, exam_app d.at_ p q t h.2 (fun c hc => hp c (by simp [hc])) (hp d (by simp)) hq]
    simp; exact h.1.2
theorem upTo_all {t : Int} : ∀ {p : List Change}, (∀ c ∈ p, c.at_ ≤ t) → upTo t p = p
  | [], _ => rfl
  | c :: p, h => by
    unfold upTo
    rw [List.takeWhile_cons, if_pos (by simpa using h c (by simp))]
    congr 1
    exact upTo_all (fun d hd => h d (by simp [hd]))
theorem appR_ok_all : ∀ (p : List Change) (s r : List Spot), appR s p = (0, r) → ∀ c ∈ p, c.ok = true
  | [], _, _, _, c, hc => by cases hc
  | d :: p, s, r, e, c, hc => by
    obtain ⟨h1, h2⟩ := appR_zero e
    rcases List.mem_cons.1 hc with rfl | hc
    · exact ((doE_zero_iff s c).1 h1).2.1
    · exact appR_ok_all p _ r h2 c hc
structure PlayedLaw (p : List Change) (b : List Spot) (t : Int) : Prop where
  len : (playL p t).length ≤ 100
  dlen : (diffL t (playL p t) b).length ≤ 160
  play : playE (p ++ diffL t (playL p t) b) t = 0
  show_ : playL (p ++ diffL t (playL p t) b) t = b
  count : countW (upTo t (p ++ diffL t (playL p t) b)) = countW (upTo t p) + countW (diffL t (playL p t) b)
theorem playE_zero {p : List Change} {t : Int} (h : playE p t = 0) : p.length ≤ 4096 ∧ examFrom 0 p = true ∧ timeB t = true ∧ runL [] (upTo t p) = (0, playL p t) := by
  unfold playE at h
  by_cases h1 : 4096 < p.length
  · rw [if_pos h1] at h; cases h
  rw [if_neg h1] at h
  cases h2 : examFrom 0 p
  · rw [h2, if_pos rfl] at h; cases h
  rw [h2, if_neg (by simp)] at h
  cases h3 : timeB t
  · rw [h3, if_pos rfl] at h; cases h
  rw [h3, if_neg (by simp)] at h
  exact ⟨by omega, rfl, rfl, by unfold playL; rw [← h]⟩
theorem play_len {p : List Change} {t : Int} (hp : p.length ≤ 100) (h : playE p t = 0) : (playL p t).length ≤ 100 := by
  obtain ⟨_, _, _, h4⟩ := playE_zero h
  have := runL_len _ _ _ asc_nil (by simp) h4
  have h6 : (upTo t p).length ≤ p.length := by
    have := (List.takeWhile_prefix (fun c : Change => decide (c.at_ ≤ t)) (l := p)).length_le
    exact this
  simp at this
  omega
theorem played_law {p : List Change} {b : List Spot} {t : Int} (hp : p.length ≤ 100) (hb : b.length ≤ 60) (hl : ∀ c, p.getLast? = some c → c.at_ ≤ t) (h : playE p t = 0) (hd : diffE (playL p t) b t = 0) : PlayedLaw p b t := by
  obtain ⟨_, h2, h3, h4⟩ := playE_zero h
  have hall := exam_last 0 p t h2 hl
  obtain ⟨d1, d2, d3, d4⟩ := diffE_zero hd
  have hlen := play_len hp h
  have haa := ((checkE_iff _).1 d1).2.2
  have hbb := ((checkE_iff _).1 d2).2.2
  have hdl := diffL_len t haa hbb
  have hap := diff_applied d3 (by omega) d1 d2 d4
  obtain ⟨u1, u2⟩ := diff_union t (playL p t) b haa hbb
  have hat : ∀ c ∈ diffL t (playL p t) b, c.at_ = t := fun c hc => by rw [u2] at hc; exact ((diffK_ids t (playL p t) b _ u1.asc).2 c hc).1
  have hok := appR_ok_all _ _ _ hap
  rw [upTo_all hall] at h4
  have hall2 : ∀ c ∈ p ++ diffL t (playL p t) b, c.at_ ≤ t := fun c hc => by
    rcases List.mem_append.1 hc with hc | hc
    · exact hall c hc
    · rw [hat c hc]; exact Int.le_refl _
  have hrun := (runL_app p (diffL t (playL p t) b) [] _ h4).trans (run_of_app _ _ _ hap)
  have ht0 : (0 : Int) ≤ t := by unfold timeB at h3; simp only [Bool.and_eq_true, decide_eq_true_eq] at h3; exact h3.1
  refine ⟨hlen, by omega, ?_, ?_, ?_⟩
  · unfold playE
    rw [if_neg (by simp; omega), exam_app 0 p _ t h2 hall ht0 (fun c hc => ⟨hok c hc, hat c hc⟩), if_neg (by simp), h3, if_neg (by simp), upTo_all hall2, hrun]
  · unfold playL at hrun ⊢
    unfold playL at hall2
    rw [upTo_all hall2, hrun]
  · rw [upTo_all hall2, upTo_all hall, countW_app]
end Go.Proofs.YtfbhfimejcdopaaDoor

/- What a statement's walk comes to: it returns true and leaves alone what was there. -/
namespace Go.Proofs.YtfbhfimejcdopaaDoor
open Go.RowKit Go.Han
def TruePost (w : World) (e : Ending) (w' : World) : Prop := e = .returned (.bool true) ∧ Below w.heap.size w w'
end Go.Proofs.YtfbhfimejcdopaaDoor

/- Package patches: Apply. -/
namespace Go.Proofs.YtfbhfimejcdopaaDoor
open Go.RowKit Go.Han
attribute [local irreducible] wpStill wpQuiet
set_option maxRecDepth 100000

def ApplyPost (a : List Spot) (p : List Change) (w : World) (e : Ending) (w' : World) : Prop :=
  Below w.heap.size w w' ∧ ((applyE a p ≠ 0 ∧ e = .returned (.tuple #[.slice none 0 0, .int .i64 (applyE a p)])) ∨ (applyE a p = 0 ∧ ∃ A cp, e = .returned (.tuple #[.slice A (applyO a p).length cp, .int .i64 0]) ∧ Rd w' A (flat (applyO a p)) ∧ (A = none → applyO a p = [])))
/-- Between two rounds. -/
def ApInv (a : List Spot) (p : List Change) (w : World) (b i : Value) (wr : World) : Prop :=
  ∃ (k : Nat) (s : List Spot) (A : Option Addr) (cp : Nat), k ≤ p.length ∧ i = .int .i64 k ∧ b = .slice A s.length cp ∧ Rd wr A (flat s) ∧ (A = none → s = []) ∧ checkE s = 0 ∧ Below w.heap.size w wr ∧ appR a p = appR s (p.drop k)
theorem applyE_ck {a : List Spot} {p : List Change} (h : checkE a ≠ 0) : applyE a p = checkE a := by unfold applyE; rw [if_pos h]
theorem applyE_lim {a : List Spot} {p : List Change} (h : checkE a = 0) (hl : 4096 < p.length) : applyE a p = 2 := by unfold applyE; rw [if_neg (by simpa using h), if_pos hl]
theorem applyE_run {a : List Spot} {p : List Change} (h : checkE a = 0) (hl : ¬ 4096 < p.length) : applyE a p = (appR a p).1 := by unfold applyE; rw [if_neg (by simpa using h), if_neg hl]
theorem doE_check {s : List Spot} {c : Change} (h : doE s c = 0) : checkE (madeL c s) = 0 := by
  obtain ⟨a1, a2, a3, a4⟩ := (doE_zero_iff s c).1 h
  exact made_ok a1 a2 a3 a4
theorem check_len {s : List Spot} (h : checkE s = 0) : s.length ≤ 1024 := ((checkE_iff s).1 h).1
set_option maxHeartbeats 1000000 in
theorem Apply_any (A : Option Addr) (cp : Nat) (a : List Spot) (B : Option Addr) (cq : Nat) (p : List Change) (w : World) (hT : Tabs w) (hr : Rd w A (flat a)) (hA : A = none → a = []) (hm : a.length ≤ 9223372036854775807) (hr' : Rd w B (cflat p)) (hm' : p.length ≤ 9223372036854775807) :
    Calls Tryd.prog 24 #[.slice A a.length cp, .slice B p.length cq] w (ApplyPost a p w) := by
  have HE1 := Lib.hid (applyE_ck (a := a) (p := p))
  have HE2 := Lib.hid (applyE_lim (a := a) (p := p))
  have HE3 := Lib.hid (applyE_run (a := a) (p := p))
  go_enter Tryd.func24, Tryd.ntmps24
  go_wp2_with fail
  go_step3
  go_wp2_with fail
  refine (Check_any A cp a w hT hr hm).mono ?_
  rintro e w1 ⟨rfl, hb1⟩
  by_cases hc : checkE a = 0
  · have Hc := Lib.hid hc
    rw [hc]
    clear hc
    by_cases hl : 4096 < p.length
    · have hl2 : (4096 : Int) < (p.length : Int) := by omega
      have he := Lib.hid (HE2.out Hc.out hl)
      clear hl
      go_wp2_with fail
      go_ret2
      exact ⟨hb1, .inl ⟨by rw [he.out]; decide, by rw [he.out]; rfl⟩⟩
    · have hl2 : ¬ (4096 : Int) < (p.length : Int) := by omega
      have he := Lib.hid (HE3.out Hc.out hl)
      have hz1 := hb1.size
      have Hl := Lib.hid hl
      clear hl
      go_wp2_with fail
      go_step3
      go_wp2_with fail
      go_loopw [4, 5, 19] (fun b x i wr => x = .int .i64 0 ∧ ApInv a p w b i wr) (fun _ _ i _ => p.length - (intOf i).toNat)
      case atStart => exact ⟨rfl, 0, a, A, cp, Nat.zero_le _, rfl, rfl, hr.ext hb1, hA, Hc.out, hb1, rfl⟩
      case round =>
        obtain ⟨rfl, k, s, A1, cp1, hk, rfl, rfl, hrs, hAs, hcs, hB, hap⟩ := hrel
        have hls := check_len hcs
        have Hcs := Lib.hid hcs
        have Hap := Lib.hid hap
        clear hcs hap
        by_cases hlt : k < p.length
        · obtain ⟨b, off, rfl, hb, hcl⟩ := hr'.elem Change.size_cells (by omega) hlt
          have d0 := (hB.cell (p := ⟨b, off + k * 5 + 0, none⟩) hb).trans (hcl 0 _ rfl)
          have d1 := (hB.cell (p := ⟨b, off + k * 5 + 1, none⟩) hb).trans (hcl 1 _ rfl)
          have d2 := (hB.cell (p := ⟨b, off + k * 5 + 2, none⟩) hb).trans (hcl 2 _ rfl)
          have d3 := (hB.cell (p := ⟨b, off + k * 5 + 3, none⟩) hb).trans (hcl 3 _ rfl)
          have d4 := (hB.cell (p := ⟨b, off + k * 5 + 4, none⟩) hb).trans (hcl 4 _ rfl)
          simp only [Nat.add_zero] at d0
          have hdr : p.drop k = p[k] :: p.drop (k + 1) := List.drop_eq_getElem_cons hlt
          have Hap2 : Hid (appR a p = appR s (p[k] :: p.drop (k + 1))) := by show _ = _; rw [Hap.out, hdr]
          clear hcl hdr Hap
          generalize p[k] = c at *
          obtain ⟨t, kd, ⟨i, vr, x⟩⟩ := c
          simp only at d0 d1 d2 d3 d4
          obtain ⟨cc, hcc⟩ : ∃ cc : Change, cc = ⟨t, kd, ⟨i, vr, x⟩⟩ := ⟨_, rfl⟩
          rw [← hcc] at Hap2
          have cD : Hid (∀ W (hb : Below wr.heap.size wr W), Calls Tryd.prog 56 #[.slice A1 s.length cp1, .agg #[.int .i64 t, .int .i64 kd, .int .i64 i, .int .i64 vr, .string x]] W (DoPost s cc W)) := by
            intro W hb
            have := Do_any A1 cp1 s ⟨t, kd, ⟨i, vr, x⟩⟩ W (utf_ext hT (ext_trans hB hb)) (hrs.ext hb) hAs (by omega)
            rw [← hcc] at this
            rw [hcc] at this ⊢
            exact this
          clear hcc
          go_wp2_with fail
          refine (cD.out _ (ext_alloc (Below.refl _ _) _)).mono ?_
          rintro e w3 ⟨hb3, h3⟩
          have hB3 := ext_trans hB (ext_trans (ext_alloc (Below.refl _ _) _) hb3)
          rcases h3 with ⟨hn, rfl⟩ | ⟨hn, v2, rfl, hown⟩
          · have hf : Hid (applyE a p = doE s cc) := by show _ = _; rw [he.out, Hap2.out, appR_cons, if_pos hn]
            have Hn := Lib.hid hn
            go_wp2_with fail
            go_ret2
            exact ⟨hB3, .inl ⟨by rw [hf.out]; exact Hn.out, by rw [hf.out]; rfl⟩⟩
          · obtain ⟨A2, cp2, rfl, hrd2, hnil2⟩ := own_form hown
            have hap3 : Hid (appR a p = appR (madeL cc s) (p.drop (k + 1))) := by show _ = _; rw [Hap2.out, appR_ok hn]
            have hck := doE_check hn
            clear hn hown
            go_wp2_with fail
            go_roundw
            case rel => exact ⟨rfl, k + 1, madeL cc s, A2, cp2, by omega, by go_num, rfl, hrd2, hnil2, hck, hB3, hap3.out⟩
            case measure => simp [intOf]; omega
        · obtain rfl : k = p.length := by omega
          have h0 : appR a p = (0, s) := by rw [Hap.out, List.drop_length]; rfl
          have h1 : applyE a p = 0 := by rw [he.out, h0]
          have h2 : applyO a p = s := by unfold applyO; rw [if_pos h1, h0]
          have H1 := Lib.hid h1
          have H2 := Lib.hid h2
          clear h0 h1 h2
          go_wp2_with fail
          go_ret2
          exact ⟨hB, .inr ⟨H1.out, A1, cp1, by rw [H2.out]; rfl, by rw [H2.out]; exact hrs, by rw [H2.out]; exact hAs⟩⟩
  · have hf := Lib.hid (HE1.out hc)
    have Hc := Lib.hid hc
    go_wp2_with fail
    go_ret2
    exact ⟨hb1, .inl ⟨by rw [hf.out]; exact Hc.out, by rw [hf.out]; rfl⟩⟩
end Go.Proofs.YtfbhfimejcdopaaDoor

/- Appends of perhaps nothing, as a step of a region that draws its order; pieces of a slice. -/
namespace Go.Han
open Go.RowKit
section
variable {P : Program} {w : World}
theorem src_nil (size c : Nat) (tx : TypeId) {e : TypeId} (ht : P.underlying tx = some (.slice e)) : Src P size tx (.slice none 0 c) 0 [] w := by
  refine ⟨.inl ⟨e, ht⟩, fun w' => ?_, ?_, ?_, by simp, fun u hu => by cases hu⟩
  · rfl
  · rfl
  · rfl
theorem own_room {base e size n : Nat} {v : Value} {xs : List Value} (h : w.ownsRow base e size v n xs) : ∃ A cap, v = .slice A n cap ∧ n ≤ cap := by
  rcases h.2 with ⟨h1, h2⟩ | ⟨g, cap, cur, h1, _, _, h4, _⟩
  · subst h2; exact ⟨none, 0, h1, Nat.le_refl _⟩
  · exact ⟨_, cap, h1, h4⟩
theorem grownBy_same (row : Option Nat) : w.grownBy w row := gbelow_grown (Below.refl _ _) row
theorem run_append_rd (base : Nat) (t ty e : TypeId) (i : TypeInfo) (z : Value) (size bytes : Nat) (ht : P.underlying t = some (.slice e)) (hi : P.info? e = some i) (hz : i.zero = some z)
    (hsize : i.size = size) (hby : i.bytes = bytes) (hzs : z.cells.size = size) (hsz : 0 < size)
    (v : Value) (n : Nat) (xs : List Value) (hown : w.ownsRow base e size v n xs)
    (B : Option Addr) (m c : Nat) (news : List Value) (hl : news.length = m * size) (hr : Rd w B news) (h1 : ∀ u ∈ news, u.oneCell' = true)
    (h63 : n + m ≤ maxLen) (hbytes : (n + m) * bytes ≤ 140737488355328) (hbase : base ≤ w.heap.size) :
    ∃ v' w', (Builtin.append_ #[t, t] ty #[v, .slice B m c]).run P w = .ok v' w' ∧ w'.ownsRow base e size v' (n + m) (xs ++ news) ∧ w.grownBy w' v.ownBlock ∧ (v'.ownBlock = v.ownBlock ∨ v'.ownBlock = some w.heap.size) := by
  cases B with
  | none =>
    have hn : news = [] := by
      rcases hr with h | ⟨b, off, h, _⟩
      · exact h
      · cases h
    subst hn
    have hm : m = 0 := by
      rcases Nat.eq_zero_or_pos m with h | h
      · exact h
      · have := Nat.mul_pos h hsz; simp at hl; omega
    subst hm
    obtain ⟨A, cap, rfl, hle⟩ := own_room hown
    refine ⟨_, _, run_append_nothing w t t ty e i ht hi A n cap hle _ (src_nil i.size c t ht), ?_, grownBy_same _, .inl rfl⟩
    simpa using hown
  | some ad =>
    have hc : ∀ j u, news[j]? = some u → w.cell? (ad.add j) = some u := by
      intro j u hu
      rcases hr with h | ⟨b, off, h, _, hc⟩
      · rw [h] at hu; cases hu
      · cases h
        have := hc j u hu
        rw [show (⟨b, off, none⟩ : Addr).add j = ⟨b, off + j, none⟩ from by unfold Addr.add; split <;> simp_all]
        exact this
    obtain ⟨v', w', hr, h2, h3, _, h5⟩ := run_append_own_at (P := P) w base t ty e i z size bytes ht hi hz hsize hby hzs hsz v n xs hown ad m c news hl hc h1 h63 hbytes hbase
    exact ⟨v', w', hr, h2, h3, h5⟩
theorem step_append_rd {ops : Array Oper} {o : Oper} {a : Act} {K : Act → World → Prop} {Q : Exit → Act → World → Prop} {E : Prop} (hgd : o.guard = none) (s x : Operand) (t : TypeId)
    (ho : o.op = .call { callee := .builtin .append, args := #[s, x], argTypes := #[t, t] })
    (base : Nat) (e : TypeId) (i : TypeInfo) (z : Value) (size bytes : Nat) (ht : P.underlying t = some (.slice e)) (hi : P.info? e = some i) (hz : i.zero = some z)
    (hsize : i.size = size) (hby : i.bytes = bytes) (hzs : z.cells.size = size) (hsz : 0 < size)
    (v : Value) (n : Nat) (xs : List Value) (hs : a.eval s = v) (B : Option Addr) (m c : Nat) (news : List Value) (hx : a.eval x = .slice B m c)
    (hown : w.ownsRow base e size v n xs) (hl : news.length = m * size) (hr : Rd w B news) (h1 : ∀ u ∈ news, u.oneCell' = true)
    (h63 : n + m ≤ maxLen) (hbytes : (n + m) * bytes ≤ 140737488355328) (hbase : base ≤ w.heap.size)
    (h : ∀ v' w', w'.ownsRow base e size v' (n + m) (xs ++ news) → w.grownBy w' v.ownBlock → (v'.ownBlock = v.ownBlock ∨ v'.ownBlock = some w.heap.size) → K (a.put o.dst v') w') :
    if Region.wanted o (yielded ops a.tmps) = true then Oper.wp P o a w K Q else E := by
  have hw : Region.wanted o (yielded ops a.tmps) = true := by simp [Region.wanted, hgd]
  rw [if_pos hw]
  obtain ⟨v', w', hrun, h2, h3, h5⟩ := run_append_rd (P := P) (w := w) base t o.type e i z size bytes ht hi hz hsize hby hzs hsz v n xs hown B m c news hl hr h1 h63 hbytes hbase
  unfold Oper.wp execOp
  simp only [ho, resolve, invoke, builtin, Sem.run_bind, Sem.run_pure, Result.andThen_ok, List.map_toArray, List.map_cons, List.map_nil, hs, hx, hrun]
  exact h v' w' h2 h3 h5
/-- A new slice of no elements. -/
theorem own_empty {base e size b : Nat} (h : w.heap[b]? = some (.cells #[] e (0, 0))) (hb : base ≤ b) : w.ownsRow base e size (.slice (some ⟨b, 0, none⟩) 0 0) 0 [] :=
  ⟨by simp, .inr ⟨b, 0, #[], rfl, hb, h, Nat.le_refl _, Nat.zero_le _, by simp, by simp⟩⟩
/-- Where a piece lies. -/
def subA (A : Option Addr) (cp i s : Nat) : Option Addr := if cp = i then A else A.map (·.add (i * s))
theorem Rd.cut {α : Type} {f : α → List Value} {s : Nat} (hs : 0 < s) (hf : ∀ y, (f y).length = s) {A : Option Addr} {l : List α} (h : Rd w A (l.flatMap f)) {cp i n : Nat} (hin : i + n ≤ l.length) (hcp : l.length ≤ cp) :
    Rd w (subA A cp i s) (((l.drop i).take n).flatMap f) := by
  unfold subA
  by_cases hc : cp = i
  · obtain rfl : n = 0 := by omega
    simp only [List.take_zero]
    exact Rd.nil _ _
  · rw [if_neg hc]
    rcases h with h0 | ⟨b, off, he, hb, hcl⟩
    · have hl : l = [] := by
        cases l with
        | nil => rfl
        | cons x l =>
          have := congrArg List.length h0
          simp [hf] at this
          omega
      rw [hl]; simp only [List.drop_nil, List.take_nil]; exact Rd.nil _ _
    · refine .inr ⟨b, off + i * s, by rw [he]; simp [Addr.add], hb, fun j u hu => ?_⟩
      rw [Nat.add_assoc]
      refine hcl (i * s + j) u ?_
      have h1 : l.flatMap f = (l.take i).flatMap f ++ (((l.drop i).take n).flatMap f ++ ((l.drop i).drop n).flatMap f) := by
        rw [← List.flatMap_append, List.take_append_drop, ← List.flatMap_append, List.take_append_drop]
      have h2 : ((l.take i).flatMap f).length = i * s := by rw [flat_len f s hf, List.length_take, Nat.min_eq_left (by omega)]
      rw [h1, List.getElem?_append_right (by omega), h2, Nat.add_sub_cancel_left, List.getElem?_append_left (List.getElem?_eq_some_iff.1 hu).1]
      exact hu
end
end Go.Han

/- Package patches: slices.Grow, slices.Concat at changes. -/
namespace Go.Han
open Go.RowKit
section
variable {P : Program} {w : World}
/-- append of perhaps nothing, in a region that does not draw. -/
theorem wpList_append_rd {ops : Array Oper} {rest : List Oper} {o : Oper} {a : Act} {Q : Exit → Act → World → Prop} (hgd : o.guard = none) (s x : Operand) (t : TypeId)
    (ho : o.op = .call { callee := .builtin .append, args := #[s, x], argTypes := #[t, t] })
    (base : Nat) (e : TypeId) (i : TypeInfo) (z : Value) (size bytes : Nat) (ht : P.underlying t = some (.slice e)) (hi : P.info? e = some i) (hz : i.zero = some z)
    (hsize : i.size = size) (hby : i.bytes = bytes) (hzs : z.cells.size = size) (hsz : 0 < size)
    (v : Value) (n : Nat) (xs : List Value) (hs : a.eval s = v) (B : Option Addr) (m c : Nat) (news : List Value) (hx : a.eval x = .slice B m c)
    (hown : w.ownsRow base e size v n xs) (hl : news.length = m * size) (hr : Rd w B news) (h1 : ∀ u ∈ news, u.oneCell' = true)
    (h63 : n + m ≤ maxLen) (hbytes : (n + m) * bytes ≤ 140737488355328) (hbase : base ≤ w.heap.size)
    (h : ∀ v' w', w'.ownsRow base e size v' (n + m) (xs ++ news) → w.grownBy w' v.ownBlock → (v'.ownBlock = v.ownBlock ∨ v'.ownBlock = some w.heap.size) → wpList P ops Q rest (a.put o.dst v') w') :
    wpList P ops Q (o :: rest) a w := by
  refine wpList_plain hgd fun K hK => ?_
  obtain ⟨v', w', hrun, h2, h3, h5⟩ := run_append_rd (P := P) (w := w) base t o.type e i z size bytes ht hi hz hsize hby hzs hsz v n xs hown B m c news hl hr h1 h63 hbytes hbase
  unfold Oper.wp execOp
  simp only [ho, resolve, invoke, builtin, Sem.run_bind, Sem.run_pure, Result.andThen_ok, List.map_toArray, List.map_cons, List.map_nil, hs, hx, hrun]
  exact hK _ _ (h v' w' h2 h3 h5)
end
end Go.Han
namespace Go.Proofs.YtfbhfimejcdopaaDoor
open Go.RowKit Go.Han
attribute [local irreducible] wpStill wpQuiet
set_option maxRecDepth 100000

theorem info_change : (Tryd.prog.info? 54).map (fun i => (i.zero, i.size, i.bytes)) = some (some (.agg #[.int .i64 0, .int .i64 0, .int .i64 0, .int .i64 0, .string ⟨#[]⟩]), 5, 48) := by kernel_rfl
theorem cflat_one (l : List Change) : ∀ u ∈ cflat l, u.oneCell' = true := by
  intro u hu
  obtain ⟨c, _, hc⟩ := List.mem_flatMap.1 hu
  unfold Change.cells at hc
  simp only [List.mem_cons, List.not_mem_nil, or_false] at hc
  rcases hc with rfl | rfl | rfl | rfl | rfl <;> rfl
theorem cflat_len (l : List Change) : (cflat l).length = l.length * 5 := by
  induction l with
  | nil => rfl
  | cons x l ih => unfold cflat at ih ⊢; rw [List.flatMap_cons, List.length_append, ih, Change.size_cells, List.length_cons]; omega
def GrowPost (_ : Nat) (w : World) (e : Ending) (w' : World) : Prop :=
  ∃ v, e = .returned v ∧ OwnL Change.cells 54 5 w' w.heap.size v [] ∧ Below w.heap.size w w'
set_option maxHeartbeats 1000000 in
theorem grow_any (n : Nat) (w : World) (h0 : 0 < n) (hn : n ≤ 10000) : Calls Tryd.prog 101 #[.slice none 0 0, .int .i64 n] w (GrowPost n w) := by
  obtain ⟨i0, hi0, hz0, hs0, hb0⟩ := info_parts info_change
  have h0' : (0 : Int) < n := by omega
  have h1' : ¬ (n : Int) < 0 := by omega
  go_enter Tryd.func101, Tryd.ntmps101
  go_wp2_with (at_builtin; go_loud (refine wpList_append_zeros w rfl (.tmp 20) (.tmp 21) 46 3 rfl 54 i0 _ 5 48 .i64 .i64 Tryd.underlying46 Tryd.underlying3 hi0 hz0 hs0 hb0 rfl (by decide) none 0 0 n [] rfl ?hx1 rfl (Rd.nil _ _) h0 (by omega) (by unfold maxLen; omega) (by omega) ?hx3))
  case hx3 =>
    intro cap w1 R1 hR1 hl1 hc1 hm1 hb1 hz1
    have hcm1 : cap ≤ 9223372036854775807 := by unfold maxLen at hm1; omega
    have Hm := Lib.hid hm1
    clear hm1
    go_wp2_with fail
    go_ret
    refine ⟨_, rfl, ⟨by simp, .inr ⟨_, cap, _, rfl, Nat.le_refl _, hR1, by simp, Hm.out, by simpa using hl1, by simp⟩⟩, hb1⟩

/-! ### Concat -/
def ConcatPost (p q : List Change) (w : World) (e : Ending) (w' : World) : Prop :=
  ∃ v, e = .returned v ∧ OwnL Change.cells 54 5 w' w.heap.size v (p ++ q) ∧ Below w.heap.size w w'
def lens2 (p q : List Change) (k : Nat) : Nat := if k = 0 then 0 else if k = 1 then p.length else p.length + q.length
def pre2 (p q : List Change) (k : Nat) : List Change := if k = 0 then [] else if k = 1 then p else p ++ q
set_option maxHeartbeats 2000000 in
theorem concat_any (g : Nat) (B C : Option Addr) (c d : Nat) (p q : List Change) (w : World) (hg : w.heap[g]? = some (.cells #[.slice B p.length c, .slice C q.length d] 46 (0, 0))) (hp : Rd w B (cflat p)) (hq : Rd w C (cflat q)) (h0 : 0 < p.length + q.length) (hn : p.length + q.length ≤ 10000) :
    Calls Tryd.prog 57 #[.slice (some ⟨g, 0, none⟩) 2 2] w (ConcatPost p q w) := by
  obtain ⟨i0, hi0, hz0, hs0, hb0⟩ := info_parts info_change
  have g0 := gblk hg 0
  have g1 := gblk hg 1
  have hgl := lt_block hg
  have hp1 : p.length ≤ 10000 := by omega
  have hq1 : q.length ≤ 10000 := by omega
  go_enter Tryd.func57, Tryd.ntmps57
  go_wp2_with fail
  go_loop [3, 11] (fun s i => ∃ k : Nat, k ≤ 2 ∧ i = .int .i64 k ∧ s = .int .i64 (lens2 p q k)) (fun _ i => 2 - (intOf i).toNat)
  case atStart => exact ⟨0, by omega, rfl, rfl⟩
  case round =>
    obtain ⟨k, hk, rfl, rfl⟩ := hrel
    rcases (show k = 0 ∨ k = 1 ∨ k = 2 by omega) with rfl | rfl | rfl
    · have e0 : lens2 p q 0 = 0 := rfl
      rw [e0]
      go_wp2_with fail
      go_round
      case rel => exact ⟨1, by omega, by go_num, by show _ = Value.int .i64 (p.length : Nat); go_num⟩
      case measure => simp [intOf]
    · have e0 : lens2 p q 1 = p.length := rfl
      rw [e0]
      go_wp2_with fail
      go_round
      case rel => exact ⟨2, by omega, by go_num, by show _ = Value.int .i64 ((p.length + q.length : Nat)); go_num⟩
      case measure => simp [intOf]
    · have e0 : lens2 p q 2 = p.length + q.length := rfl
      rw [e0]
      go_wp2_with fail
      refine (grow_any _ w h0 hn).mono ?_
      rintro e w1 ⟨v1, rfl, hv1, hb1⟩
      go_wp2_with fail
      go_loopw [6, 27] (fun v i wr => ∃ k : Nat, k ≤ 2 ∧ i = .int .i64 k ∧ OwnL Change.cells 54 5 wr w.heap.size v (pre2 p q k) ∧ Below w.heap.size w wr) (fun _ i _ => 2 - (intOf i).toNat)
      case atStart => exact ⟨0, by omega, rfl, hv1, hb1⟩
      case round =>
        obtain ⟨k, hk, rfl, hv, hB⟩ := hrel
        have hz := hB.size
        rcases (show k = 0 ∨ k = 1 ∨ k = 2 by omega) with rfl | rfl | rfl
        · have x0 := (hB.cell (p := ⟨g, 0, none⟩) hgl).trans g0
          change OwnL _ _ _ _ _ _ [] at hv
          go_wp2_with (at_builtin; refine wpList_append_rd rfl _ _ 46 rfl w.heap.size 54 i0 _ 5 48 Tryd.underlying46 hi0 hz0 hs0 hb0 rfl (by decide) _ _ _ rfl B p.length c (cflat p) rfl hv (cflat_len p) (hp.ext hB) (cflat_one p) (by unfold maxLen; simp; omega) (by simp; omega) hz ?_; intro v2 w2 hown2 hgrow2 _)
          have hB2 := below_own hB hv (Nat.le_refl _) hgrow2
          go_roundw
          case rel => exact ⟨1, by omega, by go_num, by unfold OwnL; simpa [pre2, cflat] using hown2, hB2⟩
          case measure => simp [intOf]
        · have x0 := (hB.cell (p := ⟨g, 1, none⟩) hgl).trans g1
          change OwnL _ _ _ _ _ _ p at hv
          go_wp2_with (at_builtin; refine wpList_append_rd rfl _ _ 46 rfl w.heap.size 54 i0 _ 5 48 Tryd.underlying46 hi0 hz0 hs0 hb0 rfl (by decide) _ _ _ rfl C q.length d (cflat q) rfl hv (cflat_len q) (hq.ext hB) (cflat_one q) (by unfold maxLen; omega) (by omega) hz ?_; intro v2 w2 hown2 hgrow2 _)
          have hB2 := below_own hB hv (Nat.le_refl _) hgrow2
          go_roundw
          case rel => exact ⟨2, by omega, by go_num, by unfold OwnL; simpa [pre2, cflat] using hown2, hB2⟩
          case measure => simp [intOf]
        · change OwnL _ _ _ _ _ _ (p ++ q) at hv
          go_wp2_with fail
          go_ret
          exact ⟨_, rfl, hv, hB⟩
end Go.Proofs.YtfbhfimejcdopaaDoor
