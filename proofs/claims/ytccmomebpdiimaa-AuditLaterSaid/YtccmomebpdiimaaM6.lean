/- Texts of this claim, one after the other: Aud5, Aud9, Law39a, Law39b, OpenH. -/
import Derived.Test.YtccmomebpdiimaaM5
import Derived.Test.YtccmomebpdiimaaM1
import Derived.PinnedBridge
import Derived.OpenVars
import Derived.Deep.Slices
import Derived.Deep.Fields
import Derived.Lib.SmallJoins
import Derived.ProofKit
import Derived.LaidMore
import Derived.OpenShut
import Derived.Lay
import Derived.Stop.Joined
import Derived.Below
import Derived.ChangeSame
import Derived.Carry
/- Package audit: Find. -/
namespace Go.Proofs.Ytccmomebpdiimaa
open Go.RowKit Go.Han Go.Maps Go.Shelf
attribute [local irreducible] wpStill wpQuiet
attribute [local go_sem] Oper.semAt_some
set_option maxRecDepth 100000

def findR (l : List House) (s : List Sight) (kn : Int) : Int × Int × Int × Bool :=
  if audE l s kn = 0 then (match findA l s kn with | some (i, t, no) => ((i : Int), t, no, true) | none => (0, 0, 0, false)) else (0, 0, 0, false)
def FindPost (l : List House) (s : List Sight) (kn : Int) (w : World) (e : Ending) (w' : World) : Prop :=
  e = .returned (.tuple #[.int .i64 (findR l s kn).1, .int .i64 (findR l s kn).2.1, .int .i64 (findR l s kn).2.2.1, .bool (findR l s kn).2.2.2, .int .i64 (audE l s kn)]) ∧ Below w.heap.size w w'
theorem mem_bordL {l : List House} {t : Int} : t ∈ bordL l ↔ ∃ h ∈ l, t = h.frm ∨ t = h.until_ := by
  unfold bordL
  rw [List.mem_flatMap]
  constructor
  · rintro ⟨h, hh, hc⟩; exact ⟨h, hh, by simpa using hc⟩
  · rintro ⟨h, hh, hc⟩; exact ⟨h, hh, by simpa using hc⟩
/-- The instants that have been laid so far. -/
def InstInv (W4 : World) (mb : Nat) (own : Nat → Prop) (pre : List Int) (W : World) : Prop :=
  (∀ k, own k ↔ k = mb) ∧ Only (fun k => k = mb) W4 W ∧ MapF W intS blE mb pre.length (setF pre)
theorem inst_stable (W4 : World) (mb : Nat) (B0 : Nat) (hB : W4.heap.size ≤ B0) : Stable B0 (fun _ => False) (InstInv W4 mb) := by
  rintro own pre W W' ⟨ho, hon, hm⟩ st
  exact ⟨ho, only_iterN hon st hB, hm.of_block (st.block _ hm.lt (.inr ((ho _).2 rfl)))⟩
def InstAsg (W4 : World) (mb : Nat) (F : Value → Array Value) (x : Int) (a' : Act) (own : Nat → Prop) (pre : List Int) (W : World) : Prop :=
  a' = { tmps := F (.int .i64 x), defers := [] } ∧ InstInv W4 mb own pre W
set_option maxHeartbeats 4000000 in
theorem FindA_any (A : Option Addr) (c : Nat) (l : List House) (A2 : Option Addr) (c2 : Nat) (s : List Sight) (kn : Int) (w : World) (hr : Rd w A (hflat l)) (hm : l.length ≤ 9223372036854775807) (hs : Rd w A2 (sflat s)) (hm2 : s.length ≤ 9223372036854775807) :
    Calls Try.prog 13 #[.slice A l.length c, .slice A2 s.length c2, .int .i64 kn] w (FindPost l s kn w) := by
  obtain ⟨W1, hW1⟩ : ∃ W, (w.alloc (.cells #[.slice A l.length c] 22)).alloc (.cells #[.int .i64 kn] 3) = W := ⟨_, rfl⟩
  have hB1 : Below w.heap.size w W1 := by subst hW1; exact ext_alloc (ext_alloc (Below.refl _ _) _) _
  have k3 : W1.heap[w.heap.size]? = some (.cells #[.slice A l.length c] 22 (0, 0)) := by subst hW1; exact (Below.heap_alloc _ _ _ (by simp)).trans (galloc_at _ _ _ rfl)
  have k5 : W1.heap[w.heap.size + 1]? = some (.cells #[.int .i64 kn] 3 (0, 0)) := by subst hW1; exact galloc_at _ _ _ (by simp)
  have cC := Lib.hid (checkA_any A c l A2 c2 s kn W1 (hr.ext hB1) hm (hs.ext hB1) hm2)
  unfold CheckPost at cC
  have hz1 : W1.heap.size = w.heap.size + 2 := by subst hW1; simp
  have Hz1 := Lib.hid hz1
  have HW1 := Lib.hid hW1
  have x3 := cell_one k3
  have x5 := cell_one k5
  have K3 := Lib.hid k3
  have K5 := Lib.hid k5
  clear hW1 k3 k5 hz1
  unfold FindPost
  refine calls_of_wpAt Try.func13 rfl ?_
  simp only [Try.ntmps13, List.size_toArray, List.length_cons, List.length_nil, Nat.reduceAdd, Nat.reduceSub, Array.replicate_succ, Array.replicate_zero, List.push_toArray, List.append_toArray, List.nil_append, List.cons_append]
  refine wpAt_seq_wp fun Q1 hQ1 => ?_
  go_wp2_with fail
  rw [HW1.out]
  refine wpAt_scope ?_
  refine wpAt_seq_wp fun Q2 hQ2 => ?_
  go_wp2_with fail
  refine cC.out.mono ?_
  rintro e w2 ⟨rfl, hb2⟩
  clear cC HW1
  by_cases hae : audE l s kn = 0
  · have Hae := Lib.hid hae
    have Hchk : Hid (hchk l = 0) := by
      show hchk l = 0
      unfold audE at hae
      by_cases h : hchk l = 0
      · exact h
      · rw [if_neg h] at hae; exact absurd hae h
    rw [hae]
    clear hae
    go_wp2_with fail
    have hmm := @run_makeMap Try.prog
    refine wpAt_seq_wp fun Q3 hQ3 => ?_
    go_wp2_with fail
    obtain ⟨w3, hw3⟩ : ∃ W, (w2.alloc (.map #[] 0)).alloc (.cells #[.map (some w2.heap.size)] 58) = W := ⟨_, rfl⟩
    have hb3 : Below w2.heap.size w2 w3 := by subst hw3; exact ext_alloc (ext_alloc (Below.refl _ _) _) _
    have hz3 : w3.heap.size = w2.heap.size + 2 := by subst hw3; simp
    have hmap3 : MapF w3 intS blE w2.heap.size 0 (fun _ => none) := by subst hw3; exact (MapF.made _ _ _).of_block (Below.heap_alloc _ _ _ (by simp))
    have km3 : w3.heap[w2.heap.size + 1]? = some (.cells #[.map (some w2.heap.size)] 58 (0, 0)) := by subst hw3; exact galloc_at _ _ _ (by simp)
    rw [hw3]
    have y3 := cell_one (((ext_trans hb2 hb3).block _ (lt_block K3.out)).trans K3.out)
    have Hz3 := Lib.hid hz3
    clear hw3 hmm x3 x5 hz3
    refine wpAt_seq ?_
    refine wpAt_seq_wp fun Q4 hQ4 => ?_
    go_wp2_with fail
    refine (borders_any A c l w3).mono ?_
    rintro e w4 ⟨rfl, hw4⟩
    have hb4 : Below w3.heap.size w3 w4 := by subst hw4; exact ext_alloc (Below.refl _ _) _
    have hz4 : w4.heap.size = w3.heap.size + 1 := by subst hw4; simp
    have kb4 : w4.heap[w3.heap.size]? = some (.cells #[.slice A l.length c] 22 (0, 0)) := by subst hw4; exact World.alloc_heap_new _ _
    have km4 := (hb4.block _ (lt_block km3)).trans km3
    have hmap4 := hmap3.of_block (hb4.block _ hmap3.lt)
    have hb24 := ext_trans hb2 (ext_trans hb3 hb4)
    have k34 := (hb24.block _ (lt_block K3.out)).trans K3.out
    have k54 := (hb24.block _ (lt_block K5.out)).trans K5.out
    have hB4 := ext_trans hB1 hb24
    have hr4 := hr.ext hB4
    have hs4 := hs.ext hB4
    have hs2 := hb2.size
    have Hz4 := Lib.hid hz4
    clear hw4 hb3 hb4 km3 hmap3 y3 K3 K5 hb2 hz4
    go_wp2_with fail
    refine wpAt_block ?_
    have hz3 := Hz3.out
    have hz4 := Hz4.out
    have HSO : Hid (∀ x ∈ s, x.Ok) := fun x hx => by
      have := Hae.out
      unfold audE at this
      rw [if_pos Hchk.out] at this
      by_cases h1 : 4096 < s.length
      · rw [if_pos h1] at this; cases this
      · rw [if_neg h1] at this
        by_cases h2 : s.all Sight.ok = true
        · exact Sight.ok_iff.1 (List.all_eq_true.1 h2 x hx)
        · rw [if_neg h2] at this; cases this
    have hsl : s.length ≤ 4096 := by
      have := Hae.out
      unfold audE at this
      rw [if_pos Hchk.out] at this
      by_cases h1 : 4096 < s.length
      · rw [if_pos h1] at this; cases this
      · omega
    have HOK : Hid (∀ h ∈ l, h.Ok) := fun h hh => (hasc_ok (hchk_ok Hchk.out).2 h hh).1
    have HBL : Hid ((bordL l).length ≤ 2048) := by
      show (bordL l).length ≤ 2048
      have := (hchk_ok Hchk.out).1
      have h2 : (bordL l).length = l.length * 2 := by
        unfold bordL
        exact flat_len (fun h : House => [h.frm, h.until_]) 2 (fun _ => rfl) l
      omega
    have hit := borders1 A c l w3.heap.size w4 kb4 hr4 hm
    have hal := bord_alive kb4 hr4
    have hnm : ¬ BordR A l w3.heap.size w2.heap.size := by
      rintro (h | ⟨hl, a', ha', h⟩)
      · omega
      · obtain ⟨b, off, he, hb, _⟩ := hou_elem hr (k := 0) (List.length_pos_iff.2 hl)
        rw [he] at ha'
        cases ha'
        have h1 := hB1.size
        simp only at h
        omega
    refine wp_rangeN (xs := bordL l) (R := BordR A l w3.heap.size) (M := fun _ => False) (w0 := w4) Try.func13 (by rfl) (enters_of Try.func62 (by kernel_rfl) rfl) hit
      (fun k hk => ⟨hal k hk, rfl⟩) (fun _ => rfl)
      (InstInv w4 w2.heap.size) (fun _ _ _ _ => False) (inst_stable _ _ _ (Nat.le_refl _)) (fun c _ _ _ _ h _ => h) (fun k => k = w2.heap.size) ?_ ?_
      (InstAsg w4 w2.heap.size (fun vx => #[.slice A l.length c, .slice A2 s.length c2, .int .i64 kn, .pointer (some ⟨w.heap.size, 0, none⟩), undef, .pointer (some ⟨w.heap.size + 1, 0, none⟩), .int .i64 0, .int .i64 0, .int .i64 0, .bool false, .int .i64 0, .pointer (some ⟨w2.heap.size + 1, 0, none⟩), vx, undef, undef, undef, undef, undef, undef, undef, .slice A l.length c, .slice A2 s.length c2, .int .i64 kn, .int .i64 0, .int .i64 0, .bool false, undef, .map (some w2.heap.size), .slice A l.length c, .func (.func 62) #[] #[.pointer (some ⟨w3.heap.size, 0, none⟩)], vx, undef, undef, undef, undef, undef, undef, undef, undef, undef, undef, undef, undef, undef, undef, undef, undef, undef, undef, undef, undef, undef, undef, undef, undef, undef, undef, undef, undef, undef, undef, undef, undef, undef, undef, undef, undef, undef, undef, undef, undef, undef, undef, undef, undef])) (fun x a' => fun own pre X Y ⟨h1, h2⟩ st => ⟨h1, inst_stable w4 w2.heap.size _ (Nat.le_refl _) own pre X Y h2 st⟩) ?_ ?_ ?_ ?_
    · rintro k rfl
      exact ⟨hmap4.lt, hnm⟩
    · exact ⟨fun _ => Iff.rfl, Only.refl _ _, hmap4.congr fun _ _ => rfl⟩
    · rintro l1 own pre x X hI hl1 hl2 ho hpre
      refine wpIn_mono (Q := Exit.then (fun a' W' => ∃ own', BodyStep own own' X W' ∧ InstAsg w4 w2.heap.size (fun vx => #[.slice A l.length c, .slice A2 s.length c2, .int .i64 kn, .pointer (some ⟨w.heap.size, 0, none⟩), undef, .pointer (some ⟨w.heap.size + 1, 0, none⟩), .int .i64 0, .int .i64 0, .int .i64 0, .bool false, .int .i64 0, .pointer (some ⟨w2.heap.size + 1, 0, none⟩), vx, undef, undef, undef, undef, undef, undef, undef, .slice A l.length c, .slice A2 s.length c2, .int .i64 kn, .int .i64 0, .int .i64 0, .bool false, undef, .map (some w2.heap.size), .slice A l.length c, .func (.func 62) #[] #[.pointer (some ⟨w3.heap.size, 0, none⟩)], vx, undef, undef, undef, undef, undef, undef, undef, undef, undef, undef, undef, undef, undef, undef, undef, undef, undef, undef, undef, undef, undef, undef, undef, undef, undef, undef, undef, undef, undef, undef, undef, undef, undef, undef, undef, undef, undef, undef, undef, undef, undef, undef, undef, undef]) x a' own' pre W') (fun _ _ _ => False)) ?_ (fun e a w h => h)
      have hlv : ∀ k, own k → k < X.heap.size := fun k hk => (ho k hk).2.1
      unfold encI
      clear hz3 hz4
      gi_wp2
      exact ⟨own, BodyStep.refl hlv, rfl, hI⟩
    · rintro l1 own pre x a' X ⟨rfl, ho1, hon, hmp⟩ hl1 hl2 ho hpre
      have hlv : ∀ k, own k → k < X.heap.size := fun k hk => (ho k hk).2.1
      have hxm : x ∈ bordL l := by obtain ⟨t, ht⟩ := hpre; rw [← ht]; simp
      have hgd : intS.good x := by
        obtain ⟨h', hh, hc⟩ := List.mem_flatMap.1 hxm
        have ho := HOK.out h' hh
        have := ho.t0; have := ho.t1; have := ho.t2
        rcases (by simpa using hc : x = h'.frm ∨ x = h'.until_) with rfl | rfl
        · exact good_time (by omega) (by omega)
        · exact good_time (by omega) (by omega)
      have hpl : pre.length ≤ 2048 := by
        have h1 := List.IsPrefix.length_le hpre
        have h2 := HBL.out
        simp at h1
        omega
      obtain ⟨X', hrun, hmp', hgr, hsz⟩ := hmp.store _ keyed_int Try.underlying58 (by unfold maxLen; omega) x true hgd
      change (Instr.mapUpdate _ _ (.int .i64 x) (.bool true)).run _ _ = _ at hrun
      have hfin : Hid (∃ own', BodyStep own own' X X' ∧ InstInv w4 w2.heap.size own' (pre ++ [x]) X') := by
        refine ⟨own, (BodyStep.refl hlv).grown hgr (fun k hk => by cases hk; exact .inl ((ho1 _).2 rfl)), ho1, ⟨hgr.os.trans hon.os, hgr.tape.trans hon.tape, hgr.output.trans hon.output, Nat.le_trans hon.size hgr.size, fun i hi hn => (hgr.block i (Nat.lt_of_lt_of_le hi hon.size) (fun e => hn (by cases e; rfl))).trans (hon.block i hi hn)⟩, ?_⟩
        rw [List.length_append]
        exact hmp'.congr fun n _ => setF_snoc pre x n
      have c11 := cell_one ((hon.block (w2.heap.size + 1) (by omega) (by omega)).trans km4)
      clear hz3 hz4 hmp hon ho1 hmp' hgr hsz hlv ho hpl hgd hxm hpre
      gi_wp2_with fail
      exact hfin.out
    · rintro D own X hD hoD ⟨ho1, hon, hmp⟩ hdef
      have hw2 : w.heap.size + 2 ≤ w2.heap.size := by have := Hz1.out; omega
      have km := (hon.block _ (lt_block km4) (by omega)).trans km4
      have k3X := (hon.block _ (lt_block k34) (by omega)).trans k34
      have k5X := (hon.block _ (lt_block k54) (by omega)).trans k54
      have hBX : Below w.heap.size w X := ⟨hon.os.trans hB4.os, hon.tape.trans hB4.tape, hon.output.trans hB4.output, Nat.le_trans hB4.size hon.size, fun k hk => (hon.block k (by have := hB4.size; omega) (by have := hB1.size; omega)).trans (hB4.block k hk)⟩
      have hsX := hs.ext hBX
      have hrX := hr.ext hBX
      have hlow : w2.heap.size + 3 ≤ X.heap.size := by have := hon.size; omega
      have hD' : w.heap.size ≤ D := by omega
      have hDm : w2.heap.size < D := by omega
      have Hdef := Lib.hid hdef
      have Hmp := Lib.hid hmp
      clear hz3 hz4 hit hal hnm hon hmp ho1 hoD hdef km4 hmap4 kb4 k34 k54 hr4 hs4
      refine wpAt_wp ?_
      go_wp2_with fail
      go_loopw [35] (fun i wr => ∃ k : Nat, k ≤ s.length ∧ i = .int .i64 k ∧ Only (fun j => j = w2.heap.size) X wr ∧ MapF wr intS blE w2.heap.size ((bordL l).length + k) (setF (bordL l ++ (s.take k).map (·.frm)))) (fun i _ => s.length - (intOf i).toNat)
      case atStart => exact ⟨0, Nat.zero_le _, rfl, Only.refl _ _, by simpa using Hmp.out⟩
      case round =>
        obtain ⟨k, hk, rfl, hon, hmp⟩ := hrel
        have hsz := hon.size
        by_cases hlt : k < s.length
        · obtain ⟨b, off, rfl, hb, hc⟩ := sig_elem hs hlt
          have hsig : ∀ j v, w.cell? ⟨b, j, none⟩ = some v → wr.cell? ⟨b, j, none⟩ = some v := fun j v h =>
            (World.cell?_of_block (w := w) (a := ⟨b, j, none⟩) ((hon.block b (by have := hBX.size; omega) (by omega)).trans (hBX.block b hb))).trans h
          obtain ⟨d0, d1, d2, d3, d4⟩ := hc w (Below.refl _ _)
          replace d0 := hsig _ _ d0
          replace d1 := hsig _ _ d1
          replace d2 := hsig _ _ d2
          replace d3 := hsig _ _ d3
          replace d4 := hsig _ _ d4
          have hxo := HSO.out _ (List.getElem_mem hlt)
          have htk : (s.take (k + 1)).map (·.frm) = (s.take k).map (·.frm) ++ [s[k].frm] := by rw [List.take_succ_eq_append_getElem hlt, List.map_append]; rfl
          clear hc hsig
          generalize s[k] = x at *
          obtain ⟨V, hV, hbV, hxV, hzV⟩ := sig_new x wr
          have c11 := cell_one ((hbV.block _ (by omega)).trans ((hon.block _ (lt_block km) (by omega)).trans km))
          have hgd : intS.good x.frm := good_time hxo.f0 (by have := hxo.f1; have := hxo.f2; omega)
          have hn : (bordL l).length + k < maxLen := by have := HBL.out; unfold maxLen; omega
          obtain ⟨X', hrun, hmp', hgr, hsz'⟩ := (hmp.of_block (hbV.block _ hmp.lt)).store _ keyed_int Try.underlying58 hn x.frm true hgd
          change (Instr.mapUpdate _ _ (.int .i64 x.frm) (.bool true)).run _ _ = _ at hrun
          have hon' : Hid (Only (fun j => j = w2.heap.size) X X') := (hon.ext hbV).trans ⟨hgr.os, hgr.tape, hgr.output, hgr.size, fun i hi hn => hgr.block i hi (fun e => hn (by cases e; rfl))⟩
          have hmp2 : Hid (MapF X' intS blE w2.heap.size ((bordL l).length + (k + 1)) (setF (bordL l ++ (s.take (k + 1)).map (·.frm)))) := by
            show MapF _ _ _ _ _ _
            rw [htk, ← List.append_assoc, ← Nat.add_assoc]
            exact hmp'.congr fun n _ => setF_snoc _ _ n
          obtain ⟨p0, p1, p2, p3, p4⟩ := sig_at hxV
          clear hmp' hgr hsz' hmp hon htk hxV hzV hgd hn hxo
          go_wp2_with fail
          go_roundw
          case rel => exact ⟨k + 1, by omega, by go_num, hon'.out, hmp2.out⟩
          case measure => simp [intOf]; omega
        · obtain rfl : k = s.length := by omega
          rw [List.take_length] at hmp
          have hkm := (hon.block _ (lt_block km) (by omega)).trans km
          have c11 := cell_one hkm
          have hBr : Below w.heap.size w wr := ⟨hon.os.trans hBX.os, hon.tape.trans hBX.tape, hon.output.trans hBX.output, Nat.le_trans hBX.size hsz, fun j hj => (hon.block j (by have := hBX.size; omega) (by omega)).trans (hBX.block j hj)⟩
          have k3r := (hon.block _ (lt_block k3X) (by omega)).trans k3X
          have k5r := (hon.block _ (lt_block k5X) (by omega)).trans k5X
          have hD2 : D < X.heap.size := lt_block Hdef.out
          have Hdr : Hid (wr.heap[D]? = some (.deferred (some []))) := (hon.block D hD2 (by omega)).trans Hdef.out
          have Hon := Lib.hid hon
          have Hmp2 := Lib.hid hmp
          clear hkm hon hmp Hmp km k3X k5X hsz
          go_wp2_with fail
          go_step3
          go_wp2_with fail
          refine (keysB_any _ wr).mono ?_
          rintro e wk ⟨rfl, hwk⟩
          have hbk : Below wr.heap.size wr wk := by subst hwk; exact ext_alloc (Below.refl _ _) _
          have hgk : wk.heap[wr.heap.size]? = some (.cells #[.map (some w2.heap.size)] 58 (0, 0)) := by subst hwk; exact World.alloc_heap_new _ _
          have hmk := Hmp2.out.of_block (hbk.block _ Hmp2.out.lt)
          have cS := Lib.hid (sortedB_any w2.heap.size _ wr.heap.size _ wk hmk (by have := HBL.out; omega) hgk)
          clear hwk hgk hmk c11
          go_wp2_with fail
          refine cS.out.mono ?_
          rintro e w6 ⟨hb6, v6, T, rfl, hsk, hown6⟩
          obtain ⟨A6, c6, rfl, hq1, hq2, _, hr6⟩ := SlOf.of_own hown6
          have hb66 := ext_trans hbk hb6
          have hI : Insts l s T := by
            refine ⟨hsk.asc, fun t => (hsk.mem t).trans ?_⟩
            unfold setF
            constructor
            · rintro ⟨_, h⟩
              by_cases hm' : t ∈ bordL l ++ s.map (·.frm)
              · rcases List.mem_append.1 hm' with h' | h'
                · obtain ⟨h1, hh, hc⟩ := List.mem_flatMap.1 h'
                  exact .inl ⟨h1, hh, by simpa using hc⟩
                · obtain ⟨x, hx, hc⟩ := List.mem_map.1 h'
                  exact .inr ⟨x, hx, hc.symm⟩
              · rw [if_neg hm'] at h; cases h
            · rintro (⟨h1, hh, hc⟩ | ⟨x, hx, rfl⟩)
              · have ho := HOK.out h1 hh
                have := ho.t0; have := ho.t1; have := ho.t2
                refine ⟨?_, ?_⟩
                · rcases hc with rfl | rfl
                  · exact good_time (by omega) (by omega)
                  · exact good_time (by omega) (by omega)
                · rw [if_pos (List.mem_append.2 (.inl (mem_bordL.2 ⟨h1, hh, hc⟩)))]; rfl
              · have ho := HSO.out x hx
                refine ⟨good_time ho.f0 (by have := ho.f1; have := ho.f2; omega), ?_⟩
                rw [if_pos (List.mem_append.2 (.inr (List.mem_map.2 ⟨x, hx, rfl⟩)))]; rfl
          have HFA : Hid (findA l s kn = findT l kn s T) := by show _ = _; unfold findA; rw [insts_eq hI]
          have hTl : T.length ≤ 9223372036854775807 := by unfold maxLen at hq2; omega
          have hB6 := ext_trans hBr hb66
          have Hd6 : Hid (w6.heap[D]? = some (.deferred (some []))) := (hb66.block D (lt_block Hdr.out)).trans Hdr.out
          have k36 := (hb66.block _ (lt_block k3r)).trans k3r
          have k56 := (hb66.block _ (lt_block k5r)).trans k5r
          have hs6 := hs.ext hB6
          have hao6 : AudOk w6 A l kn := by
            have := Hae.out
            unfold audE at this
            rw [if_pos Hchk.out] at this
            refine ⟨hr.ext hB6, Hchk.out, ?_, ?_⟩
            all_goals
              by_cases h1 : 4096 < s.length
              · omega
              · rw [if_neg h1] at this
                by_cases h2 : s.all Sight.ok = true
                · rw [if_pos h2] at this
                  by_cases h3 : timeB kn = true
                  · have := timeB_iff.1 h3; omega
                  · rw [if_neg h3] at this; cases this
                · rw [if_neg h2] at this; cases this
          have Hr6 := Lib.hid hr6
          have Hs6 := Lib.hid hs6
          have Hao6 := Lib.hid hao6
          have K36 := Lib.hid k36
          have K56 := Lib.hid k56
          clear hown6 hsk hb6 hbk hI hb66 k3r k5r k36 k56 hs6 hao6 hr6 cS Hmp2 Hon hBr hB4 hs2 hb24
          go_wp2_with fail
          have eF := enters_of Try.func37 (by kernel_rfl) rfl
          have hmf : ∀ (fn : Fn) (first cap : Array Value) (w : World), (Instr.makeFunc fn first cap).run Try.prog w = .ok (.func fn first cap) w := fun _ _ _ _ => rfl
          go_loopw [47, 8, 9] (fun i z b wr => ∃ (k : Nat) (no : Int), k ≤ T.length ∧ i = .int .i64 k ∧ z = .int .i64 no ∧ b = .bool false ∧ Below w6.heap.size w6 wr ∧ Hid (findA l s kn = findT l kn s (T.drop k))) (fun i _ _ _ => T.length - (intOf i).toNat)
          case atStart => exact ⟨0, 0, Nat.zero_le _, rfl, rfl, rfl, Below.refl _ _, HFA.out⟩
          case round =>
            obtain ⟨k, no, hk, rfl, rfl, rfl, hBr6, HK⟩ := hrel
            by_cases hlt : k < T.length
            · obtain ⟨b6, off6, rfl, hlt6, hc6⟩ := Hr6.out.at_ (k := k) (by simpa using hlt)
              have ct := (hBr6.cell (p := ⟨b6, off6 + k, none⟩) hlt6).trans (hc6 k (.int .i64 T[k]) (by simp [hlt]))
              have hft : findT l kn s (T.drop k) = match forbAt l kn s 0 T[k] with | some r => some r | none => findT l kn s (T.drop (k + 1)) := by
                rw [List.drop_eq_getElem_cons hlt, findT]; rfl
              clear hc6
              generalize T[k] = t at *
              obtain ⟨v1, hv1⟩ : ∃ v1, wr.alloc (.cells #[.int .i64 t] 3) = v1 := ⟨_, rfl⟩
              have hbv1 : Below wr.heap.size wr v1 := by subst hv1; exact ext_alloc (Below.refl _ _) _
              have kt1 : v1.heap[wr.heap.size]? = some (.cells #[.int .i64 t] 3 (0, 0)) := by subst hv1; exact World.alloc_heap_new _ _
              have hBv := ext_trans hBr6 hbv1
              have Hft := Lib.hid hft
              have Kt1 := Lib.hid kt1
              clear hft kt1 hbv1
              go_wp2_with fail
              clear hv1
              obtain ⟨wo, rfl⟩ : ∃ wo : World, wo = wr := ⟨_, rfl⟩
              go_loopw [54, 8, 9] (fun i z b wr => ∃ (m : Nat) (no : Int), m ≤ s.length ∧ i = .int .i64 m ∧ z = .int .i64 no ∧ b = .bool false ∧ Below v1.heap.size v1 wr ∧ Hid (forbAt l kn s 0 t = forbAt l kn (s.drop m) m t)) (fun i _ _ _ => s.length - (intOf i).toNat)
              case atStart => exact ⟨0, no, Nat.zero_le _, rfl, rfl, rfl, Below.refl _ _, rfl⟩
              case round =>
                obtain ⟨m, no2, hm', rfl, rfl, rfl, hBm, HM⟩ := hrel
                have hBm6 := ext_trans hBv hBm
                by_cases hlt2 : m < s.length
                · obtain ⟨b, off, rfl, hb, hc⟩ := sig_elem Hs6.out hlt2
                  obtain ⟨d0, d1, d2, d3, d4⟩ := hc _ hBm6
                  have hxo := HSO.out _ (List.getElem_mem hlt2)
                  have hfa : forbAt l kn (s.drop m) m t = match forb l kn s[m] t with | some no => some (m, t, no) | none => forbAt l kn (s.drop (m + 1)) (m + 1) t := by
                    rw [List.drop_eq_getElem_cons hlt2, forbAt]; rfl
                  clear hc
                  generalize s[m] = x at *
                  obtain ⟨V, hV, hbV, hxV, hzV⟩ := sig_new x wr
                  have hbVv := ext_trans hBm hbV
                  have kt := (hbVv.block _ (lt_block Kt1.out)).trans Kt1.out
                  have hb6V := ext_trans hBm6 hbV
                  have kl := (hb6V.block _ (lt_block K36.out)).trans K36.out
                  have kk := (hb6V.block _ (lt_block K56.out)).trans K56.out
                  have cF := Lib.hid (forbidA_any A c l kn x t wo.heap.size w.heap.size (w.heap.size + 1) V (Hao6.out.ext hb6V) hxo kt kl kk)
                  obtain ⟨p0, p1, p2, p3, p4⟩ := sig_at hxV
                  have Hfa := Lib.hid hfa
                  have Kt := Lib.hid kt
                  clear kt kl kk hxV hzV hfa hbV hxo
                  go_wp2_with fail
                  refine cF.out.mono ?_
                  rintro e w9 ⟨no3, b3, rfl, hfb, hb9⟩
                  clear hV d0 d1 d2 d3 d4 p0 p1 p2 p3 p4 cF
                  cases b3
                  · have HM2 : Hid (forbAt l kn s 0 t = forbAt l kn (s.drop (m + 1)) (m + 1) t) := by show _ = _; rw [HM.out, Hfa.out, hfb]; rfl
                    have hB9 := ext_trans hbVv hb9
                    clear hfb HM Hfa hbVv hb9
                    go_wp2_with fail
                    go_roundw
                    case rel => exact ⟨m + 1, no3, by omega, by go_num, rfl, rfl, hB9, HM2⟩
                    case measure => simp [intOf]; omega
                  · have HF : Hid (findR l s kn = ((m : Int), t, no3, true)) := by
                      show _ = _
                      unfold findR
                      rw [if_pos Hae.out, HK.out, Hft.out, HM.out, Hfa.out, hfb]; rfl
                    have k9 := cell_one ((hb9.block _ (lt_block Kt.out)).trans Kt.out)
                    have hb69 := ext_trans hb6V hb9
                    have hBend := ext_trans hB6 hb69
                    have Hd9 : Hid (w9.heap[D]? = some (.deferred (some []))) := (hb69.block D (lt_block Hd6.out)).trans Hd6.out
                    clear hfb HM Hfa hbVv hb9 HK Hft hb69
                    go_wp2_with fail
                    go_still (by kernel_rfl)
                    go_wp2_with fail
                    rw [Exit.noGoto_ret]
                    refine leavesM_ret (W := w9.drew) (v := .tuple #[.int .i64 (m : Int), .int .i64 t, .int .i64 no3, .bool true, .int .i64 0]) Hd9.out ?_ ?_
                    · simp [results, Try.results13, go_sem]
                    · exact ⟨by rw [HF.out, Hae.out], (ext_drew hBend).trans (putObj_below _ _ hD')⟩
                · obtain rfl : m = s.length := by omega
                  have HK2 : Hid (findA l s kn = findT l kn s (T.drop (k + 1))) := by
                    show _ = _
                    rw [HK.out, Hft.out, HM.out, List.drop_length]; rfl
                  clear HK Hft HM
                  go_wp2_with fail
                  go_roundw
                  case rel => exact ⟨k + 1, no2, by omega, by go_num, rfl, rfl, hBm6, HK2⟩
                  case measure => simp [intOf]; omega
            · obtain rfl : k = T.length := by omega
              have HN : Hid (findR l s kn = (0, 0, 0, false)) := by
                show _ = _
                unfold findR
                rw [if_pos Hae.out, HK.out, List.drop_length]; rfl
              have hBend := ext_trans hB6 hBr6
              have Hd9 : Hid (wr.heap[D]? = some (.deferred (some []))) := (hBr6.block D (lt_block Hd6.out)).trans Hd6.out
              clear HK HFA
              go_wp2_with fail
              rw [Exit.noGoto_ret]
              refine leavesM_ret (W := wr) (v := .tuple #[.int .i64 0, .int .i64 0, .int .i64 0, .bool false, .int .i64 0]) Hd9.out ?_ ?_
              · simp [results, Try.results13, go_sem]
              · exact ⟨by rw [HN.out, Hae.out], hBend.trans (putObj_below _ _ hD')⟩
    · rintro D own c pre X _ _ _ h
      exact h.elim
  · have HR : Hid (findR l s kn = (0, 0, 0, false)) := by show _ = _; unfold findR; rw [if_neg hae]
    have h1 : (audE l s kn != 0) = true := by simpa using hae
    generalize hae0 : audE l s kn = ae at *
    have Hae0 := Lib.hid hae0
    clear hae hae0
    go_wp2_with fail
    rw [Exit.noGoto_ret]
    refine leavesM_plain (v := .tuple #[.int .i64 0, .int .i64 0, .int .i64 0, .bool false, .int .i64 ae]) ?_ ?_
    · simp [results, Try.results13, go_sem]
    · exact ⟨by rw [HR.out, Hae0.out], ext_trans hB1 hb2⟩
end Go.Proofs.Ytccmomebpdiimaa

/- Reference 39: Find, walked. -/
namespace Go.Proofs.Ytccmomebpdiimaa
open Go.RowKit Go.Han
attribute [local irreducible] wpStill wpQuiet
set_option maxRecDepth 100000

def Enc (o : Option (Nat × Int × Int)) (f : Bool) (a u n : Int) : Prop := (f = false ∧ o = none ∧ a = 0 ∧ u = 0 ∧ n = 0) ∨ ∃ j : Nat, f = true ∧ o = some (j, u, n) ∧ a = (j : Int)
def outD (l : List House) (s : List Sight) (k i : Nat) (t : Int) : Prop := i < k ∧ allD l s i t
def inD (l : List House) (s : List Sight) (x : Sight) (k j i : Nat) (t : Int) : Prop := outD l s k i t ∨ (i = k ∧ t ∈ (instO l x).take j)
theorem inD_succ {l : List House} {s : List Sight} {x : Sight} {k j : Nat} (hj : j < (instO l x).length) : ∀ i t, inD l s x k (j + 1) i t → inD l s x k j i t ∨ (i = k ∧ t = (instO l x)[j]) := by
  rintro i t (h | ⟨rfl, h⟩)
  · exact .inl (.inl h)
  · rw [List.take_succ_eq_append_getElem hj] at h
    rcases List.mem_append.1 h with h | h
    · exact .inl (.inr ⟨rfl, h⟩)
    · exact .inr ⟨rfl, by simpa using h⟩
theorem inD_le {l : List House} {s : List Sight} {x : Sight} {k j : Nat} : ∀ i t, inD l s x k j i t → i ≤ k := by
  rintro i t (h | ⟨rfl, h⟩)
  · exact Nat.le_of_lt h.1
  · exact Nat.le_refl _
theorem findR_enc {l : List House} {s : List Sight} {kn : Int} {o : Option (Nat × Int × Int)} {f : Bool} {a u n : Int} (h0 : audE l s kn = 0) (h : findA l s kn = o) (he : Enc o f a u n) : findR l s kn = (a, u, n, f) := by
  unfold findR
  rw [if_pos h0, h]
  rcases he with ⟨rfl, rfl, rfl, rfl, rfl⟩ | ⟨j, rfl, rfl, rfl⟩
  · rfl
  · rfl
set_option maxHeartbeats 4000000 in
theorem Find39_any (A : Option Addr) (c : Nat) (l : List House) (A2 : Option Addr) (c2 : Nat) (s : List Sight) (kn : Int) (w : World) (hr : Rd w A (hflat l)) (hm : l.length ≤ 9223372036854775807) (hs : Rd w A2 (sflat s)) (hm2 : s.length ≤ 9223372036854775807) :
    Calls Try.prog 14 #[.slice A l.length c, .slice A2 s.length c2, .int .i64 kn] w (FindPost l s kn w) := by
  have cC := Lib.hid (error39_any A c l A2 c2 s kn w hr hm hs hm2)
  unfold CheckPost at cC
  unfold FindPost
  by_cases hae : audE l s kn = 0
  · have Hae := Lib.hid hae
    obtain ⟨hchk, hsl, hso, k0, k1⟩ := audE_ok hae
    have hlen := (hchk_ok hchk).1
    have HOK : Hid (∀ h ∈ l, h.Ok) := fun h hh => (hasc_ok (hchk_ok hchk).2 h hh).1
    have HSO := Lib.hid hso
    have HA : Hid (AudOk w A l kn) := ⟨hr, hchk, k0, k1⟩
    rw [hae] at cC ⊢
    clear hae hchk hso k0 k1
    go_enter Try.func14, Try.ntmps14
    go_wp2_with fail
    refine cC.out.mono ?_
    rintro e w1 ⟨rfl, hb1⟩
    clear cC
    go_wp2_with fail
    go_loopw [12, 13, 14, 15, 16] (fun vf va vu vn i wr => ∃ (k : Nat) (f : Bool) (a u n : Int) (o : Option (Nat × Int × Int)), k ≤ s.length ∧ i = .int .i64 k ∧ vf = .bool f ∧ va = .int .i64 a ∧ vu = .int .i64 u ∧ vn = .int .i64 n ∧ Below w.heap.size w wr ∧ Hid (Enc o f a u n) ∧ Hid (BestOf l s kn (outD l s k) k o)) (fun _ _ _ _ i _ => s.length - (intOf i).toNat)
    case atStart => exact ⟨0, false, 0, 0, 0, none, Nat.zero_le _, rfl, rfl, rfl, rfl, rfl, hb1, .inl ⟨rfl, rfl, rfl, rfl, rfl⟩, ⟨fun _ i t x hd => absurd hd.1 (by omega), (fun j u n e => by cases e)⟩⟩
    case round =>
      obtain ⟨k, f, a, u, n, o, hk, rfl, rfl, rfl, rfl, rfl, hB, HE, HBO⟩ := hrel
      by_cases hlt : k < s.length
      · obtain ⟨b, off, rfl, hb, hc⟩ := sig_elem hs hlt
        obtain ⟨d0, d1, d2, d3, d4⟩ := hc wr hB
        have hxs : s[k]? = some s[k] := List.getElem?_eq_getElem hlt
        have hxo := HSO.out _ (List.getElem_mem hlt)
        have HC := Lib.hid hc
        have hlt2 : (k : Int) < s.length := by omega
        have kk0 : (0 : Int) ≤ (k : Int) := by omega
        generalize s[k] = x at *
        have cI := Lib.hid (Instants39_any A c l x wr (hr.ext hB) hlen)
        have Hxs := Lib.hid hxs
        have Hxo := Lib.hid hxo
        clear hc hxs hxo
        go_wp2_with fail
        refine cI.out.mono ?_
        rintro e w2 ⟨AI, cI2, rfl, hrI, hb2⟩
        have hB2 := ext_trans hB hb2
        have hln : (instO l x).length ≤ 3000 := by have := instO_len l x; omega
        have HrI := Lib.hid hrI
        clear d0 d1 d2 d3 d4 hrI cI
        go_wp2_with fail
        obtain ⟨wo, rfl⟩ : ∃ wo : World, wo = wr := ⟨_, rfl⟩
        go_loopw [12, 13, 14, 15, 18] (fun vf va vu vn i wr => ∃ (j : Nat) (f : Bool) (a u n : Int) (o : Option (Nat × Int × Int)), j ≤ (instO l x).length ∧ i = .int .i64 j ∧ vf = .bool f ∧ va = .int .i64 a ∧ vu = .int .i64 u ∧ vn = .int .i64 n ∧ Below w2.heap.size w2 wr ∧ Hid (Enc o f a u n) ∧ Hid (BestOf l s kn (inD l s x k j) k o)) (fun _ _ _ _ i _ => (instO l x).length - (intOf i).toNat)
        case atStart => exact ⟨0, f, a, u, n, o, Nat.zero_le _, rfl, rfl, rfl, rfl, rfl, Below.refl _ _, HE, HBO.out.mono (fun i t h => by rcases h with h | ⟨_, h⟩; exact h; simp at h) (Nat.le_refl _)⟩
        case round =>
          clear HE HBO
          obtain ⟨j, f, a, u, n, o, hj, rfl, rfl, rfl, rfl, rfl, hBj, HE, HBO⟩ := hrel
          have hBw := ext_trans hB2 hBj
          by_cases hltj : j < (instO l x).length
          · obtain ⟨d0, d1, d2, d3, d4⟩ := HC.out wr hBw
            obtain ⟨b6, off6, rfl, hlt6, hc6⟩ := HrI.out.at_ (k := j) (by rw [flat_len intC 1 (fun _ => rfl)]; omega)
            have ct := (hBj.cell (p := ⟨b6, off6 + j, none⟩) hlt6).trans (hc6 j (.int .i64 (instO l x)[j]) (by
              have := flat_get intC 1 (fun _ => rfl) (instO l x) j 0 hltj (by omega)
              simpa [intC] using this))
            have htm : (instO l x)[j] ∈ instO l x := List.getElem_mem hltj
            have hDs := inD_succ (s := s) (k := k) hltj
            clear hc6
            have hj2 : (j : Int) < (instO l x).length := by omega
            have j0 : (0 : Int) ≤ (j : Int) := by omega
            generalize (instO l x)[j] = t at *
            have hin : x.frm ≤ t ∧ t < x.until_ := by
              have h1 := Hxo.out.f1
              rcases mem_instO.1 htm with rfl | ⟨h2, h3, _⟩
              · omega
              · omega
            have hbr : b < wr.heap.size := Nat.lt_of_lt_of_le hb hBw.size
            have hb6 : b6 < wr.heap.size := Nat.lt_of_lt_of_le hlt6 hBj.size
            have g0 := fun p => cell_ext (w := wr) (a := ⟨b, off + k * 5, none⟩) hbr d0 p
            have g1 := fun p => cell_ext (w := wr) (a := ⟨b, off + k * 5 + 1, none⟩) hbr d1 p
            have g2 := fun p => cell_ext (w := wr) (a := ⟨b, off + k * 5 + 2, none⟩) hbr d2 p
            have g3 := fun p => cell_ext (w := wr) (a := ⟨b, off + k * 5 + 3, none⟩) hbr d3 p
            have g4 := fun p => cell_ext (w := wr) (a := ⟨b, off + k * 5 + 4, none⟩) hbr d4 p
            have g5 := fun p => cell_ext (w := wr) (a := ⟨b6, off6 + j, none⟩) hb6 ct p
            have cF := Lib.hid (fun p : ExtBy wr => forbid39_val A c l kn x t p.to (HA.out.ext (ext_trans hBw p.ext)) Hxo.out hin.1 hin.2)
            have hfv := forb_val (l := l) (kn := kn) hin.1 hin.2
            generalize verd l (askOf x t kn) = vv at *
            have Hfv := Lib.hid hfv
            have HDs := Lib.hid hDs
            clear hfv hDs d0 d1 d2 d3 d4 hin htm
            go_wp2_with fail
            clear ct
            refine wp_region_ext (by kernel_rfl) (by kernel_rfl) ?_
            repeat (go_big_quiet_step ((go_at_call 40; exact Calls.ext_of (cF.out _))))
            refine wpQuiet_nil ?_
            intro _ hw'
            obtain ⟨p, rfl⟩ := hw'
            have hBp := ext_trans hBj p.ext
            have f5 := g5 p
            clear g0 g1 g2 g3 g4 g5 cF
            generalize p.to = V at *
            cases hv : (vv.1 != 0)
            · have HBO2 : Hid (BestOf l s kn (inD l s x k (j + 1)) k o) := HBO.out.miss Hxs.out (by rw [Hfv.out, if_neg (by rw [hv]; decide)]) HDs.out
              clear HBO
              go_wp2_with fail
              go_roundw
              case rel => exact ⟨j + 1, f, a, u, n, o, by omega, by go_num, rfl, rfl, rfl, rfl, hBp, HE, HBO2⟩
              case measure => simp [intOf]; omega
            · have HBO2 : Hid (BestOf l s kn (inD l s x k (j + 1)) k (stepO o k t vv.2)) := HBO.out.hit Hxs.out (by rw [Hfv.out, if_pos hv]) HDs.out inD_le
              clear HBO
              rcases HE.out with ⟨rfl, rfl, rfl, rfl, rfl⟩ | ⟨j0, rfl, rfl, rfl⟩
              · have HE2 : Hid (Enc (stepO none k t vv.2) true (k : Int) t vv.2) := .inr ⟨k, rfl, rfl, rfl⟩
                clear HE
                go_wp2_with fail
                go_roundw
                case rel => exact ⟨j + 1, true, k, t, vv.2, _, by omega, by go_num, rfl, rfl, rfl, rfl, hBp, HE2, HBO2⟩
                case measure => simp [intOf]; omega
              · by_cases hlu : t < u
                · have HE2 : Hid (Enc (stepO (some (j0, u, n)) k t vv.2) true (k : Int) t vv.2) := .inr ⟨k, rfl, by unfold stepO; simp only; rw [if_pos hlu], rfl⟩
                  clear HE
                  go_wp2_with fail
                  go_roundw
                  case rel => exact ⟨j + 1, true, k, t, vv.2, _, by omega, by go_num, rfl, rfl, rfl, rfl, hBp, HE2, HBO2⟩
                  case measure => simp [intOf]; omega
                · have HE2 : Hid (Enc (stepO (some (j0, u, n)) k t vv.2) true (j0 : Int) u n) := .inr ⟨j0, rfl, by unfold stepO; simp only; rw [if_neg hlu], rfl⟩
                  have hlu' : decide (t < u) = false := decide_eq_false hlu
                  clear HE hlu
                  go_wp2_with fail
                  go_roundw
                  case rel => exact ⟨j + 1, true, j0, u, n, _, by omega, by go_num, rfl, rfl, rfl, rfl, hBp, HE2, HBO2⟩
                  case measure => simp [intOf]; omega
          · obtain rfl : j = (instO l x).length := by omega
            have HBO2 : Hid (BestOf l s kn (outD l s (k + 1)) (k + 1) o) := HBO.out.mono (fun i t h => by
              obtain ⟨h1, y, hy, ht⟩ := h
              rcases Nat.lt_or_ge i k with h2 | h2
              · exact .inl ⟨h2, y, hy, ht⟩
              · obtain rfl : i = k := by omega
                rw [Hxs.out] at hy
                cases hy
                exact .inr ⟨rfl, by rw [List.take_length]; exact ht⟩) (by omega)
            clear HBO
            go_wp2_with fail
            go_roundw
            case rel => exact ⟨k + 1, f, a, u, n, o, by omega, by go_num, rfl, rfl, rfl, rfl, hBw, HE, HBO2⟩
            case measure => simp [intOf]; omega
      · obtain rfl : k = s.length := by omega
        have HF : Hid (findR l s kn = (a, u, n, f)) := findR_enc Hae.out (best_find HOK.out (HBO.out.mono (fun i t h => ⟨by
          obtain ⟨x, hx, _⟩ := h
          exact (List.getElem?_eq_some_iff.1 hx).1, h⟩) (Nat.le_refl _))) HE.out
        clear HBO HE
        go_wp2_with fail
        refine bodyPost_ret (v := .tuple #[.int .i64 a, .int .i64 u, .int .i64 n, .bool f, .int .i64 0]) (by simp [results, Try.results14, go_sem]) rfl ⟨by rw [HF.out], hB⟩
  · have HR : Hid (findR l s kn = (0, 0, 0, false)) := by show _ = _; unfold findR; rw [if_neg hae]
    have h1 : (audE l s kn != 0) = true := by simpa using hae
    generalize audE l s kn = ae at *
    rw [HR.out]
    clear hae
    go_enter Try.func14, Try.ntmps14
    go_wp2_with fail
    refine cC.out.mono ?_
    rintro e w1 ⟨rfl, hb1⟩
    go_wp2_with fail
    refine bodyPost_ret (v := .tuple #[.int .i64 0, .int .i64 0, .int .i64 0, .bool false, .int .i64 ae]) (by simp [results, Try.results14, go_sem]) rfl ⟨rfl, hb1⟩
end Go.Proofs.Ytccmomebpdiimaa

/- Laws 39: few, sane. -/
namespace Go.Proofs.Ytccmomebpdiimaa
open Go.RowKit Go.Han
attribute [local irreducible] wpStill wpQuiet
set_option maxRecDepth 100000

def fewHB (n : Nat) : Bool := decide (n ≤ 30) || (decide (1024 < n) && decide (n ≤ 1100))
def fewSB (n : Nat) : Bool := decide (n ≤ 20) || (decide (4096 < n) && decide (n ≤ 4200))
theorem few35_any (A : Option Addr) (c n : Nat) (w : World) : Calls Try.prog 31 #[.slice A n c] w fun e w' => e = .returned (.bool (fewHB n)) ∧ w = w' := by
  unfold fewHB
  by_cases h1 : n ≤ 30
  · have h1' : (n : Int) ≤ 30 := by omega
    go_enter Try.func31, Try.ntmps31
    go_wp2
    go_ret
    simp [h1]
  · have h1' : decide ((n : Int) ≤ 30) = false := by simp; omega
    by_cases h2 : 1024 < n
    · have h2' : (1024 : Int) < n := by omega
      by_cases h3 : n ≤ 1100
      · have h3' : decide ((n : Int) ≤ 1100) = true := by simp; omega
        go_enter Try.func31, Try.ntmps31
        go_wp2
        go_ret
        simp [h1, h2, h3]
      · have h3' : decide ((n : Int) ≤ 1100) = false := by simp; omega
        go_enter Try.func31, Try.ntmps31
        go_wp2
        go_ret
        simp [h1, h2, h3]
    · have h2' : decide ((1024 : Int) < n) = false := by simp; omega
      go_enter Try.func31, Try.ntmps31
      go_wp2
      go_ret
      simp [h1, h2]
theorem few39_any (A : Option Addr) (c n : Nat) (w : World) : Calls Try.prog 32 #[.slice A n c] w fun e w' => e = .returned (.bool (fewSB n)) ∧ w = w' := by
  unfold fewSB
  by_cases h1 : n ≤ 20
  · have h1' : (n : Int) ≤ 20 := by omega
    go_enter Try.func32, Try.ntmps32
    go_wp2
    go_ret
    simp [h1]
  · have h1' : decide ((n : Int) ≤ 20) = false := by simp; omega
    by_cases h2 : 4096 < n
    · have h2' : (4096 : Int) < n := by omega
      by_cases h3 : n ≤ 4200
      · have h3' : decide ((n : Int) ≤ 4200) = true := by simp; omega
        go_enter Try.func32, Try.ntmps32
        go_wp2
        go_ret
        simp [h1, h2, h3]
      · have h3' : decide ((n : Int) ≤ 4200) = false := by simp; omega
        go_enter Try.func32, Try.ntmps32
        go_wp2
        go_ret
        simp [h1, h2, h3]
    · have h2' : decide ((4096 : Int) < n) = false := by simp; omega
      go_enter Try.func32, Try.ntmps32
      go_wp2
      go_ret
      simp [h1, h2]
theorem few_any (A : Option Addr) (c n : Nat) (A2 : Option Addr) (c2 m : Nat) (w : World) : Calls Try.prog 12 #[.slice A n c, .slice A2 m c2] w fun e w' => e = .returned (.bool (fewHB n && fewSB m)) ∧ w = w' := by
  cases h : fewHB n
  · have H := Lib.hid h
    clear h
    go_enter Try.func12, Try.ntmps12
    go_wp2_with fail
    refine (few35_any _ _ _ _).mono ?_
    rintro e w' ⟨rfl, rfl⟩
    rw [H.out]
    go_wp2
    go_ret
    exact ⟨rfl, rfl⟩
  · have H := Lib.hid h
    clear h
    go_enter Try.func12, Try.ntmps12
    go_wp2_with fail
    refine (few35_any _ _ _ _).mono ?_
    rintro e w' ⟨rfl, rfl⟩
    rw [H.out]
    go_wp2_with fail
    refine (few39_any _ _ _ _).mono ?_
    rintro e w' ⟨rfl, rfl⟩
    go_wp2
    go_ret
    exact ⟨by simp, rfl⟩
def strikeH (no frm kn : Int) : House := ⟨no, 1, -1, 0, 10, -1, frm, 1099511627776, kn, 0⟩
theorem strike_any (no frm kn : Int) (w : World) : Calls Try.prog 30 #[.int .i64 no, .int .i64 frm, .int .i64 kn] w fun e w' => e = .returned (strikeH no frm kn).val ∧ Below w.heap.size w w' := by
  unfold strikeH House.val
  go_enter Try.func30, Try.ntmps30
  go_wp2_with fail
  exact bodyPost_ret (v := .agg #[.int .i64 no, .int .i64 1, .int .i64 (-1), .int .i64 0, .int .i64 10, .int .i64 (-1), .int .i64 frm, .int .i64 1099511627776, .int .i64 kn, .int .i64 0]) (by simp [results, Try.results30, go_sem]) rfl ⟨rfl, ext_alloc (Below.refl _ _) _⟩
theorem find_at {l : List House} {s : List Sight} {kn i t no : Int} {ok : Bool} {ae : Int} (A : Option Addr) (c : Nat) (A2 : Option Addr) (c2 : Nat) (w : World) (hr : Rd w A (hflat l)) (hs : Rd w A2 (sflat s)) (h1 : findR l s kn = (i, t, no, ok)) (h2 : audE l s kn = ae) (hm : l.length ≤ 1000) (hm2 : s.length ≤ 1000) :
    Calls Try.prog 13 #[.slice A l.length c, .slice A2 s.length c2, .int .i64 kn] w fun e w' => e = .returned (.tuple #[.int .i64 i, .int .i64 t, .int .i64 no, .bool ok, .int .i64 ae]) ∧ Below w.heap.size w w' := by
  have h := FindA_any A c l A2 c2 s kn w hr (by omega) hs (by omega)
  unfold FindPost at h
  rw [h1, h2] at h
  exact h
theorem breaks_at {l : List House} {s : List Sight} {kn i t no : Int} {ok : Bool} {ae : Int} (A : Option Addr) (c : Nat) (A2 : Option Addr) (c2 : Nat) (w : World) (hr : Rd w A (hflat l)) (hs : Rd w A2 (sflat s)) (h1 : brkR l s kn i t no = ok) (h2 : audE l s kn = ae) (hm : l.length ≤ 1000) (hm2 : s.length ≤ 1000) :
    Calls Try.prog 15 #[.slice A l.length c, .slice A2 s.length c2, .int .i64 kn, .int .i64 i, .int .i64 t, .int .i64 no] w fun e w' => e = .returned (.tuple #[.bool ok, .int .i64 ae]) ∧ Below w.heap.size w w' := by
  have h := BreaksA_any A c l A2 c2 s kn i t no w hr (by omega) hs (by omega)
  unfold BrkPost at h
  rw [h1, h2] at h
  exact h
abbrev lS : List House := [strikeH 6 20 25]
abbrev sS : List Sight := [⟨0, 5, 0, 10, 30⟩]
abbrev sZ : List Sight := [⟨0, 0, 0, 0, 0⟩]
theorem ex1 : findR lS sS 25 = (0, 20, 6, true) ∧ audE lS sS 25 = 0 := ⟨by kernel_rfl, by kernel_rfl⟩
theorem ex2 : findR lS sS 24 = (0, 0, 0, false) ∧ audE lS sS 24 = 0 := ⟨by kernel_rfl, by kernel_rfl⟩
theorem ex3 : brkR lS sS 25 0 25 6 = true ∧ brkR lS sS 25 0 25 5 = false ∧ brkR lS sS 25 0 19 6 = false := ⟨by kernel_rfl, by kernel_rfl, by kernel_rfl⟩
theorem ex4 : findR [] [] 0 = (0, 0, 0, false) ∧ audE [] [] 0 = 0 := ⟨by kernel_rfl, by kernel_rfl⟩
theorem ex5 : findR [] sZ 0 = (0, 0, 0, false) ∧ audE [] sZ 0 = 390 := ⟨by kernel_rfl, by kernel_rfl⟩
theorem ex6 : findR [] [] (-1) = (0, 0, 0, false) ∧ audE [] [] (-1) = 1 := ⟨by kernel_rfl, by kernel_rfl⟩
theorem ex7 : brkR [] [] 0 0 0 0 = false := by kernel_rfl
end Go.Proofs.Ytccmomebpdiimaa

/- Laws 39: sane; AuditSpec, AuditBreaksSpec. -/
namespace Go.Proofs.Ytccmomebpdiimaa
open Go.RowKit Go.Han
attribute [local irreducible] wpStill wpQuiet
set_option maxRecDepth 100000

set_option maxHeartbeats 4000000 in
theorem sane39_any (w : World) : Calls Try.prog 11 #[] w fun e w' => e = .returned (.bool true) ∧ Below w.heap.size w w' := by
  have cS := strike_any 6 20 25 w
  unfold House.val strikeH at cS
  go_enter Try.func11, Try.ntmps11
  go_wp2_with fail
  refine cS.mono ?_
  rintro e w1 ⟨rfl, hb1⟩
  clear cS
  obtain ⟨w2, hw2⟩ : ∃ W, (w1.alloc (.cells #[.int .i64 6, .int .i64 1, .int .i64 (-1), .int .i64 0, .int .i64 10, .int .i64 (-1), .int .i64 20, .int .i64 1099511627776, .int .i64 25, .int .i64 0] 38)).alloc (.cells #[.int .i64 0, .int .i64 5, .int .i64 0, .int .i64 10, .int .i64 30] 34) = W := ⟨_, rfl⟩
  have hb2 : Below w1.heap.size w1 w2 := by subst hw2; exact ext_alloc (ext_alloc (Below.refl _ _) _) _
  have hr2 : Rd w2 (some ⟨w1.heap.size, 0, none⟩) (hflat lS) := by subst hw2; exact (grd_new rfl).ext (ext_alloc (Below.refl _ _) _)
  have hs2 : Rd w2 (some ⟨w1.heap.size + 1, 0, none⟩) (sflat sS) := by subst hw2; exact grd_blk (galloc_at _ _ _ (by simp)) rfl
  have HW2 := Lib.hid hw2
  have HB2 := Lib.hid (ext_trans hb1 hb2)
  have Hr2 := Lib.hid hr2
  have Hs2 := Lib.hid hs2
  clear hw2 hb1 hb2 hr2 hs2
  go_wp2_with fail
  rw [HW2.out]
  clear HW2
  refine (find_at (some ⟨w1.heap.size, 0, none⟩) 1 (some ⟨w1.heap.size + 1, 0, none⟩) 1 w2 (Hr2.out.ext (Below.refl w2.heap.size w2)) (Hs2.out.ext (Below.refl w2.heap.size w2)) ex1.1 ex1.2 (by decide) (by decide)).mono ?_
  rintro e w3 ⟨rfl, hb⟩
  have hB3 := ext_trans (Below.refl w2.heap.size w2) hb
  clear hb
  go_wp2_with fail
  refine (find_at (some ⟨w1.heap.size, 0, none⟩) 1 (some ⟨w1.heap.size + 1, 0, none⟩) 1 w3 (Hr2.out.ext hB3) (Hs2.out.ext hB3) ex2.1 ex2.2 (by decide) (by decide)).mono ?_
  rintro e w4 ⟨rfl, hb⟩
  have hB4 := ext_trans hB3 hb
  clear hb
  go_wp2_with fail
  refine (breaks_at (some ⟨w1.heap.size, 0, none⟩) 1 (some ⟨w1.heap.size + 1, 0, none⟩) 1 w4 (Hr2.out.ext hB4) (Hs2.out.ext hB4) ex3.1 ex1.2 (by decide) (by decide)).mono ?_
  rintro e w5 ⟨rfl, hb⟩
  have hB5 := ext_trans hB4 hb
  clear hb
  go_wp2_with fail
  refine (breaks_at (some ⟨w1.heap.size, 0, none⟩) 1 (some ⟨w1.heap.size + 1, 0, none⟩) 1 w5 (Hr2.out.ext hB5) (Hs2.out.ext hB5) ex3.2.1 ex1.2 (by decide) (by decide)).mono ?_
  rintro e w6 ⟨rfl, hb⟩
  have hB6 := ext_trans hB5 hb
  clear hb
  go_wp2_with fail
  refine (breaks_at (some ⟨w1.heap.size, 0, none⟩) 1 (some ⟨w1.heap.size + 1, 0, none⟩) 1 w6 (Hr2.out.ext hB6) (Hs2.out.ext hB6) ex3.2.2 ex1.2 (by decide) (by decide)).mono ?_
  rintro e w7 ⟨rfl, hb⟩
  have hB7 := ext_trans hB6 hb
  clear hb
  go_wp2_with fail
  refine (find_at none 0 none 0 w7 (Rd.nil _ _) (Rd.nil _ _) ex4.1 ex4.2 (by decide) (by decide)).mono ?_
  rintro e w8 ⟨rfl, hb⟩
  have hB8 := ext_trans hB7 hb
  clear hb
  go_wp2_with fail
  obtain ⟨w9, hw9⟩ : ∃ W, w8.alloc (.cells #[.int .i64 0, .int .i64 0, .int .i64 0, .int .i64 0, .int .i64 0] 34) = W := ⟨_, rfl⟩
  have hb9 : Below w8.heap.size w8 w9 := by subst hw9; exact ext_alloc (Below.refl _ _) _
  have hz : Rd w9 (some ⟨w8.heap.size, 0, none⟩) (sflat sZ) := by subst hw9; exact grd_new rfl
  rw [hw9]
  clear hw9
  have hB9 := ext_trans hB8 hb9
  refine (find_at none 0 (some ⟨w8.heap.size, 0, none⟩) 1 w9 (Rd.nil _ _) hz ex5.1 ex5.2 (by decide) (by decide)).mono ?_
  rintro e w10 ⟨rfl, hb⟩
  have hB10 := ext_trans hB9 hb
  clear hb hz hb9
  go_wp2_with fail
  refine (find_at none 0 none 0 w10 (Rd.nil _ _) (Rd.nil _ _) ex6.1 ex6.2 (by decide) (by decide)).mono ?_
  rintro e w11 ⟨rfl, hb⟩
  have hB11 := ext_trans hB10 hb
  clear hb
  go_wp2_with fail
  refine (breaks_at none 0 none 0 w11 (Rd.nil _ _) (Rd.nil _ _) ex7 ex4.2 (by decide) (by decide)).mono ?_
  rintro e w12 ⟨rfl, hb⟩
  have hB12 := ext_trans hB11 hb
  clear hb
  go_wp2_with fail
  go_ret
  exact ⟨rfl, ext_trans HB2.out hB12⟩

/-- What is asked of the arguments of a law. -/
structure ArgsA (w : World) (A : Option Addr) (l : List House) (A2 : Option Addr) (s : List Sight) : Prop where
  hr : Rd w A (hflat l)
  hm : l.length ≤ 9223372036854775807
  hs : Rd w A2 (sflat s)
  hm2 : s.length ≤ 9223372036854775807
theorem ArgsA.ext {w W : World} {A : Option Addr} {l : List House} {A2 : Option Addr} {s : List Sight} (h : ArgsA w A l A2 s) (hb : Below w.heap.size w W) : ArgsA W A l A2 s := ⟨h.hr.ext hb, h.hm, h.hs.ext hb, h.hm2⟩
set_option maxHeartbeats 2000000 in
theorem AuditSpec_any (A : Option Addr) (c : Nat) (l : List House) (A2 : Option Addr) (c2 : Nat) (s : List Sight) (kn : Int) (w : World) (h : ArgsA w A l A2 s) :
    Calls Try.prog 3 #[.slice A l.length c, .slice A2 s.length c2, .int .i64 kn] w fun e w' => e = .returned (.bool true) ∧ Below w.heap.size w w' := by
  go_enter Try.func3, Try.ntmps3
  go_wp2_with fail
  refine (sane39_any w).mono ?_
  rintro e w1 ⟨rfl, hb1⟩
  go_wp2_with fail
  refine (few_any _ _ _ _ _ _ w1).mono ?_
  rintro e w' ⟨rfl, rfl⟩
  cases hf : (fewHB l.length && fewSB s.length)
  · go_wp2_with fail
    go_ret
    exact ⟨rfl, hb1⟩
  · clear hf
    have h1 := h.ext hb1
    have cF := Lib.hid (FindA_any A c l A2 c2 s kn w1 h1.hr h1.hm h1.hs h1.hm2)
    have cG := Lib.hid (fun W (hW : Below w1.heap.size w1 W) => Find39_any A c l A2 c2 s kn W (h1.ext hW).hr h1.hm (h1.ext hW).hs h1.hm2)
    unfold FindPost at cF cG
    generalize findR l s kn = r at *
    generalize audE l s kn = ae at *
    go_wp2_with fail
    refine cF.out.mono ?_
    rintro e w2 ⟨rfl, hb2⟩
    go_wp2_with fail
    refine (cG.out w2 hb2).mono ?_
    rintro e w3 ⟨rfl, hb3⟩
    go_wp2_with fail
    go_ret
    exact ⟨rfl, ext_trans hb1 (ext_trans hb2 hb3)⟩
set_option maxHeartbeats 2000000 in
theorem AuditBreaksSpec_any (A : Option Addr) (c : Nat) (l : List House) (A2 : Option Addr) (c2 : Nat) (s : List Sight) (kn i t no : Int) (w : World) (h : ArgsA w A l A2 s) :
    Calls Try.prog 4 #[.slice A l.length c, .slice A2 s.length c2, .int .i64 kn, .int .i64 i, .int .i64 t, .int .i64 no] w fun e w' => e = .returned (.bool true) ∧ Below w.heap.size w w' := by
  go_enter Try.func4, Try.ntmps4
  go_wp2_with fail
  refine (sane39_any w).mono ?_
  rintro e w1 ⟨rfl, hb1⟩
  go_wp2_with fail
  refine (few_any _ _ _ _ _ _ w1).mono ?_
  rintro e w' ⟨rfl, rfl⟩
  cases hf : (fewHB l.length && fewSB s.length)
  · go_wp2_with fail
    go_ret
    exact ⟨rfl, hb1⟩
  · clear hf
    have h1 := h.ext hb1
    have cF := Lib.hid (BreaksA_any A c l A2 c2 s kn i t no w1 h1.hr h1.hm h1.hs h1.hm2)
    have cG := Lib.hid (fun W (hW : Below w1.heap.size w1 W) => Breaks39_any A c l A2 c2 s kn i t no W (h1.ext hW).hr h1.hm (h1.ext hW).hs h1.hm2)
    unfold BrkPost at cF cG
    generalize brkR l s kn i t no = r at *
    generalize audE l s kn = ae at *
    go_wp2_with fail
    refine cF.out.mono ?_
    rintro e w2 ⟨rfl, hb2⟩
    go_wp2_with fail
    refine (cG.out w2 hb2).mono ?_
    rintro e w3 ⟨rfl, hb3⟩
    go_wp2_with fail
    go_ret
    exact ⟨rfl, ext_trans hb1 (ext_trans hb2 hb3)⟩
end Go.Proofs.Ytccmomebpdiimaa

/- How the arguments of the statements read: decisions, sights, slices of them, numbers. -/
namespace Go.Proofs.Ytccmomebpdiimaa
open Go.RowKit Go.Han Go.ChangeShapes Go.WideShapes Go.ChangeAt Go.Deep
set_option maxRecDepth 100000

theorem own_knob : ownKnob Try.prog.godebug = none := by kernel_rfl
theorem laid_out : laidOutB Try.prog = true := by kernel_rfl
abbrev laidL : List (String × DataW Unit) := []
section
variable {H : Type} {enc : TypeId × Value → H} {w : World} {base : Nat} {spare : Nat → Bool} {held : Bool}
theorem cells_int : Try.prog.cellsOf 3 = 1 := by kernel_rfl
/-- A struct of n ints. -/
theorem trod_ints {t n : Nat} (hu : ∃ fs : Array Field, Try.prog.underlying t = some (.struct fs) ∧ fs.toList.map (fun f => (f.type, f.offset)) = (List.range n).map (fun i => (3, i)) ∧ Try.prog.cellsOf t = n)
    {fuel : Nat} {cs : List Value} {x : DataW H × List MemPlace} (h : DataW.trod enc Try.prog w base spare held fuel t cs = some x) : ∃ xs : List Int, xs.length = n ∧ cs = xs.map (Value.int .i64) := by
  obtain ⟨fs, hu, hf, hc⟩ := hu
  obtain ⟨ys, m, _, _, hlen, hxl, hat⟩ := DataW.trod_struct hu h
  rw [hc] at hlen
  have hsz : fs.size = n := by have := congrArg List.length hf; simpa using this
  have each : ∀ i, i < n → ∃ a : Int, cs[i]? = some (.int .i64 a) := by
    intro i hi
    have h1 : (fs.toList.map (fun f => (f.type, f.offset)))[i]? = some (3, i) := by rw [hf]; simp [hi]
    rw [List.getElem?_map] at h1
    cases hfi : fs.toList[i]? with
    | none => rw [hfi] at h1; cases h1
    | some f =>
      rw [hfi] at h1
      simp only [Option.map_some, Option.some.injEq, Prod.mk.injEq] at h1
      have h2 := hat i f (by simpa using hfi)
      rw [h1.1, h1.2, cells_int, List.getElem?_eq_getElem (by omega)] at h2
      obtain ⟨a, ha, _⟩ := DataW.trod_int Try.underlying3 h2
      refine ⟨a, ?_⟩
      have h3 : (cs.drop i).take 1 = [cs[i]] := by
        have hi' : i < cs.length := by omega
        rw [List.drop_eq_getElem_cons hi']; rfl
      rw [h3] at ha
      rw [List.getElem?_eq_getElem (by omega)]
      simpa using ha
  refine ⟨(List.range n).map (fun i => if h : i < n then Classical.choose (each i h) else 0), by simp, ?_⟩
  refine List.ext_getElem? fun i => ?_
  rcases Nat.lt_or_ge i n with hi | hi
  · rw [Classical.choose_spec (each i hi)]
    simp [hi]
  · rw [List.getElem?_eq_none (by omega), List.getElem?_eq_none (by simpa using hi)]
theorem house_und : ∃ fs : Array Field, Try.prog.underlying 38 = some (.struct fs) ∧ fs.toList.map (fun f => (f.type, f.offset)) = (List.range 10).map (fun i => (3, i)) ∧ Try.prog.cellsOf 38 = 10 := ⟨_, Try.underlying38, by kernel_rfl, by kernel_rfl⟩
theorem sight_und : ∃ fs : Array Field, Try.prog.underlying 34 = some (.struct fs) ∧ fs.toList.map (fun f => (f.type, f.offset)) = (List.range 5).map (fun i => (3, i)) ∧ Try.prog.cellsOf 34 = 5 := ⟨_, Try.underlying34, by kernel_rfl, by kernel_rfl⟩
theorem trod_house {fuel : Nat} {cs : List Value} {x : DataW H × List MemPlace} (h : DataW.trod enc Try.prog w base spare held fuel 38 cs = some x) : ∃ y : House, cs = y.cells := by
  obtain ⟨xs, hl, rfl⟩ := trod_ints house_und h
  match xs, hl with
  | [a, b, c, d, e, f, g, i, j, k], _ => exact ⟨⟨a, b, c, d, e, f, g, i, j, k⟩, rfl⟩
theorem trod_sight {fuel : Nat} {cs : List Value} {x : DataW H × List MemPlace} (h : DataW.trod enc Try.prog w base spare held fuel 34 cs = some x) : ∃ y : Sight, cs = y.cells := by
  obtain ⟨xs, hl, rfl⟩ := trod_ints sight_und h
  match xs, hl with
  | [a, b, c, d, e], _ => exact ⟨⟨a, b, c, d, e⟩, rfl⟩

/-- The end of a row's proof: the call has only laid new blocks. -/
theorem post_below {P : Program} {f : Func} {s : ChangeSpec} {apart fresh handsOn again : Bool} {W W' : World} {args : Array Value} {v : Value} {ds gs : List (DataW H)} {before pa pv : List MemPlace}
    (hW : DataW.Whole enc P f.params.toList s.vars apart W args.toList ds gs before)
    (hres : ∀ (b : Nat) (sp : Nat → Bool) (hd : Bool), DataW.TrodAll enc P W' b sp hd f.resultTypes.toList (v.resultList f.resultTypes.size) (s.fn H (ds ++ gs)).results [])
    (hargs : ∀ sp : Nat → Bool, (∀ p ∈ before, sp p.block = true) → DataW.TrodAll enc P W' 0 sp true f.params.toList args.toList (s.fn H (ds ++ gs)).args pa)
    (hvars : ∀ sp : Nat → Bool, (∀ p ∈ before, sp p.block = true) → DataW.TrodVars enc P W' sp s.vars (s.fn H (ds ++ gs)).vars pv)
    (hps : before = pa ++ pv) (hb : Below W.heap.size W W')
    (hok : ∀ (j : Nat) (t : TypeId) (r : Value), f.resultTypes[j]? = some t → (v.resultList f.resultTypes.size)[j]? = some r → Value.okWide P W' .any 0 t r) :
    s.post enc P f apart fresh handsOn again W args v W' := by
  have hlt : ∀ p ∈ before, p.block < W.heap.size := fun p hp => hW.lt p hp
  have hold : ∀ p ∈ before, (fun b => decide (b < W.heap.size)) p.block = true := fun p hp => by simpa using hlt p hp
  refine ⟨ds, gs, before, [], pa, pv, hW, hres _ _ _, hargs _ hold, hvars _ hold, World.keptBut_mono (fun p hp => ⟨hp, ?_⟩) (hb.frame (· ∈ before)), fun _ => ?_⟩
  · rw [hps, List.mem_append] at hp
    exact Or.inr hp
  · obtain ⟨_, _, _, _, _, hz, hn⟩ := hW
    refine ⟨hok, _, _, ([] ++ pa) ++ pv, ⟨[] ++ pa, pv, trodAll_append (hargs _ (fun _ _ => rfl)) (hres _ _ _), hvars _ (fun _ _ => rfl), rfl, ?_, ?_⟩, ?_⟩
    · intro b off hp
      have hin : MemPlace.cell b off ∈ before := by rw [hps]; simpa using hp
      rw [hb.frozen (hlt _ hin)]
      exact hz b off hin
    · intro ha
      have := hn ha
      rw [hps] at this
      simpa using this
    · intro p hp _
      rw [hps]
      simpa using hp

/-- A slice whose elements each read as s cells. -/
theorem open_rows {α : Type} (f : α → List Value) (s : Nat) (d0 : α) {t e : TypeId} (ht : Try.prog.underlying t = some (.slice e)) (hs : Try.prog.cellsOf e = s) (hs0 : 0 < s) (hf : ∀ y, (f y).length = s)
    (hel : ∀ (fuel : Nat) (cs : List Value) (x : DataW H × List MemPlace), DataW.trod enc Try.prog w 0 spare held fuel e cs = some x → ∃ y : α, cs = f y)
    {fuel : Nat} {cs : List Value} {x : DataW H × List MemPlace} (h : DataW.trod enc Try.prog w 0 spare held fuel t cs = some x) :
    ∃ (A : Option Addr) (cp : Nat) (l : List α), cs = [.slice A l.length cp] ∧ Rd w A (l.flatMap f) ∧ (A = none → l = []) ∧ l.length ≤ maxLen := by
  rcases open_slice ht h with ⟨rfl, _⟩ | ⟨a, len, cap, m, n, D, Pl, rfl, _, hl, hm, hmm, _, hi⟩
  · exact ⟨none, 0, [], rfl, Rd.nil _ _, fun _ => rfl, Nat.zero_le _⟩
  · have hlm : len ≤ m := by rw [hmm]; split <;> omega
    have each : ∀ i, i < len → ∃ y : α, ∀ j u, (f y)[j]? = some u → w.cell? (a.add (i * s + j)) = some u := by
      intro i hil
      obtain ⟨cs', hc, htr⟩ := hi i (by omega)
      obtain ⟨y, rfl⟩ := hel _ _ _ htr
      refine ⟨y, fun j u hu => ?_⟩
      rw [hs] at hc
      obtain ⟨_, hcl, hat⟩ := World.cells?_some hc
      have hj : j < s := by rw [← hf y]; exact (List.getElem?_eq_some_iff.1 hu).1
      rw [← Go.Deep.add_add, hat j hj, hu]
    refine ⟨some a, cap, (List.range len).map (fun i => if h : i < len then Classical.choose (each i h) else d0), by rw [List.length_map, List.length_range], ?_, (fun h => by cases h), by rw [List.length_map, List.length_range]; omega⟩
    rcases Nat.eq_zero_or_pos len with rfl | hpos
    · exact .inl (by simp)
    · have hsp : a.spot = none ∧ a.block < w.heap.size := by
        obtain ⟨y0, h0⟩ := each 0 hpos
        have hl0 : 0 < (f y0).length := by rw [hf]; exact hs0
        have := h0 0 _ (List.getElem?_eq_getElem hl0)
        rw [Nat.zero_mul, Nat.zero_add] at this
        have hc : w.cell? a = some _ := this
        refine ⟨?_, lt_cell hc⟩
        unfold World.cell? at hc
        split at hc
        · split at hc
          · cases hc
          · rename_i hn; simpa using hn
        · cases hc
      obtain ⟨b, off, sp⟩ := a
      obtain ⟨rfl, hb⟩ := hsp
      refine .inr ⟨b, off, rfl, hb, fun j u hu => ?_⟩
      have hj : j < len * s := by
        have := (List.getElem?_eq_some_iff.1 hu).1
        rwa [flat_len f s hf, List.length_map, List.length_range] at this
      have hk : j / s < len := by rw [Nat.div_lt_iff_lt_mul hs0]; exact hj
      have hjs : j % s < s := Nat.mod_lt _ hs0
      have e : j / s * s + j % s = j := by rw [Nat.mul_comm]; exact Nat.div_add_mod j s
      have hg := flat_get f s hf ((List.range len).map (fun i => if h : i < len then Classical.choose (each i h) else d0)) (j / s) (j % s) (by simpa using hk) hjs
      rw [e, hu, List.getElem_map, List.getElem_range, dif_pos hk] at hg
      have := Classical.choose_spec (each (j / s) hk) (j % s) u hg.symm
      rw [e] at this
      unfold Addr.add at this
      split at this
      · rename_i h0; subst h0; exact this
      · exact this
end
section
variable {H : Type} {enc : TypeId × Value → H} {P : Program} {w : World} {base : Nat} {spare : Nat → Bool} {held : Bool}
theorem trodAll_below (hl : laidOutB P = true) {W W' : World} (hb : Below W.heap.size W W') {sp : Nat → Bool} : ∀ {ts : List TypeId} {vs : List Value} {ds : List (DataW H)} {ps : List MemPlace}, (ts.all fun t => P.readableRec t && decide (t < P.types.size)) = true →
    DataW.TrodAll enc P W 0 (fun _ => true) true ts vs ds ps → (∀ x ∈ ps, x.block < W.heap.size) → (∀ x ∈ ps, sp x.block = true) → DataW.TrodAll enc P W' 0 sp true ts vs ds ps
  | [], vs, ds, ps, _, h, _, _ => by
    obtain ⟨rfl, rfl, rfl⟩ := trodAll_nil h
    exact trodAll_mk0
  | t :: ts, vs, ds, ps, hr, h, hlt, hsp => by
    simp only [List.all_cons, Bool.and_eq_true, decide_eq_true_eq] at hr
    obtain ⟨v, vs', d, ds', p, q, rfl, rfl, rfl, hd, hrest⟩ := trodAll_cons h
    exact trodAll_cons_mk (WideElems.Trod_stays hl hr.1.1 hr.1.2 hd (fun x hx => hb.same (hlt x (by simp [hx]))) (fun x hx => hsp x (by simp [hx])))
      (trodAll_below hl hb hr.2 hrest (fun x hx => hlt x (by simp [hx])) (fun x hx => hsp x (by simp [hx])))
theorem args_two {t0 t1 : TypeId} {args : Array Value} {ds : List (DataW H)} {ps : List MemPlace} (h : DataW.TrodAll enc P w base spare held [t0, t1] args.toList ds ps) :
    ∃ v0 v1 d0 d1 p0 p1, args = #[v0, v1] ∧ ds = [d0, d1] ∧ DataW.Trod enc P w base spare held t0 v0 d0 p0 ∧ DataW.Trod enc P w base spare held t1 v1 d1 p1 := by
  obtain ⟨v0, s0, d0, e0, p0, q0, hargs, rfl, rfl, h0, r0⟩ := trodAll_cons h
  obtain ⟨v1, s1, d1, e1, p1, q1, rfl, rfl, rfl, h1, r1⟩ := trodAll_cons r0
  obtain ⟨rfl, rfl, rfl⟩ := trodAll_nil r1
  exact ⟨v0, v1, d0, d1, p0, p1, by cases args; simp_all, rfl, h0, h1⟩
theorem args_three {t0 t1 t2 : TypeId} {args : Array Value} {ds : List (DataW H)} {ps : List MemPlace} (h : DataW.TrodAll enc P w base spare held [t0, t1, t2] args.toList ds ps) :
    ∃ v0 v1 v2 d0 d1 d2 p0 p1 p2, args = #[v0, v1, v2] ∧ ds = [d0, d1, d2] ∧ DataW.Trod enc P w base spare held t0 v0 d0 p0 ∧ DataW.Trod enc P w base spare held t1 v1 d1 p1 ∧ DataW.Trod enc P w base spare held t2 v2 d2 p2 := by
  obtain ⟨v0, s0, d0, e0, p0, q0, hargs, rfl, rfl, h0, r0⟩ := trodAll_cons h
  obtain ⟨v1, s1, d1, e1, p1, q1, rfl, rfl, rfl, h1, r1⟩ := trodAll_cons r0
  obtain ⟨v2, s2, d2, e2, p2, q2, rfl, rfl, rfl, h2, r2⟩ := trodAll_cons r1
  obtain ⟨rfl, rfl, rfl⟩ := trodAll_nil r2
  exact ⟨v0, v1, v2, d0, d1, d2, p0, p1, p2, by cases args; simp_all, rfl, h0, h1, h2⟩
theorem args_four {t0 t1 t2 t3 : TypeId} {args : Array Value} {ds : List (DataW H)} {ps : List MemPlace} (h : DataW.TrodAll enc P w base spare held [t0, t1, t2, t3] args.toList ds ps) :
    ∃ v0 v1 v2 v3 d0 d1 d2 d3 p0 p1 p2 p3, args = #[v0, v1, v2, v3] ∧ ds = [d0, d1, d2, d3] ∧ DataW.Trod enc P w base spare held t0 v0 d0 p0 ∧ DataW.Trod enc P w base spare held t1 v1 d1 p1 ∧ DataW.Trod enc P w base spare held t2 v2 d2 p2 ∧ DataW.Trod enc P w base spare held t3 v3 d3 p3 := by
  obtain ⟨v0, s0, d0, e0, p0, q0, hargs, rfl, rfl, h0, r0⟩ := trodAll_cons h
  obtain ⟨v1, s1, d1, e1, p1, q1, rfl, rfl, rfl, h1, r1⟩ := trodAll_cons r0
  obtain ⟨v2, s2, d2, e2, p2, q2, rfl, rfl, rfl, h2, r2⟩ := trodAll_cons r1
  obtain ⟨v3, s3, d3, e3, p3, q3, rfl, rfl, rfl, h3, r3⟩ := trodAll_cons r2
  obtain ⟨rfl, rfl, rfl⟩ := trodAll_nil r3
  exact ⟨v0, v1, v2, v3, d0, d1, d2, d3, p0, p1, p2, p3, by cases args; simp_all, rfl, h0, h1, h2, h3⟩
theorem args_six {t0 t1 t2 t3 t4 t5 : TypeId} {args : Array Value} {ds : List (DataW H)} {ps : List MemPlace} (h : DataW.TrodAll enc P w base spare held [t0, t1, t2, t3, t4, t5] args.toList ds ps) :
    ∃ v0 v1 v2 v3 v4 v5 d0 d1 d2 d3 d4 d5 p0 p1 p2 p3 p4 p5, args = #[v0, v1, v2, v3, v4, v5] ∧ ds = [d0, d1, d2, d3, d4, d5] ∧ DataW.Trod enc P w base spare held t0 v0 d0 p0 ∧ DataW.Trod enc P w base spare held t1 v1 d1 p1 ∧ DataW.Trod enc P w base spare held t2 v2 d2 p2 ∧ DataW.Trod enc P w base spare held t3 v3 d3 p3 ∧ DataW.Trod enc P w base spare held t4 v4 d4 p4 ∧ DataW.Trod enc P w base spare held t5 v5 d5 p5 := by
  obtain ⟨v0, s0, d0, e0, p0, q0, hargs, rfl, rfl, h0, r0⟩ := trodAll_cons h
  obtain ⟨v1, s1, d1, e1, p1, q1, rfl, rfl, rfl, h1, r1⟩ := trodAll_cons r0
  obtain ⟨v2, s2, d2, e2, p2, q2, rfl, rfl, rfl, h2, r2⟩ := trodAll_cons r1
  obtain ⟨v3, s3, d3, e3, p3, q3, rfl, rfl, rfl, h3, r3⟩ := trodAll_cons r2
  obtain ⟨v4, s4, d4, e4, p4, q4, rfl, rfl, rfl, h4, r4⟩ := trodAll_cons r3
  obtain ⟨v5, s5, d5, e5, p5, q5, rfl, rfl, rfl, h5, r5⟩ := trodAll_cons r4
  obtain ⟨rfl, rfl, rfl⟩ := trodAll_nil r5
  exact ⟨v0, v1, v2, v3, v4, v5, d0, d1, d2, d3, d4, d5, p0, p1, p2, p3, p4, p5, by cases args; simp_all, rfl, h0, h1, h2, h3, h4, h5⟩
theorem args_five {t0 t1 t2 t3 t4 : TypeId} {args : Array Value} {ds : List (DataW H)} {ps : List MemPlace} (h : DataW.TrodAll enc P w base spare held [t0, t1, t2, t3, t4] args.toList ds ps) :
    ∃ v0 v1 v2 v3 v4 d0 d1 d2 d3 d4 p0 p1 p2 p3 p4, args = #[v0, v1, v2, v3, v4] ∧ ds = [d0, d1, d2, d3, d4] ∧ DataW.Trod enc P w base spare held t0 v0 d0 p0 ∧ DataW.Trod enc P w base spare held t1 v1 d1 p1 ∧ DataW.Trod enc P w base spare held t2 v2 d2 p2 ∧ DataW.Trod enc P w base spare held t3 v3 d3 p3 ∧ DataW.Trod enc P w base spare held t4 v4 d4 p4 := by
  obtain ⟨v0, s0, d0, e0, p0, q0, hargs, rfl, rfl, h0, r0⟩ := trodAll_cons h
  obtain ⟨v1, s1, d1, e1, p1, q1, rfl, rfl, rfl, h1, r1⟩ := trodAll_cons r0
  obtain ⟨v2, s2, d2, e2, p2, q2, rfl, rfl, rfl, h2, r2⟩ := trodAll_cons r1
  obtain ⟨v3, s3, d3, e3, p3, q3, rfl, rfl, rfl, h3, r3⟩ := trodAll_cons r2
  obtain ⟨v4, s4, d4, e4, p4, q4, rfl, rfl, rfl, h4, r4⟩ := trodAll_cons r3
  obtain ⟨rfl, rfl, rfl⟩ := trodAll_nil r4
  exact ⟨v0, v1, v2, v3, v4, d0, d1, d2, d3, d4, p0, p1, p2, p3, p4, by cases args; simp_all, rfl, h0, h1, h2, h3, h4⟩
theorem args_seven {t0 t1 t2 t3 t4 t5 t6 : TypeId} {args : Array Value} {ds : List (DataW H)} {ps : List MemPlace} (h : DataW.TrodAll enc P w base spare held [t0, t1, t2, t3, t4, t5, t6] args.toList ds ps) :
    ∃ v0 v1 v2 v3 v4 v5 v6 d0 d1 d2 d3 d4 d5 d6 p0 p1 p2 p3 p4 p5 p6, args = #[v0, v1, v2, v3, v4, v5, v6] ∧ ds = [d0, d1, d2, d3, d4, d5, d6] ∧ DataW.Trod enc P w base spare held t0 v0 d0 p0 ∧ DataW.Trod enc P w base spare held t1 v1 d1 p1 ∧ DataW.Trod enc P w base spare held t2 v2 d2 p2 ∧ DataW.Trod enc P w base spare held t3 v3 d3 p3 ∧ DataW.Trod enc P w base spare held t4 v4 d4 p4 ∧ DataW.Trod enc P w base spare held t5 v5 d5 p5 ∧ DataW.Trod enc P w base spare held t6 v6 d6 p6 := by
  obtain ⟨v0, s0, d0, e0, p0, q0, hargs, rfl, rfl, h0, r0⟩ := trodAll_cons h
  obtain ⟨v1, s1, d1, e1, p1, q1, rfl, rfl, rfl, h1, r1⟩ := trodAll_cons r0
  obtain ⟨v2, s2, d2, e2, p2, q2, rfl, rfl, rfl, h2, r2⟩ := trodAll_cons r1
  obtain ⟨v3, s3, d3, e3, p3, q3, rfl, rfl, rfl, h3, r3⟩ := trodAll_cons r2
  obtain ⟨v4, s4, d4, e4, p4, q4, rfl, rfl, rfl, h4, r4⟩ := trodAll_cons r3
  obtain ⟨v5, s5, d5, e5, p5, q5, rfl, rfl, rfl, h5, r5⟩ := trodAll_cons r4
  obtain ⟨v6, s6, d6, e6, p6, q6, rfl, rfl, rfl, h6, r6⟩ := trodAll_cons r5
  obtain ⟨rfl, rfl, rfl⟩ := trodAll_nil r6
  exact ⟨v0, v1, v2, v3, v4, v5, v6, d0, d1, d2, d3, d4, d5, d6, p0, p1, p2, p3, p4, p5, p6, by cases args; simp_all, rfl, h0, h1, h2, h3, h4, h5, h6⟩
end
theorem witness_laid (os : Os) (args : Array Value) : laidMetH Try.prog laidL ((World.laidAll Try.prog os laidL).forCall (fun _ _ => 0) ⟨#[], args, []⟩).memory := by
  rw [MakeChecks.laidMetH_plain _ _ _ (by kernel_rfl)]
  exact laidMet_laidAll _ (by kernel_rfl) (by kernel_rfl)
end Go.Proofs.Ytccmomebpdiimaa
