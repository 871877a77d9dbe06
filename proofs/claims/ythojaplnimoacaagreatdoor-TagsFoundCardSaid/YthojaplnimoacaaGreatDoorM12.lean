/- Texts of this claim, one after the other: Term7, Stand, KeyT, Stand2, Term8, FindB, EqS, FindC. -/
import Derived.Test.YthojaplnimoacaaGreatDoorM11
import Derived.Test.YthojaplnimoacaaGreatDoorM4
import Derived.Test.YthojaplnimoacaaGreatDoorShelf2
import Derived.Test.YthojaplnimoacaaGreatDoorM1
import Derived.Deep.RegionWith
import Derived.DeepKeys4
import Derived.Stop.RegionWithIn
import Derived.Sort.QuietTacIn
import Derived.Deep.Draws
/- Lists of terms compared; terms that stand (the reference). -/
namespace Go.Proofs.YthojaplnimoacaaGreatDoor
open Go.RowKit Go.Han
attribute [local irreducible] wpStill wpQuiet
set_option maxRecDepth 100000

def laterAny (l : List Term) (t u : Int) (x : Term) : Bool := l.any fun z => aboutB z x && countsB z t u && laterB z x
theorem counts_at (x : Term) (t u : Int) (w : World) : Calls Tryz.prog 165 #[.agg #[.int .i64 x.no, .int .i64 x.at_, .int .i64 x.known, .int .i64 x.lang, .slice x.src.addr x.src.xs.length x.src.cap, .slice x.tgt.addr x.tgt.xs.length x.tgt.cap, .string x.cat, .bool x.gone], .int .i64 t, .int .i64 u] w fun e w' => e = .returned (.bool (countsB x t u)) ∧ Below w.heap.size w w' := counts_any x t u w

set_option maxHeartbeats 4000000 in
theorem stands27_any (A : Option Addr) (c : Nat) (l : List Term) (x : Term) (t u : Int) (w : World) (hr : TermsAt w A l) (hx : x.lies w) (hm : l.length ≤ 9223372036854775807) :
    Calls Tryz.prog 125 #[.slice A l.length c, .agg #[.int .i64 x.no, .int .i64 x.at_, .int .i64 x.known, .int .i64 x.lang, .slice x.src.addr x.src.xs.length x.src.cap, .slice x.tgt.addr x.tgt.xs.length x.tgt.cap, .string x.cat, .bool x.gone], .int .i64 t, .int .i64 u] w fun e w' => e = .returned (.bool (standsB l t u x)) ∧ Below w.heap.size w w' := by
  obtain ⟨w0, hw0⟩ : ∃ w0, w.alloc (.cells #[.int .i64 x.no, .int .i64 x.at_, .int .i64 x.known, .int .i64 x.lang, .slice x.src.addr x.src.xs.length x.src.cap, .slice x.tgt.addr x.tgt.xs.length x.tgt.cap, .string x.cat, .bool x.gone] 66) = w0 := ⟨_, rfl⟩
  have hB0 : Below w.heap.size w w0 := by rw [← hw0]; exact ext_alloc (Below.refl _ _) _
  have hz0 : w0.heap.size = w.heap.size + 1 := by rw [← hw0]; simp
  have hx0 : w0.heap[w.heap.size]? = some (.cells #[.int .i64 x.no, .int .i64 x.at_, .int .i64 x.known, .int .i64 x.lang, .slice x.src.addr x.src.xs.length x.src.cap, .slice x.tgt.addr x.tgt.xs.length x.tgt.cap, .string x.cat, .bool x.gone] 66 (0, 0)) := by rw [← hw0]; exact World.alloc_heap_new _ _
  have H : Hid (standsB l t u x = (!x.gone && countsB x t u && !laterAny l t u x)) := rfl
  have Hr := Lib.hid (hr.ext hB0)
  have Hx := Lib.hid (hx.ext hB0)
  obtain ⟨q, hq⟩ : ∃ q, standsB l t u x = q := ⟨_, rfl⟩
  rw [hq] at H ⊢
  clear hr hx hq
  have b0 := gblk hx0 0
  have b1 := gblk hx0 1
  have b2 := gblk hx0 2
  have b3 := gblk hx0 3
  have b4 := gblk hx0 4
  have b5 := gblk hx0 5
  have b6 := gblk hx0 6
  have b7 := gblk hx0 7
  go_enter Tryz.func125, Tryz.ntmps125
  cases hg : x.gone
  · have cc := counts_at x t u w0
    rw [hg] at b7 H cc hx0 hw0
    generalize hcx : countsB x t u = cx at *
    have Hg := Lib.hid hg
    have Cc := Lib.hid cc
    have Hcx := Lib.hid hcx
    clear hg cc hcx
    go_wp2_with fail
    refine Cc.out.mono ?_
    rintro e w1 ⟨rfl, hb1⟩
    have hB1 := ext_trans hB0 hb1
    cases cx
    · have HF : Hid (q = false) := by show _ = _; rw [H.out]; simp
      go_wp2_with fail
      go_ret
      exact ⟨by rw [HF.out]; rfl, hB1⟩
    · have HF : Hid (q = !laterAny l t u x) := by show _ = _; rw [H.out]; simp
      clear H b0 b1 b2 b3 b4 b5 b6 b7
      go_wp2_with fail
      go_loopw [9] (fun i wr => ∃ k : Nat, k ≤ l.length ∧ i = .int .i64 k ∧ Below w0.heap.size w0 wr ∧ Hid (laterAny (l.take k) t u x = false)) (fun i _ => l.length - (intOf i).toNat)
      case atStart => exact ⟨0, Nat.zero_le _, rfl, hb1, rfl⟩
      case round =>
        obtain ⟨k, hk, rfl, hB, HR⟩ := hrel
        by_cases hlt : k < l.length
        · obtain ⟨b, off, rfl, hb, hc⟩ := Hr.out.at_ hlt
          obtain ⟨d0, d1, d2, d3, d4, d5, d6, d7⟩ := hc k hlt wr hB
          have hbw : b < wr.heap.size := Nat.lt_of_lt_of_le hb hB.size
          have hbx : w.heap.size < wr.heap.size := by have := hB.size; omega
          have hxw := (hB.block _ (by omega)).trans hx0
          have e0 := gblk hxw 0
          have e1 := gblk hxw 1
          have e2 := gblk hxw 2
          have e3 := gblk hxw 3
          have e4 := gblk hxw 4
          have e5 := gblk hxw 5
          have e6 := gblk hxw 6
          have e7 := gblk hxw 7
          have hy : l[k].lies wr := (Hr.out.lie _ (List.getElem_mem hlt)).ext hB
          have htk : laterAny (l.take (k + 1)) t u x = (laterAny (l.take k) t u x || (aboutB l[k] x && countsB l[k] t u && laterB l[k] x)) := by
            unfold laterAny
            rw [List.take_succ_eq_append_getElem hlt, List.any_append]
            simp
          have hfl : (aboutB l[k] x && countsB l[k] t u && laterB l[k] x) = true → laterAny l t u x = true := fun h => List.any_eq_true.2 ⟨_, List.getElem_mem hlt, h⟩
          have Htk := Lib.hid htk
          have Hfl := Lib.hid hfl
          clear hc htk hfl hxw
          generalize l[k] = y at *
          have ca : ∀ p : ExtBy wr, Calls Tryz.prog 166 _ p.wt _ := fun p => about_any y x p.wt (hy.ext p.ext) (Hx.out.ext (ext_trans hB p.ext))
          have cb : ∀ p : ExtBy wr, Calls Tryz.prog 165 _ p.wt _ := fun p => counts_any y t u p.wt
          have cd : ∀ p : ExtBy wr, Calls Tryz.prog 167 _ p.wt _ := fun p => later_any y x p.wt
          rw [Hg.out] at ca cd
          have c0 := fun p => cell_ext (w := wr) (a := ⟨b, off + k * 8, none⟩) hbw d0 p
          have c1 := fun p => cell_ext (w := wr) (a := ⟨b, off + k * 8 + 1, none⟩) hbw d1 p
          have c2 := fun p => cell_ext (w := wr) (a := ⟨b, off + k * 8 + 2, none⟩) hbw d2 p
          have c3 := fun p => cell_ext (w := wr) (a := ⟨b, off + k * 8 + 3, none⟩) hbw d3 p
          have c4 := fun p => cell_ext (w := wr) (a := ⟨b, off + k * 8 + 4, none⟩) hbw d4 p
          have c5 := fun p => cell_ext (w := wr) (a := ⟨b, off + k * 8 + 5, none⟩) hbw d5 p
          have c6 := fun p => cell_ext (w := wr) (a := ⟨b, off + k * 8 + 6, none⟩) hbw d6 p
          have c7 := fun p => cell_ext (w := wr) (a := ⟨b, off + k * 8 + 7, none⟩) hbw d7 p
          have g0 := fun p => cell_ext (w := wr) (a := ⟨w.heap.size, 0, none⟩) hbx e0 p
          have g1 := fun p => cell_ext (w := wr) (a := ⟨w.heap.size, 1, none⟩) hbx e1 p
          have g2 := fun p => cell_ext (w := wr) (a := ⟨w.heap.size, 2, none⟩) hbx e2 p
          have g3 := fun p => cell_ext (w := wr) (a := ⟨w.heap.size, 3, none⟩) hbx e3 p
          have g4 := fun p => cell_ext (w := wr) (a := ⟨w.heap.size, 4, none⟩) hbx e4 p
          have g5 := fun p => cell_ext (w := wr) (a := ⟨w.heap.size, 5, none⟩) hbx e5 p
          have g6 := fun p => cell_ext (w := wr) (a := ⟨w.heap.size, 6, none⟩) hbx e6 p
          have g7 := fun p => cell_ext (w := wr) (a := ⟨w.heap.size, 7, none⟩) hbx e7 p
          cases hva : aboutB y x
          · have HN : Hid (laterAny (l.take (k + 1)) t u x = false) := by show _ = _; rw [Htk.out, HR.out, hva]; rfl
            rw [hva] at ca
            have Ca := Lib.hid ca
            have Cb := Lib.hid cb
            have Cd := Lib.hid cd
            clear hva ca cb cd hy
            go_wp2_with fail
            refine wp_region_ext (by kernel_rfl) (by kernel_rfl) ?_
            repeat (quiet_step (first | (go_at_call 166; exact Calls.ext_of (Ca.out _)) | (go_at_call 165; exact Calls.ext_of (Cb.out _)) | (go_at_call 167; exact Calls.ext_of (Cd.out _))))
            refine wpQuiet_nil ?_
            intro _ hw'
            obtain ⟨p, rfl⟩ := hw'
            go_wp2
            go_roundw
            case rel => exact ⟨k + 1, by omega, by go_num, ext_trans hB p.ext, HN⟩
            case measure => simp [intOf]; omega
          cases hvb : countsB y t u
          · have HN : Hid (laterAny (l.take (k + 1)) t u x = false) := by show _ = _; rw [Htk.out, HR.out, hvb]; simp
            rw [hva] at ca
            rw [hvb] at cb
            have Ca := Lib.hid ca
            have Cb := Lib.hid cb
            have Cd := Lib.hid cd
            clear hva hvb ca cb cd hy
            go_wp2_with fail
            refine wp_region_ext (by kernel_rfl) (by kernel_rfl) ?_
            repeat (quiet_step (first | (go_at_call 166; exact Calls.ext_of (Ca.out _)) | (go_at_call 165; exact Calls.ext_of (Cb.out _)) | (go_at_call 167; exact Calls.ext_of (Cd.out _))))
            refine wpQuiet_nil ?_
            intro _ hw'
            obtain ⟨p, rfl⟩ := hw'
            go_wp2
            go_roundw
            case rel => exact ⟨k + 1, by omega, by go_num, ext_trans hB p.ext, HN⟩
            case measure => simp [intOf]; omega
          cases hvd : laterB y x
          · have HN : Hid (laterAny (l.take (k + 1)) t u x = false) := by show _ = _; rw [Htk.out, HR.out, hvd]; simp
            rw [hva] at ca
            rw [hvb] at cb
            rw [hvd] at cd
            have Ca := Lib.hid ca
            have Cb := Lib.hid cb
            have Cd := Lib.hid cd
            clear hva hvb hvd ca cb cd hy
            go_wp2_with fail
            refine wp_region_ext (by kernel_rfl) (by kernel_rfl) ?_
            repeat (quiet_step (first | (go_at_call 166; exact Calls.ext_of (Ca.out _)) | (go_at_call 165; exact Calls.ext_of (Cb.out _)) | (go_at_call 167; exact Calls.ext_of (Cd.out _))))
            refine wpQuiet_nil ?_
            intro _ hw'
            obtain ⟨p, rfl⟩ := hw'
            go_wp2
            go_roundw
            case rel => exact ⟨k + 1, by omega, by go_num, ext_trans hB p.ext, HN⟩
            case measure => simp [intOf]; omega
          · have HN : Hid (laterAny l t u x = true) := Hfl.out (by rw [hva, hvb, hvd]; rfl)
            rw [hva] at ca
            rw [hvb] at cb
            rw [hvd] at cd
            have Ca := Lib.hid ca
            have Cb := Lib.hid cb
            have Cd := Lib.hid cd
            clear hva hvb hvd ca cb cd hy
            go_wp2_with fail
            refine wp_region_ext (by kernel_rfl) (by kernel_rfl) ?_
            repeat (quiet_step (first | (go_at_call 166; exact Calls.ext_of (Ca.out _)) | (go_at_call 165; exact Calls.ext_of (Cb.out _)) | (go_at_call 167; exact Calls.ext_of (Cd.out _))))
            refine wpQuiet_nil ?_
            intro _ hw'
            obtain ⟨p, rfl⟩ := hw'
            go_wp2
            go_ret
            exact ⟨by rw [HF.out, HN.out]; rfl, ext_trans hB0 (ext_trans hB p.ext)⟩
        · have HF2 : Hid (laterAny l t u x = false) := by
            show _ = _
            have h := HR.out
            rw [List.take_of_length_le (by omega)] at h
            exact h
          clear HR
          go_wp2_with fail
          go_ret
          exact ⟨by rw [HF.out, HF2.out]; rfl, ext_trans hB0 hB⟩
  · have HF : Hid (q = false) := by show _ = _; rw [H.out, hg]; rfl
    rw [hg] at b7
    clear hg
    go_wp2_with fail
    go_ret
    exact ⟨by rw [HF.out]; rfl, by first | exact hB0 | (rw [hg] at hB0; exact hB0) | exact ext_alloc (Below.refl _ _) _⟩
end Go.Proofs.YthojaplnimoacaaGreatDoor

/- Package glossary: what a term is about; the map of the last terms. -/
namespace Go.Proofs.YthojaplnimoacaaGreatDoor
open Go.RowKit Go.Han
attribute [local irreducible] wpStill wpQuiet
set_option maxRecDepth 100000

/-- Join, in the midst of a region. -/
def JoinIn (r : List UInt8) (b : Nat) (x : Term) (w0 : World) (e : Ending) (w' : World) : Prop := e = .returned (.string ⟨r.toArray⟩) ∧ Below w0.heap.size w0 w' ∧ w'.cell? ⟨b, 3, none⟩ = some (.int .i64 x.lang) ∧ w'.heap[b + 1]? = w0.heap[b + 1]?
theorem joinX_any (x : Term) (w : World) (hok : x.ok = true) (hx : x.lies w) : Calls Tryz.prog 68 #[.slice x.src.addr x.src.xs.length x.src.cap, .string ⟨#[10]⟩] w fun e w' => e = .returned (.string ⟨(joined x.src.xs).toArray⟩) ∧ Below w.heap.size w w' := by
  obtain ⟨h1, h2, h3⟩ := ok_src hok
  obtain ⟨b, off, he, hb, hc⟩ := StrS.at_ hx.1 (k := 0) (by omega)
  rw [he]
  exact Tryz.strings_Join b off x.src.cap x.src.xs ⟨#[10]⟩ w (fun j y hj => by
    obtain ⟨hj1, rfl⟩ := List.getElem?_eq_some_iff.1 hj
    exact hc j hj1) hb (by omega) hx.1.cap (by have := joined_length hok; unfold joined at this; show (Lib.join _ [10]).length ≤ _; omega)
set_option maxHeartbeats 1000000 in
theorem about_at (x : Term) (w : World) (hok : x.ok = true) (hx : x.lies w) : Calls Tryz.prog 86 #[.agg #[.int .i64 x.no, .int .i64 x.at_, .int .i64 x.known, .int .i64 x.lang, .slice x.src.addr x.src.xs.length x.src.cap, .slice x.tgt.addr x.tgt.xs.length x.tgt.cap, .string x.cat, .bool x.gone]] w fun e w' => e = .returned (.agg #[.int .i64 x.lang, .string ⟨(joined x.src.xs).toArray⟩]) ∧ Below w.heap.size w w' := by
  obtain ⟨w0, hw0⟩ : ∃ w0, (w.alloc (.cells #[.int .i64 x.no, .int .i64 x.at_, .int .i64 x.known, .int .i64 x.lang, .slice x.src.addr x.src.xs.length x.src.cap, .slice x.tgt.addr x.tgt.xs.length x.tgt.cap, .string x.cat, .bool x.gone] 66)).alloc (.cells #[.int .i64 0, .string ⟨#[]⟩] 131) = w0 := ⟨_, rfl⟩
  have hB0 : Below w.heap.size w w0 := by rw [← hw0]; exact ext_alloc (ext_alloc (Below.refl _ _) _) _
  have hz0 : w0.heap.size = w.heap.size + 1 + 1 := by rw [← hw0]; simp
  have x0 : w0.heap[w.heap.size]? = some (.cells #[.int .i64 x.no, .int .i64 x.at_, .int .i64 x.known, .int .i64 x.lang, .slice x.src.addr x.src.xs.length x.src.cap, .slice x.tgt.addr x.tgt.xs.length x.tgt.cap, .string x.cat, .bool x.gone] 66 (0, 0)) := by rw [← hw0]; exact (Below.heap_alloc _ _ _ (by simp)).trans (World.alloc_heap_new _ _)
  have x1 : w0.heap[w.heap.size + 1]? = some (.cells #[.int .i64 0, .string ⟨#[]⟩] 131 (0, 0)) := by rw [← hw0]; exact galloc_at _ _ _ (by simp)
  obtain ⟨r, hr⟩ : ∃ r, joined x.src.xs = r := ⟨_, rfl⟩
  have cJ : Hid (∀ W, Below w0.heap.size w0 W → Calls Tryz.prog 68 #[.slice x.src.addr x.src.xs.length x.src.cap, .string ⟨#[10]⟩] W (JoinIn r w.heap.size x w0)) := by
    intro W hb
    refine (joinX_any x W hok (hx.ext (ext_trans hB0 hb))).mono ?_
    rintro e w' ⟨rfl, hb'⟩
    rw [hr]
    have hbb := ext_trans hb hb'
    exact ⟨rfl, hbb, gblk ((hbb.block _ (by omega)).trans x0) 3, hbb.block _ (by omega)⟩
  rw [hr]
  have c3 := gblk x0 3
  have c4 := gblk x0 4
  have X1 := Lib.hid x1
  clear hr hok hx x0 x1
  go_enter Tryz.func86, Tryz.ntmps86
  go_wp2_with fail
  go_region_with (go_at_call 68; refine (cJ.out _ ?_).mono ?_; (repeat (first | exact Below.refl _ _ | refine ext_drew ?_ | refine ext_alloc ?_ _)); rintro e w4 ⟨rfl, hb4, q3, q4⟩; have hx4 := q4.trans X1.out; have z0 := gblk hx4 0; have z1 := gblk hx4 1; have f0 := frozen_one hx4 0; have f1 := frozen_one hx4 1; clear hx4 q4)
  all_goals
    go_wp2
    exact bodyPost_ret (v := .agg #[.int .i64 x.lang, .string ⟨r.toArray⟩]) (by simp [results, Tryz.results86, go_sem, z0, z1]) rfl ⟨rfl, ((ext_trans hB0 hb4).setCell (p := ⟨w.heap.size + 1, 0, none⟩) (by simp) _).setCell (p := ⟨w.heap.size + 1, 1, none⟩) (by simp) _⟩
end Go.Proofs.YthojaplnimoacaaGreatDoor

/- The map from what terms are about to the last of them: how its keys and elements read. -/
namespace Go.Proofs.YthojaplnimoacaaGreatDoor
open Go.RowKit Go.Han
set_option maxRecDepth 100000

theorem laidK : laidOutB Tryz.prog = true := by kernel_rfl
theorem keyed_gkey : Maps.Keyed Tryz.prog 131 := Maps.Keyed.of_law (deep_law_laid laidK (m := 2) (by omega) (of_decide_eq_true (by kernel_rfl)) (by kernel_rfl) (by kernel_rfl))
theorem key_und : ∃ fs : Array Field, Tryz.prog.underlying 131 = some (.struct fs) ∧ fs.toList.map (fun f => (f.name, f.type, f.offset)) = [("lang", 3, 0), ("source", 9, 1)] ∧ Tryz.prog.cellsOf 131 = 2 ∧ Tryz.prog.keyType 131 = true := ⟨_, Tryz.underlying131, by kernel_rfl, by kernel_rfl, by kernel_rfl⟩
theorem key_cells1 : Tryz.prog.cellsOf 3 = 1 := by kernel_rfl
theorem key_cells2 : Tryz.prog.cellsOf 9 = 1 := by kernel_rfl
def keyLit (k : GKey) : Lit := .string (keyBytes [.int .i64 k.lang, .string k.src.data.toList])
def keyVal (k : GKey) : Value := .agg #[.int .i64 k.lang, .string k.src]
def keyGood (k : GKey) : Prop := (Lit.int .i64 k.lang).wf = true ∧ k.src.size ≤ maxLen
theorem lits_of (n : Nat) (k : GKey) (h : keyGood k) : Tryz.prog.keyLits (n + 2) 131 [.int .i64 k.lang, .string k.src] = some [.int .i64 k.lang, .string k.src.data.toList] := by
  obtain ⟨fs, hu, hf, hc, hk⟩ := key_und
  obtain ⟨h1, h2⟩ := h
  unfold Program.keyLits
  rw [hu]
  have hfs : ∃ f0 f1, fs.toList = [f0, f1] ∧ f0.name = "lang" ∧ f0.type = 3 ∧ f0.offset = 0 ∧ f1.name = "source" ∧ f1.type = 9 ∧ f1.offset = 1 := by
    match hl : fs.toList with
    | [f0, f1] =>
      rw [hl] at hf
      simp at hf
      exact ⟨f0, f1, rfl, hf.1.1, hf.1.2.1, hf.1.2.2, hf.2.1, hf.2.2.1, hf.2.2.2⟩
    | [] => rw [hl] at hf; simp at hf
    | [_] => rw [hl] at hf; simp at hf
    | _ :: _ :: _ :: _ => rw [hl] at hf; simp at hf
  obtain ⟨f0, f1, hl, n0, t0, o0, n1, t1, o1⟩ := hfs
  have hall : fs.all (fun f => f.name != "_") = true := by
    rw [← Array.all_toList, hl]
    simp [n0, n1]
  simp only [hc, hall, List.length_cons, List.length_nil, and_self, if_true, hl, List.mapM_cons, List.mapM_nil, t0, o0, t1, o1, key_cells1, key_cells2]
  have e0 : Tryz.prog.keyLits (n + 1) 3 ((([.int .i64 k.lang, .string k.src] : List Value).drop 0).take 1) = some [.int .i64 k.lang] := by
    simp [Program.keyLits, Tryz.underlying3, h1]
  have e1 : Tryz.prog.keyLits (n + 1) 9 ((([.int .i64 k.lang, .string k.src] : List Value).drop 1).take 1) = some [.string k.src.data.toList] := by
    simp [Program.keyLits, Tryz.underlying9, h2]
  rw [e0, e1]
  rfl
theorem key_of (k : GKey) (h : keyGood k) : keyOf Tryz.prog 131 (keyVal k) = some (keyLit k) := by
  obtain ⟨fs, hu, hf, hc, hk⟩ := key_und
  have hfm : (keyVal k).formed Tryz.prog 131 = true := by
    unfold keyVal
    simp [Value.formed, hu, hc]
  unfold keyOf
  rw [hu]
  simp only [hk, hfm, Bool.and_self, if_true]
  have e := lits_of (Tryz.prog.types.size - 1) k h
  have hsz : Tryz.prog.types.size - 1 + 2 = Tryz.prog.types.size + 1 := by
    have : 0 < Tryz.prog.types.size := of_decide_eq_true (by kernel_rfl)
    omega
  rw [hsz] at e
  show ((Tryz.prog.keyLits (Tryz.prog.types.size + 1) 131 [.int .i64 k.lang, .string k.src]).map fun ls => Lit.string (keyBytes ls)) = _
  rw [e]
  rfl
theorem key_inv (v : Value) (l : Lit) (h : keyOf Tryz.prog 131 v = some l) : ∃ k, keyGood k ∧ v = keyVal k ∧ l = keyLit k := by
  obtain ⟨fs, hu, hf, hc, hk⟩ := key_und
  have h0 := h
  unfold keyOf at h
  rw [hu] at h
  simp only at h
  split at h
  · rename_i hb
    simp only [Bool.and_eq_true] at hb
    obtain ⟨_, hfm⟩ := hb
    have hag : ∃ cs : Array Value, v = .agg cs ∧ cs.size = 2 := by
      unfold Value.formed at hfm
      rw [hu] at hfm
      cases v <;> simp at hfm
      rename_i cs
      exact ⟨cs, rfl, by rw [hfm, hc]⟩
    obtain ⟨cs, rfl, hsz⟩ := hag
    have hl2 : ∃ a b, cs.toList = [a, b] := by
      match hcl : cs.toList with
      | [a, b] => exact ⟨a, b, rfl⟩
      | [] => have := congrArg List.length hcl; rw [Array.length_toList, hsz] at this; simp at this
      | [_] => have := congrArg List.length hcl; rw [Array.length_toList, hsz] at this; simp at this
      | _ :: _ :: _ :: _ => have := congrArg List.length hcl; rw [Array.length_toList, hsz] at this; simp at this
    obtain ⟨a, b, hab⟩ := hl2
    cases hkl : Tryz.prog.keyLits (Tryz.prog.types.size + 1) 131 (Value.agg cs).cells.toList with
    | none => rw [hkl] at h; cases h
    | some ls =>
      have hcl : (Value.agg cs).cells.toList = [a, b] := by simpa [Value.cells] using hab
      rw [hcl] at hkl
      have hk2 := hkl
      unfold Program.keyLits at hk2
      rw [hu] at hk2
      have hfs : ∃ f0 f1, fs.toList = [f0, f1] ∧ f0.type = 3 ∧ f0.offset = 0 ∧ f1.type = 9 ∧ f1.offset = 1 := by
        match hl : fs.toList with
        | [f0, f1] =>
          rw [hl] at hf
          simp at hf
          exact ⟨f0, f1, rfl, hf.1.2.1, hf.1.2.2, hf.2.2.1, hf.2.2.2⟩
        | [] => rw [hl] at hf; simp at hf
        | [_] => rw [hl] at hf; simp at hf
        | _ :: _ :: _ :: _ => rw [hl] at hf; simp at hf
      obtain ⟨f0, f1, hl, t0, o0, t1, o1⟩ := hfs
      simp only [hl, List.mapM_cons, List.mapM_nil, t0, o0, t1, o1, key_cells1, key_cells2] at hk2
      split at hk2
      · cases e0 : Tryz.prog.keyLits Tryz.prog.types.size 3 (([a, b].drop 0).take 1) with
        | none => rw [e0] at hk2; cases hk2
        | some l0 =>
          cases e1 : Tryz.prog.keyLits Tryz.prog.types.size 9 (([a, b].drop 1).take 1) with
          | none => rw [e0, e1] at hk2; cases hk2
          | some l1 =>
            obtain ⟨n, hn1, hn2⟩ := keyLits_int' Tryz.underlying3 e0
            obtain ⟨s, hs1, hs2⟩ := keyLits_string' Tryz.underlying9 e1
            simp at hn1 hs1
            subst hn1 hs1
            have hgood : keyGood ⟨n, s⟩ := by
              constructor
              · have := keyLits_wf e0
                rw [hn2] at this
                have h7 := e0
                have hd : ∃ d, Tryz.prog.types.size = d + 1 := ⟨Tryz.prog.types.size - 1, by have : 0 < Tryz.prog.types.size := of_decide_eq_true (by kernel_rfl); omega⟩
                obtain ⟨d, hd⟩ := hd
                rw [hd] at h7
                unfold Program.keyLits at h7
                rw [Tryz.underlying3] at h7
                simp at h7
                exact h7.1
              · have h7 := e1
                have hd : ∃ d, Tryz.prog.types.size = d + 1 := ⟨Tryz.prog.types.size - 1, by have : 0 < Tryz.prog.types.size := of_decide_eq_true (by kernel_rfl); omega⟩
                obtain ⟨d, hd⟩ := hd
                rw [hd] at h7
                unfold Program.keyLits at h7
                rw [Tryz.underlying9] at h7
                simp at h7
                exact h7.1
            have hv : Value.agg cs = keyVal ⟨n, s⟩ := by
              unfold keyVal
              congr 1
              apply Array.ext'
              simpa using hab
            refine ⟨⟨n, s⟩, hgood, hv, ?_⟩
            rw [hv, key_of _ hgood] at h0
            exact (Option.some.inj h0).symm
      · cases hk2
  · cases h
theorem key_inj (x y : GKey) (hx : keyGood x) (hy : keyGood y) (h : keyLit x = keyLit y) : x = y := by
  unfold keyLit at h
  have e := keyLits_inj (lits_of 0 x hx) (lits_of 0 y hy) (by simpa using h)
  obtain ⟨a, s⟩ := x
  obtain ⟨b, t⟩ := y
  simp only [List.cons.injEq, Lit.int.injEq, true_and, Lit.string.injEq, and_true] at e
  rw [e.1, WideShapes.bytes_inj e.2]
def keyShape : KeyShape Tryz.prog 131 GKey := ⟨keyVal, keyLit, keyGood, key_of, key_inv, key_inj⟩

/-- A term, as its cells show it. -/
structure TermV where
  no : Int
  at_ : Int
  known : Int
  lang : Int
  sA : Option Addr
  sn : Nat
  sc : Nat
  tA : Option Addr
  tn : Nat
  tc : Nat
  cat : ByteArray
  gone : Bool
def TermV.val (x : TermV) : Value := .agg #[.int .i64 x.no, .int .i64 x.at_, .int .i64 x.known, .int .i64 x.lang, .slice x.sA x.sn x.sc, .slice x.tA x.tn x.tc, .string x.cat, .bool x.gone]
def Term.shown (x : Term) : TermV := ⟨x.no, x.at_, x.known, x.lang, x.src.addr, x.src.xs.length, x.src.cap, x.tgt.addr, x.tgt.xs.length, x.tgt.cap, x.cat, x.gone⟩
theorem termV_inj (x y : TermV) (h : x.val = y.val) : x = y := by
  obtain ⟨a, b, c, d, e, f, g, h1, i, j, k, l⟩ := x
  obtain ⟨a', b', c', d', e', f', g', h1', i', j', k', l'⟩ := y
  simp [TermV.val] at h
  obtain ⟨rfl, rfl, rfl, rfl, ⟨rfl, rfl, rfl⟩, ⟨rfl, rfl, rfl⟩, rfl, rfl⟩ := h
  rfl
def termShape : ElemShape TermV := ⟨TermV.val, termV_inj⟩
def zeroTV : TermV := ⟨0, 0, 0, 0, none, 0, 0, none, 0, 0, ⟨#[]⟩, false⟩
theorem zero_termV (w : World) : (zeroValue 66).run Tryz.prog w = .ok (termShape.val zeroTV) w := by kernel_rfl
theorem aboutK_good {x : Term} (h : x.ok = true) : keyGood (aboutK x) := by
  have h1 := joined_length h
  unfold Term.ok langB at h
  simp only [Bool.and_eq_true, decide_eq_true_eq] at h
  have hl := h.1.1.2
  refine ⟨?_, ?_⟩
  · show (Lit.int .i64 x.lang).wf = true
    simp [Lit.wf, IntKind.min, IntKind.max, IntKind.signed, IntKind.bits]; omega
  · show (ByteArray.mk (joined x.src.xs).toArray).size ≤ maxLen
    rw [Lib.size_eq]
    unfold maxLen
    simp; omega
end Go.Proofs.YthojaplnimoacaaGreatDoor

/- Package glossary: Standing. -/
namespace Go.Proofs.YthojaplnimoacaaGreatDoor
open Go.RowKit Go.Han
attribute [local irreducible] wpStill wpQuiet
set_option maxRecDepth 100000

def StandPost (l : List Term) (lang t u : Int) (w : World) (e : Ending) (w' : World) : Prop :=
  Below w.heap.size w w' ∧ ((standE l lang t u ≠ 0 ∧ e = .returned (.tuple #[.slice none 0 0, .int .i64 (standE l lang t u)])) ∨ (standE l lang t u = 0 ∧ ∃ A c, e = .returned (.tuple #[.slice A (standT l lang t u).length c, .int .i64 0]) ∧ TermsAt w' A (standT l lang t u) ∧ (A = none → standT l lang t u = [])))
/-- about, in the midst of a region that stores into the map of the last terms. -/
def AboutIn (y : Term) (l : List Term) (lang t u : Int) (k b : Nat) (w5 : World) (e : Ending) (w' : World) : Prop :=
  ∃ w9, e = .returned (.agg #[.int .i64 y.lang, .string ⟨(joined y.src.xs).toArray⟩]) ∧ Below w5.heap.size w5 w' ∧ (Instr.mapUpdate 128 (.map (some w5.heap.size)) (.agg #[.int .i64 y.lang, .string ⟨(joined y.src.xs).toArray⟩]) (.agg #[.int .i64 y.no, .int .i64 y.at_, .int .i64 y.known, .int .i64 y.lang, .slice y.src.addr y.src.xs.length y.src.cap, .slice y.tgt.addr y.tgt.xs.length y.tgt.cap, .string y.cat, .bool y.gone])).run Tryz.prog w' = .ok () w9 ∧
    MapF w9 keyShape termShape w5.heap.size (k + 1) (fun K => if K = aboutK y then some y.shown else (lastF lang t u (l.take k) K).map Term.shown) ∧ w'.grownBy w9 (some w5.heap.size) ∧ w9.heap.size = w'.heap.size ∧ w'.cell? ⟨b, 0, none⟩ = some (.int .i64 y.no) ∧ w'.cell? ⟨b, 1, none⟩ = some (.int .i64 y.at_) ∧ w'.cell? ⟨b, 2, none⟩ = some (.int .i64 y.known) ∧ w'.cell? ⟨b, 3, none⟩ = some (.int .i64 y.lang) ∧ w'.cell? ⟨b, 4, none⟩ = some (.slice y.src.addr y.src.xs.length y.src.cap) ∧ w'.cell? ⟨b, 5, none⟩ = some (.slice y.tgt.addr y.tgt.xs.length y.tgt.cap) ∧ w'.cell? ⟨b, 6, none⟩ = some (.string y.cat) ∧ w'.cell? ⟨b, 7, none⟩ = some (.bool y.gone)
theorem one_false (y : Term) : ∀ v ∈ [.int .i64 y.no, .int .i64 y.at_, .int .i64 y.known, .int .i64 y.lang, .slice y.src.addr y.src.xs.length y.src.cap, .slice y.tgt.addr y.tgt.xs.length y.tgt.cap, .string y.cat, .bool false], Value.oneCell' v = true := by
  intro v hv
  simp at hv
  rcases hv with rfl | rfl | rfl | rfl | rfl | rfl | rfl | rfl <;> rfl
theorem wf_i64 {n : Nat} (h : n ≤ 2000) : n < maxLen := by unfold maxLen; omega

set_option maxHeartbeats 4000000 in
theorem Standing_any (A : Option Addr) (cp : Nat) (l : List Term) (lang t u : Int) (w : World) (hT : Tabs w) (hr : TermsAt w A l) (hm : l.length ≤ 9223372036854775807) :
    Calls Tryz.prog 36 #[.slice A l.length cp, .int .i64 lang, .int .i64 t, .int .i64 u] w (StandPost l lang t u w) := by
  obtain ⟨i0, z0, hi0, iz0, is0, ib0, izs⟩ := parts_term
  have hmm := @run_makeMap Tryz.prog
  have HE : Hid (standE l lang t u = if checkT l ≠ 0 then checkT l else if (langB lang && tmB t && tmB u) = false then 1 else 0) := rfl
  have Hr := Lib.hid hr
  have HT := Lib.hid hT
  go_enter Tryz.func36, Tryz.ntmps36
  go_wp2_with fail
  refine (CheckT_any A cp l w hT hr hm).mono ?_
  rintro e w1 ⟨rfl, hB1⟩
  clear hr hT
  by_cases hc : checkT l ≠ 0
  · have HF : Hid (standE l lang t u = checkT l) := by show _ = _; rw [HE.out, if_pos hc]
    have n1 : (checkT l == 0) = false := by simpa using hc
    have n2 : (checkT l != 0) = true := by simpa using hc
    have Hc := Lib.hid hc
    clear hc
    go_wp2_with fail
    go_ret2
    exact ⟨hB1, .inl ⟨by rw [HF.out]; exact Hc.out, by rw [HF.out]; rfl⟩⟩
  have hc := Decidable.not_not.1 hc
  obtain ⟨hl, hoks, hpw⟩ := checkT_zero hc
  have HC := Lib.hid hc
  have Hoks := Lib.hid hoks
  have Hpw := Lib.hid hpw
  rw [hc]
  clear hc hoks hpw
  have c2 := Lib.hid (fun w => isTime_any t w)
  have c3 := Lib.hid (fun w => isTime_any u w)
  go_wp2_with fail
  refine (isLang_any lang w1).mono ?_
  rintro e w' ⟨rfl, rfl⟩
  generalize langB lang = b1 at *
  generalize tmB t = b2 at *
  generalize tmB u = b3 at *
  cases b1
  · have HF : Hid (standE l lang t u = 1) := by show _ = _; rw [HE.out, HC.out]; rfl
    go_wp2_with fail
    go_ret2
    exact ⟨hB1, .inl ⟨by rw [HF.out]; decide, by rw [HF.out]; rfl⟩⟩
  go_wp2_with fail
  refine (c2.out _).mono ?_
  rintro e w' ⟨rfl, rfl⟩
  cases b2
  · have HF : Hid (standE l lang t u = 1) := by show _ = _; rw [HE.out, HC.out]; rfl
    go_wp2_with fail
    go_ret2
    exact ⟨hB1, .inl ⟨by rw [HF.out]; decide, by rw [HF.out]; rfl⟩⟩
  go_wp2_with fail
  refine (c3.out _).mono ?_
  rintro e w' ⟨rfl, rfl⟩
  cases b3
  · have HF : Hid (standE l lang t u = 1) := by show _ = _; rw [HE.out, HC.out]; rfl
    go_wp2_with fail
    go_ret2
    exact ⟨hB1, .inl ⟨by rw [HF.out]; decide, by rw [HF.out]; rfl⟩⟩
  have HF : Hid (standE l lang t u = 0) := by show _ = _; rw [HE.out, HC.out]; rfl
  clear c2 c3 HE
  obtain ⟨w5, hw5⟩ : ∃ w5, w5 = w1 := ⟨_, rfl⟩
  have hB5 : Below w.heap.size w w5 := by rw [hw5]; exact hB1
  subst hw5
  go_wp2_with fail
  go_loopw [40] (fun i wr => ∃ k : Nat, k ≤ l.length ∧ i = .int .i64 k ∧ Below w5.heap.size w5 wr ∧ MapF wr keyShape termShape w5.heap.size k (fun K => (lastF lang t u (l.take k) K).map Term.shown)) (fun i _ => l.length - (intOf i).toNat)
  case atStart => exact ⟨0, Nat.zero_le _, rfl, ext_alloc (Below.refl _ _) _, MapF.made _ _ _⟩
  case round =>
    obtain ⟨k, hk, rfl, hB, hmap⟩ := hrel
    by_cases hlt : k < l.length
    · obtain ⟨b, off, rfl, hb, hcl⟩ := Hr.out.at_ hlt
      obtain ⟨d0, d1, d2, d3, d4, d5, d6, d7⟩ := hcl k hlt wr (ext_trans hB5 hB)
      have hmem : l[k] ∈ l := List.getElem_mem hlt
      have htk : l.take (k + 1) = l.take k ++ [l[k]] := List.take_succ_eq_append_getElem hlt
      have hyok := Hoks.out _ hmem
      clear hcl
      generalize l[k] = y at *
      by_cases hl1 : y.lang ≠ lang
      · have g1 : (y.lang != lang) = true := by simpa using hl1
        have HM : Hid (MapF (wr.alloc (.cells #[.int .i64 y.no, .int .i64 y.at_, .int .i64 y.known, .int .i64 y.lang, .slice y.src.addr y.src.xs.length y.src.cap, .slice y.tgt.addr y.tgt.xs.length y.tgt.cap, .string y.cat, .bool y.gone] 66)) keyShape termShape w5.heap.size (k + 1) (fun K => (lastF lang t u (l.take (k + 1)) K).map Term.shown)) := by
          refine ((hmap.of_block (Below.heap_alloc _ _ _ (by have := hmap.lt; omega))).mono (by omega)).congr fun K _ => ?_
          rw [htk, lastF_snoc]
          unfold lastStep
          rw [if_neg (by rintro ⟨h, _⟩; simp [cntB, countsB] at h; omega)]
        clear htk hmap
        go_wp2_with fail
        go_roundw
        case rel => exact ⟨k + 1, by omega, by go_num, ext_alloc hB _, HM.out⟩
        case measure => simp [intOf]; omega

      have hl1 := Decidable.not_not.1 hl1
      have g1 : (y.lang != lang) = false := by simp [hl1]
      by_cases hl2 : t < y.at_
      · clear hl1
        have HM : Hid (MapF (wr.alloc (.cells #[.int .i64 y.no, .int .i64 y.at_, .int .i64 y.known, .int .i64 y.lang, .slice y.src.addr y.src.xs.length y.src.cap, .slice y.tgt.addr y.tgt.xs.length y.tgt.cap, .string y.cat, .bool y.gone] 66)) keyShape termShape w5.heap.size (k + 1) (fun K => (lastF lang t u (l.take (k + 1)) K).map Term.shown)) := by
          refine ((hmap.of_block (Below.heap_alloc _ _ _ (by have := hmap.lt; omega))).mono (by omega)).congr fun K _ => ?_
          rw [htk, lastF_snoc]
          unfold lastStep
          rw [if_neg (by rintro ⟨h, _⟩; simp [cntB, countsB] at h; omega)]
        clear htk hmap
        go_wp2_with fail
        go_roundw
        case rel => exact ⟨k + 1, by omega, by go_num, ext_alloc hB _, HM.out⟩
        case measure => simp [intOf]; omega

      by_cases hl3 : u < y.known
      · clear hl1
        have HM : Hid (MapF (wr.alloc (.cells #[.int .i64 y.no, .int .i64 y.at_, .int .i64 y.known, .int .i64 y.lang, .slice y.src.addr y.src.xs.length y.src.cap, .slice y.tgt.addr y.tgt.xs.length y.tgt.cap, .string y.cat, .bool y.gone] 66)) keyShape termShape w5.heap.size (k + 1) (fun K => (lastF lang t u (l.take (k + 1)) K).map Term.shown)) := by
          refine ((hmap.of_block (Below.heap_alloc _ _ _ (by have := hmap.lt; omega))).mono (by omega)).congr fun K _ => ?_
          rw [htk, lastF_snoc]
          unfold lastStep
          rw [if_neg (by rintro ⟨h, _⟩; simp [cntB, countsB] at h; omega)]
        clear htk hmap
        go_wp2_with fail
        go_roundw
        case rel => exact ⟨k + 1, by omega, by go_num, ext_alloc hB _, HM.out⟩
        case measure => simp [intOf]; omega

      have Hcnt : Hid (cntB lang t u y = true) := by show _ = _; simp [cntB, countsB, hl1]; omega
      have Hyok := Lib.hid hyok
      have Hmem := Lib.hid hmem
      have hkm : k < maxLen := wf_i64 (by omega)
      have Hkm := Lib.hid hkm
      have hBy : Below wr.heap.size wr (wr.alloc (.cells #[.int .i64 y.no, .int .i64 y.at_, .int .i64 y.known, .int .i64 y.lang, .slice y.src.addr y.src.xs.length y.src.cap, .slice y.tgt.addr y.tgt.xs.length y.tgt.cap, .string y.cat, .bool y.gone] 66)) := ext_alloc (Below.refl _ _) _
      have n0 := World.alloc_heap_new wr (.cells #[.int .i64 y.no, .int .i64 y.at_, .int .i64 y.known, .int .i64 y.lang, .slice y.src.addr y.src.xs.length y.src.cap, .slice y.tgt.addr y.tgt.xs.length y.tgt.cap, .string y.cat, .bool y.gone] 66)
      have hylie : y.lies wr := (Hr.out.ext (ext_trans hB5 hB)).lie y hmem
      have HMAP := Lib.hid hmap
      have Htk := Lib.hid htk
      have cA := Lib.hid (about_at y _ hyok (hylie.ext hBy))
      clear hmap hkm hyok hmem hl1 htk hylie
      go_wp2_with fail
      refine cA.out.mono ?_
      rintro e w6 ⟨rfl, hb6⟩
      have hB6 := ext_trans hBy hb6
      have hx6 := (hb6.block _ (lt_block n0)).trans n0
      have e0 := gblk hx6 0
      have e1 := gblk hx6 1
      have e2 := gblk hx6 2
      have e3 := gblk hx6 3
      have e4 := gblk hx6 4
      have e5 := gblk hx6 5
      have e6 := gblk hx6 6
      have e7 := gblk hx6 7
      have hbw : wr.heap.size < w6.heap.size := lt_block hx6
      have hm6 : MapF w6 keyShape termShape w5.heap.size k (fun K => (lastF lang t u (l.take k) K).map Term.shown) := HMAP.out.of_block (hB6.block _ HMAP.out.lt)
      clear cA n0 d0 d1 d2 d3 d4 d5 d6 d7
      cases hlf : lastF lang t u (l.take k) (aboutK y) with
      | none =>
        have Hlf := Lib.hid hlf
        have Hfun : Hid (∀ K, keyShape.good K → (lastF lang t u (l.take (k + 1)) K).map Term.shown = if K = aboutK y then some y.shown else (lastF lang t u (l.take k) K).map Term.shown) := by
          intro K _
          rw [Htk.out, lastF_snoc]
          unfold lastStep
          by_cases e : K = aboutK y
          · subst e; rw [if_pos ⟨Hcnt.out, rfl⟩, if_pos rfl, Hlf.out]; rfl
          · rw [if_neg (fun h => e h.2.symm), if_neg e]
        clear hlf
        go_wp2_with (at_lookup; refine wpList_lookup_is _ rfl _ _ 128 rfl 66 keyed_gkey Tryz.underlying128 keyShape termShape zeroTV w5.heap.size k _ (zero_termV _) rfl hm6 (aboutK y) rfl (aboutK_good Hyok.out) (.agg #[.int .i64 0, .int .i64 0, .int .i64 0, .int .i64 0, .slice none 0 0, .slice none 0 0, .string ⟨#[]⟩, .bool false]) false (by show termShape.val (((lastF lang t u (l.take k) (aboutK y)).map Term.shown).getD zeroTV) = _; rw [Hlf.out]; rfl) (by show ((lastF lang t u (l.take k) (aboutK y)).map Term.shown).isSome = _; rw [Hlf.out]; rfl) ?_)
        have hB7 : Below wr.heap.size wr (w6.alloc (.cells #[.int .i64 0, .int .i64 0, .int .i64 0, .int .i64 0, .slice none 0 0, .slice none 0 0, .string ⟨#[]⟩, .bool false] 66)) := ext_alloc hB6 _
        have hx7 : (w6.alloc (.cells #[.int .i64 0, .int .i64 0, .int .i64 0, .int .i64 0, .slice none 0 0, .slice none 0 0, .string ⟨#[]⟩, .bool false] 66)).heap[wr.heap.size]? = some (.cells #[.int .i64 y.no, .int .i64 y.at_, .int .i64 y.known, .int .i64 y.lang, .slice y.src.addr y.src.xs.length y.src.cap, .slice y.tgt.addr y.tgt.xs.length y.tgt.cap, .string y.cat, .bool y.gone] 66 (0, 0)) := (Below.heap_alloc _ _ _ (by omega)).trans hx6
        generalize w6.alloc (.cells #[.int .i64 0, .int .i64 0, .int .i64 0, .int .i64 0, .slice none 0 0, .slice none 0 0, .string ⟨#[]⟩, .bool false] 66) = w7 at *
        have hB57 := ext_trans hB hB7
        clear e0 e1 e2 e3 e4 e5 e6 e7 hm6
        have cA7 : Hid (∀ W, Below w7.heap.size w7 W → Calls Tryz.prog 86 #[.agg #[.int .i64 y.no, .int .i64 y.at_, .int .i64 y.known, .int .i64 y.lang, .slice y.src.addr y.src.xs.length y.src.cap, .slice y.tgt.addr y.tgt.xs.length y.tgt.cap, .string y.cat, .bool y.gone]] W (AboutIn y l lang t u k wr.heap.size w5)) := by
          intro W hbW
          have hW5 : Below w5.heap.size w5 W := ext_trans hB57 hbW
          refine (about_at y W Hyok.out ((Hr.out.ext (ext_trans hB5 hW5)).lie y Hmem.out)).mono ?_
          rintro e w8 ⟨rfl, hb8⟩
          have hbb := ext_trans hbW hb8
          have hm8 : MapF w8 keyShape termShape w5.heap.size k (fun K => (lastF lang t u (l.take k) K).map Term.shown) := HMAP.out.of_block ((ext_trans hB7 hbb).block _ HMAP.out.lt)
          obtain ⟨w9, hrun, hm9, hg9, hs9⟩ := hm8.store w8 keyed_gkey Tryz.underlying128 Hkm.out (aboutK y) y.shown (aboutK_good Hyok.out)
          have hx8 : w8.heap[wr.heap.size]? = some (.cells #[.int .i64 y.no, .int .i64 y.at_, .int .i64 y.known, .int .i64 y.lang, .slice y.src.addr y.src.xs.length y.src.cap, .slice y.tgt.addr y.tgt.xs.length y.tgt.cap, .string y.cat, .bool y.gone] 66 (0, 0)) := (hbb.block _ (lt_block hx7)).trans hx7
          exact ⟨w9, rfl, ext_trans hW5 hb8, hrun, hm9, hg9, hs9, gblk hx8 0, gblk hx8 1, gblk hx8 2, gblk hx8 3, gblk hx8 4, gblk hx8 5, gblk hx8 6, gblk hx8 7⟩
        have p0 := gblk hx7 0
        have p1 := gblk hx7 1
        have p2 := gblk hx7 2
        have p3 := gblk hx7 3
        have p4 := gblk hx7 4
        have p5 := gblk hx7 5
        have p6 := gblk hx7 6
        have p7 := gblk hx7 7
        go_region_with (go_at_call 86; refine (cA7.out _ ?_).mono ?_; (repeat (first | exact Below.refl _ _ | refine ext_drew ?_ | refine ext_alloc ?_ _)); rintro e w8 ⟨w9, rfl, hb8, hrun8, hm8, hg8, hs8, q0, q1, q2, q3, q4, q5, q6, q7⟩)
        all_goals
          have hB9 : Below w5.heap.size w5 w9 := ⟨hg8.os.trans hb8.os, hg8.tape.trans hb8.tape, hg8.output.trans hb8.output, Nat.le_trans hb8.size hg8.size, fun i hi => (hg8.block i (Nat.lt_of_lt_of_le hi hb8.size) (by simp; omega)).trans (hb8.block i hi)⟩
          have hm9 := hm8.congr Hfun.out
          clear q0 q1 q2 q3 q4 q5 q6 q7 hrun8
          go_wp2_with fail
          go_roundw
          case rel => exact ⟨k + 1, by omega, by go_num, hB9, hm9⟩
          case measure => simp [intOf]; omega

      | some z =>
        have Hlf := Lib.hid hlf
        by_cases hza : z.at_ ≤ y.at_
        · have Hfun : Hid (∀ K, keyShape.good K → (lastF lang t u (l.take (k + 1)) K).map Term.shown = if K = aboutK y then some y.shown else (lastF lang t u (l.take k) K).map Term.shown) := by
            intro K _
            rw [Htk.out, lastF_snoc]
            unfold lastStep
            by_cases e : K = aboutK y
            · subst e; rw [if_pos ⟨Hcnt.out, rfl⟩, if_pos rfl, Hlf.out]; simp [hza]
            · rw [if_neg (fun h => e h.2.symm), if_neg e]
          clear hlf
          go_wp2_with (at_lookup; refine wpList_lookup_is _ rfl _ _ 128 rfl 66 keyed_gkey Tryz.underlying128 keyShape termShape zeroTV w5.heap.size k _ (zero_termV _) rfl hm6 (aboutK y) rfl (aboutK_good Hyok.out) (.agg #[.int .i64 z.no, .int .i64 z.at_, .int .i64 z.known, .int .i64 z.lang, .slice z.src.addr z.src.xs.length z.src.cap, .slice z.tgt.addr z.tgt.xs.length z.tgt.cap, .string z.cat, .bool z.gone]) true (by show termShape.val (((lastF lang t u (l.take k) (aboutK y)).map Term.shown).getD zeroTV) = _; rw [Hlf.out]; rfl) (by show ((lastF lang t u (l.take k) (aboutK y)).map Term.shown).isSome = _; rw [Hlf.out]; rfl) ?_)
          have hB7 : Below wr.heap.size wr (w6.alloc (.cells #[.int .i64 z.no, .int .i64 z.at_, .int .i64 z.known, .int .i64 z.lang, .slice z.src.addr z.src.xs.length z.src.cap, .slice z.tgt.addr z.tgt.xs.length z.tgt.cap, .string z.cat, .bool z.gone] 66)) := ext_alloc hB6 _
          have hx7 : (w6.alloc (.cells #[.int .i64 z.no, .int .i64 z.at_, .int .i64 z.known, .int .i64 z.lang, .slice z.src.addr z.src.xs.length z.src.cap, .slice z.tgt.addr z.tgt.xs.length z.tgt.cap, .string z.cat, .bool z.gone] 66)).heap[wr.heap.size]? = some (.cells #[.int .i64 y.no, .int .i64 y.at_, .int .i64 y.known, .int .i64 y.lang, .slice y.src.addr y.src.xs.length y.src.cap, .slice y.tgt.addr y.tgt.xs.length y.tgt.cap, .string y.cat, .bool y.gone] 66 (0, 0)) := (Below.heap_alloc _ _ _ (by omega)).trans hx6
          generalize w6.alloc (.cells #[.int .i64 z.no, .int .i64 z.at_, .int .i64 z.known, .int .i64 z.lang, .slice z.src.addr z.src.xs.length z.src.cap, .slice z.tgt.addr z.tgt.xs.length z.tgt.cap, .string z.cat, .bool z.gone] 66) = w7 at *
          have hB57 := ext_trans hB hB7
          clear e0 e1 e2 e3 e4 e5 e6 e7 hm6 hza
          have cA7 : Hid (∀ W, Below w7.heap.size w7 W → Calls Tryz.prog 86 #[.agg #[.int .i64 y.no, .int .i64 y.at_, .int .i64 y.known, .int .i64 y.lang, .slice y.src.addr y.src.xs.length y.src.cap, .slice y.tgt.addr y.tgt.xs.length y.tgt.cap, .string y.cat, .bool y.gone]] W (AboutIn y l lang t u k wr.heap.size w5)) := by
            intro W hbW
            have hW5 : Below w5.heap.size w5 W := ext_trans hB57 hbW
            refine (about_at y W Hyok.out ((Hr.out.ext (ext_trans hB5 hW5)).lie y Hmem.out)).mono ?_
            rintro e w8 ⟨rfl, hb8⟩
            have hbb := ext_trans hbW hb8
            have hm8 : MapF w8 keyShape termShape w5.heap.size k (fun K => (lastF lang t u (l.take k) K).map Term.shown) := HMAP.out.of_block ((ext_trans hB7 hbb).block _ HMAP.out.lt)
            obtain ⟨w9, hrun, hm9, hg9, hs9⟩ := hm8.store w8 keyed_gkey Tryz.underlying128 Hkm.out (aboutK y) y.shown (aboutK_good Hyok.out)
            have hx8 : w8.heap[wr.heap.size]? = some (.cells #[.int .i64 y.no, .int .i64 y.at_, .int .i64 y.known, .int .i64 y.lang, .slice y.src.addr y.src.xs.length y.src.cap, .slice y.tgt.addr y.tgt.xs.length y.tgt.cap, .string y.cat, .bool y.gone] 66 (0, 0)) := (hbb.block _ (lt_block hx7)).trans hx7
            exact ⟨w9, rfl, ext_trans hW5 hb8, hrun, hm9, hg9, hs9, gblk hx8 0, gblk hx8 1, gblk hx8 2, gblk hx8 3, gblk hx8 4, gblk hx8 5, gblk hx8 6, gblk hx8 7⟩
          have p0 := gblk hx7 0
          have p1 := gblk hx7 1
          have p2 := gblk hx7 2
          have p3 := gblk hx7 3
          have p4 := gblk hx7 4
          have p5 := gblk hx7 5
          have p6 := gblk hx7 6
          have p7 := gblk hx7 7
          go_region_with (go_at_call 86; refine (cA7.out _ ?_).mono ?_; (repeat (first | exact Below.refl _ _ | refine ext_drew ?_ | refine ext_alloc ?_ _)); rintro e w8 ⟨w9, rfl, hb8, hrun8, hm8, hg8, hs8, q0, q1, q2, q3, q4, q5, q6, q7⟩)
          all_goals
            have hB9 : Below w5.heap.size w5 w9 := ⟨hg8.os.trans hb8.os, hg8.tape.trans hb8.tape, hg8.output.trans hb8.output, Nat.le_trans hb8.size hg8.size, fun i hi => (hg8.block i (Nat.lt_of_lt_of_le hi hb8.size) (by simp; omega)).trans (hb8.block i hi)⟩
            have hm9 := hm8.congr Hfun.out
            clear q0 q1 q2 q3 q4 q5 q6 q7 hrun8
            go_wp2_with fail
            go_roundw
            case rel => exact ⟨k + 1, by omega, by go_num, hB9, hm9⟩
            case measure => simp [intOf]; omega

        · have Hfun : Hid (∀ K, keyShape.good K → (lastF lang t u (l.take (k + 1)) K).map Term.shown = (lastF lang t u (l.take k) K).map Term.shown) := by
            intro K _
            rw [Htk.out, lastF_snoc]
            unfold lastStep
            by_cases e : K = aboutK y
            · subst e; rw [if_pos ⟨Hcnt.out, rfl⟩, Hlf.out]; simp [hza]
            · rw [if_neg (fun h => e h.2.symm)]
          clear hlf
          go_wp2_with (at_lookup; refine wpList_lookup_is _ rfl _ _ 128 rfl 66 keyed_gkey Tryz.underlying128 keyShape termShape zeroTV w5.heap.size k _ (zero_termV _) rfl hm6 (aboutK y) rfl (aboutK_good Hyok.out) (.agg #[.int .i64 z.no, .int .i64 z.at_, .int .i64 z.known, .int .i64 z.lang, .slice z.src.addr z.src.xs.length z.src.cap, .slice z.tgt.addr z.tgt.xs.length z.tgt.cap, .string z.cat, .bool z.gone]) true (by show termShape.val (((lastF lang t u (l.take k) (aboutK y)).map Term.shown).getD zeroTV) = _; rw [Hlf.out]; rfl) (by show ((lastF lang t u (l.take k) (aboutK y)).map Term.shown).isSome = _; rw [Hlf.out]; rfl) ?_)
          go_roundw
          case rel => exact ⟨k + 1, by omega, by go_num, ext_alloc (ext_trans hB hB6) _, ((hm6.of_block (Below.heap_alloc _ _ _ (by have := hm6.lt; omega))).mono (by omega)).congr Hfun.out⟩
          case measure => simp [intOf]; omega
    · obtain rfl : k = l.length := by omega
      rw [List.take_length] at hmap
      obtain ⟨w6, hw6⟩ : ∃ w6, w6 = wr := ⟨_, rfl⟩
      subst hw6
      have hB6 := ext_trans hB5 hB
      have HMAP := Lib.hid hmap
      clear hlt hk hB hmap
      go_wp2_with fail
      go_loopw [8, 83] (fun x i wr => ∃ k : Nat, k ≤ l.length ∧ i = .int .i64 k ∧ OwnT wr w6.heap.size x ((l.take k).filter (pickB lang t u l)) ∧ Below w6.heap.size w6 wr) (fun _ i _ => l.length - (intOf i).toNat)
      case atStart => exact ⟨0, Nat.zero_le _, rfl, OwnL.nil _ _ _ _ _, Below.refl _ _⟩
      case round =>
        obtain ⟨k, hk, rfl, hown, hB⟩ := hrel
        by_cases hlt : k < l.length
        · obtain ⟨b, off, rfl, hb, hcl⟩ := Hr.out.at_ hlt
          obtain ⟨d0, d1, d2, d3, d4, d5, d6, d7⟩ := hcl k hlt wr (ext_trans hB6 hB)
          have hmem : l[k] ∈ l := List.getElem_mem hlt
          have htk : (l.take (k + 1)).filter (pickB lang t u l) = (l.take k).filter (pickB lang t u l) ++ (if pickB lang t u l l[k] = true then [l[k]] else []) := by
            rw [List.take_succ_eq_append_getElem hlt, List.filter_append]
            by_cases hp : pickB lang t u l l[k] = true <;> simp [hp]
          have hyok := Hoks.out _ hmem
          have hpick : pickB lang t u l l[k] = match lastF lang t u l (aboutK l[k]) with | some z => z.no == l[k].no && !l[k].gone | none => false := rfl
          have hfl : ((l.take k).filter (pickB lang t u l)).length ≤ k := Nat.le_trans (List.length_filter_le _ _) (List.length_take_le _ _)
          clear hcl
          generalize l[k] = y at *
          have hBy : Below wr.heap.size wr (wr.alloc (.cells #[.int .i64 y.no, .int .i64 y.at_, .int .i64 y.known, .int .i64 y.lang, .slice y.src.addr y.src.xs.length y.src.cap, .slice y.tgt.addr y.tgt.xs.length y.tgt.cap, .string y.cat, .bool y.gone] 66)) := ext_alloc (Below.refl _ _) _
          have n0 := World.alloc_heap_new wr (.cells #[.int .i64 y.no, .int .i64 y.at_, .int .i64 y.known, .int .i64 y.lang, .slice y.src.addr y.src.xs.length y.src.cap, .slice y.tgt.addr y.tgt.xs.length y.tgt.cap, .string y.cat, .bool y.gone] 66)
          have hylie : y.lies wr := (Hr.out.ext (ext_trans hB6 hB)).lie y hmem
          have Htk := Lib.hid htk
          have Hpk := Lib.hid hpick
          have Hyok := Lib.hid hyok
          have cA := Lib.hid (about_at y _ hyok (hylie.ext hBy))
          have Hown := Lib.hid hown
          clear hyok hmem htk hylie hpick hown
          go_wp2_with fail
          refine cA.out.mono ?_
          rintro e w7 ⟨rfl, hb7⟩
          have hB7 := ext_trans hBy hb7
          have hx7 := (hb7.block _ (lt_block n0)).trans n0
          have e0 := gblk hx7 0
          have e1 := gblk hx7 1
          have e2 := gblk hx7 2
          have e3 := gblk hx7 3
          have e4 := gblk hx7 4
          have e5 := gblk hx7 5
          have e6 := gblk hx7 6
          have e7 := gblk hx7 7
          have hbw : wr.heap.size < w7.heap.size := lt_block hx7
          have hm7 : MapF w7 keyShape termShape w5.heap.size l.length (fun K => (lastF lang t u l K).map Term.shown) := HMAP.out.of_block ((ext_trans hB hB7).block _ HMAP.out.lt)
          have hbm := HMAP.out.lt
          clear cA n0 d0 d1 d2 d3 d4 d5 d6 d7
          cases hlf : lastF lang t u l (aboutK y) with
          | none =>
            have Hlf := Lib.hid hlf
            have hp0 : pickB lang t u l y = false := by rw [Hpk.out, hlf]
            have Htk2 : Hid ((l.take (k + 1)).filter (pickB lang t u l) = (l.take k).filter (pickB lang t u l)) := by show _ = _; rw [Htk.out, hp0]; simp
            clear hlf hp0
            go_wp2_with (at_lookup; refine wpList_lookup_is _ rfl _ _ 128 rfl 66 keyed_gkey Tryz.underlying128 keyShape termShape zeroTV w5.heap.size l.length _ (zero_termV _) rfl hm7 (aboutK y) rfl (aboutK_good Hyok.out) (.agg #[.int .i64 0, .int .i64 0, .int .i64 0, .int .i64 0, .slice none 0 0, .slice none 0 0, .string ⟨#[]⟩, .bool false]) false (by show termShape.val (((lastF lang t u l (aboutK y)).map Term.shown).getD zeroTV) = _; rw [Hlf.out]; rfl) (by show ((lastF lang t u l (aboutK y)).map Term.shown).isSome = _; rw [Hlf.out]; rfl) ?_)
            go_roundw
            case rel => exact ⟨k + 1, by omega, by go_num, by rw [Htk2.out]; exact (Hown.out.ext hB7).ext (ext_alloc (Below.refl _ _) _), ext_alloc (ext_trans hB hB7) _⟩
            case measure => simp [intOf]; omega
          | some z =>
            have Hlf := Lib.hid hlf
            have hp0 : pickB lang t u l y = (z.no == y.no && !y.gone) := by rw [Hpk.out, hlf]
            by_cases hno : z.no = y.no
            · have g1 : (z.no == y.no) = true := by simp [hno]
              cases hg : y.gone
              · have hp1 : pickB lang t u l y = true := by rw [hp0, g1, hg]; rfl
                have Htk2 : Hid ((l.take (k + 1)).filter (pickB lang t u l) = (l.take k).filter (pickB lang t u l) ++ [y]) := by show _ = _; rw [Htk.out, hp1]; simp
                have Hg := Lib.hid hg
                rw [hg] at e7
                have ho : w7.ownsRow w6.heap.size 66 8 _ ((l.take k).filter (pickB lang t u l)).length (((l.take k).filter (pickB lang t u l)).flatMap Term.cells) := Hown.out.ext hB7
                generalize (l.take k).filter (pickB lang t u l) = el at *
                have A1 : el.length + 1 ≤ maxLen := by unfold maxLen; omega
                have A2 : (el.length + 1) * 104 ≤ 140737488355328 := by omega
                have A3 : w6.heap.size ≤ ((w7.alloc (.cells #[.int .i64 z.no, .int .i64 z.at_, .int .i64 z.known, .int .i64 z.lang, .slice z.src.addr z.src.xs.length z.src.cap, .slice z.tgt.addr z.tgt.xs.length z.tgt.cap, .string z.cat, .bool z.gone] 66)).alloc (.cells #[.int .i64 y.no, .int .i64 y.at_, .int .i64 y.known, .int .i64 y.lang, .slice y.src.addr y.src.xs.length y.src.cap, .slice y.tgt.addr y.tgt.xs.length y.tgt.cap, .string y.cat, .bool false] 66)).heap.size := by have h1 := hB.size; simp; omega
                clear hlf hp0 hp1 hno hg
                go_wp2_with (first | (at_lookup; refine wpList_lookup_is _ rfl _ _ 128 rfl 66 keyed_gkey Tryz.underlying128 keyShape termShape zeroTV w5.heap.size l.length _ (zero_termV _) rfl hm7 (aboutK y) rfl (aboutK_good Hyok.out) (.agg #[.int .i64 z.no, .int .i64 z.at_, .int .i64 z.known, .int .i64 z.lang, .slice z.src.addr z.src.xs.length z.src.cap, .slice z.tgt.addr z.tgt.xs.length z.tgt.cap, .string z.cat, .bool z.gone]) true (by show termShape.val (((lastF lang t u l (aboutK y)).map Term.shown).getD zeroTV) = _; rw [Hlf.out]; rfl) (by show ((lastF lang t u l (aboutK y)).map Term.shown).isSome = _; rw [Hlf.out]; rfl) ?_) | (at_builtin; refine wpList_append_own _ rfl _ _ 53 rfl w6.heap.size 66 i0 z0 8 104 Tryz.underlying53 hi0 iz0 is0 ib0 izs (by decide) _ _ _ rfl ((ho.alloc _).alloc _) _ _ _ [.int .i64 y.no, .int .i64 y.at_, .int .i64 y.known, .int .i64 y.lang, .slice y.src.addr y.src.xs.length y.src.cap, .slice y.tgt.addr y.tgt.xs.length y.tgt.cap, .string y.cat, .bool false] rfl rfl (gcells_new2 w7 _ [.int .i64 y.no, .int .i64 y.at_, .int .i64 y.known, .int .i64 y.lang, .slice y.src.addr y.src.xs.length y.src.cap, .slice y.tgt.addr y.tgt.xs.length y.tgt.cap, .string y.cat, .bool false] _) (one_false y) A1 A2 A3 ?_; intro v5 w10 hown6 hgrow6 _))
                have hB10 : Below w6.heap.size w6 w10 := (ext_alloc (ext_alloc (ext_trans hB hB7) _) _).grown hgrow6 A3 (fun k hk => (ho.lt k hk).1)
                have hown7 : w10.ownsRow w6.heap.size 66 8 v5 (el.length + 1) (el.flatMap Term.cells ++ y.cells) := by
                  have e : y.cells = [.int .i64 y.no, .int .i64 y.at_, .int .i64 y.known, .int .i64 y.lang, .slice y.src.addr y.src.xs.length y.src.cap, .slice y.tgt.addr y.tgt.xs.length y.tgt.cap, .string y.cat, .bool false] := by unfold Term.cells; rw [Hg.out]; rfl
                  rw [e]; exact hown6
                go_roundw
                case rel => exact ⟨k + 1, by omega, by go_num, by rw [Htk2.out]; exact OwnL.snoc y hown7, hB10⟩
                case measure => simp [intOf]; omega
              · have hp1 : pickB lang t u l y = false := by rw [hp0, hg]; simp
                have Htk2 : Hid ((l.take (k + 1)).filter (pickB lang t u l) = (l.take k).filter (pickB lang t u l)) := by show _ = _; rw [Htk.out, hp1]; simp
                rw [hg] at e7
                clear hlf hp0 hp1 hno hg
                go_wp2_with (at_lookup; refine wpList_lookup_is _ rfl _ _ 128 rfl 66 keyed_gkey Tryz.underlying128 keyShape termShape zeroTV w5.heap.size l.length _ (zero_termV _) rfl hm7 (aboutK y) rfl (aboutK_good Hyok.out) (.agg #[.int .i64 z.no, .int .i64 z.at_, .int .i64 z.known, .int .i64 z.lang, .slice z.src.addr z.src.xs.length z.src.cap, .slice z.tgt.addr z.tgt.xs.length z.tgt.cap, .string z.cat, .bool z.gone]) true (by show termShape.val (((lastF lang t u l (aboutK y)).map Term.shown).getD zeroTV) = _; rw [Hlf.out]; rfl) (by show ((lastF lang t u l (aboutK y)).map Term.shown).isSome = _; rw [Hlf.out]; rfl) ?_)
                go_roundw
                case rel => exact ⟨k + 1, by omega, by go_num, by rw [Htk2.out]; exact (Hown.out.ext hB7).ext (ext_alloc (Below.refl _ _) _), ext_alloc (ext_trans hB hB7) _⟩
                case measure => simp [intOf]; omega
            · have g1 : (z.no == y.no) = false := by simpa using hno
              have hp1 : pickB lang t u l y = false := by rw [hp0, g1]; rfl
              have Htk2 : Hid ((l.take (k + 1)).filter (pickB lang t u l) = (l.take k).filter (pickB lang t u l)) := by show _ = _; rw [Htk.out, hp1]; simp
              clear hlf hp0 hp1 hno
              go_wp2_with (at_lookup; refine wpList_lookup_is _ rfl _ _ 128 rfl 66 keyed_gkey Tryz.underlying128 keyShape termShape zeroTV w5.heap.size l.length _ (zero_termV _) rfl hm7 (aboutK y) rfl (aboutK_good Hyok.out) (.agg #[.int .i64 z.no, .int .i64 z.at_, .int .i64 z.known, .int .i64 z.lang, .slice z.src.addr z.src.xs.length z.src.cap, .slice z.tgt.addr z.tgt.xs.length z.tgt.cap, .string z.cat, .bool z.gone]) true (by show termShape.val (((lastF lang t u l (aboutK y)).map Term.shown).getD zeroTV) = _; rw [Hlf.out]; rfl) (by show ((lastF lang t u l (aboutK y)).map Term.shown).isSome = _; rw [Hlf.out]; rfl) ?_)
              go_roundw
              case rel => exact ⟨k + 1, by omega, by go_num, by rw [Htk2.out]; exact (Hown.out.ext hB7).ext (ext_alloc (Below.refl _ _) _), ext_alloc (ext_trans hB hB7) _⟩
              case measure => simp [intOf]; omega
        · obtain rfl : k = l.length := by omega
          rw [List.take_length, filter_pick Hpw.out Hoks.out] at hown
          obtain ⟨A9, c9, rfl, hrd9, hn9⟩ := OwnL.form (by omega) hown
          have hfin : Hid (StandPost l lang t u w (.returned (.tuple #[.slice A9 (standT l lang t u).length c9, .int .i64 0])) wr) := by
            refine ⟨ext_trans hB6 hB, .inr ⟨HF.out, A9, c9, rfl, ⟨hrd9, fun y hy => ?_⟩, hn9⟩⟩
            exact (Hr.out.ext (ext_trans hB6 hB)).lie y (List.mem_filter.1 hy).1
          clear hown hrd9 hn9 hlt hk
          go_wp2_with fail
          go_ret2
          exact hfin.out
end Go.Proofs.YthojaplnimoacaaGreatDoor

/- The reference's Standing. -/
namespace Go.Proofs.YthojaplnimoacaaGreatDoor
open Go.RowKit Go.Han
attribute [local irreducible] wpStill wpQuiet
set_option maxRecDepth 100000

theorem one_term (y : Term) : ∀ v ∈ [.int .i64 y.no, .int .i64 y.at_, .int .i64 y.known, .int .i64 y.lang, .slice y.src.addr y.src.xs.length y.src.cap, .slice y.tgt.addr y.tgt.xs.length y.tgt.cap, .string y.cat, .bool y.gone], Value.oneCell' v = true := by
  intro v hv
  simp at hv
  rcases hv with rfl | rfl | rfl | rfl | rfl | rfl | rfl | rfl <;> rfl
def fitB (l : List Term) (lang t u : Int) (x : Term) : Bool := decide (x.lang = lang) && standsB l t u x
theorem ownT_room {el : List Term} (h : el.length ≤ 1024) : el.length + 1 ≤ maxLen ∧ (el.length + 1) * 104 ≤ 140737488355328 := by
  unfold maxLen; omega
set_option maxHeartbeats 4000000 in
theorem Standing27_any (A : Option Addr) (cp : Nat) (l : List Term) (lang t u : Int) (w : World) (hr : TermsAt w A l) (hm : l.length ≤ 9223372036854775807) :
    Calls Tryz.prog 79 #[.slice A l.length cp, .int .i64 lang, .int .i64 t, .int .i64 u] w (StandPost l lang t u w) := by
  obtain ⟨i0, z0, hi0, iz0, is0, ib0, izs⟩ := parts_term
  have HE : Hid (standE l lang t u = if checkT l ≠ 0 then checkT l else if (langB lang && tmB t && tmB u) = false then 1 else 0) := rfl
  have HS : Hid (standT l lang t u = l.filter (fitB l lang t u)) := rfl
  have Hr := Lib.hid hr
  have Hm := Lib.hid hm
  go_enter Tryz.func79, Tryz.ntmps79
  go_wp2_with fail
  refine (check27_any A cp l w hr hm).mono ?_
  rintro e w1 ⟨rfl, hB1⟩
  clear hr
  by_cases hc : checkT l ≠ 0
  · have HF : Hid (standE l lang t u = checkT l) := by show _ = _; rw [HE.out, if_pos hc]
    have n1 : (checkT l == 0) = false := by simpa using hc
    have n2 : (checkT l != 0) = true := by simpa using hc
    have Hc := Lib.hid hc
    clear hc
    go_wp2_with fail
    go_ret2
    exact ⟨hB1, .inl ⟨by rw [HF.out]; exact Hc.out, by rw [HF.out]; rfl⟩⟩
  have hc := Decidable.not_not.1 hc
  obtain ⟨hl, hoks, hpw⟩ := checkT_zero hc
  have HC := Lib.hid hc
  rw [hc]
  clear hc hoks hpw hm
  have c2 := Lib.hid (fun w => time27_any t w)
  have c3 := Lib.hid (fun w => time27_any u w)
  go_wp2_with fail
  refine (language27_any lang w1).mono ?_
  rintro e w' ⟨rfl, rfl⟩
  generalize langB lang = b1 at *
  generalize tmB t = b2 at *
  generalize tmB u = b3 at *
  cases b1
  · have HF : Hid (standE l lang t u = 1) := by show _ = _; rw [HE.out, HC.out]; rfl
    go_wp2_with fail
    go_ret2
    exact ⟨hB1, .inl ⟨by rw [HF.out]; decide, by rw [HF.out]; rfl⟩⟩
  go_wp2_with fail
  refine (c2.out _).mono ?_
  rintro e w' ⟨rfl, rfl⟩
  cases b2
  · have HF : Hid (standE l lang t u = 1) := by show _ = _; rw [HE.out, HC.out]; rfl
    go_wp2_with fail
    go_ret2
    exact ⟨hB1, .inl ⟨by rw [HF.out]; decide, by rw [HF.out]; rfl⟩⟩
  go_wp2_with fail
  refine (c3.out _).mono ?_
  rintro e w' ⟨rfl, rfl⟩
  cases b3
  · have HF : Hid (standE l lang t u = 1) := by show _ = _; rw [HE.out, HC.out]; rfl
    go_wp2_with fail
    go_ret2
    exact ⟨hB1, .inl ⟨by rw [HF.out]; decide, by rw [HF.out]; rfl⟩⟩
  have HF : Hid (standE l lang t u = 0) := by show _ = _; rw [HE.out, HC.out]; rfl
  clear c2 c3 HE
  obtain ⟨w5, hw5⟩ : ∃ w5, w5 = w1 := ⟨_, rfl⟩
  have hB5 : Below w.heap.size w w5 := by rw [hw5]; exact hB1
  subst hw5
  go_wp2_with fail
  go_loopw [11, 12] (fun x i wr => ∃ k : Nat, k ≤ l.length ∧ i = .int .i64 k ∧ OwnT wr w5.heap.size x ((l.take k).filter (fitB l lang t u)) ∧ Below w5.heap.size w5 wr) (fun _ i _ => l.length - (intOf i).toNat)
  case atStart => exact ⟨0, Nat.zero_le _, rfl, OwnL.nil _ _ _ _ _, Below.refl _ _⟩
  case round =>
    obtain ⟨k, hk, rfl, hown, hB⟩ := hrel
    by_cases hlt : k < l.length
    · obtain ⟨b, off, rfl, hb, hcl⟩ := Hr.out.at_ hlt
      obtain ⟨d0, d1, d2, d3, d4, d5, d6, d7⟩ := hcl k hlt wr (ext_trans hB5 hB)
      have hmem : l[k] ∈ l := List.getElem_mem hlt
      have htk : (l.take (k + 1)).filter (fitB l lang t u) = (l.take k).filter (fitB l lang t u) ++ (if fitB l lang t u l[k] = true then [l[k]] else []) := by
        rw [List.take_succ_eq_append_getElem hlt, List.filter_append]
        by_cases hp : fitB l lang t u l[k] = true <;> simp [hp]
      have hfl : ((l.take k).filter (fitB l lang t u)).length ≤ k := Nat.le_trans (List.length_filter_le _ _) (List.length_take_le _ _)
      have hfb : fitB l lang t u l[k] = (decide (l[k].lang = lang) && standsB l t u l[k]) := rfl
      clear hcl
      generalize l[k] = y at *
      have hylie : y.lies wr := (Hr.out.ext (ext_trans hB5 hB)).lie y hmem
      have cS : Hid _ := Lib.hid (stands27_any (some ⟨b, off, none⟩) cp l y t u wr (Hr.out.ext (ext_trans hB5 hB)) hylie Hm.out)
      have Htk := Lib.hid htk
      have Hfb := Lib.hid hfb
      have Hown := Lib.hid hown
      clear hmem htk hfb hylie hown
      by_cases hl1 : y.lang ≠ lang
      · have g1 : (y.lang == lang) = false := by simpa using hl1
        have HN : Hid ((l.take (k + 1)).filter (fitB l lang t u) = (l.take k).filter (fitB l lang t u)) := by show _ = _; rw [Htk.out, Hfb.out, decide_eq_false hl1]; simp
        clear hl1
        go_wp2_with fail
        go_roundw
        case rel => exact ⟨k + 1, by omega, by go_num, by rw [HN.out]; exact Hown.out, hB⟩
        case measure => simp [intOf]; omega
      have hl1 := Decidable.not_not.1 hl1
      have g1 : (y.lang == lang) = true := by simp [hl1]
      rw [decide_eq_true hl1, Bool.true_and] at Hfb
      clear hl1
      generalize standsB l t u y = q at *
      cases q
      · have HN : Hid ((l.take (k + 1)).filter (fitB l lang t u) = (l.take k).filter (fitB l lang t u)) := by show _ = _; rw [Htk.out, Hfb.out]; simp
        go_wp2_with fail
        refine cS.out.mono ?_
        rintro e w6 ⟨rfl, hb6⟩
        go_wp2_with fail
        go_roundw
        case rel => exact ⟨k + 1, by omega, by go_num, by rw [HN.out]; exact Hown.out.ext hb6, ext_trans hB hb6⟩
        case measure => simp [intOf]; omega
      · have HN : Hid ((l.take (k + 1)).filter (fitB l lang t u) = (l.take k).filter (fitB l lang t u) ++ [y]) := by show _ = _; rw [Htk.out, Hfb.out]; simp
        go_wp2_with fail
        refine cS.out.mono ?_
        rintro e w6 ⟨rfl, hb6⟩
        have hbw : b < wr.heap.size := Nat.lt_of_lt_of_le hb (ext_trans hB5 hB).size
        have e0 := (hb6.cell (p := ⟨b, off + k * 8, none⟩) hbw).trans d0
        have e1 := (hb6.cell (p := ⟨b, off + k * 8 + 1, none⟩) hbw).trans d1
        have e2 := (hb6.cell (p := ⟨b, off + k * 8 + 2, none⟩) hbw).trans d2
        have e3 := (hb6.cell (p := ⟨b, off + k * 8 + 3, none⟩) hbw).trans d3
        have e4 := (hb6.cell (p := ⟨b, off + k * 8 + 4, none⟩) hbw).trans d4
        have e5 := (hb6.cell (p := ⟨b, off + k * 8 + 5, none⟩) hbw).trans d5
        have e6 := (hb6.cell (p := ⟨b, off + k * 8 + 6, none⟩) hbw).trans d6
        have e7 := (hb6.cell (p := ⟨b, off + k * 8 + 7, none⟩) hbw).trans d7
        have ho : w6.ownsRow w5.heap.size 66 8 _ ((l.take k).filter (fitB l lang t u)).length (((l.take k).filter (fitB l lang t u)).flatMap Term.cells) := Hown.out.ext hb6
        generalize (l.take k).filter (fitB l lang t u) = el at *
        obtain ⟨A1, A2⟩ := ownT_room (el := el) (by omega)
        have A3 : w5.heap.size ≤ (w6.alloc (.cells #[.int .i64 y.no, .int .i64 y.at_, .int .i64 y.known, .int .i64 y.lang, .slice y.src.addr y.src.xs.length y.src.cap, .slice y.tgt.addr y.tgt.xs.length y.tgt.cap, .string y.cat, .bool y.gone] 66)).heap.size := by have h1 := hB.size; have h2 := hb6.size; simp; omega
        clear d0 d1 d2 d3 d4 d5 d6 d7
        go_wp2_with (at_builtin; refine wpList_append_own _ rfl _ _ 53 rfl w5.heap.size 66 i0 z0 8 104 Tryz.underlying53 hi0 iz0 is0 ib0 izs (by decide) _ _ _ rfl (ho.alloc _) _ _ _ [.int .i64 y.no, .int .i64 y.at_, .int .i64 y.known, .int .i64 y.lang, .slice y.src.addr y.src.xs.length y.src.cap, .slice y.tgt.addr y.tgt.xs.length y.tgt.cap, .string y.cat, .bool y.gone] rfl rfl (gcells_new w6 [.int .i64 y.no, .int .i64 y.at_, .int .i64 y.known, .int .i64 y.lang, .slice y.src.addr y.src.xs.length y.src.cap, .slice y.tgt.addr y.tgt.xs.length y.tgt.cap, .string y.cat, .bool y.gone] _) (one_term y) A1 A2 A3 ?_; intro v5 w10 hown6 hgrow6 _)
        have hB10 : Below w5.heap.size w5 w10 := (ext_alloc (ext_trans hB hb6) _).grown hgrow6 A3 (fun k hk => (ho.lt k hk).1)
        have hown7 : w10.ownsRow w5.heap.size 66 8 v5 (el.length + 1) (el.flatMap Term.cells ++ y.cells) := hown6
        go_roundw
        case rel => exact ⟨k + 1, by omega, by go_num, by rw [HN.out]; exact OwnL.snoc y hown7, hB10⟩
        case measure => simp [intOf]; omega
    · obtain rfl : k = l.length := by omega
      rw [List.take_length, ← HS.out] at hown
      obtain ⟨A9, c9, rfl, hrd9, hn9⟩ := OwnL.form (by omega) hown
      have hfin : Hid (StandPost l lang t u w (.returned (.tuple #[.slice A9 (standT l lang t u).length c9, .int .i64 0])) wr) := by
        refine ⟨ext_trans hB5 hB, .inr ⟨HF.out, A9, c9, rfl, ⟨hrd9, fun y hy => ?_⟩, hn9⟩⟩
        exact (Hr.out.ext (ext_trans hB5 hB)).lie y (List.mem_filter.1 hy).1
      clear hown hrd9 hn9 hlt hk
      go_wp2_with fail
      go_ret2
      exact hfin.out
end Go.Proofs.YthojaplnimoacaaGreatDoor

/- The reference's Find. -/
namespace Go.Proofs.YthojaplnimoacaaGreatDoor
open Go.RowKit Go.Han
attribute [local irreducible] wpStill wpQuiet
set_option maxRecDepth 100000

/-- One step: is x better than the best so far. -/
def betterB (o : Option Term) (x : Term) : Bool := match o with | none => true | some b => decide (b.src.xs.length < x.src.xs.length)
def bestStep (ws : List ByteArray) (o : Option Term) (x : Term) : Option Term := if (startB x ws && betterB o x) = true then some x else o
def bestF (S : List Term) (ws : List ByteArray) : Option Term := S.foldl (bestStep ws) none
theorem bestF_snoc (S : List Term) (ws : List ByteArray) (x : Term) : bestF (S ++ [x]) ws = bestStep ws (bestF S ws) x := by
  unfold bestF; rw [List.foldl_append]; rfl
def findE (l : List Term) (lang : Int) (n : Nat) (i t u : Int) : Int := if standE l lang t u ≠ 0 then standE l lang t u else if i < 0 ∨ (n : Int) < i then 1 else 0
def foundV (o : Option Term) : Value := match o with | none => .tuple #[.int .i64 0, .bool false, .int .i64 0] | some x => .tuple #[.int .i64 x.no, .bool true, .int .i64 0]
def findV (l : List Term) (lang : Int) (ws : List ByteArray) (i t u : Int) : Value :=
  if findE l lang ws.length i t u ≠ 0 then .tuple #[.int .i64 0, .bool false, .int .i64 (findE l lang ws.length i t u)] else foundV (bestF (standT l lang t u) (ws.drop i.toNat))
end Go.Proofs.YthojaplnimoacaaGreatDoor

/- slices.Equal at strings. -/
namespace Go.Proofs.YthojaplnimoacaaGreatDoor
open Go.RowKit Go.Han
set_option maxRecDepth 100000

theorem equalStr_any (s t : StrS) (w : World) (hs : s.lies w) (ht : t.lies w) : Calls Tryz.prog 137 #[.slice s.addr s.xs.length s.cap, .slice t.addr t.xs.length t.cap] w fun e w' => e = .returned (.bool (decide (s.xs = t.xs))) ∧ ∃ q, w' = w.drewN q := by
  have hm : s.xs.length ≤ 9223372036854775807 := Nat.le_trans hs.cap hs.max
  have hm2 : t.xs.length ≤ 9223372036854775807 := Nat.le_trans ht.cap ht.max
  by_cases hl : s.xs.length = t.xs.length
  · by_cases h0 : s.xs.length = 0
    · have e1 : s.xs = [] := List.eq_nil_of_length_eq_zero h0
      have e2 : t.xs = [] := List.eq_nil_of_length_eq_zero (by omega)
      rw [e1, e2]
      refine (Tryz.slices_Equal_string_empty s.addr t.addr s.cap 0 t.cap w (by omega)).mono ?_
      rintro e w' ⟨rfl, rfl⟩
      exact ⟨rfl, 0, rfl⟩
    · obtain ⟨b, off, he, hb, hc⟩ := StrS.at_ hs (k := 0) (by omega)
      obtain ⟨b', off', he', hb', hc'⟩ := StrS.at_ ht (k := 0) (by omega)
      rw [he, he']
      refine (Tryz.slices_Equal_string b off s.xs.length s.cap b' off' t.xs.length t.cap s.xs t.xs w (Nat.le_refl _) (Nat.le_refl _) hm hm2 (fun j hj => ?_) (fun j hj => ?_)).mono ?_
      · rw [hc j hj]; simp [List.getD, hj]
      · rw [hc' j hj]; simp [List.getD, hj]
      · rintro e w' ⟨rfl, q, rfl⟩
        rw [List.take_length, List.take_length]
        exact ⟨rfl, q, rfl⟩
  · refine (Tryz.slices_Equal_string_lens s.addr t.addr s.xs.length s.cap t.xs.length t.cap w hl).mono ?_
    rintro e w' ⟨rfl, rfl⟩
    exact ⟨by rw [decide_eq_false (fun h => hl (by rw [h]))], 0, rfl⟩
end Go.Proofs.YthojaplnimoacaaGreatDoor

/- Package glossary: starting, the terms whose source stands at the head of the words, as an iterator. -/
namespace Go.Proofs.YthojaplnimoacaaGreatDoor
open Go.RowKit Go.Han
attribute [local irreducible] wpStill wpQuiet
attribute [local go_sem] Oper.semAt_some
set_option maxRecDepth 100000

theorem starting_any (A : Option Addr) (n cp : Nat) (B : Option Addr) (m d : Nat) (w : World) : Calls Tryz.prog 90 #[.slice A n cp, .slice B m d] w fun e w' =>
    e = .returned (.func (.func 136) #[] #[.pointer (some ⟨w.heap.size, 0, none⟩), .pointer (some ⟨w.heap.size + 1, 0, none⟩)]) ∧ (w.alloc (.cells #[.slice A n cp] 53)).alloc (.cells #[.slice B m d] 22) = w' := by
  have hmf : ∀ (fn : Fn) (first cap : Array Value) (w : World), (Instr.makeFunc fn first cap).run Tryz.prog w = .ok (.func fn first cap) w := fun _ _ _ _ => rfl
  go_enter Tryz.func90, Tryz.ntmps90
  go_wp2
  go_ret
  exact ⟨rfl, rfl⟩
def startL (S : List Term) (ws : List ByteArray) : List Term := S.filter (fun x => startB x ws)
theorem startL_snoc (S : List Term) (ws : List ByteArray) (k : Nat) (h : k < S.length) : startL (S.take (k + 1)) ws = startL (S.take k) ws ++ if startB S[k] ws = true then [S[k]] else [] := by
  unfold startL
  rw [List.take_succ_eq_append_getElem h, List.filter_append]
  by_cases hp : startB S[k] ws = true <;> simp [hp]
theorem startL_prefix (S : List Term) (ws : List ByteArray) (k : Nat) : startL (S.take k) ws <+: startL S ws := by
  refine ⟨startL (S.drop k) ws, ?_⟩
  unfold startL
  rw [← List.filter_append, List.take_append_drop]
/-- Equal, in the midst of the region that asks for a yes. -/
def EqYes (l' : Nat) (J Jx : (Nat → Prop) → List Term → World → Prop) (Jp : List PanicEntry → World → Prop) (own : Nat → Prop) (pre : List Term) (x : Term) (b : Nat) (w4 : World) (e : Ending) (w' : World) : Prop :=
  e = .returned (.bool true) ∧ w'.heap = w4.heap ∧ (∃ fn tmps assign body, (Instr.yield l' #[.agg #[.int .i64 x.no, .int .i64 x.at_, .int .i64 x.known, .int .i64 x.lang, .slice x.src.addr x.src.xs.length x.src.cap, .slice x.tgt.addr x.tgt.xs.length x.tgt.cap, .string x.cat, .bool x.gone]]).run Tryz.prog w' = .ok (.round l' fn tmps assign body) w' ∧ RoundIn Fence.wide 0 Tryz.prog l' fn tmps assign body w' (RoundPost J Jx Jp own (pre ++ [x]) w')) ∧
  w'.cell? ⟨b, 0, none⟩ = some (.int .i64 x.no) ∧ w'.cell? ⟨b, 1, none⟩ = some (.int .i64 x.at_) ∧ w'.cell? ⟨b, 2, none⟩ = some (.int .i64 x.known) ∧ w'.cell? ⟨b, 3, none⟩ = some (.int .i64 x.lang) ∧ w'.cell? ⟨b, 4, none⟩ = some (.slice x.src.addr x.src.xs.length x.src.cap) ∧ w'.cell? ⟨b, 5, none⟩ = some (.slice x.tgt.addr x.tgt.xs.length x.tgt.cap) ∧ w'.cell? ⟨b, 6, none⟩ = some (.string x.cat) ∧ w'.cell? ⟨b, 7, none⟩ = some (.bool x.gone)
def WentOn (J Jx : (Nat → Prop) → List Term → World → Prop) (own : Nat → Prop) (ys : List Term) (W1 : World) (v : Bool) (W' : World) : Prop := ∃ own', BodyStep own own' W1 W' ∧ ((v = true ∧ J own' ys W') ∨ (v = false ∧ Jx own' ys W'))
theorem round_cases {J Jx : (Nat → Prop) → List Term → World → Prop} {Jp : List PanicEntry → World → Prop} {own : Nat → Prop} {ys : List Term} {W1 : World} {e : Ending} {W' : World} (h : RoundPost J Jx Jp own ys W1 e W') :
    (∃ v, e = .returned (.bool v) ∧ WentOn J Jx own ys W1 v W') ∨ (∃ ch, e = .panicked ch ∧ Jp ch W') := by
  rcases h with ⟨own', hb, ⟨rfl, hj⟩ | ⟨rfl, hj⟩⟩ | h
  · exact .inl ⟨true, rfl, own', hb, .inl ⟨rfl, hj⟩⟩
  · exact .inl ⟨false, rfl, own', hb, .inr ⟨rfl, hj⟩⟩
  · exact .inr h

set_option maxHeartbeats 2000000 in
theorem starting1 (b1 b2 : Nat) (A : Option Addr) (cp : Nat) (S : List Term) (s : StrS) (R : Nat → Prop) (w0 : World)
    (hK : ∀ W : World, (∀ k, R k → W.heap[k]? = w0.heap[k]?) → W.heap[b1]? = some (.cells #[.slice A S.length cp] 53 (0, 0)) ∧ W.heap[b2]? = some (.cells #[.slice s.addr s.xs.length s.cap] 22 (0, 0)) ∧ TermsAt W A S ∧ s.lies W) (hm : S.length ≤ 1000000) :
    IterC Tryz.prog 136 #[.pointer (some ⟨b1, 0, none⟩), .pointer (some ⟨b2, 0, none⟩)] (fun x : Term => #[.agg #[.int .i64 x.no, .int .i64 x.at_, .int .i64 x.known, .int .i64 x.lang, .slice x.src.addr x.src.xs.length x.src.cap, .slice x.tgt.addr x.tgt.xs.length x.tgt.cap, .string x.cat, .bool x.gone]]) R (fun _ => False) (startL S s.xs) none w0 := by
  intro l' B0 J Jx Jp own₀ W hR hown hB0 hlive hJ hJx hY h0
  refine (callsIn_wide (n := 0)).1 ?_
  refine callsIn_of_wp Tryz.func136 rfl trivial ?_
  simp only [Tryz.ntmps136, List.size_toArray, List.length_cons, List.length_nil, Nat.reduceAdd, Nat.reduceSub, Array.replicate_succ, Array.replicate_zero, List.push_toArray, List.append_toArray, List.nil_append, List.cons_append]
  have hRB : ∀ k, R k → k < B0 := fun k hk => (hR k hk).1
  have c1 := cell_one (hK W (fun k hk => (hR k hk).2)).1
  have hKk := fun k hk => (hR k hk).2
  have HK := Lib.hid hK
  have HY := Lib.hid hY
  have HJ := Lib.hid hJ
  have HRB := Lib.hid hRB
  clear hK hR hY hJx hJ hRB
  gi_wp2
  gi_loopw [9] (fun i wr => ∃ (own : Nat → Prop) (k : Nat), k ≤ S.length ∧ i = .int .i64 k ∧ J own (startL (S.take k) s.xs) wr ∧ Hid (∀ j, R j → wr.heap[j]? = w0.heap[j]?) ∧ Hid (∀ j, own j → ¬ R j) ∧ Hid (∀ j, own j → j < wr.heap.size) ∧ B0 ≤ wr.heap.size) (fun i _ => S.length - (intOf i).toNat)
  case atStart => exact ⟨own₀, 0, Nat.zero_le _, rfl, h0, hKk, hown, hlive, hB0⟩
  case round =>
    obtain ⟨own, k, hk, rfl, hj, hkeep, hdis, hliv, hBs⟩ := hrel
    by_cases hlt : k < S.length
    · obtain ⟨_, hw2, hT, hsl⟩ := HK.out wr hkeep.out
      obtain ⟨b, off, rfl, hb, hcl⟩ := hT.at_ hlt
      obtain ⟨d0, d1, d2, d3, d4, d5, d6, d7⟩ := hcl k hlt wr (Below.refl _ _)
      have hxl := hT.lie _ (List.getElem_mem hlt)
      have htk := startL_snoc S s.xs k hlt
      have hpf := startL_prefix S s.xs (k + 1)
      have Htk := Lib.hid htk
      have Hpf := Lib.hid hpf
      have HT := Lib.hid hT
      clear htk hpf hcl c1 hT
      generalize S[k] = x at *
      obtain ⟨w4, hw4⟩ : ∃ w4, wr.alloc (.cells #[.int .i64 x.no, .int .i64 x.at_, .int .i64 x.known, .int .i64 x.lang, .slice x.src.addr x.src.xs.length x.src.cap, .slice x.tgt.addr x.tgt.xs.length x.tgt.cap, .string x.cat, .bool x.gone] 66) = w4 := ⟨_, rfl⟩
      have hB4 : Below wr.heap.size wr w4 := by rw [← hw4]; exact ext_alloc (Below.refl _ _) _
      have hz4 : w4.heap.size = wr.heap.size + 1 := by rw [← hw4]; simp
      have hx4 : w4.heap[wr.heap.size]? = some (.cells #[.int .i64 x.no, .int .i64 x.at_, .int .i64 x.known, .int .i64 x.lang, .slice x.src.addr x.src.xs.length x.src.cap, .slice x.tgt.addr x.tgt.xs.length x.tgt.cap, .string x.cat, .bool x.gone] 66 (0, 0)) := by rw [← hw4]; exact World.alloc_heap_new _ _
      have e4 := gblk hx4 4
      have eb2 := cell_one ((hB4.block _ (lt_block hw2)).trans hw2)
      have HJ4 : Hid (∀ W, W.heap = w4.heap → W.os = w4.os → W.tape = w4.tape → W.output = w4.output → J own (startL (S.take k) s.xs) W) := by
        intro W h1 h2 h3 h4
        refine HJ.out own _ wr W hj ⟨h2.trans hB4.os, h3.trans hB4.tape, h4.trans hB4.output, by rw [h1]; omega, fun j hj _ => by rw [h1]; exact hB4.block j hj⟩
      have HK4 : Hid (∀ W : World, W.heap = w4.heap → ∀ j, R j → W.heap[j]? = w0.heap[j]?) := by
        intro W h1 j hj
        have h2 : j < wr.heap.size := by have := HRB.out j hj; omega
        rw [h1, hB4.block j h2]; exact hkeep.out j hj
      have hsm : s.xs.length ≤ 9223372036854775807 := Nat.le_trans hsl.cap hsl.max
      by_cases hn : x.src.xs.length ≤ s.xs.length
      · have hsub : ∀ W : World, _ := fun W => run_upto s x.src.xs.length W hn hsl.cap
        have hL := StrS.sub_len (s := s) (i := 0) (n := x.src.xs.length) (by omega)
        have cE : Hid (∀ W : World, W.heap = w4.heap → Calls Tryz.prog 137 #[.slice x.src.addr x.src.xs.length x.src.cap, .slice (s.sub 0 x.src.xs.length).addr x.src.xs.length (s.sub 0 x.src.xs.length).cap] W fun e w' => e = .returned (.bool (startB x s.xs)) ∧ ∃ q, w' = W.drewN q) := by
          intro W hW
          have hlW : ∀ (t : StrS), t.lies wr → t.lies W := fun t ht => by
            have h4 := ht.ext hB4
            refine ⟨?_, h4.cap, h4.max, h4.nil⟩
            rcases h4.rd with h | ⟨b, off, h1, h2, h3⟩
            · exact .inl h
            · exact .inr ⟨b, off, h1, by rw [hW]; exact h2, fun j u hu => by have := h3 j u hu; unfold World.cell? at this ⊢; rw [hW]; exact this⟩
          have h := equalStr_any x.src (s.sub 0 x.src.xs.length) W (hlW _ hxl.1) (hlW _ (StrS.sub_lies hsl (by omega)))
          rw [hL] at h
          refine h.mono ?_
          rintro e w' ⟨rfl, q⟩
          refine ⟨?_, q⟩
          congr 2
          unfold startB
          have he : (s.sub 0 x.src.xs.length).xs = s.xs.take x.src.xs.length := by show (s.xs.drop 0).take _ = _; rw [List.drop_zero]
          rw [he]
          exact decide_eq_decide.2 ⟨Eq.symm, Eq.symm⟩
        have hle : (x.src.xs.length : Int) ≤ (s.xs.length : Int) := by omega
        have Hsl := Lib.hid hsl
        cases hst : startB x s.xs
        · rw [hst] at cE
          have HN : Hid (startL (S.take (k + 1)) s.xs = startL (S.take k) s.xs) := by show _ = _; rw [Htk.out, hst]; simp
          clear hst hL hsl hxl
          generalize (s.sub 0 x.src.xs.length).addr = B at *
          generalize (s.sub 0 x.src.xs.length).cap = dd at *
          gi_wp2_with fail
          have hwf : ∀ f, Fence.wide.fn f = True := fun f => by simp [Fence.wide]
          gi_quiet_th (exact ⟨rfl, CallsIn.quiet_of (callsIn_wide.2 (cE.out _ rfl))⟩)
          gi_wp2
          go_roundw
          case rel =>
            refine ⟨own, k + 1, by omega, by go_num, ?_, ?_, hdis, ?_, ?_⟩
            · rw [HN.out]; exact HJ4.out _ rfl rfl rfl rfl
            · exact HK4.out _ rfl
            · intro j hj; have := hliv.out j hj; show j < w4.heap.size; omega
            · show B0 ≤ w4.heap.size; omega
          case measure => simp [intOf]; omega
        · rw [hst] at cE
          have HN : Hid (startL (S.take (k + 1)) s.xs = startL (S.take k) s.xs ++ [x]) := by show _ = _; rw [Htk.out, hst]; simp
          have hbx : wr.heap.size < w4.heap.size := by omega
          have cY : Hid (∀ W : World, W.heap = w4.heap → W.os = w4.os → W.tape = w4.tape → W.output = w4.output → Calls Tryz.prog 137 #[.slice x.src.addr x.src.xs.length x.src.cap, .slice (s.sub 0 x.src.xs.length).addr x.src.xs.length (s.sub 0 x.src.xs.length).cap] W (EqYes l' J Jx Jp own (startL (S.take k) s.xs) x wr.heap.size w4)) := by
            intro W h1 h2 h3 h4
            refine (cE.out W h1).mono ?_
            rintro e w' ⟨rfl, q, rfl⟩
            refine ⟨rfl, h1, ?_, ?_⟩
            · exact HY.out own _ x (W.drewN q) (HJ4.out _ h1 h2 h3 h4) (by rw [← HN.out]; exact Hpf.out) hdis.out (fun j hj => by have := hliv.out j hj; show j < W.heap.size; rw [h1]; omega)
            · have hxW : (W.drewN q).heap[wr.heap.size]? = _ := (congrArg (fun h => h[wr.heap.size]?) h1).trans hx4
              exact ⟨gblk hxW 0, gblk hxW 1, gblk hxW 2, gblk hxW 3, gblk hxW 4, gblk hxW 5, gblk hxW 6, gblk hxW 7⟩
          clear hst hL hsl hxl cE
          generalize (s.sub 0 x.src.xs.length).addr = B at *
          generalize (s.sub 0 x.src.xs.length).cap = dd at *
          gi_wp2_with fail
          gi_region_with (first | (refine ⟨trivial, rfl, (callsIn_wide.2 (cY.out _ ?_ ?_ ?_ ?_)).mono ?_⟩; rotate_left 4; rintro e w' ⟨rfl, hh, ⟨fn, tmps, assign, body, hy, hRd⟩, q0, q1, q2, q3, q4, q5, q6, q7⟩; rotate_right 4; exact rfl; exact rfl; exact rfl; exact rfl) | (refine ⟨rfl, hRd.mono ?_⟩; intro e w9 hpost; rcases round_cases hpost with ⟨v, rfl, hwent⟩ | ⟨ch, rfl, hjp⟩; rotate_left; exact ⟨rfl, .inr (.inr (.inl ⟨ch, rfl, hjp⟩))⟩))
          all_goals
            have hsw : w'.heap.size = wr.heap.size + 1 := by rw [hh]; exact hz4
            obtain ⟨own', hbs, ⟨rfl, hj3⟩ | ⟨rfl, hjx⟩⟩ := hwent
            · clear q0 q1 q2 q3 q4 q5 q6 q7 hRd hy
              gi_wp2
              go_roundw
              case rel =>
                refine ⟨own', k + 1, by omega, by go_num, ?_, ?_, ?_, fun j hj => hbs.live j hj, ?_⟩
                · rw [HN.out]; exact hj3
                · intro j hjR
                  have h1 := HRB.out j hjR
                  rw [hbs.block j (by omega) (fun h => hdis.out j h hjR)]
                  exact HK4.out _ hh j hjR
                · intro j hjo hjR
                  rcases hbs.owns j hjo with h | h
                  · exact hdis.out j h hjR
                  · have := HRB.out j hjR; omega
                · have := hbs.size; omega
              case measure => simp [intOf]; omega
            · clear q0 q1 q2 q3 q4 q5 q6 q7 hRd hy
              gi_wp2
              refine bodyPost_ret (results_none rfl _ _ _) rfl ?_
              exact .inr (.inl ⟨⟨_, rfl⟩, own', _, by rw [← HN.out]; exact Hpf.out, hjx⟩)
      · have hle : ¬ (x.src.xs.length : Int) ≤ (s.xs.length : Int) := by omega
        have hle2 : decide ((x.src.xs.length : Int) ≤ (s.xs.length : Int)) = false := decide_eq_false hle
        have hle3 : decide (x.src.xs.length ≤ s.xs.length) = false := decide_eq_false hn
        have HN : Hid (startL (S.take (k + 1)) s.xs = startL (S.take k) s.xs) := by show _ = _; rw [Htk.out, startB_long (by omega)]; simp
        clear hsl hxl
        gi_wp2_with fail
        have hwf : ∀ f, Fence.wide.fn f = True := fun f => by simp [Fence.wide]
        gi_quiet_th (fail)
        gi_wp2
        go_roundw
        case rel =>
          refine ⟨own, k + 1, by omega, by go_num, ?_, ?_, hdis, ?_, ?_⟩
          · rw [HN.out]; exact HJ4.out _ rfl rfl rfl rfl
          · exact HK4.out _ rfl
          · intro j hj; have := hliv.out j hj; show j < w4.heap.size; omega
          · show B0 ≤ w4.heap.size; omega
        case measure => simp [intOf]; omega
    · gi_wp2
      go_end0
      have : k = S.length := by omega
      subst this
      rw [List.take_length] at hj
      exact .inl ⟨rfl, ⟨_, rfl⟩, own, hj⟩
end Go.Proofs.YthojaplnimoacaaGreatDoor
