/- Texts of this claim, one after the other: Hou9, HouA, Step, HouC, HouD, Aud3, Aud6. -/
import Derived.Test.YtmindojbkedmlaaM3
import Derived.Test.YtmindojbkedmlaaM1
import Derived.Test.YtmindojbkedmlaaM2
import Derived.Deep.RegionHeld3
import Derived.Deep.RegionLaw
import Derived.Deep.DrawnRows
import Derived.Deep.Upon
import Derived.Maps.AppendAt
import Derived.Deep.AppendLies
/- Package verdicts: the three rules. -/
namespace Go.Proofs.Ytmindojbkedmlaa
open Go.RowKit Go.Han
attribute [local irreducible] wpStill wpQuiet
set_option maxRecDepth 100000

/-! ### The plain side -/
theorem extS_fold_gt (p : Int) : ∀ (xs : List House), hasc p xs = true → xs.foldl (extS (-1)) (true, p) = (true, p)
  | [], _ => rfl
  | x :: t, h => by
    obtain ⟨_, hp, ht⟩ := hasc_cons.1 h
    rw [List.foldl_cons]
    have : extS (-1) (true, p) x = (true, p) := by
      unfold extS cmpI
      rw [if_neg (by simp only [Bool.not_true, Bool.false_or]; rw [if_neg (by omega), if_pos hp]; decide)]
    rw [this]
    exact extS_fold_gt p t (hasc_mono (by omega) ht)
theorem extN_first {p : Int} {xs : List House} (h : hasc p xs = true) : extN (-1) (-1) xs = firstNo xs := by
  unfold extN
  cases xs with
  | nil => rfl
  | cons x t =>
    obtain ⟨_, hp, ht⟩ := hasc_cons.1 h
    rw [List.foldl_cons, show extS (-1) (false, -1) x = (true, x.no) from rfl, extS_fold_gt x.no t ht]
    rfl
theorem extS_fold_up (p : Int) : ∀ (xs : List House), hasc p xs = true → (xs.foldl (extS 1) (true, p)).2 = xs.foldl (fun m h => max m h.no) p
  | [], _ => rfl
  | x :: t, h => by
    obtain ⟨_, hp, ht⟩ := hasc_cons.1 h
    rw [List.foldl_cons, List.foldl_cons]
    have e1 : extS 1 (true, p) x = (true, x.no) := by
      unfold extS cmpI
      rw [if_pos (by simp only [Bool.not_true, Bool.false_or]; rw [if_neg (by omega), if_pos hp]; decide)]
    have e2 : max p x.no = x.no := by omega
    rw [e1, e2]
    exact extS_fold_up x.no t ht
theorem extN_max {xs : List House} (h : hasc (-1) xs = true) : extN 1 (-1) xs = maxNo xs := by
  unfold extN maxNo
  cases xs with
  | nil => rfl
  | cons x t =>
    obtain ⟨_, hp, ht⟩ := hasc_cons.1 h
    rw [List.foldl_cons, List.foldl_cons, show extS 1 (false, -1) x = (true, x.no) from rfl, show max (-1) x.no = x.no by omega]
    exact extS_fold_up x.no t ht
theorem hasc_bound {l : List House} (h : hasc (-1) l = true) (k : Int) (a : Asked) : hasc (-1) (bound l k a) = true := hasc_filter _ h
theorem hasc_holds {l : List House} (h : hasc (-1) l = true) (k : Int) (a : Asked) : hasc (-1) (holds l k a) = true := hasc_filter _ (hasc_bound h k a)

/-- What is asked of the decisions. -/
structure HouL (w : World) (A : Option Addr) (l : List House) (a : Asked) : Prop where
  rd : Rd w A (hflat l)
  len : l.length ≤ 1024
  asc : hasc (-1) l = true
  ask : AskedOk a
theorem HouL.ext {w W : World} {A : Option Addr} {l : List House} {a : Asked} (h : HouL w A l a) (hb : Below w.heap.size w W) : HouL W A l a := ⟨h.rd.ext hb, h.len, h.asc, h.ask⟩
theorem HouL.ok {w : World} {A : Option Addr} {l : List House} {a : Asked} (h : HouL w A l a) : ∀ x ∈ l, x.Ok := fun x hx => (hasc_ok h.asc x hx).1
theorem bind_enter : ∀ args w, (callFunc 92 args).run Try.prog w = .ok (.enter 92 args) w := enters_of Try.func92 (by kernel_rfl) rfl
theorem bindR_lt {A : Option Addr} {c : Nat} {l : List House} {a : Asked} {kd : Int} {b1 b2 b3 : Nat} {w0 W : World} (hat : BindAt A c l a kd b1 b2 b3 w0) (hr : Rd w0 A (hflat l)) (hb : Below w0.heap.size w0 W) :
    ∀ k, BindR A l b1 b2 b3 k → k < W.heap.size ∧ W.heap[k]? = w0.heap[k]? := fun k hk => by
  have := bind_alive hat hr k hk
  exact ⟨by have := hb.size; omega, hb.block k this⟩
theorem binding_at (A : Option Addr) (c : Nat) (l : List House) (a : Asked) (kd : Int) (w : World) :
    Calls Try.prog 53 #[.agg (askA a), .slice A l.length c, .int .i64 kd] w fun e w' => e = .returned (.func (.func 92) #[] #[.pointer (some ⟨w.heap.size + 1, 0, none⟩), .pointer (some ⟨w.heap.size + 2, 0, none⟩), .pointer (some ⟨w.heap.size, 0, none⟩)]) ∧ BindAt A c l a kd (w.heap.size + 1) (w.heap.size + 2) w.heap.size w' ∧ Below w.heap.size w w' :=
  (binding_any A c l a kd w).mono fun e w' ⟨he, hw⟩ => by
    obtain ⟨h1, h2, _⟩ := bindW_at A c l a kd w
    subst hw
    exact ⟨he, h1, h2⟩
/-- The extreme of what binds. -/
theorem extreme_bind {w0 : World} {A : Option Addr} {c : Nat} {l : List House} {a : Asked} {kd : Int} {b1 b2 b3 : Nat} (h : HouL w0 A l a) (hat : BindAt A c l a kd b1 b2 b3 w0) (o : Int) (w : World) (hb : Below w0.heap.size w0 w) :
    Calls Try.prog 55 #[.func (.func 92) #[] #[.pointer (some ⟨b1, 0, none⟩), .pointer (some ⟨b2, 0, none⟩), .pointer (some ⟨b3, 0, none⟩)], .func (.func 56) #[] #[], .int .i64 o, .int .i64 (-1)] w fun e w' => e = .returned (.int .i64 (extN o (-1) (bound l kd a))) ∧ Below w.heap.size w w' :=
  extreme_any _ _ _ _ _ (binding1 A c l a kd b1 b2 b3 w0 hat h.rd h.len h.ok h.ask) bind_enter o (-1) w (bindR_lt hat h.rd hb)

set_option maxHeartbeats 2000000 in
theorem rule1_any (A : Option Addr) (c : Nat) (l : List House) (a : Asked) (h : House) (w : World) (hL : HouL w A l a) :
    Calls Try.prog 88 #[.agg (askA a), .slice A l.length c, .agg #[.int .i64 h.no, .int .i64 h.kind, .int .i64 h.speaker, .int .i64 h.first, .int .i64 h.last, .int .i64 h.lang, .int .i64 h.frm, .int .i64 h.until_, .int .i64 h.known, .int .i64 h.ms]] w fun e w' => e = .returned (.bool (holdB l 1 a h)) ∧ Below w.heap.size w w' := by
  obtain ⟨W, hW⟩ : ∃ W, (w.alloc (.cells (askA a) 87)).alloc (.cells #[.int .i64 h.no, .int .i64 h.kind, .int .i64 h.speaker, .int .i64 h.first, .int .i64 h.last, .int .i64 h.lang, .int .i64 h.frm, .int .i64 h.until_, .int .i64 h.known, .int .i64 h.ms] 52) = W := ⟨_, rfl⟩
  have hB : Below w.heap.size w W := by subst hW; exact ext_alloc (ext_alloc (Below.refl _ _) _) _
  have hz : W.heap.size = w.heap.size + 2 := by subst hW; simp
  have hx : W.heap[w.heap.size]? = some (.cells (askA a) 87 (0, 0)) := by subst hW; exact (Below.heap_alloc _ _ _ (by simp)).trans (galloc_at _ _ _ rfl)
  have hy : W.heap[w.heap.size + 1]? = some (.cells #[.int .i64 h.no, .int .i64 h.kind, .int .i64 h.speaker, .int .i64 h.first, .int .i64 h.last, .int .i64 h.lang, .int .i64 h.frm, .int .i64 h.until_, .int .i64 h.known, .int .i64 h.ms] 52 (0, 0)) := by subst hW; exact galloc_at _ _ _ (by simp)
  have HK : Hid (∀ w1, Below W.heap.size W w1 → Below W.heap.size W w1 ∧ w1.cell? ⟨w.heap.size, 0, none⟩ = some (.int .i64 a.speaker) ∧ w1.cell? ⟨w.heap.size, 1, none⟩ = some (.int .i64 a.begun) ∧ w1.cell? ⟨w.heap.size, 2, none⟩ = some (.int .i64 a.lang) ∧ w1.cell? ⟨w.heap.size, 3, none⟩ = some (.int .i64 a.at_) ∧ w1.cell? ⟨w.heap.size, 4, none⟩ = some (.int .i64 a.known) ∧ w1.cell? ⟨w.heap.size + 1, 0, none⟩ = some (.int .i64 h.no)) := fun w1 hb => by
    have h1 := (hb.block _ (lt_block hx)).trans hx
    have h2 := (hb.block _ (lt_block hy)).trans hy
    exact ⟨hb, gblk h1 0, gblk h1 1, gblk h1 2, gblk h1 3, gblk h1 4, gblk h2 0⟩
  have HL := Lib.hid (hL.ext hB)
  have HM : Hid (holdB l 1 a h = decide (extN 1 (-1) (bound l 5 a) < h.no)) := by
    show _ = _
    rw [extN_max (hasc_bound hL.asc 5 a)]; rfl
  rw [HM.out]
  have HW := Lib.hid hW
  have c0 := (HK.out W (Below.refl _ _))
  have cB := Lib.hid (fun w => binding_at A c l a 5 w)
  unfold askA at cB
  clear hx hy hL HM hz hW
  unfold askA at HW ⊢
  go_enter Try.func88, Try.ntmps88
  go_wp2_with fail
  rw [HW.out]
  clear HW c0
  go_region_held3 (fun w' => Below W.heap.size W w' ∧ w'.cell? ⟨w.heap.size, 0, none⟩ = some (.int .i64 a.speaker) ∧ w'.cell? ⟨w.heap.size, 1, none⟩ = some (.int .i64 a.begun) ∧ w'.cell? ⟨w.heap.size, 2, none⟩ = some (.int .i64 a.lang) ∧ w'.cell? ⟨w.heap.size, 3, none⟩ = some (.int .i64 a.at_) ∧ w'.cell? ⟨w.heap.size, 4, none⟩ = some (.int .i64 a.known) ∧ w'.cell? ⟨w.heap.size + 1, 0, none⟩ = some (.int .i64 h.no))
    ((exact HK.out _ (by first | assumption | exact Below.refl _ _ | exact ext_drew (Below.refl _ _) | exact ext_trans (by assumption) (by assumption) | exact ext_trans (ext_drew (Below.refl _ _)) (by assumption))))
    (first | (go_at_call 53; refine (cB.out _).mono ?_; rintro e wb ⟨rfl, hat, hbb⟩; have hB1 : Below W.heap.size W wb := (by first | exact ext_trans (ext_drew (Below.refl _ _)) hbb | exact ext_trans (by assumption) hbb)) | (go_at_call 55; refine (extreme_bind (HL.out.ext (by assumption)) (by assumption) 1 _ (Below.refl _ _)).mono ?_; rintro e we ⟨rfl, hbe⟩; have hB2 : Below W.heap.size W we := ext_trans (by assumption) hbe))
  go_wp2
  go_ret
  exact ⟨rfl, ext_trans hB (by assumption)⟩

set_option maxHeartbeats 2000000 in
theorem rule2_any (A : Option Addr) (c : Nat) (l : List House) (a : Asked) (h : House) (w : World) (hL : HouL w A l a) :
    Calls Try.prog 89 #[.agg (askA a), .slice A l.length c, .agg #[.int .i64 h.no, .int .i64 h.kind, .int .i64 h.speaker, .int .i64 h.first, .int .i64 h.last, .int .i64 h.lang, .int .i64 h.frm, .int .i64 h.until_, .int .i64 h.known, .int .i64 h.ms]] w fun e w' => e = .returned (.bool (holdB l 2 a h)) ∧ Below w.heap.size w w' := by
  obtain ⟨W, hW⟩ : ∃ W, (w.alloc (.cells (askA a) 87)).alloc (.cells #[.int .i64 h.no, .int .i64 h.kind, .int .i64 h.speaker, .int .i64 h.first, .int .i64 h.last, .int .i64 h.lang, .int .i64 h.frm, .int .i64 h.until_, .int .i64 h.known, .int .i64 h.ms] 52) = W := ⟨_, rfl⟩
  have hB : Below w.heap.size w W := by subst hW; exact ext_alloc (ext_alloc (Below.refl _ _) _) _
  have hx : W.heap[w.heap.size]? = some (.cells (askA a) 87 (0, 0)) := by subst hW; exact (Below.heap_alloc _ _ _ (by simp)).trans (galloc_at _ _ _ rfl)
  have c0 : W.cell? ⟨w.heap.size, 0, none⟩ = some (.int .i64 a.speaker) := gblk hx 0
  have c1 : W.cell? ⟨w.heap.size, 1, none⟩ = some (.int .i64 a.begun) := gblk hx 1
  have c2 : W.cell? ⟨w.heap.size, 2, none⟩ = some (.int .i64 a.lang) := gblk hx 2
  have c3 : W.cell? ⟨w.heap.size, 3, none⟩ = some (.int .i64 a.at_) := gblk hx 3
  have c4 : W.cell? ⟨w.heap.size, 4, none⟩ = some (.int .i64 a.known) := gblk hx 4
  have HL := Lib.hid (hL.ext hB)
  have HM : Hid (holdB l 2 a h = decide (extN 1 (-1) (bound l 4 a) < 0)) := by
    show _ = _
    rw [extN_max (hasc_bound hL.asc 4 a)]; rfl
  rw [HM.out]
  have HW := Lib.hid hW
  have cB := Lib.hid (fun w => binding_at A c l a 4 w)
  unfold askA at cB
  clear hx hL HM hW
  unfold askA at HW ⊢
  go_enter Try.func89, Try.ntmps89
  go_wp2_with fail
  rw [HW.out]
  clear HW
  go_wp2_with fail
  refine (cB.out _).mono ?_
  rintro e wb ⟨rfl, hat, hbb⟩
  clear c0 c1 c2 c3 c4
  go_wp2_with fail
  refine (extreme_bind (HL.out.ext hbb) hat 1 _ (Below.refl _ _)).mono ?_
  rintro e we ⟨rfl, hbe⟩
  go_wp2
  go_ret
  exact ⟨rfl, ext_trans hB (ext_trans hbb hbe)⟩
set_option maxHeartbeats 2000000 in
theorem rule3_any (A : Option Addr) (c : Nat) (l : List House) (a : Asked) (h : House) (w : World) (ha : AskedOk a) (hh : h.Ok) :
    Calls Try.prog 90 #[.agg (askA a), .slice A l.length c, .agg #[.int .i64 h.no, .int .i64 h.kind, .int .i64 h.speaker, .int .i64 h.first, .int .i64 h.last, .int .i64 h.lang, .int .i64 h.frm, .int .i64 h.until_, .int .i64 h.known, .int .i64 h.ms]] w fun e w' => e = .returned (.bool (holdB l 3 a h)) ∧ Below w.heap.size w w' := by
  obtain ⟨W, hW⟩ : ∃ W, (w.alloc (.cells (askA a) 87)).alloc (.cells #[.int .i64 h.no, .int .i64 h.kind, .int .i64 h.speaker, .int .i64 h.first, .int .i64 h.last, .int .i64 h.lang, .int .i64 h.frm, .int .i64 h.until_, .int .i64 h.known, .int .i64 h.ms] 52) = W := ⟨_, rfl⟩
  have hB : Below w.heap.size w W := by subst hW; exact ext_alloc (ext_alloc (Below.refl _ _) _) _
  have hx : W.heap[w.heap.size]? = some (.cells (askA a) 87 (0, 0)) := by subst hW; exact (Below.heap_alloc _ _ _ (by simp)).trans (galloc_at _ _ _ rfl)
  have hy : W.heap[w.heap.size + 1]? = some (.cells #[.int .i64 h.no, .int .i64 h.kind, .int .i64 h.speaker, .int .i64 h.first, .int .i64 h.last, .int .i64 h.lang, .int .i64 h.frm, .int .i64 h.until_, .int .i64 h.known, .int .i64 h.ms] 52 (0, 0)) := by subst hW; exact galloc_at _ _ _ (by simp)
  have c1 : W.cell? ⟨w.heap.size, 1, none⟩ = some (.int .i64 a.begun) := gblk hx 1
  have c3 : W.cell? ⟨w.heap.size, 3, none⟩ = some (.int .i64 a.at_) := gblk hx 3
  have d9 : W.cell? ⟨w.heap.size + 1, 9, none⟩ = some (.int .i64 h.ms) := gblk hy 9
  have HM : Hid (holdB l 3 a h = decide (a.at_ < a.begun + h.ms)) := rfl
  rw [HM.out]
  have hw : IntKind.i64.wrap (a.begun + h.ms) = a.begun + h.ms := by
    obtain ⟨_, _, _, _, _, _, _, _, _, _, _, _, _, _, _, _, hm⟩ := hh
    obtain ⟨_, _, _, _, _, _, _, _, _, _⟩ := ha
    exact IntWalk.i64_in _ (by omega)
  have HW := Lib.hid hW
  clear hx hy HM hW
  unfold askA at HW ⊢
  go_enter Try.func90, Try.ntmps90
  go_wp2_with fail
  rw [HW.out]
  clear HW
  go_wp2
  go_ret
  exact ⟨rfl, hB⟩
def ruleF (n : Nat) : Nat := if n = 0 then 88 else if n = 1 then 89 else 90
def ruleV (n : Nat) : Int := if n = 2 then 1 else 2
theorem rule_any (n : Nat) (hn : n < 3) (A : Option Addr) (c : Nat) (l : List House) (a : Asked) (h : House) (w : World) (hL : HouL w A l a) (hh : h.Ok) :
    Calls Try.prog (ruleF n) #[.agg (askA a), .slice A l.length c, .agg #[.int .i64 h.no, .int .i64 h.kind, .int .i64 h.speaker, .int .i64 h.first, .int .i64 h.last, .int .i64 h.lang, .int .i64 h.frm, .int .i64 h.until_, .int .i64 h.known, .int .i64 h.ms]] w fun e w' => e = .returned (.bool (holdB l ((n : Int) + 1) a h)) ∧ Below w.heap.size w w' := by
  rcases (show n = 0 ∨ n = 1 ∨ n = 2 by omega) with rfl | rfl | rfl
  · exact rule1_any A c l a h w hL
  · exact rule2_any A c l a h w hL
  · exact rule3_any A c l a h w hL.ask hh
theorem ruleF_enter {n : Nat} (hn : n < 3) : ∀ args w, (callFunc (ruleF n) args).run Try.prog w = .ok (.enter (ruleF n) args) w := by
  rcases (show n = 0 ∨ n = 1 ∨ n = 2 by omega) with rfl | rfl | rfl
  · exact enters_of Try.func88 (by kernel_rfl) rfl
  · exact enters_of Try.func89 (by kernel_rfl) rfl
  · exact enters_of Try.func90 (by kernel_rfl) rfl
def rulesC : Array Value := #[.int .i64 2, .int .i64 1, .func (.func 88) #[] #[], .int .i64 2, .int .i64 2, .func (.func 89) #[] #[], .int .i64 1, .int .i64 3, .func (.func 90) #[] #[]]
theorem rules_any (w : World) : Calls Try.prog 51 #[] w fun e w' => e = .returned (.slice (some ⟨w.heap.size, 0, none⟩) 3 3) ∧ w.alloc (.cells rulesC 92) = w' := by
  go_enter Try.func51, Try.ntmps51
  go_wp2_with fail
  go_ret
  exact ⟨rfl, rfl⟩
theorem rulesC_at {w : World} {b : Nat} (h : w.heap[b]? = some (.cells rulesC 92 (0, 0))) {n : Nat} (hn : n < 3) :
    w.cell? ⟨b, n * 3, none⟩ = some (.int .i64 (ruleV n)) ∧ w.cell? ⟨b, n * 3 + 1, none⟩ = some (.int .i64 ((n : Int) + 1)) ∧ w.cell? ⟨b, n * 3 + 2, none⟩ = some (.func (.func (ruleF n)) #[] #[]) := by
  rcases (show n = 0 ∨ n = 1 ∨ n = 2 by omega) with rfl | rfl | rfl
  · exact ⟨gblk h 0, gblk h 1, gblk h 2⟩
  · exact ⟨gblk h 3, gblk h 4, gblk h 5⟩
  · exact ⟨gblk h 6, gblk h 7, gblk h 8⟩
/-- The closure that asks a rule. -/
theorem asks_any (n : Nat) (hn : n < 3) (A : Option Addr) (c : Nat) (l : List House) (a : Asked) (h : House) (br bw bl : Nat) (w : World) (hL : HouL w A l a) (hh : h.Ok)
    (h1 : w.heap[br]? = some (.cells #[.int .i64 (ruleV n), .int .i64 ((n : Int) + 1), .func (.func (ruleF n)) #[] #[]] 92 (0, 0))) (h2 : w.heap[bw]? = some (.cells (askA a) 87 (0, 0))) (h3 : w.heap[bl]? = some (.cells #[.slice A l.length c] 22 (0, 0))) :
    Calls Try.prog 54 (#[.agg #[.int .i64 h.no, .int .i64 h.kind, .int .i64 h.speaker, .int .i64 h.first, .int .i64 h.last, .int .i64 h.lang, .int .i64 h.frm, .int .i64 h.until_, .int .i64 h.known, .int .i64 h.ms]] ++ #[.pointer (some ⟨br, 0, none⟩), .pointer (some ⟨bw, 0, none⟩), .pointer (some ⟨bl, 0, none⟩)]) w fun e w' => e = .returned (.bool (holdB l ((n : Int) + 1) a h)) ∧ Below w.heap.size w w' := by
  obtain ⟨W, hW, hB, hb, _⟩ := hou_new h w
  obtain ⟨p0, p1, p2, p3, p4, p5, p6, p7, p8, p9⟩ := hou_at hb
  have h1' := (hB.block _ (lt_block h1)).trans h1
  have h2' := (hB.block _ (lt_block h2)).trans h2
  have h3' := (hB.block _ (lt_block h3)).trans h3
  have c1 : W.cell? ⟨br, 2, none⟩ = some (.func (.func (ruleF n)) #[] #[]) := gblk h1' 2
  have c20 : W.cell? ⟨bw, 0, none⟩ = some (.int .i64 a.speaker) := gblk h2' 0
  have c21 : W.cell? ⟨bw, 1, none⟩ = some (.int .i64 a.begun) := gblk h2' 1
  have c22 : W.cell? ⟨bw, 2, none⟩ = some (.int .i64 a.lang) := gblk h2' 2
  have c23 : W.cell? ⟨bw, 3, none⟩ = some (.int .i64 a.at_) := gblk h2' 3
  have c24 : W.cell? ⟨bw, 4, none⟩ = some (.int .i64 a.known) := gblk h2' 4
  have c3 := cell_one h3'
  have eR := ruleF_enter hn
  have cR := Lib.hid (rule_any n hn A c l a h W (hL.ext hB) hh)
  unfold askA at cR
  clear h1 h2 h3 h1' h2' h3' hb hL
  rw [show (#[.agg #[.int .i64 h.no, .int .i64 h.kind, .int .i64 h.speaker, .int .i64 h.first, .int .i64 h.last, .int .i64 h.lang, .int .i64 h.frm, .int .i64 h.until_, .int .i64 h.known, .int .i64 h.ms]] ++ #[.pointer (some ⟨br, 0, none⟩), .pointer (some ⟨bw, 0, none⟩), .pointer (some ⟨bl, 0, none⟩)] : Array Value) = #[.agg #[.int .i64 h.no, .int .i64 h.kind, .int .i64 h.speaker, .int .i64 h.first, .int .i64 h.last, .int .i64 h.lang, .int .i64 h.frm, .int .i64 h.until_, .int .i64 h.known, .int .i64 h.ms], .pointer (some ⟨br, 0, none⟩), .pointer (some ⟨bw, 0, none⟩), .pointer (some ⟨bl, 0, none⟩)] from rfl]
  go_enter Try.func54, Try.ntmps54
  go_wp2_with fail
  refine cR.out.mono ?_
  rintro e w2 ⟨rfl, hb2⟩
  go_wp2
  go_ret
  exact ⟨rfl, ext_trans hB hb2⟩
end Go.Proofs.Ytmindojbkedmlaa

/- Package verdicts: Verdict. -/
namespace Go.Proofs.Ytmindojbkedmlaa
open Go.RowKit Go.Han
attribute [local irreducible] wpStill wpQuiet
set_option maxRecDepth 100000

theorem rd_same {w0 W : World} {A : Option Addr} {xs : List Value} (h : Rd w0 A xs) (hb : xs ≠ [] → ∀ a, A = some a → W.heap[a.block]? = w0.heap[a.block]?) : Rd W A xs := by
  rcases h with h | ⟨b, off, he, hlt, hc⟩
  · exact .inl h
  · by_cases hx : xs = []
    · exact .inl hx
    · have hbl := hb hx _ he
      refine .inr ⟨b, off, he, ?_, fun j u hu => (World.cell?_of_block (w := w0) (a := ⟨b, off + j, none⟩) hbl).trans (hc j u hu)⟩
      rcases Nat.lt_or_ge b W.heap.size with h | h
      · exact h
      · rw [Array.getElem?_eq_none h] at hbl
        have : w0.heap.size ≤ b := Array.getElem?_eq_none_iff.1 hbl.symm
        omega
theorem hflat_nil {l : List House} (h : hflat l ≠ []) : l ≠ [] := by rintro rfl; exact h rfl
/-- What the closure that asks a rule leans on. -/
def AsksR (A : Option Addr) (l : List House) (br bw bl : Nat) (k : Nat) : Prop := k = br ∨ k = bw ∨ k = bl ∨ (l ≠ [] ∧ ∃ a, A = some a ∧ k = a.block)
theorem kept_enter : ∀ args w, (callFunc 91 args).run Try.prog w = .ok (.enter 91 args) w := enters_of Try.func91 (by kernel_rfl) rfl
/-- The extreme of what binds and holds. -/
theorem extreme_kept (n : Nat) (hn : n < 3) {w0 : World} {A : Option Addr} {c : Nat} {l : List House} {a : Asked} {b1 b2 b3 br bw bl bi bo : Nat} (h : HouL w0 A l a) (hat : BindAt A c l a ((n : Int) + 1) b1 b2 b3 w0)
    (h1 : w0.heap[br]? = some (.cells #[.int .i64 (ruleV n), .int .i64 ((n : Int) + 1), .func (.func (ruleF n)) #[] #[]] 92 (0, 0))) (h2 : w0.heap[bw]? = some (.cells (askA a) 87 (0, 0))) (h3 : w0.heap[bl]? = some (.cells #[.slice A l.length c] 22 (0, 0)))
    (h4 : w0.heap[bi]? = some (.cells #[.func (.func 92) #[] #[.pointer (some ⟨b1, 0, none⟩), .pointer (some ⟨b2, 0, none⟩), .pointer (some ⟨b3, 0, none⟩)]] 94 (0, 0)))
    (h5 : w0.heap[bo]? = some (.cells #[.func (.func 54) #[] #[.pointer (some ⟨br, 0, none⟩), .pointer (some ⟨bw, 0, none⟩), .pointer (some ⟨bl, 0, none⟩)]] 53 (0, 0))) :
    Calls Try.prog 55 #[.func (.func 91) #[] #[.pointer (some ⟨bi, 0, none⟩), .pointer (some ⟨bo, 0, none⟩)], .func (.func 56) #[] #[], .int .i64 (-1), .int .i64 (-1)] w0 fun e w' => e = .returned (.int .i64 (firstNo (holds l ((n : Int) + 1) a))) ∧ Below w0.heap.size w0 w' := by
  rw [← extN_first (hasc_holds h.asc ((n : Int) + 1) a)]
  have hal : Alive w0 (AsksR A l br bw bl) := by
    rintro j (rfl | rfl | rfl | ⟨hl, a', rfl, rfl⟩)
    · exact lt_block h1
    · exact lt_block h2
    · exact lt_block h3
    · obtain ⟨b, off, he, hb, _⟩ := hou_elem h.rd (k := 0) (List.length_pos_iff.2 hl)
      cases he; exact hb
  have hk := kept1 bi bo _ _ _ _ (holdB l ((n : Int) + 1) a) _ (AsksR A l br bw bl) _ w0 h4 h5 bind_enter (enters_of Try.func54 (by kernel_rfl) rfl) (binding1 A c l a ((n : Int) + 1) b1 b2 b3 w0 hat h.rd h.len h.ok h.ask) (bind_alive hat h.rd) hal
    (fun x hx W hW => asks_any n hn A c l a x br bw bl W ⟨rd_same h.rd (fun hx a' ha => hW _ (.inr (.inr (.inr ⟨hflat_nil hx, a', ha, rfl⟩)))), h.len, h.asc, h.ask⟩ (h.ok _ (List.mem_filter.1 hx).1) ((hW _ (.inl rfl)).trans h1) ((hW _ (.inr (.inl rfl))).trans h2) ((hW _ (.inr (.inr (.inl rfl)))).trans h3))
  refine extreme_any _ _ _ _ _ hk kept_enter (-1) (-1) w0 ?_
  rintro k (rfl | rfl | hh | hh)
  · exact ⟨lt_block h4, rfl⟩
  · exact ⟨lt_block h5, rfl⟩
  · exact ⟨bind_alive hat h.rd k hh, rfl⟩
  · exact ⟨hal k hh, rfl⟩

def withinB (n k : Int) : Bool := decide (0 ≤ n) && decide (n < k)
theorem withinV_any (n k : Int) (w : World) : Calls Try.prog 50 #[.int .i64 n, .int .i64 k] w fun e w' => e = .returned (.bool (withinB n k)) ∧ w = w' := within_any n k w
def VerdPost (l : List House) (a : Asked) (w : World) (e : Ending) (w' : World) : Prop := e = .returned (.tuple #[.int .i64 (verdR l a).1, .int .i64 (verdR l a).2, .int .i64 (verdE l a)]) ∧ Below w.heap.size w w'
theorem asked_fail {a : Asked} (h : a.ok = false) : withinB a.speaker 64 = false ∨ (withinB a.speaker 64 = true ∧ withinB a.begun 1099511627776 = false) ∨ (withinB a.speaker 64 = true ∧ withinB a.begun 1099511627776 = true ∧ withinB a.lang 32 = false) ∨
    (withinB a.speaker 64 = true ∧ withinB a.begun 1099511627776 = true ∧ withinB a.lang 32 = true ∧ withinB a.at_ 1099511627776 = false) ∨ (withinB a.speaker 64 = true ∧ withinB a.begun 1099511627776 = true ∧ withinB a.lang 32 = true ∧ withinB a.at_ 1099511627776 = true ∧ withinB a.known 1099511627776 = false) := by
  have h' : (withinB a.speaker 64 && withinB a.begun 1099511627776 && withinB a.lang 32 && withinB a.at_ 1099511627776 && withinB a.known 1099511627776) = false := h
  cases h1 : withinB a.speaker 64
  · exact .inl rfl
  · cases h2 : withinB a.begun 1099511627776
    · exact .inr (.inl ⟨rfl, rfl⟩)
    · cases h3 : withinB a.lang 32
      · exact .inr (.inr (.inl ⟨rfl, rfl, rfl⟩))
      · cases h4 : withinB a.at_ 1099511627776
        · exact .inr (.inr (.inr (.inl ⟨rfl, rfl, rfl, rfl⟩)))
        · cases h5 : withinB a.known 1099511627776
          · exact .inr (.inr (.inr (.inr ⟨rfl, rfl, rfl, rfl, rfl⟩)))
          · rw [h1, h2, h3, h4, h5] at h'; cases h'
theorem asked_all {a : Asked} (h : a.ok = true) : withinB a.speaker 64 = true ∧ withinB a.begun 1099511627776 = true ∧ withinB a.lang 32 = true ∧ withinB a.at_ 1099511627776 = true ∧ withinB a.known 1099511627776 = true := by
  have h' : (withinB a.speaker 64 && withinB a.begun 1099511627776 && withinB a.lang 32 && withinB a.at_ 1099511627776 && withinB a.known 1099511627776) = true := h
  simpa [Bool.and_eq_true, and_assoc] using h'
set_option maxHeartbeats 4000000 in
theorem Verdict_any (A : Option Addr) (c : Nat) (l : List House) (a : Asked) (w : World) (hr : Rd w A (hflat l)) (hm : l.length ≤ 9223372036854775807) :
    Calls Try.prog 24 #[.slice A l.length c, .int .i64 a.speaker, .int .i64 a.begun, .int .i64 a.lang, .int .i64 a.at_, .int .i64 a.known] w (VerdPost l a w) := by
  obtain ⟨W, hW⟩ : ∃ W, w.alloc (.cells #[.slice A l.length c] 22) = W := ⟨_, rfl⟩
  have hB : Below w.heap.size w W := by subst hW; exact ext_alloc (Below.refl _ _) _
  have hx : W.heap[w.heap.size]? = some (.cells #[.slice A l.length c] 22 (0, 0)) := by subst hW; exact World.alloc_heap_new _ _
  have c0 := cell_one hx
  have Hx := Lib.hid hx
  have cC := Lib.hid (CheckH_any A c l W (hr.ext hB) hm)
  have HW := Lib.hid hW
  clear hx hW
  unfold VerdPost
  by_cases hc : hchk l = 0
  · have HE : Hid (verdE l a = if a.ok then 0 else 1) := by show _ = _; unfold verdE; rw [if_pos hc]
    rw [hc] at cC
    cases hao : a.ok
    · have HF : Hid (verdE l a = 1) := by show _ = _; rw [HE.out, hao]; rfl
      have HR : Hid (verdR l a = (0, 0)) := by show _ = _; unfold verdR; rw [if_neg (by rw [HF.out]; decide)]
      rw [HF.out, HR.out]
      have hca := asked_fail hao
      clear hao hc HE HR HF
      rcases hca with h1 | ⟨h1, h2⟩ | ⟨h1, h2, h3⟩ | ⟨h1, h2, h3, h4⟩ | ⟨h1, h2, h3, h4, h5⟩
      all_goals
        go_enter Try.func24, Try.ntmps24
        go_wp2_with fail
        rw [HW.out]
        refine cC.out.mono ?_
        rintro e w1 ⟨rfl, hb1⟩
        go_wp2_with (go_at_call 50; refine (withinV_any _ _ _).mono ?_; rintro e w' ⟨rfl, rfl⟩)
        go_ret3
        exact ⟨rfl, ext_trans hB hb1⟩
    · have HF : Hid (verdE l a = 0) := by show _ = _; rw [HE.out, hao]; rfl
      have HR : Hid (verdR l a = verd l a) := by show _ = _; unfold verdR; rw [if_pos HF.out]
      rw [HF.out, HR.out]
      obtain ⟨h1, h2, h3, h4, h5⟩ := asked_all hao
      obtain ⟨hlen, hasc'⟩ := hchk_ok hc
      have HL : Hid (HouL W A l a) := ⟨hr.ext hB, hlen, hasc', asked_iff.1 hao⟩
      clear hao hc HE HR HF hlen hasc' hr hm
      go_enter Try.func24, Try.ntmps24
      go_wp2_with fail
      rw [HW.out]
      refine cC.out.mono ?_
      rintro e w1 ⟨rfl, hb1⟩
      have HL1 := Lib.hid (HL.out.ext hb1)
      have hB1 := ext_trans hB hb1
      have hx1 := (hb1.block _ (lt_block Hx.out)).trans Hx.out
      clear HW cC Hx HL hB hb1 c0
      go_wp2_with (go_at_call 50; refine (withinV_any _ _ _).mono ?_; rintro e w' ⟨rfl, rfl⟩)
      clear h1 h2 h3 h4 h5
      obtain ⟨w2, hw2⟩ : ∃ w2, w1.alloc (.cells (askA a) 87) = w2 := ⟨_, rfl⟩
      have hb2 : Below w1.heap.size w1 w2 := by subst hw2; exact ext_alloc (Below.refl _ _) _
      have hy2 : w2.heap[w1.heap.size]? = some (.cells (askA a) 87 (0, 0)) := by subst hw2; exact World.alloc_heap_new _ _
      unfold askA at hw2
      rw [hw2]
      refine (rules_any w2).mono ?_
      rintro e w3 ⟨rfl, hw3⟩
      have hb3 : Below w2.heap.size w2 w3 := by subst hw3; exact ext_alloc (Below.refl _ _) _
      have hr3 : w3.heap[w2.heap.size]? = some (.cells rulesC 92 (0, 0)) := by subst hw3; exact World.alloc_heap_new _ _
      have hy3 := (hb3.block _ (lt_block hy2)).trans hy2
      have hx3 := ((ext_trans hb2 hb3).block _ (lt_block hx1)).trans hx1
      have HL3 := Lib.hid (HL1.out.ext (ext_trans hb2 hb3))
      have hB3 := ext_trans hB1 (ext_trans hb2 hb3)
      have Hr3 := Lib.hid hr3
      have Hy3 := Lib.hid hy3
      have Hx3 := Lib.hid hx3
      clear hw2 hw3 hb2 hb3 hy2 hx1 HL1 hB1 hr3 hy3 hx3
      go_wp2_with fail
      go_loopw [55] (fun i wr => ∃ n : Nat, n ≤ 3 ∧ i = .int .i64 n ∧ Below w3.heap.size w3 wr ∧ Hid (∀ m : Nat, m < n → firstNo (holds l ((m : Int) + 1) a) < 0)) (fun i _ => 3 - (intOf i).toNat)
      case atStart => exact ⟨0, by omega, rfl, Below.refl _ _, fun m hm => absurd hm (by omega)⟩
      case round =>
        obtain ⟨n, hn, rfl, hBr, HP⟩ := hrel
        by_cases hlt : n < 3
        · have hlt2 : (n : Int) < 3 := by omega
          have n0 : (0 : Int) ≤ (n : Int) := by omega
          obtain ⟨q0, q1, q2⟩ := rulesC_at ((hBr.block _ (lt_block Hr3.out)).trans Hr3.out) hlt
          have hyr := (hBr.block _ (lt_block Hy3.out)).trans Hy3.out
          have hxr := (hBr.block _ (lt_block Hx3.out)).trans Hx3.out
          obtain ⟨v1, hv1⟩ : ∃ v1, wr.alloc (.cells #[.int .i64 (ruleV n), .int .i64 ((n : Int) + 1), .func (.func (ruleF n)) #[] #[]] 92) = v1 := ⟨_, rfl⟩
          have hb1 : Below wr.heap.size wr v1 := by subst hv1; exact ext_alloc (Below.refl _ _) _
          have hrl : v1.heap[wr.heap.size]? = some (.cells #[.int .i64 (ruleV n), .int .i64 ((n : Int) + 1), .func (.func (ruleF n)) #[] #[]] 92 (0, 0)) := by subst hv1; exact World.alloc_heap_new _ _
          have hyv := (hb1.block _ (lt_block hyr)).trans hyr
          have hxv := (hb1.block _ (lt_block hxr)).trans hxr
          have r0 : v1.cell? ⟨wr.heap.size, 0, none⟩ = some (.int .i64 (ruleV n)) := gblk hrl 0
          have r1 : v1.cell? ⟨wr.heap.size, 1, none⟩ = some (.int .i64 ((n : Int) + 1)) := gblk hrl 1
          have y0 : v1.cell? ⟨w1.heap.size, 0, none⟩ = some (.int .i64 a.speaker) := gblk hyv 0
          have y1 : v1.cell? ⟨w1.heap.size, 1, none⟩ = some (.int .i64 a.begun) := gblk hyv 1
          have y2 : v1.cell? ⟨w1.heap.size, 2, none⟩ = some (.int .i64 a.lang) := gblk hyv 2
          have y3 : v1.cell? ⟨w1.heap.size, 3, none⟩ = some (.int .i64 a.at_) := gblk hyv 3
          have y4 : v1.cell? ⟨w1.heap.size, 4, none⟩ = some (.int .i64 a.known) := gblk hyv 4
          have x0 := cell_one hxv
          have HLv := Lib.hid (HL3.out.ext (ext_trans hBr hb1))
          have cB := Lib.hid (fun w => binding_at A c l a ((n : Int) + 1) w)
          unfold askA at cB
          have Hyv := Lib.hid hyv
          have Hxv := Lib.hid hxv
          have Hrl := Lib.hid hrl
          have Hb1 := Lib.hid hb1
          have hmf : ∀ (fn : Fn) (first cap : Array Value) (w : World), (Instr.makeFunc fn first cap).run Try.prog w = .ok (.func fn first cap) w := fun _ _ _ _ => rfl
          clear hyv hxv hrl hyr hxr hb1
          go_wp2_with fail
          refine (cB.out v1).mono ?_
          rintro e v2 ⟨rfl, hat, hb2⟩
          clear hv1 r0 r1 y0 y1 y2 y3 y4 x0 cB q0 q1 q2
          go_wp2_with fail
          refine (kept_any _ _ _ _ v2).mono ?_
          rintro e v3 ⟨rfl, hv3⟩
          have hb3 : Below v2.heap.size v2 v3 := by subst hv3; exact ext_alloc (ext_alloc (Below.refl _ _) _) _
          have hi3 : v3.heap[v2.heap.size]? = some (.cells #[.func (.func 92) #[] #[.pointer (some ⟨v1.heap.size + 1, 0, none⟩), .pointer (some ⟨v1.heap.size + 2, 0, none⟩), .pointer (some ⟨v1.heap.size, 0, none⟩)]] 94 (0, 0)) := by subst hv3; exact (Below.heap_alloc _ _ _ (by simp)).trans (galloc_at _ _ _ rfl)
          have ho3 : v3.heap[v2.heap.size + 1]? = some (.cells #[.func (.func 54) #[] #[.pointer (some ⟨wr.heap.size, 0, none⟩), .pointer (some ⟨w1.heap.size, 0, none⟩), .pointer (some ⟨w.heap.size, 0, none⟩)]] 53 (0, 0)) := by subst hv3; exact galloc_at _ _ _ (by simp)
          have hb13 := ext_trans hb2 hb3
          have hrl3 := (hb13.block _ (lt_block Hrl.out)).trans Hrl.out
          have hyv3 := (hb13.block _ (lt_block Hyv.out)).trans Hyv.out
          have hxv3 := (hb13.block _ (lt_block Hxv.out)).trans Hxv.out
          have hat3 : BindAt A c l a ((n : Int) + 1) (v1.heap.size + 1) (v1.heap.size + 2) v1.heap.size v3 := ⟨(hb3.block _ (lt_block hat.l1)).trans hat.l1, (hb3.block _ (lt_block hat.l2)).trans hat.l2, (hb3.block _ (lt_block hat.l3)).trans hat.l3⟩
          have cX := Lib.hid (extreme_kept n hlt (HLv.out.ext hb13) hat3 hrl3 hyv3 hxv3 hi3 ho3)
          have hBr3 := ext_trans hBr (ext_trans Hb1.out hb13)
          have Hrl3 := Lib.hid hrl3
          clear hv3 hat hb2 hb3 hi3 ho3 hrl3 hyv3 hxv3 hat3 Hrl Hyv Hxv hb13 Hb1
          go_wp2_with fail
          refine cX.out.mono ?_
          rintro e v4 ⟨rfl, hb4⟩
          have hr4 := (hb4.block _ (lt_block Hrl3.out)).trans Hrl3.out
          have r0 : v4.cell? ⟨wr.heap.size, 0, none⟩ = some (.int .i64 (ruleV n)) := gblk hr4 0
          have hBr4 := ext_trans hBr3 hb4
          clear cX Hrl3 hr4 hBr3 hb4
          by_cases hf : 0 ≤ firstNo (holds l ((n : Int) + 1) a)
          · have HF : Hid (verd l a = (ruleV n, firstNo (holds l ((n : Int) + 1) a))) := by
              show _ = _
              unfold verd ruleV
              rcases (show n = 0 ∨ n = 1 ∨ n = 2 by omega) with rfl | rfl | rfl
              · rw [if_pos (by simpa using hf)]; simp
              · have e0 := HP.out 0 (by omega)
                rw [if_neg (by simp at e0; omega), if_pos (by simpa using hf)]; simp
              · have e0 := HP.out 0 (by omega)
                have e1 := HP.out 1 (by omega)
                rw [if_neg (by simp at e0; omega), if_neg (by simp at e1; omega), if_pos (by simpa using hf)]; simp
            generalize firstNo (holds l ((n : Int) + 1) a) = no at *
            go_wp2_with fail
            go_ret3
            exact ⟨by rw [HF.out]; rfl, ext_trans hB3 hBr4⟩
          · have HP2 : Hid (∀ m : Nat, m < n + 1 → firstNo (holds l ((m : Int) + 1) a) < 0) := fun m hm => by
              rcases Nat.lt_or_ge m n with h1 | h1
              · exact HP.out m h1
              · obtain rfl : m = n := by omega
                omega
            generalize firstNo (holds l ((n : Int) + 1) a) = no at *
            go_wp2_with fail
            go_roundw
            case rel => exact ⟨n + 1, by omega, by go_num, hBr4, HP2⟩
            case measure => simp [intOf]; omega
        · obtain rfl : n = 3 := by omega
          have HF : Hid (verd l a = (0, -1)) := by
            have e1 := HP.out 0 (by omega)
            have e2 := HP.out 1 (by omega)
            have e3 := HP.out 2 (by omega)
            show _ = _
            unfold verd
            rw [if_neg (by simp at e1; omega), if_neg (by simp at e2; omega), if_neg (by simp at e3; omega)]
          go_wp2_with fail
          go_ret3
          exact ⟨by rw [HF.out]; rfl, ext_trans hB3 hBr⟩
  · have HE : Hid (verdE l a = hchk l) := by show _ = _; unfold verdE; rw [if_neg hc]
    have HR : Hid (verdR l a = (0, 0)) := by show _ = _; unfold verdR; rw [if_neg (by rw [HE.out]; exact hc)]
    rw [HE.out, HR.out]
    have hc1 : (hchk l != 0) = true := by simpa using hc
    generalize hchk l = k at *
    clear hc HE HR
    go_enter Try.func24, Try.ntmps24
    go_wp2_with fail
    rw [HW.out]
    refine cC.out.mono ?_
    rintro e w1 ⟨rfl, hb1⟩
    go_wp2_with fail
    go_ret3
    exact ⟨rfl, ext_trans hB hb1⟩
end Go.Proofs.Ytmindojbkedmlaa

/- Appends of perhaps nothing, as a step of a region that draws its order; pieces of a slice. -/
namespace Go.Han
open Go.RowKit
section
variable {P : Program} {w : World}
theorem src_nil (size c : Nat) (tx : TypeId) {e : TypeId} (ht : P.underlying tx = some (.slice e)) : Src P size tx (.slice none 0 c) 0 [] w := by
  refine ⟨.inl ⟨e, ht⟩, fun w' => ?_, ?_, ?_, by simp, fun u hu => by cases hu⟩
  · rfl
  · rfl
  · rfl
theorem own_room {base e size n : Nat} {v : Value} {xs : List Value} (h : w.ownsRow base e size v n xs) : ∃ A cap, v = .slice A n cap ∧ n ≤ cap := by
  rcases h.2 with ⟨h1, h2⟩ | ⟨g, cap, cur, h1, _, _, h4, _⟩
  · subst h2; exact ⟨none, 0, h1, Nat.le_refl _⟩
  · exact ⟨_, cap, h1, h4⟩
theorem grownBy_same (row : Option Nat) : w.grownBy w row := gbelow_grown (Below.refl _ _) row
theorem run_append_rd (base : Nat) (t ty e : TypeId) (i : TypeInfo) (z : Value) (size bytes : Nat) (ht : P.underlying t = some (.slice e)) (hi : P.info? e = some i) (hz : i.zero = some z)
    (hsize : i.size = size) (hby : i.bytes = bytes) (hzs : z.cells.size = size) (hsz : 0 < size)
    (v : Value) (n : Nat) (xs : List Value) (hown : w.ownsRow base e size v n xs)
    (B : Option Addr) (m c : Nat) (news : List Value) (hl : news.length = m * size) (hr : Rd w B news) (h1 : ∀ u ∈ news, u.oneCell' = true)
    (h63 : n + m ≤ maxLen) (hbytes : (n + m) * bytes ≤ 140737488355328) (hbase : base ≤ w.heap.size) :
    ∃ v' w', (Builtin.append_ #[t, t] ty #[v, .slice B m c]).run P w = .ok v' w' ∧ w'.ownsRow base e size v' (n + m) (xs ++ news) ∧ w.grownBy w' v.ownBlock ∧ (v'.ownBlock = v.ownBlock ∨ v'.ownBlock = some w.heap.size) := by
  cases B with
  | none =>
    have hn : news = [] := by
      rcases hr with h | ⟨b, off, h, _⟩
      · exact h
      · cases h
    subst hn
    have hm : m = 0 := by
      rcases Nat.eq_zero_or_pos m with h | h
      · exact h
      · have := Nat.mul_pos h hsz; simp at hl; omega
    subst hm
    obtain ⟨A, cap, rfl, hle⟩ := own_room hown
    refine ⟨_, _, run_append_nothing w t t ty e i ht hi A n cap hle _ (src_nil i.size c t ht), ?_, grownBy_same _, .inl rfl⟩
    simpa using hown
  | some ad =>
    have hc : ∀ j u, news[j]? = some u → w.cell? (ad.add j) = some u := by
      intro j u hu
      rcases hr with h | ⟨b, off, h, _, hc⟩
      · rw [h] at hu; cases hu
      · cases h
        have := hc j u hu
        rw [show (⟨b, off, none⟩ : Addr).add j = ⟨b, off + j, none⟩ from by unfold Addr.add; split <;> simp_all]
        exact this
    obtain ⟨v', w', hr, h2, h3, _, h5⟩ := run_append_own_at (P := P) w base t ty e i z size bytes ht hi hz hsize hby hzs hsz v n xs hown ad m c news hl hc h1 h63 hbytes hbase
    exact ⟨v', w', hr, h2, h3, h5⟩
theorem step_append_rd {ops : Array Oper} {o : Oper} {a : Act} {K : Act → World → Prop} {Q : Exit → Act → World → Prop} {E : Prop} (hgd : o.guard = none) (s x : Operand) (t : TypeId)
    (ho : o.op = .call { callee := .builtin .append, args := #[s, x], argTypes := #[t, t] })
    (base : Nat) (e : TypeId) (i : TypeInfo) (z : Value) (size bytes : Nat) (ht : P.underlying t = some (.slice e)) (hi : P.info? e = some i) (hz : i.zero = some z)
    (hsize : i.size = size) (hby : i.bytes = bytes) (hzs : z.cells.size = size) (hsz : 0 < size)
    (v : Value) (n : Nat) (xs : List Value) (hs : a.eval s = v) (B : Option Addr) (m c : Nat) (news : List Value) (hx : a.eval x = .slice B m c)
    (hown : w.ownsRow base e size v n xs) (hl : news.length = m * size) (hr : Rd w B news) (h1 : ∀ u ∈ news, u.oneCell' = true)
    (h63 : n + m ≤ maxLen) (hbytes : (n + m) * bytes ≤ 140737488355328) (hbase : base ≤ w.heap.size)
    (h : ∀ v' w', w'.ownsRow base e size v' (n + m) (xs ++ news) → w.grownBy w' v.ownBlock → (v'.ownBlock = v.ownBlock ∨ v'.ownBlock = some w.heap.size) → K (a.put o.dst v') w') :
    if Region.wanted o (yielded ops a.tmps) = true then Oper.wp P o a w K Q else E := by
  have hw : Region.wanted o (yielded ops a.tmps) = true := by simp [Region.wanted, hgd]
  rw [if_pos hw]
  obtain ⟨v', w', hrun, h2, h3, h5⟩ := run_append_rd (P := P) (w := w) base t o.type e i z size bytes ht hi hz hsize hby hzs hsz v n xs hown B m c news hl hr h1 h63 hbytes hbase
  unfold Oper.wp execOp
  simp only [ho, resolve, invoke, builtin, Sem.run_bind, Sem.run_pure, Result.andThen_ok, List.map_toArray, List.map_cons, List.map_nil, hs, hx, hrun]
  exact h v' w' h2 h3 h5
/-- append of perhaps nothing, in a region that does not draw. -/
theorem wpList_append_rd {ops : Array Oper} {rest : List Oper} {o : Oper} {a : Act} {Q : Exit → Act → World → Prop} (hgd : o.guard = none) (s x : Operand) (t : TypeId)
    (ho : o.op = .call { callee := .builtin .append, args := #[s, x], argTypes := #[t, t] })
    (base : Nat) (e : TypeId) (i : TypeInfo) (z : Value) (size bytes : Nat) (ht : P.underlying t = some (.slice e)) (hi : P.info? e = some i) (hz : i.zero = some z)
    (hsize : i.size = size) (hby : i.bytes = bytes) (hzs : z.cells.size = size) (hsz : 0 < size)
    (v : Value) (n : Nat) (xs : List Value) (hs : a.eval s = v) (B : Option Addr) (m c : Nat) (news : List Value) (hx : a.eval x = .slice B m c)
    (hown : w.ownsRow base e size v n xs) (hl : news.length = m * size) (hr : Rd w B news) (h1 : ∀ u ∈ news, u.oneCell' = true)
    (h63 : n + m ≤ maxLen) (hbytes : (n + m) * bytes ≤ 140737488355328) (hbase : base ≤ w.heap.size)
    (h : ∀ v' w', w'.ownsRow base e size v' (n + m) (xs ++ news) → w.grownBy w' v.ownBlock → (v'.ownBlock = v.ownBlock ∨ v'.ownBlock = some w.heap.size) → wpList P ops Q rest (a.put o.dst v') w') :
    wpList P ops Q (o :: rest) a w := by
  refine wpList_plain hgd fun K hK => ?_
  obtain ⟨v', w', hrun, h2, h3, h5⟩ := run_append_rd (P := P) (w := w) base t o.type e i z size bytes ht hi hz hsize hby hzs hsz v n xs hown B m c news hl hr h1 h63 hbytes hbase
  unfold Oper.wp execOp
  simp only [ho, resolve, invoke, builtin, Sem.run_bind, Sem.run_pure, Result.andThen_ok, List.map_toArray, List.map_cons, List.map_nil, hs, hx, hrun]
  exact hK _ _ (h v' w' h2 h3 h5)
/-- A new slice of no elements. -/
theorem own_empty {base e size b : Nat} (h : w.heap[b]? = some (.cells #[] e (0, 0))) (hb : base ≤ b) : w.ownsRow base e size (.slice (some ⟨b, 0, none⟩) 0 0) 0 [] :=
  ⟨by simp, .inr ⟨b, 0, #[], rfl, hb, h, Nat.le_refl _, Nat.zero_le _, by simp, by simp⟩⟩
/-- Where a piece lies. -/
def subA (A : Option Addr) (cp i s : Nat) : Option Addr := if cp = i then A else A.map (·.add (i * s))
theorem Rd.cut {α : Type} {f : α → List Value} {s : Nat} (hs : 0 < s) (hf : ∀ y, (f y).length = s) {A : Option Addr} {l : List α} (h : Rd w A (l.flatMap f)) {cp i n : Nat} (hin : i + n ≤ l.length) (hcp : l.length ≤ cp) :
    Rd w (subA A cp i s) (((l.drop i).take n).flatMap f) := by
  unfold subA
  by_cases hc : cp = i
  · obtain rfl : n = 0 := by omega
    simp only [List.take_zero]
    exact Rd.nil _ _
  · rw [if_neg hc]
    rcases h with h0 | ⟨b, off, he, hb, hcl⟩
    · have hl : l = [] := by
        cases l with
        | nil => rfl
        | cons x l =>
          have := congrArg List.length h0
          simp [hf] at this
          omega
      rw [hl]; simp only [List.drop_nil, List.take_nil]; exact Rd.nil _ _
    · refine .inr ⟨b, off + i * s, by rw [he]; simp [Addr.add], hb, fun j u hu => ?_⟩
      rw [Nat.add_assoc]
      refine hcl (i * s + j) u ?_
      have h1 : l.flatMap f = (l.take i).flatMap f ++ (((l.drop i).take n).flatMap f ++ ((l.drop i).drop n).flatMap f) := by
        rw [← List.flatMap_append, List.take_append_drop, ← List.flatMap_append, List.take_append_drop]
      have h2 : ((l.take i).flatMap f).length = i * s := by rw [flat_len f s hf, List.length_take, Nat.min_eq_left (by omega)]
      rw [h1, List.getElem?_append_right (by omega), h2, Nat.add_sub_cancel_left, List.getElem?_append_left (List.getElem?_eq_some_iff.1 hu).1]
      exact hu
end
end Go.Han

/- Reference 36: Binding, Verdict. -/
namespace Go.Proofs.Ytmindojbkedmlaa
open Go.RowKit Go.Han
attribute [local irreducible] wpStill wpQuiet
set_option maxRecDepth 100000

theorem info_house : (Try.prog.info? 52).map (fun i => (i.zero, i.size, i.bytes)) = some (some (.agg #[.int .i64 0, .int .i64 0, .int .i64 0, .int .i64 0, .int .i64 0, .int .i64 0, .int .i64 0, .int .i64 0, .int .i64 0, .int .i64 0]), 10, 80) := by kernel_rfl
theorem house_one (h : House) : ∀ u ∈ h.cells, u.oneCell' = true := by
  intro u hu
  simp [House.cells] at hu
  rcases hu with rfl | rfl | rfl | rfl | rfl | rfl | rfl | rfl | rfl | rfl <;> rfl
def allB (a : Asked) (h : House) : Bool := covB h a && decide (h.known ≤ a.known)
def bindL (l : List House) (a : Asked) : List House := l.filter (allB a)
theorem hflat_snoc (l : List House) (h : House) : hflat (l ++ [h]) = hflat l ++ h.cells := by unfold hflat; rw [List.flatMap_append]; simp
abbrev OwnH (w : World) (base : Nat) (v : Value) (l : List House) : Prop := OwnL House.cells 52 10 w base v l
def BindPost (l : List House) (a : Asked) (w : World) (e : Ending) (w' : World) : Prop := ∃ A c, e = .returned (.slice A (bindL l a).length c) ∧ Rd w' A (hflat (bindL l a)) ∧ Below w.heap.size w w'
theorem hou_room {n : Nat} (h : n ≤ 1024) : n + 1 ≤ maxLen ∧ (n + 1) * 80 ≤ 140737488355328 := by unfold maxLen; omega
set_option maxHeartbeats 2000000 in
theorem Binding36_any (A : Option Addr) (c : Nat) (l : List House) (a : Asked) (w : World) (hL : HouL w A l a) (hao : a.ok = true) :
    Calls Try.prog 84 #[.slice A l.length c, .int .i64 a.speaker, .int .i64 a.begun, .int .i64 a.lang, .int .i64 a.at_, .int .i64 a.known] w (BindPost l a w) := by
  obtain ⟨i0, hi0, iz0, is0, ib0⟩ := info_parts info_house
  have hlen := hL.len
  have hr := hL.rd
  have hokl := hL.ok
  clear hL
  go_enter Try.func84, Try.ntmps84
  go_wp2_with fail
  obtain ⟨W, hW⟩ : ∃ W, w.alloc (.cells #[] 52) = W := ⟨_, rfl⟩
  have hB : Below w.heap.size w W := by subst hW; exact ext_alloc (Below.refl _ _) _
  have h0 : OwnH W w.heap.size (.slice (some ⟨w.heap.size, 0, none⟩) 0 0) [] := by subst hW; exact own_empty (World.alloc_heap_new _ _) (Nat.le_refl _)
  rw [hW]
  have HW := Lib.hid hW
  clear hW
  go_loopw [13, 14] (fun v i wr => ∃ k : Nat, k ≤ l.length ∧ i = .int .i64 k ∧ OwnH wr w.heap.size v ((l.take k).filter (allB a)) ∧ Below w.heap.size w wr) (fun _ i _ => l.length - (intOf i).toNat)
  case atStart => exact ⟨0, Nat.zero_le _, rfl, by simpa using h0, hB⟩
  case round =>
    obtain ⟨k, hk, rfl, hown, hBr⟩ := hrel
    by_cases hlt : k < l.length
    · obtain ⟨b, off, rfl, hb, hc⟩ := hou_elem hr hlt
      obtain ⟨d0, d1, d2, d3, d4, d5, d6, d7, d8, d9⟩ := hc wr hBr
      have hft := filter_take_succ (allB a) l k hlt
      have hxo := hokl _ (List.getElem_mem hlt)
      have hlen2 : ((l.take k).filter (allB a)).length ≤ 1024 := Nat.le_trans (List.length_filter_le _ _) (by rw [List.length_take]; omega)
      have cx := fun wr h => hc wr h
      generalize l[k] = x at *
      have cC := Lib.hid (Covers35_any x a wr (House.ok_iff.2 hxo) hao)
      have Hc := Lib.hid hc
      have Hft := Lib.hid hft
      have Hown := Lib.hid hown
      clear hft hc hxo hown cx
      cases hcv : covB x a
      · have HN : Hid ((l.take (k + 1)).filter (allB a) = (l.take k).filter (allB a)) := by show _ = _; rw [Hft.out, show allB a x = false by unfold allB; rw [hcv]; rfl]; simp
        have Hcv := Lib.hid hcv
        clear hcv
        go_wp2_with fail
        refine cC.out.mono ?_
        rintro e w1 ⟨rfl, hb1⟩
        rw [Hcv.out]
        go_wp2_with fail
        go_roundw
        case rel => exact ⟨k + 1, by omega, by go_num, by rw [HN.out]; exact Hown.out.ext hb1, ext_trans hBr hb1⟩
        case measure => simp [intOf]; omega
      · by_cases hkn : x.known ≤ a.known
        · have HN : Hid ((l.take (k + 1)).filter (allB a) = (l.take k).filter (allB a) ++ [x]) := by show _ = _; rw [Hft.out, show allB a x = true by unfold allB; rw [hcv]; simp [hkn]]; simp
          have Hcv := Lib.hid hcv
          clear hcv Hft
          go_wp2_with fail
          refine cC.out.mono ?_
          rintro e w1 ⟨rfl, hb1⟩
          rw [Hcv.out]
          have hB1 := ext_trans hBr hb1
          obtain ⟨e0, e1, e2, e3, e4, e5, e6, e7, e8, e9⟩ := Hc.out w1 hB1
          have ho := Hown.out.ext hb1
          generalize (l.take k).filter (allB a) = el at *
          obtain ⟨A1, A2⟩ := hou_room hlen2
          have hz1 := hB1.size
          clear d0 d1 d2 d3 d4 d5 d6 d7 d8 d9 cC Hown Hcv
          go_wp2_with (at_builtin; refine wpList_append_rd rfl _ _ 22 rfl w.heap.size 52 i0 _ 10 80 Try.underlying22 hi0 iz0 is0 ib0 rfl (by decide) _ _ _ rfl (some ⟨w1.heap.size, 0, none⟩) 1 1 x.cells rfl (ho.ext (ext_alloc (Below.refl w1.heap.size w1) _)) rfl (grd_blk (World.alloc_heap_new w1 _) rfl) (house_one x) A1 A2 (Nat.le_trans hz1 (by simp)) ?_; intro v5 w5 hown5 hgrow5 _)
          have hB5 : Below w.heap.size w w5 := (ext_trans hB1 (ext_alloc (Below.refl w1.heap.size w1) _)).grown hgrow5 (Nat.le_trans hz1 (by simp)) (fun k hk => (ho.lt k hk).1)
          have hs5 := OwnL.snoc (f := House.cells) x hown5
          clear hown5 hgrow5
          go_wp2_with fail
          go_roundw
          case rel => exact ⟨k + 1, by omega, by go_num, by rw [HN.out]; exact hs5, hB5⟩
          case measure => simp [intOf]; omega
        · have HN : Hid ((l.take (k + 1)).filter (allB a) = (l.take k).filter (allB a)) := by show _ = _; rw [Hft.out, show allB a x = false by unfold allB; simp [hkn]]; simp
          have g2 : decide (x.known ≤ a.known) = false := decide_eq_false hkn
          have Hcv := Lib.hid hcv
          clear hcv hkn
          go_wp2_with fail
          refine cC.out.mono ?_
          rintro e w1 ⟨rfl, hb1⟩
          rw [Hcv.out]
          have hB1 := ext_trans hBr hb1
          obtain ⟨e0, e1, e2, e3, e4, e5, e6, e7, e8, e9⟩ := Hc.out w1 hB1
          clear d0 d1 d2 d3 d4 d5 d6 d7 d8 d9
          go_wp2_with fail
          go_roundw
          case rel => exact ⟨k + 1, by omega, by go_num, by rw [HN.out]; exact Hown.out.ext hb1, hB1⟩
          case measure => simp [intOf]; omega
    · obtain rfl : k = l.length := by omega
      rw [List.take_length] at hown
      obtain ⟨A9, c9, rfl, hrd9, _⟩ := OwnL.form (by omega) hown
      have hfin : Hid (BindPost l a w (.returned (.slice A9 (bindL l a).length c9)) wr) := ⟨A9, c9, rfl, hrd9, hBr⟩
      clear hown hrd9
      go_wp2_with fail
      go_ret
      exact hfin.out
end Go.Proofs.Ytmindojbkedmlaa

/- Reference 36: Verdict. -/
namespace Go.Proofs.Ytmindojbkedmlaa
open Go.RowKit Go.Han
attribute [local irreducible] wpStill wpQuiet
set_option maxRecDepth 100000

theorem bindL_kind (l : List House) (a : Asked) (k : Int) : (bindL l a).filter (kindB k) = bound l k a := by
  unfold bindL bound
  rw [List.filter_filter]
  refine List.filter_congr fun h _ => ?_
  unfold kindB allB bindB
  cases covB h a <;> simp
theorem lastK_bind (l : List House) (a : Asked) (k : Int) : lastK (bindL l a) k = maxNo (bound l k a) := by unfold lastK; rw [bindL_kind]
theorem firstK_over (l : List House) (a : Asked) (k ab : Int) : firstK (bindL l a) k ab = firstNo ((bound l k a).filter fun h => decide (ab < h.no)) := by
  unfold firstK
  rw [← bindL_kind, List.filter_filter]
  congr 1
  refine List.filter_congr fun h _ => ?_
  unfold overB kindB
  rw [Bool.and_comm]
theorem ref_one (l : List House) (a : Asked) : firstK (bindL l a) 1 (lastK (bindL l a) 5) = firstNo (holds l 1 a) := by
  rw [firstK_over, lastK_bind]; rfl
theorem ref_three (l : List House) (a : Asked) : delK (bindL l a) a.begun a.at_ = firstNo (holds l 3 a) := by
  unfold delK holds
  rw [← bindL_kind, List.filter_filter]
  congr 1
  refine List.filter_congr fun h _ => ?_
  unfold delB kindB holdB
  rw [if_neg (by decide), if_neg (by decide), Bool.and_comm]
theorem ref_two {l : List House} {a : Asked} (hok : ∀ h ∈ l, h.Ok) : firstNo (holds l 2 a) = if lastK (bindL l a) 4 < 0 then firstK (bindL l a) 2 (-1) else -1 := by
  rw [firstK_over, lastK_bind]
  unfold holds
  by_cases h : maxNo (bound l 4 a) < 0
  · rw [if_pos h]
    congr 1
    refine List.filter_congr fun x hx => ?_
    unfold holdB
    rw [if_neg (by decide), if_pos rfl]
    have := (hok x (List.mem_filter.1 hx).1).n0
    simp [h]; omega
  · rw [if_neg h]
    have : (bound l 2 a).filter (holdB l 2 a) = [] := by
      rw [List.filter_eq_nil_iff]
      intro x _
      unfold holdB
      rw [if_neg (by decide), if_pos rfl]
      simpa using h
    rw [this]; rfl
def refV (f1 f2 l4 f3 : Int) : Int × Int := if 0 ≤ f1 then (2, f1) else if 0 ≤ f2 ∧ l4 < 0 then (2, f2) else if 0 ≤ f3 then (1, f3) else (0, -1)
theorem ref_verd {l : List House} {a : Asked} (hok : ∀ h ∈ l, h.Ok) : verd l a = refV (firstK (bindL l a) 1 (lastK (bindL l a) 5)) (firstK (bindL l a) 2 (-1)) (lastK (bindL l a) 4) (delK (bindL l a) a.begun a.at_) := by
  unfold verd refV
  rw [ref_one, ref_three, ref_two hok]
  by_cases h1 : 0 ≤ firstNo (holds l 1 a)
  · rw [if_pos h1, if_pos h1]
  · rw [if_neg h1, if_neg h1]
    by_cases h4 : lastK (bindL l a) 4 < 0
    · rw [if_pos h4]
      by_cases h2 : 0 ≤ firstK (bindL l a) 2 (-1)
      · rw [if_pos h2, if_pos ⟨h2, h4⟩]
      · rw [if_neg h2, if_neg (show ¬ (0 ≤ firstK (bindL l a) 2 (-1) ∧ lastK (bindL l a) 4 < 0) from fun h => h2 h.1)]
    · rw [if_neg h4, if_neg (show ¬ ((0 : Int) ≤ -1) by decide), if_neg (show ¬ (0 ≤ firstK (bindL l a) 2 (-1) ∧ lastK (bindL l a) 4 < 0) from fun h => h4 h.2)]
set_option maxHeartbeats 4000000 in
theorem Verdict36_any (A : Option Addr) (c : Nat) (l : List House) (a : Asked) (w : World) (hr : Rd w A (hflat l)) (hm : l.length ≤ 9223372036854775807) :
    Calls Try.prog 47 #[.slice A l.length c, .int .i64 a.speaker, .int .i64 a.begun, .int .i64 a.lang, .int .i64 a.at_, .int .i64 a.known] w (VerdPost l a w) := by
  have cC := Lib.hid (check35_any A c l w hr hm)
  unfold VerdPost
  by_cases hc : hchk l = 0
  · have HE : Hid (verdE l a = if a.ok then 0 else 1) := by show _ = _; unfold verdE; rw [if_pos hc]
    rw [hc] at cC
    cases hao : a.ok
    · have HF : Hid (verdE l a = 1) := by show _ = _; rw [HE.out, hao]; rfl
      have HR : Hid (verdR l a = (0, 0)) := by show _ = _; unfold verdR; rw [if_neg (by rw [HF.out]; decide)]
      rw [HF.out, HR.out]
      have hca : spkB a.speaker = false ∨ (spkB a.speaker = true ∧ timeB a.begun = false) ∨ (spkB a.speaker = true ∧ timeB a.begun = true ∧ lngB a.lang = false) ∨ (spkB a.speaker = true ∧ timeB a.begun = true ∧ lngB a.lang = true ∧ timeB a.at_ = false) ∨ (spkB a.speaker = true ∧ timeB a.begun = true ∧ lngB a.lang = true ∧ timeB a.at_ = true ∧ timeB a.known = false) := asked_fail hao
      clear hao hc HE HR HF
      rcases hca with h1 | ⟨h1, h2⟩ | ⟨h1, h2, h3⟩ | ⟨h1, h2, h3, h4⟩ | ⟨h1, h2, h3, h4, h5⟩
      all_goals
        go_enter Try.func47, Try.ntmps47
        go_wp2_with fail
        refine cC.out.mono ?_
        rintro e w1 ⟨rfl, hb1⟩
        go_wp2_with (first | (go_at_call 60; refine (spk35_any _ _).mono ?_; rintro e w' ⟨rfl, rfl⟩) | (go_at_call 61; refine (lng35_any _ _).mono ?_; rintro e w' ⟨rfl, rfl⟩) | (go_at_call 48; refine (time35_any _ _).mono ?_; rintro e w' ⟨rfl, rfl⟩))
        go_ret3
        exact ⟨rfl, hb1⟩
    · have HF : Hid (verdE l a = 0) := by show _ = _; rw [HE.out, hao]; rfl
      have HR : Hid (verdR l a = verd l a) := by show _ = _; unfold verdR; rw [if_pos HF.out]
      rw [HF.out, HR.out]
      obtain ⟨h1, h2, h3, h4, h5⟩ : spkB a.speaker = true ∧ timeB a.begun = true ∧ lngB a.lang = true ∧ timeB a.at_ = true ∧ timeB a.known = true := asked_all hao
      obtain ⟨hlen, hasc'⟩ := hchk_ok hc
      have hL : HouL w A l a := ⟨hr, hlen, hasc', asked_iff.1 hao⟩
      have HV := Lib.hid (ref_verd (a := a) hL.ok)
      have HOK : Hid (∀ h ∈ bindL l a, h.Ok) := fun h hh => hL.ok h (List.mem_filter.1 hh).1
      have hln : (bindL l a).length ≤ 9223372036854775807 := Nat.le_trans (List.length_filter_le _ _) (by omega)
      have hb0 := hL.ask.b0
      have hb1 := hL.ask.b1
      have HL := Lib.hid hL
      have Hao := Lib.hid hao
      clear hao hc HE HR HF hlen hasc' hr hm hL
      have HV0 := HV
      clear HV
      generalize verd l a = vv at *
      go_enter Try.func47, Try.ntmps47
      go_wp2_with fail
      refine cC.out.mono ?_
      rintro e w1 ⟨rfl, hw1⟩
      have HB := Lib.hid (Binding36_any A c l a w1 (HL.out.ext hw1) Hao.out)
      clear cC HL Hao
      go_wp2_with (first | (go_at_call 60; refine (spk35_any _ _).mono ?_; rintro e w' ⟨rfl, rfl⟩) | (go_at_call 61; refine (lng35_any _ _).mono ?_; rintro e w' ⟨rfl, rfl⟩) | (go_at_call 48; refine (time35_any _ _).mono ?_; rintro e w' ⟨rfl, rfl⟩))
      refine HB.out.mono ?_
      rintro e w2 ⟨A2, c2, rfl, hrd, hw2⟩
      have hBw := ext_trans hw1 hw2
      clear h1 h2 h3 h4 h5 HB hw1 hw2
      generalize bindL l a = b at *
      have cL := fun k => last36_any A2 c2 b k w2 hrd hln
      have cF := fun k ab => first36_any A2 c2 b k ab w2 hrd hln
      have cD := delay36_any A2 c2 b a.begun a.at_ w2 hrd hln HOK.out hb0 hb1
      have CL := Lib.hid cL
      have CF := Lib.hid cF
      have CD := Lib.hid cD
      clear cL cF cD hrd HOK hb0 hb1
      go_wp2_with fail
      refine (CL.out 5).mono ?_
      rintro e w' ⟨rfl, rfl⟩
      go_wp2_with fail
      refine (CF.out 1 _).mono ?_
      rintro e w' ⟨rfl, rfl⟩
      have cF2 := Lib.hid (CF.out 2 (-1))
      have cL4 := Lib.hid (CL.out 4)
      clear CL CF
      generalize firstK b 1 (lastK b 5) = f1 at *
      generalize firstK b 2 (-1) = f2 at *
      generalize lastK b 4 = l4 at *
      generalize delK b a.begun a.at_ = f3 at *
      by_cases h1 : 0 ≤ f1
      · have HV : Hid (refV f1 f2 l4 f3 = (2, f1)) := by show _ = _; unfold refV; rw [if_pos h1]
        go_wp2_with fail
        go_ret3
        exact ⟨by rw [HV0.out, HV.out]; rfl, hBw⟩
      · have V1 : Hid (refV f1 f2 l4 f3 = if 0 ≤ f2 ∧ l4 < 0 then (2, f2) else if 0 ≤ f3 then (1, f3) else (0, -1)) := by show _ = _; unfold refV; rw [if_neg h1]
        have h1' : decide (0 ≤ f1) = false := decide_eq_false h1
        go_wp2_with fail
        refine cF2.out.mono ?_
        rintro e w' ⟨rfl, rfl⟩
        clear h1 h1' cF2
        by_cases h2 : 0 ≤ f2
        · go_wp2_with fail
          refine cL4.out.mono ?_
          rintro e w' ⟨rfl, rfl⟩
          clear cL4
          by_cases h4 : l4 < 0
          · have HV : Hid (refV f1 f2 l4 f3 = (2, f2)) := by show _ = _; rw [V1.out, if_pos ⟨h2, h4⟩]
            clear V1
            go_wp2_with fail
            go_ret3
            exact ⟨by rw [HV0.out, HV.out]; rfl, hBw⟩
          · have V2 : Hid (refV f1 f2 l4 f3 = if 0 ≤ f3 then (1, f3) else (0, -1)) := by show _ = _; rw [V1.out, if_neg (fun h => h4 h.2)]
            clear V1
            have h4' : decide (l4 < 0) = false := decide_eq_false h4
            go_wp2_with fail
            refine CD.out.mono ?_
            rintro e w' ⟨rfl, rfl⟩
            clear h2 h4 h4' CD
            by_cases h3 : 0 ≤ f3
            · have HV : Hid (refV f1 f2 l4 f3 = (1, f3)) := by show _ = _; rw [V2.out, if_pos h3]
              clear V2
              go_wp2_with fail
              go_ret3
              exact ⟨by rw [HV0.out, HV.out]; rfl, hBw⟩
            · have HV : Hid (refV f1 f2 l4 f3 = (0, -1)) := by show _ = _; rw [V2.out, if_neg h3]
              clear V2
              have h3' : decide (0 ≤ f3) = false := decide_eq_false h3
              go_wp2_with fail
              go_ret3
              exact ⟨by rw [HV0.out, HV.out]; rfl, hBw⟩
        · have V2 : Hid (refV f1 f2 l4 f3 = if 0 ≤ f3 then (1, f3) else (0, -1)) := by show _ = _; rw [V1.out, if_neg (fun h => h2 h.1)]
          clear V1
          have h2' : decide (0 ≤ f2) = false := decide_eq_false h2
          go_wp2_with fail
          refine CD.out.mono ?_
          rintro e w' ⟨rfl, rfl⟩
          clear h2 h2' CD cL4
          by_cases h3 : 0 ≤ f3
          · have HV : Hid (refV f1 f2 l4 f3 = (1, f3)) := by show _ = _; rw [V2.out, if_pos h3]
            clear V2
            go_wp2_with fail
            go_ret3
            exact ⟨by rw [HV0.out, HV.out]; rfl, hBw⟩
          · have HV : Hid (refV f1 f2 l4 f3 = (0, -1)) := by show _ = _; rw [V2.out, if_neg h3]
            clear V2
            have h3' : decide (0 ≤ f3) = false := decide_eq_false h3
            go_wp2_with fail
            go_ret3
            exact ⟨by rw [HV0.out, HV.out]; rfl, hBw⟩
  · have HE : Hid (verdE l a = hchk l) := by show _ = _; unfold verdE; rw [if_neg hc]
    have HR : Hid (verdR l a = (0, 0)) := by show _ = _; unfold verdR; rw [if_neg (by rw [HE.out]; exact hc)]
    rw [HE.out, HR.out]
    have hc1 : (hchk l != 0) = true := by simpa using hc
    generalize hchk l = k at *
    clear hc HE HR
    go_enter Try.func47, Try.ntmps47
    go_wp2_with fail
    refine cC.out.mono ?_
    rintro e w1 ⟨rfl, hb1⟩
    go_wp2_with fail
    go_ret3
    exact ⟨rfl, hb1⟩
end Go.Proofs.Ytmindojbkedmlaa

/- Package audit: forbidden. Reference 39: forbidden. -/
namespace Go.Proofs.Ytmindojbkedmlaa
open Go.RowKit Go.Han
attribute [local irreducible] wpStill wpQuiet
set_option maxRecDepth 100000

/-- What is asked of the arguments. -/
structure AudOk (w : World) (A : Option Addr) (l : List House) (kn : Int) : Prop where
  rd : Rd w A (hflat l)
  chk : hchk l = 0
  kn0 : 0 ≤ kn
  kn1 : kn < 1099511627776
theorem AudOk.ext {w W : World} {A : Option Addr} {l : List House} {kn : Int} (h : AudOk w A l kn) (hb : Below w.heap.size w W) : AudOk W A l kn := ⟨h.rd.ext hb, h.chk, h.kn0, h.kn1⟩
theorem AudOk.len {w : World} {A : Option Addr} {l : List House} {kn : Int} (h : AudOk w A l kn) : l.length ≤ 9223372036854775807 := by have := (hchk_ok h.chk).1; omega
theorem ask_ok {x : Sight} {t kn : Int} (hx : x.Ok) (h1 : x.frm ≤ t) (h2 : t < x.until_) (h3 : 0 ≤ kn) (h4 : kn < 1099511627776) : (askOf x t kn).ok = true := by
  obtain ⟨_, _, _, _, _, _, _, _, _⟩ := hx
  refine asked_iff.2 ⟨?_, ?_, ?_, ?_, ?_, ?_, ?_, ?_, ?_, ?_⟩ <;> (simp only [askOf]; omega)
theorem verdR_ok {l : List House} {a : Asked} (h1 : hchk l = 0) (h2 : a.ok = true) : verdE l a = 0 ∧ verdR l a = verd l a := by
  have h : verdE l a = 0 := by unfold verdE; rw [if_pos h1, h2]; rfl
  exact ⟨h, by unfold verdR; rw [if_pos h]⟩
def ForbPost (l : List House) (kn : Int) (x : Sight) (t : Int) (w : World) (e : Ending) (w' : World) : Prop :=
  ∃ (no : Int) (b : Bool), e = .returned (.tuple #[.int .i64 no, .bool b]) ∧ (forb l kn x t = if b then some no else none) ∧ Below w.heap.size w w'
set_option maxHeartbeats 2000000 in
theorem forbidA_any (A : Option Addr) (c : Nat) (l : List House) (kn : Int) (x : Sight) (t : Int) (bt bl bk : Nat) (w : World) (hA : AudOk w A l kn) (hx : x.Ok)
    (h1 : w.heap[bt]? = some (.cells #[.int .i64 t] 3 (0, 0))) (h2 : w.heap[bl]? = some (.cells #[.slice A l.length c] 22 (0, 0))) (h3 : w.heap[bk]? = some (.cells #[.int .i64 kn] 3 (0, 0))) :
    Calls Try.prog 38 #[.agg #[.int .i64 x.speaker, .int .i64 x.begun, .int .i64 x.lang, .int .i64 x.frm, .int .i64 x.until_], .pointer (some ⟨bt, 0, none⟩), .pointer (some ⟨bl, 0, none⟩), .pointer (some ⟨bk, 0, none⟩)] w (ForbPost l kn x t w) := by
  obtain ⟨W, hW, hB, hb, _⟩ := sig_new x w
  obtain ⟨c0, c1, c2, c3, c4⟩ := sig_at hb
  have d1 := cell_one ((hB.block _ (lt_block h1)).trans h1)
  have d2 := cell_one ((hB.block _ (lt_block h2)).trans h2)
  have d3 := cell_one ((hB.block _ (lt_block h3)).trans h3)
  have HAW := Lib.hid (hA.ext hB)
  clear hb h1 h2 h3
  by_cases g1 : t < x.frm
  · have hfin : Hid (∀ W', Below w.heap.size w W' → ForbPost l kn x t w (.returned (.tuple #[.int .i64 0, .bool false])) W') := fun W' hb => ⟨0, false, rfl, by unfold forb; rw [if_pos (.inl g1)]; rfl, hb⟩
    go_enter Try.func38, Try.ntmps38
    go_wp2_with fail
    go_ret2
    exact hfin.out _ hB
  · by_cases g2 : x.until_ ≤ t
    · have hfin : Hid (∀ W', Below w.heap.size w W' → ForbPost l kn x t w (.returned (.tuple #[.int .i64 0, .bool false])) W') := fun W' hb => ⟨0, false, rfl, by unfold forb; rw [if_pos (.inr g2)]; rfl, hb⟩
      go_enter Try.func38, Try.ntmps38
      go_wp2_with fail
      go_ret2
      exact hfin.out _ hB
    · have hao := ask_ok (t := t) hx (by omega) (by omega) hA.kn0 hA.kn1
      obtain ⟨e1, e2⟩ := verdR_ok hA.chk hao
      have hfin : Hid (∀ W', Below w.heap.size w W' → ForbPost l kn x t w (.returned (.tuple #[.int .i64 (verd l (askOf x t kn)).2, .bool ((verd l (askOf x t kn)).1 != 0)])) W') := fun W' hb => by
        refine ⟨_, _, rfl, ?_, hb⟩
        unfold forb
        rw [if_neg (show ¬ (t < x.frm ∨ x.until_ ≤ t) by omega)]
        by_cases h0 : (verd l (askOf x t kn)).1 = 0 <;> simp [h0]
      have cV := Lib.hid (Verdict_any A c l (askOf x t kn) W HAW.out.rd HAW.out.len)
      unfold VerdPost at cV
      rw [e1, e2] at cV
      have g1' : decide (t < x.frm) = false := decide_eq_false g1
      have g2' : decide (x.until_ ≤ t) = false := decide_eq_false g2
      generalize hvv : verd l (askOf x t kn) = vv at *
      simp only [askOf] at cV
      clear e1 e2 hao g1 g2 hA hvv
      go_enter Try.func38, Try.ntmps38
      go_wp2_with fail
      refine cV.out.mono ?_
      rintro e w1 ⟨rfl, hb1⟩
      go_wp2_with fail
      go_ret2
      exact hfin.out _ (ext_trans hB hb1)
theorem forbid39_any (A : Option Addr) (c : Nat) (l : List House) (kn : Int) (x : Sight) (t : Int) (w : World) (hA : AudOk w A l kn) (hx : x.Ok) (g1 : x.frm ≤ t) (g2 : t < x.until_) :
    Calls Try.prog 41 #[.slice A l.length c, .agg #[.int .i64 x.speaker, .int .i64 x.begun, .int .i64 x.lang, .int .i64 x.frm, .int .i64 x.until_], .int .i64 kn, .int .i64 t] w (ForbPost l kn x t w) := by
  obtain ⟨W, hW, hB, hb, _⟩ := sig_new x w
  obtain ⟨c0, c1, c2, c3, c4⟩ := sig_at hb
  have HAW := Lib.hid (hA.ext hB)
  clear hb
  have hao := ask_ok hx g1 g2 hA.kn0 hA.kn1
  obtain ⟨e1, e2⟩ := verdR_ok hA.chk hao
  have hfin : Hid (∀ W', Below w.heap.size w W' → ForbPost l kn x t w (.returned (.tuple #[.int .i64 (verd l (askOf x t kn)).2, .bool ((verd l (askOf x t kn)).1 != 0)])) W') := fun W' hb => by
    refine ⟨_, _, rfl, ?_, hb⟩
    unfold forb
    rw [if_neg (show ¬ (t < x.frm ∨ x.until_ ≤ t) by omega)]
    by_cases h0 : (verd l (askOf x t kn)).1 = 0 <;> simp [h0]
  have cV := Lib.hid (Verdict36_any A c l (askOf x t kn) W HAW.out.rd HAW.out.len)
  unfold VerdPost at cV
  rw [e1, e2] at cV
  generalize hvv : verd l (askOf x t kn) = vv at *
  simp only [askOf] at cV
  clear e1 e2 hao g1 g2 hA hvv
  go_enter Try.func41, Try.ntmps41
  go_wp2_with fail
  refine cV.out.mono ?_
  rintro e w1 ⟨rfl, hb1⟩
  go_wp2_with fail
  go_ret2
  exact hfin.out _ (ext_trans hB hb1)
end Go.Proofs.Ytmindojbkedmlaa

/- Package audit: Breaks. Reference 39: Breaks. -/
namespace Go.Proofs.Ytmindojbkedmlaa
open Go.RowKit Go.Han
attribute [local irreducible] wpStill wpQuiet
set_option maxRecDepth 100000

def brkB (l : List House) (s : List Sight) (kn i t no : Int) : Bool := decide (0 ≤ i) && (match s[i.toNat]? with | some x => decide (forb l kn x t = some no) | none => false)
def brkR (l : List House) (s : List Sight) (kn i t no : Int) : Bool := decide (audE l s kn = 0) && brkB l s kn i t no
def BrkPost (l : List House) (s : List Sight) (kn i t no : Int) (w : World) (e : Ending) (w' : World) : Prop :=
  e = .returned (.tuple #[.bool (brkR l s kn i t no), .int .i64 (audE l s kn)]) ∧ Below w.heap.size w w'
theorem brk_out {s : List Sight} {l : List House} {kn i t no : Int} (h : i < 0 ∨ (s.length : Int) ≤ i) : brkB l s kn i t no = false := by
  unfold brkB
  rcases h with h | h
  · rw [decide_eq_false (by omega)]; rfl
  · rw [List.getElem?_eq_none (by omega)]; simp
theorem brk_in {s : List Sight} {l : List House} {kn t no : Int} {k : Nat} (h : k < s.length) : brkB l s kn (k : Int) t no = decide (forb l kn s[k] t = some no) := by
  unfold brkB
  rw [Int.toNat_natCast, List.getElem?_eq_getElem h]
  simp
theorem audE_ok {l : List House} {s : List Sight} {kn : Int} (h : audE l s kn = 0) : hchk l = 0 ∧ s.length ≤ 4096 ∧ (∀ x ∈ s, x.Ok) ∧ 0 ≤ kn ∧ kn < 1099511627776 := by
  unfold audE at h
  by_cases h0 : hchk l = 0
  · rw [if_pos h0] at h
    by_cases h1 : 4096 < s.length
    · rw [if_pos h1] at h; cases h
    · rw [if_neg h1] at h
      by_cases h2 : s.all Sight.ok = true
      · rw [if_pos h2] at h
        by_cases h3 : timeB kn = true
        · obtain ⟨k0, k1⟩ := timeB_iff.1 h3
          exact ⟨h0, by omega, fun x hx => Sight.ok_iff.1 (List.all_eq_true.1 h2 x hx), k0, k1⟩
        · rw [if_neg h3] at h; cases h
      · rw [if_neg h2] at h; cases h
  · rw [if_neg h0] at h; exact absurd h h0
theorem audE_mk {l : List House} {s : List Sight} {kn : Int} (h0 : hchk l = 0) (h1 : s.length ≤ 4096) (h2 : ∀ x ∈ s, x.Ok) (k0 : 0 ≤ kn) (k1 : kn < 1099511627776) : audE l s kn = 0 := by
  unfold audE
  rw [if_pos h0, if_neg (by omega), if_pos (List.all_eq_true.2 fun x hx => Sight.ok_iff.2 (h2 x hx)), if_pos (timeB_iff.2 ⟨k0, k1⟩)]
set_option maxHeartbeats 4000000 in
theorem BreaksA_any (A : Option Addr) (c : Nat) (l : List House) (A2 : Option Addr) (c2 : Nat) (s : List Sight) (kn i t no : Int) (w : World) (hr : Rd w A (hflat l)) (hm : l.length ≤ 9223372036854775807) (hs : Rd w A2 (sflat s)) (hm2 : s.length ≤ 9223372036854775807) :
    Calls Try.prog 31 #[.slice A l.length c, .slice A2 s.length c2, .int .i64 kn, .int .i64 i, .int .i64 t, .int .i64 no] w (BrkPost l s kn i t no w) := by
  have cC := Lib.hid (checkA_any A c l A2 c2 s kn w hr hm hs hm2)
  unfold CheckPost at cC
  unfold BrkPost
  by_cases hae : audE l s kn = 0
  · have HB : Hid (brkR l s kn i t no = brkB l s kn i t no) := by show _ = _; unfold brkR; rw [decide_eq_true hae, Bool.true_and]
    obtain ⟨hchk, hsl, hso, k0, k1⟩ := audE_ok hae
    rw [hae] at cC
    rw [hae, HB.out]
    by_cases h0 : i < 0
    · have HF : Hid (brkB l s kn i t no = false) := brk_out (.inl h0)
      rw [HF.out]
      clear HB HF hae hchk hso
      go_enter Try.func31, Try.ntmps31
      go_wp2_with fail
      refine cC.out.mono ?_
      rintro e w1 ⟨rfl, hb1⟩
      go_wp2_with fail
      go_ret2
      exact ⟨rfl, hb1⟩
    · obtain ⟨k, rfl⟩ := Int.eq_ofNat_of_zero_le (by omega : 0 ≤ i)
      have h0' : decide ((k : Int) < 0) = false := by simp
      by_cases h1 : s.length ≤ k
      · have h1' : decide ((s.length : Int) ≤ k) = true := by simp; omega
        have HF : Hid (brkB l s kn (k : Int) t no = false) := brk_out (.inr (by omega))
        rw [HF.out]
        clear HB HF hae hchk hso h0
        go_enter Try.func31, Try.ntmps31
        go_wp2_with fail
        refine cC.out.mono ?_
        rintro e w1 ⟨rfl, hb1⟩
        go_wp2_with fail
        go_ret2
        exact ⟨rfl, hb1⟩
      · have h1' : decide (s.length ≤ k) = false := by simp; omega
        have hlt : k < s.length := by omega
        obtain ⟨b, off, rfl, hb, hc⟩ := sig_elem hs hlt
        have hxo := hso _ (List.getElem_mem hlt)
        have HF : Hid (brkB l s kn (k : Int) t no = decide (forb l kn s[k] t = some no)) := brk_in hlt
        have kk0 : (0 : Int) ≤ (k : Int) := by omega
        have kk1 : (k : Int) < s.length := by omega
        rw [HF.out]
        clear HF HB hae hso hs h0
        generalize s[k] = x at *
        have Hc := Lib.hid hc
        clear hc
        by_cases g1 : t < x.frm
        · have hz : Hid (decide (forb l kn x t = some no) = false) := by show _ = _; unfold forb; rw [if_pos (.inl g1)]; simp
          rw [hz.out]
          go_enter Try.func31, Try.ntmps31
          go_wp2_with fail
          refine cC.out.mono ?_
          rintro e w1 ⟨rfl, hb1⟩
          obtain ⟨d0, d1, d2, d3, d4⟩ := Hc.out w1 hb1
          go_wp2_with fail
          go_ret2
          exact ⟨rfl, hb1⟩
        · by_cases g2 : x.until_ ≤ t
          · have hz : Hid (decide (forb l kn x t = some no) = false) := by show _ = _; unfold forb; rw [if_pos (.inr g2)]; simp
            rw [hz.out]
            go_enter Try.func31, Try.ntmps31
            go_wp2_with fail
            refine cC.out.mono ?_
            rintro e w1 ⟨rfl, hb1⟩
            obtain ⟨d0, d1, d2, d3, d4⟩ := Hc.out w1 hb1
            go_wp2_with fail
            go_ret2
            exact ⟨rfl, hb1⟩
          · have hao := ask_ok (t := t) hxo (by omega) (by omega) k0 k1
            obtain ⟨e1, e2⟩ := verdR_ok hchk hao
            have hz : Hid (decide (forb l kn x t = some no) = (((verd l (askOf x t kn)).1 != 0) && ((verd l (askOf x t kn)).2 == no))) := by
              show _ = _
              unfold forb
              rw [if_neg (show ¬ (t < x.frm ∨ x.until_ ≤ t) by omega)]
              by_cases h0 : (verd l (askOf x t kn)).1 = 0
              · simp [h0]
              · have hb : ((verd l (askOf x t kn)).1 != 0) = true := by simpa using h0
                rw [if_neg h0, hb, Bool.true_and]
                simp only [Option.some.injEq]
                rfl
            have g1' : decide (t < x.frm) = false := decide_eq_false g1
            have g2' : decide (x.until_ ≤ t) = false := decide_eq_false g2
            rw [hz.out]
            have Hr := Lib.hid hr
            have hlen : l.length ≤ 9223372036854775807 := hm
            have cV : Hid (∀ W, Below w.heap.size w W → Calls Try.prog 24 #[.slice A l.length c, .int .i64 x.speaker, .int .i64 x.begun, .int .i64 x.lang, .int .i64 t, .int .i64 kn] W fun e w' => e = .returned (.tuple #[.int .i64 (verd l (askOf x t kn)).1, .int .i64 (verd l (askOf x t kn)).2, .int .i64 0]) ∧ Below W.heap.size W w') := fun W hW => by
              have h := Verdict_any A c l (askOf x t kn) W (Hr.out.ext hW) hlen
              unfold VerdPost at h
              rw [e1, e2] at h
              exact h
            generalize hvv : verd l (askOf x t kn) = vv at *
            clear e1 e2 hao g1 g2 hvv hchk hxo hr hz
            go_enter Try.func31, Try.ntmps31
            go_wp2_with fail
            refine cC.out.mono ?_
            rintro e w1 ⟨rfl, hb1⟩
            obtain ⟨d0, d1, d2, d3, d4⟩ := Hc.out w1 hb1
            have hbw : b < w1.heap.size := Nat.lt_of_lt_of_le hb hb1.size
            have g0 := fun p => cell_ext (w := w1) (a := ⟨b, off + k * 5, none⟩) hbw d0 p
            have g1 := fun p => cell_ext (w := w1) (a := ⟨b, off + k * 5 + 1, none⟩) hbw d1 p
            have g2 := fun p => cell_ext (w := w1) (a := ⟨b, off + k * 5 + 2, none⟩) hbw d2 p
            have g3 := fun p => cell_ext (w := w1) (a := ⟨b, off + k * 5 + 3, none⟩) hbw d3 p
            have g4 := fun p => cell_ext (w := w1) (a := ⟨b, off + k * 5 + 4, none⟩) hbw d4 p
            have cV2 := Lib.hid (fun p : ExtBy w1 => cV.out p.to (ext_trans hb1 p.ext))
            clear Hc cC cV
            go_wp2_with fail
            clear d0 d1 d2 d3 d4
            refine wp_region_ext (by kernel_rfl) (by kernel_rfl) ?_
            repeat (go_big_quiet_step ((go_at_call 24; exact Calls.ext_of (cV2.out _))))
            refine wpQuiet_nil ?_
            intro _ hw'
            obtain ⟨p, rfl⟩ := hw'
            have hbp := ext_trans hb1 p.ext
            clear g0 g1 g2 g3 g4 cV2
            cases h5 : (vv.1 != 0)
            · have H5 := Lib.hid h5
              go_wp2_with fail
              go_ret2
              exact ⟨by rw [H5.out]; rfl, hbp⟩
            · have H5 := Lib.hid h5
              go_wp2_with fail
              go_ret2
              exact ⟨by rw [H5.out]; rfl, hbp⟩
  · have HB : Hid (brkR l s kn i t no = false) := by show _ = _; unfold brkR; rw [decide_eq_false hae]; rfl
    rw [HB.out]
    have h1 : (audE l s kn != 0) = true := by simpa using hae
    generalize audE l s kn = ae at *
    clear hae HB
    go_enter Try.func31, Try.ntmps31
    go_wp2_with fail
    refine cC.out.mono ?_
    rintro e w1 ⟨rfl, hb1⟩
    go_wp2_with fail
    go_ret2
    exact ⟨rfl, hb1⟩
end Go.Proofs.Ytmindojbkedmlaa
