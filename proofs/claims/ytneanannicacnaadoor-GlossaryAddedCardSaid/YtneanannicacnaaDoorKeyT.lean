/- The map from what terms are about to the last of them: how its keys and elements read. -/
import Derived.Test.YtneanannicacnaaDoorStand
namespace Go.Proofs.YtneanannicacnaaDoor
open Go.RowKit Go.Han
set_option maxRecDepth 100000

theorem laidK : laidOutB Tryd.prog = true := by kernel_rfl
theorem keyed_gkey : Maps.Keyed Tryd.prog 96 := Maps.Keyed.of_law (deep_law_laid laidK (m := 2) (by omega) (of_decide_eq_true (by kernel_rfl)) (by kernel_rfl) (by kernel_rfl))
theorem key_und : ∃ fs : Array Field, Tryd.prog.underlying 96 = some (.struct fs) ∧ fs.toList.map (fun f => (f.name, f.type, f.offset)) = [("lang", 3, 0), ("source", 9, 1)] ∧ Tryd.prog.cellsOf 96 = 2 ∧ Tryd.prog.keyType 96 = true := ⟨_, Tryd.underlying96, by kernel_rfl, by kernel_rfl, by kernel_rfl⟩
theorem key_cells1 : Tryd.prog.cellsOf 3 = 1 := by kernel_rfl
theorem key_cells2 : Tryd.prog.cellsOf 9 = 1 := by kernel_rfl
def keyLit (k : GKey) : Lit := .string (keyBytes [.int .i64 k.lang, .string k.src.data.toList])
def keyVal (k : GKey) : Value := .agg #[.int .i64 k.lang, .string k.src]
def keyGood (k : GKey) : Prop := (Lit.int .i64 k.lang).wf = true ∧ k.src.size ≤ maxLen
theorem lits_of (n : Nat) (k : GKey) (h : keyGood k) : Tryd.prog.keyLits (n + 2) 96 [.int .i64 k.lang, .string k.src] = some [.int .i64 k.lang, .string k.src.data.toList] := by
  obtain ⟨fs, hu, hf, hc, hk⟩ := key_und
  obtain ⟨h1, h2⟩ := h
  unfold Program.keyLits
  rw [hu]
  have hfs : ∃ f0 f1, fs.toList = [f0, f1] ∧ f0.name = "lang" ∧ f0.type = 3 ∧ f0.offset = 0 ∧ f1.name = "source" ∧ f1.type = 9 ∧ f1.offset = 1 := by
    match hl : fs.toList with
    | [f0, f1] =>
      rw [hl] at hf
      simp at hf
      exact ⟨f0, f1, rfl, hf.1.1, hf.1.2.1, hf.1.2.2, hf.2.1, hf.2.2.1, hf.2.2.2⟩
    | [] => rw [hl] at hf; simp at hf
    | [_] => rw [hl] at hf; simp at hf
    | _ :: _ :: _ :: _ => rw [hl] at hf; simp at hf
  obtain ⟨f0, f1, hl, n0, t0, o0, n1, t1, o1⟩ := hfs
  have hall : fs.all (fun f => f.name != "_") = true := by
    rw [← Array.all_toList, hl]
    simp [n0, n1]
  simp only [hc, hall, List.length_cons, List.length_nil, and_self, if_true, hl, List.mapM_cons, List.mapM_nil, t0, o0, t1, o1, key_cells1, key_cells2]
  have e0 : Tryd.prog.keyLits (n + 1) 3 ((([.int .i64 k.lang, .string k.src] : List Value).drop 0).take 1) = some [.int .i64 k.lang] := by
    simp [Program.keyLits, Tryd.underlying3, h1]
  have e1 : Tryd.prog.keyLits (n + 1) 9 ((([.int .i64 k.lang, .string k.src] : List Value).drop 1).take 1) = some [.string k.src.data.toList] := by
    simp [Program.keyLits, Tryd.underlying9, h2]
  rw [e0, e1]
  rfl
theorem key_of (k : GKey) (h : keyGood k) : keyOf Tryd.prog 96 (keyVal k) = some (keyLit k) := by
  obtain ⟨fs, hu, hf, hc, hk⟩ := key_und
  have hfm : (keyVal k).formed Tryd.prog 96 = true := by
    unfold keyVal
    simp [Value.formed, hu, hc]
  unfold keyOf
  rw [hu]
  simp only [hk, hfm, Bool.and_self, if_true]
  have e := lits_of (Tryd.prog.types.size - 1) k h
  have hsz : Tryd.prog.types.size - 1 + 2 = Tryd.prog.types.size + 1 := by
    have : 0 < Tryd.prog.types.size := of_decide_eq_true (by kernel_rfl)
    omega
  rw [hsz] at e
  show ((Tryd.prog.keyLits (Tryd.prog.types.size + 1) 96 [.int .i64 k.lang, .string k.src]).map fun ls => Lit.string (keyBytes ls)) = _
  rw [e]
  rfl
theorem key_inv (v : Value) (l : Lit) (h : keyOf Tryd.prog 96 v = some l) : ∃ k, keyGood k ∧ v = keyVal k ∧ l = keyLit k := by
  obtain ⟨fs, hu, hf, hc, hk⟩ := key_und
  have h0 := h
  unfold keyOf at h
  rw [hu] at h
  simp only at h
  split at h
  · rename_i hb
    simp only [Bool.and_eq_true] at hb
    obtain ⟨_, hfm⟩ := hb
    have hag : ∃ cs : Array Value, v = .agg cs ∧ cs.size = 2 := by
      unfold Value.formed at hfm
      rw [hu] at hfm
      cases v <;> simp at hfm
      rename_i cs
      exact ⟨cs, rfl, by rw [hfm, hc]⟩
    obtain ⟨cs, rfl, hsz⟩ := hag
    have hl2 : ∃ a b, cs.toList = [a, b] := by
      match hcl : cs.toList with
      | [a, b] => exact ⟨a, b, rfl⟩
      | [] => have := congrArg List.length hcl; rw [Array.length_toList, hsz] at this; simp at this
      | [_] => have := congrArg List.length hcl; rw [Array.length_toList, hsz] at this; simp at this
      | _ :: _ :: _ :: _ => have := congrArg List.length hcl; rw [Array.length_toList, hsz] at this; simp at this
    obtain ⟨a, b, hab⟩ := hl2
    cases hkl : Tryd.prog.keyLits (Tryd.prog.types.size + 1) 96 (Value.agg cs).cells.toList with
    | none => rw [hkl] at h; cases h
    | some ls =>
      have hcl : (Value.agg cs).cells.toList = [a, b] := by simpa [Value.cells] using hab
      rw [hcl] at hkl
      have hk2 := hkl
      unfold Program.keyLits at hk2
      rw [hu] at hk2
      have hfs : ∃ f0 f1, fs.toList = [f0, f1] ∧ f0.type = 3 ∧ f0.offset = 0 ∧ f1.type = 9 ∧ f1.offset = 1 := by
        match hl : fs.toList with
        | [f0, f1] =>
          rw [hl] at hf
          simp at hf
          exact ⟨f0, f1, rfl, hf.1.2.1, hf.1.2.2, hf.2.2.1, hf.2.2.2⟩
        | [] => rw [hl] at hf; simp at hf
        | [_] => rw [hl] at hf; simp at hf
        | _ :: _ :: _ :: _ => rw [hl] at hf; simp at hf
      obtain ⟨f0, f1, hl, t0, o0, t1, o1⟩ := hfs
      simp only [hl, List.mapM_cons, List.mapM_nil, t0, o0, t1, o1, key_cells1, key_cells2] at hk2
      split at hk2
      · cases e0 : Tryd.prog.keyLits Tryd.prog.types.size 3 (([a, b].drop 0).take 1) with
        | none => rw [e0] at hk2; cases hk2
        | some l0 =>
          cases e1 : Tryd.prog.keyLits Tryd.prog.types.size 9 (([a, b].drop 1).take 1) with
          | none => rw [e0, e1] at hk2; cases hk2
          | some l1 =>
            obtain ⟨n, hn1, hn2⟩ := keyLits_int' Tryd.underlying3 e0
            obtain ⟨s, hs1, hs2⟩ := keyLits_string' Tryd.underlying9 e1
            simp at hn1 hs1
            subst hn1 hs1
            have hgood : keyGood ⟨n, s⟩ := by
              constructor
              · have := keyLits_wf e0
                rw [hn2] at this
                have h7 := e0
                have hd : ∃ d, Tryd.prog.types.size = d + 1 := ⟨Tryd.prog.types.size - 1, by have : 0 < Tryd.prog.types.size := of_decide_eq_true (by kernel_rfl); omega⟩
                obtain ⟨d, hd⟩ := hd
                rw [hd] at h7
                unfold Program.keyLits at h7
                rw [Tryd.underlying3] at h7
                simp at h7
                exact h7.1
              · have h7 := e1
                have hd : ∃ d, Tryd.prog.types.size = d + 1 := ⟨Tryd.prog.types.size - 1, by have : 0 < Tryd.prog.types.size := of_decide_eq_true (by kernel_rfl); omega⟩
                obtain ⟨d, hd⟩ := hd
                rw [hd] at h7
                unfold Program.keyLits at h7
                rw [Tryd.underlying9] at h7
                simp at h7
                exact h7.1
            have hv : Value.agg cs = keyVal ⟨n, s⟩ := by
              unfold keyVal
              congr 1
              apply Array.ext'
              simpa using hab
            refine ⟨⟨n, s⟩, hgood, hv, ?_⟩
            rw [hv, key_of _ hgood] at h0
            exact (Option.some.inj h0).symm
      · cases hk2
  · cases h
theorem key_inj (x y : GKey) (hx : keyGood x) (hy : keyGood y) (h : keyLit x = keyLit y) : x = y := by
  unfold keyLit at h
  have e := keyLits_inj (lits_of 0 x hx) (lits_of 0 y hy) (by simpa using h)
  obtain ⟨a, s⟩ := x
  obtain ⟨b, t⟩ := y
  simp only [List.cons.injEq, Lit.int.injEq, true_and, Lit.string.injEq, and_true] at e
  rw [e.1, WideShapes.bytes_inj e.2]
def keyShape : KeyShape Tryd.prog 96 GKey := ⟨keyVal, keyLit, keyGood, key_of, key_inv, key_inj⟩

/-- A term, as its cells show it. -/
structure TermV where
  no : Int
  at_ : Int
  known : Int
  lang : Int
  sA : Option Addr
  sn : Nat
  sc : Nat
  tA : Option Addr
  tn : Nat
  tc : Nat
  cat : ByteArray
  gone : Bool
def TermV.val (x : TermV) : Value := .agg #[.int .i64 x.no, .int .i64 x.at_, .int .i64 x.known, .int .i64 x.lang, .slice x.sA x.sn x.sc, .slice x.tA x.tn x.tc, .string x.cat, .bool x.gone]
def Term.shown (x : Term) : TermV := ⟨x.no, x.at_, x.known, x.lang, x.src.addr, x.src.xs.length, x.src.cap, x.tgt.addr, x.tgt.xs.length, x.tgt.cap, x.cat, x.gone⟩
theorem termV_inj (x y : TermV) (h : x.val = y.val) : x = y := by
  obtain ⟨a, b, c, d, e, f, g, h1, i, j, k, l⟩ := x
  obtain ⟨a', b', c', d', e', f', g', h1', i', j', k', l'⟩ := y
  simp [TermV.val] at h
  obtain ⟨rfl, rfl, rfl, rfl, ⟨rfl, rfl, rfl⟩, ⟨rfl, rfl, rfl⟩, rfl, rfl⟩ := h
  rfl
def termShape : ElemShape TermV := ⟨TermV.val, termV_inj⟩
def zeroTV : TermV := ⟨0, 0, 0, 0, none, 0, 0, none, 0, 0, ⟨#[]⟩, false⟩
theorem zero_termV (w : World) : (zeroValue 51).run Tryd.prog w = .ok (termShape.val zeroTV) w := by kernel_rfl
theorem aboutK_good {x : Term} (h : x.ok = true) : keyGood (aboutK x) := by
  have h1 := joined_length h
  unfold Term.ok langB at h
  simp only [Bool.and_eq_true, decide_eq_true_eq] at h
  have hl := h.1.1.2
  refine ⟨?_, ?_⟩
  · show (Lit.int .i64 x.lang).wf = true
    simp [Lit.wf, IntKind.min, IntKind.max, IntKind.signed, IntKind.bits]; omega
  · show (ByteArray.mk (joined x.src.xs).toArray).size ≤ maxLen
    rw [Lib.size_eq]
    unfold maxLen
    simp; omega
end Go.Proofs.YtneanannicacnaaDoor
