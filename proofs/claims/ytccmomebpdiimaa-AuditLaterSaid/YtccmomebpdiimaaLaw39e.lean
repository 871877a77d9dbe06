/- Laws 39, the plain part of AuditLater: only what was known counts; one more sight that breaks nothing changes nothing. No program in sight. -/
import Derived.Test.YtccmomebpdiimaaLaw39d
namespace Go.Proofs.Ytccmomebpdiimaa
open Go.RowKit Go.Han
def keepB (kn : Int) (h : House) : Bool := decide (h.known ≤ kn)
def keepL (l : List House) (kn : Int) : List House := l.filter (keepB kn)
theorem bound_keep (l : List House) (k : Int) (a : Asked) : bound (keepL l a.known) k a = bound l k a := by
  unfold bound keepL
  rw [List.filter_filter]
  refine List.filter_congr fun h _ => ?_
  unfold bindB keepB
  cases decide (h.kind = k) <;> cases decide (h.known ≤ a.known) <;> cases covB h a <;> rfl
theorem holds_keep (l : List House) (k : Int) (a : Asked) : holds (keepL l a.known) k a = holds l k a := by
  unfold holds
  rw [bound_keep]
  refine List.filter_congr fun h _ => ?_
  unfold holdB
  rw [bound_keep, bound_keep]
theorem verd_keep (l : List House) (a : Asked) : verd (keepL l a.known) a = verd l a := by
  unfold verd
  rw [holds_keep, holds_keep, holds_keep]
theorem forb_keep (l : List House) (kn : Int) (x : Sight) (t : Int) : forb (keepL l kn) kn x t = forb l kn x t := by
  unfold forb
  have h := verd_keep l (askOf x t kn)
  rw [show (askOf x t kn).known = kn from rfl] at h
  rw [h]
theorem first_keep {l : List House} {s : List Sight} {kn : Int} {i : Nat} {t n : Int} (h : FirstV (keepL l kn) s kn i t n) : FirstV l s kn i t n := by
  obtain ⟨⟨x, hx, hf⟩, hl⟩ := h
  exact ⟨⟨x, hx, by rw [← forb_keep]; exact hf⟩, fun j y u hy hu => hl j y u hy (by rw [forb_keep]; exact hu)⟩
theorem audE_keep {l : List House} {s : List Sight} {kn : Int} (h : audE l s kn = 0) : audE (keepL l kn) s kn = 0 := by
  obtain ⟨h0, h1, h2, k0, k1⟩ := audE_ok h
  obtain ⟨g0, g1⟩ := hchk_ok h0
  exact audE_mk (hchk_mk (Nat.le_trans (List.length_filter_le _ _) g0) (hasc_filter _ g1)) h1 h2 k0 k1
theorem findR_keep {l : List House} {s : List Sight} {kn : Int} (h : audE l s kn = 0) : findR (keepL l kn) s kn = findR l s kn := by
  rcases findR_cases (audE_keep h) with ⟨hR, hN⟩ | ⟨i, t, n, hR, hV⟩
  · rcases findR_cases h with ⟨gR, _⟩ | ⟨i, t, n, _, gV⟩
    · rw [hR, gR]
    · obtain ⟨x, hx, hf⟩ := gV.hit
      have := hN x (List.mem_of_getElem? hx) t
      rw [forb_keep, hf] at this; cases this
  · rcases findR_cases h with ⟨_, gN⟩ | ⟨j, u, m, gR, gV⟩
    · exact ((first_keep hV).none gN).elim
    · obtain ⟨rfl, rfl, rfl⟩ := (first_keep hV).uniq gV
      rw [hR, gR]
theorem audE_snoc {l : List House} {s : List Sight} {kn : Int} {x : Sight} (h : audE l s kn = 0) (hx : x.Ok) (hs : s.length < 20) : audE l (s ++ [x]) kn = 0 := by
  obtain ⟨h0, h1, h2, k0, k1⟩ := audE_ok h
  refine audE_mk h0 (by simp; omega) (fun y hy => ?_) k0 k1
  rcases List.mem_append.1 hy with hy | hy
  · exact h2 y hy
  · simp at hy; subst hy; exact hx
theorem audE_one {l : List House} {s : List Sight} {kn : Int} {x : Sight} (h : audE l s kn = 0) (hx : x.Ok) : audE l [x] kn = 0 := by
  obtain ⟨h0, h1, h2, k0, k1⟩ := audE_ok h
  exact audE_mk h0 (by simp) (fun y hy => by simp at hy; subst hy; exact hx) k0 k1
theorem findR_snoc {l : List House} {s : List Sight} {kn : Int} {x : Sight} (h : audE l s kn = 0) (hx : x.Ok) (hs : s.length < 20) (hn : (findR l [x] kn).2.2.2 = false) : findR l (s ++ [x]) kn = findR l s kn := by
  have hN : ∀ u, forb l kn x u = none := by
    rcases findR_cases (audE_one h hx) with ⟨_, gN⟩ | ⟨j, u, m, gR, _⟩
    · exact gN x (by simp)
    · rw [gR] at hn; cases hn
  have back : ∀ (j : Nat) (y : Sight) (u : Int), (s ++ [x])[j]? = some y → (forb l kn y u).isSome = true → s[j]? = some y := by
    intro j y u hy hu
    by_cases hj : j < s.length
    · rwa [List.getElem?_append_left hj] at hy
    · rw [List.getElem?_append_right (by omega)] at hy
      have := List.mem_of_getElem? hy
      simp at this
      subst this
      rw [hN u] at hu; cases hu
  rcases findR_cases h with ⟨hR, gN⟩ | ⟨i, t, n, hR, hV⟩
  · rcases findR_cases (audE_snoc h hx hs) with ⟨gR, _⟩ | ⟨j, u, m, _, gV⟩
    · rw [hR, gR]
    · obtain ⟨y, hy, hf⟩ := gV.hit
      have h1 := back j y u hy (by rw [hf]; rfl)
      rw [gN y (List.mem_of_getElem? h1) u] at hf; cases hf
  · have hV' : FirstV l (s ++ [x]) kn i t n := by
      obtain ⟨⟨y, hy, hf⟩, hl⟩ := hV
      obtain ⟨hi, _⟩ := List.getElem?_eq_some_iff.1 hy
      exact ⟨⟨y, by rw [List.getElem?_append_left hi]; exact hy, hf⟩, fun j z u hz hu => hl j z u (back j z u hz hu) hu⟩
    rcases findR_cases (audE_snoc h hx hs) with ⟨_, gN⟩ | ⟨j, u, m, gR, gV⟩
    · exact (hV'.none gN).elim
    · obtain ⟨rfl, rfl, rfl⟩ := gV.uniq hV'
      rw [hR, gR]
end Go.Proofs.Ytccmomebpdiimaa
