/- Texts of this claim, one after the other: TagK, R28e. -/
import Derived.Test.YthojaplnimoacaaGreatDoorM15
import Derived.Test.YthojaplnimoacaaGreatDoorM17
import Derived.Test.YthojaplnimoacaaGreatDoorM12
import Derived.Test.YthojaplnimoacaaGreatDoorM9
/- Package tags: Items. -/
namespace Go.Proofs.YthojaplnimoacaaGreatDoor
open Go.RowKit Go.Han
attribute [local irreducible] wpStill wpQuiet
set_option maxRecDepth 100000

def ItemsPost (g : Gram) (l : List Term) (lang : Int) (ws : List ByteArray) (t u : Int) (w : World) (e : Ending) (w' : World) : Prop :=
  Below w.heap.size w w' ∧ ((tagsE g l lang ws t u ≠ 0 ∧ e = .returned (.tuple #[.slice none 0 0, .int .i64 (tagsE g l lang ws t u)])) ∨
    (tagsE g l lang ws t u = 0 ∧ ∃ its : SlS ItemG, e = .returned (.tuple #[.slice its.addr its.xs.length its.cap, .int .i64 0]) ∧ its.xs.map ItemG.c = tagsC g (standT l lang t u) ws ∧ ItemsAt w' its))
theorem ItSt.boxed {w V V1 : World} {bi tb bw n : Nat} {T : TagG} {S : List Term} {v : Value} {L : List ItemG} (h : ItSt w bi tb bw n T S v L V) (hon : Only (fun k => v.ownBlock = some k) V V1) : Boxed V1 bi 27 v := by
  refine (hon.block bi h.box.lt fun he => ?_).trans h.box
  obtain ⟨cur, hc⟩ := OwnL.kind h.own he
  have hb : V.heap[bi]? = _ := h.box
  rw [hb] at hc
  simp only [Option.some.injEq, Obj.cells.injEq] at hc
  exact absurd hc.2.1 (by decide)
theorem app_at {w V V2 : World} {bi tb bw n : Nat} {T : TagG} {S : List Term} {v : Value} {L : List ItemG} {gf : Nat} {lb : Array Value} {xs : List ItemC} (h : ItSt w bi tb bw n T S v L V) (hb : Below V.heap.size V V2)
    (heg : ∀ args W, (callFunc gf args).run Tryz.prog W = .ok (.enter gf args) W)
    (hit : ∀ R : Nat → Prop, (∀ k, k < w.heap.size → R k) → (∀ k, V.heap.size ≤ k → k < V2.heap.size → R k) → R T.m → IterX Tryz.prog gf lb (EncI w.heap.size) R xs V2) (hlen : L.length + xs.length ≤ 1000000) :
    Calls Tryz.prog 78 #[v, .func (.func gf) #[] lb] V2 (AppPost w.heap.size v L xs V2) := by
  have h2 := h.ext hb
  refine appendSeq_item gf lb w.heap.size v L (fun k => k < V2.heap.size ∧ v.ownBlock ≠ some k) xs V2 (hit _ (fun k hk => ⟨Nat.lt_of_lt_of_le hk h2.d.size, fun he => ?_⟩) (fun k h1 h3 => ⟨h3, fun he => ?_⟩) ⟨h2.map.lt, fun he => ?_⟩) heg h2.d.size (fun k hk => hk) h2.own h2.far hlen
  · have := (h.own.lt k he).1; omega
  · have := (h.own.lt k he).2; omega
  · obtain ⟨cur, hc⟩ := OwnL.kind h2.own he
    obtain ⟨es, c, hm⟩ := mapF_kind h2.map
    rw [hm] at hc; cases hc
theorem pieces_len (g : Gram) (hg : GramOk g) (S : List Term) (ws : List ByteArray) (i : Nat) (s : ByteArray) : ∀ p ∈ piecesC g S ws i s, p.length ≤ 512 := by
  have ht := fun m => termC_len g.cats.xs S ws i m
  have he : (entriesC g.entries.xs i s).length ≤ 512 := by
    unfold entriesC
    rw [List.length_map]
    exact Nat.le_trans (List.length_filter_le _ _) hg.fewE
  have hu : (unkC g.cats.xs.length i s).length ≤ 32 := by
    unfold unkC
    rw [List.length_map, List.length_range]; exact hg.few
  intro p hp
  unfold piecesC at hp
  simp only [List.mem_cons, List.not_mem_nil, or_false] at hp
  rcases hp with rfl | rfl | rfl | rfl | rfl | rfl
  · have := ht 1; omega
  · exact he
  · split
    · omega
    · simp
  · have := ht 2; omega
  · have := ht 3; omega
  · have := ht 4; omega
theorem pieces_flat_len (g : Gram) (hg : GramOk g) (S : List Term) (ws : List ByteArray) (i : Nat) (s : ByteArray) (j : Nat) : ((piecesC g S ws i s).take j).flatten.length ≤ 512 * 6 := by
  have key : ∀ (l : List (List ItemC)), (∀ p ∈ l, p.length ≤ 512) → l.flatten.length ≤ 512 * l.length := by
    intro l
    induction l with
    | nil => intro _; simp
    | cons p l ih =>
      intro h
      rw [List.flatten_cons, List.length_append, List.length_cons]
      have h1 := ih fun q hq => h q (List.mem_cons_of_mem _ hq)
      have h2 := h p (List.mem_cons_self ..)
      omega
  have h1 := key ((piecesC g S ws i s).take j) fun p hp => pieces_len g hg S ws i s p (List.mem_of_mem_take hp)
  have h2 : ((piecesC g S ws i s).take j).length ≤ 6 := by rw [List.length_take]; unfold piecesC; simp; omega
  omega
theorem words_len (g : Gram) (hg : GramOk g) (S : List Term) (ws : List ByteArray) : ∀ (l : List ByteArray) (i : Nat), (wordsC g S ws i l).length ≤ 512 * 6 * l.length
  | [], _ => by simp [wordsC]
  | s :: l, i => by
    rw [wordsC, List.length_append, List.length_cons]
    have h1 := words_len g hg S ws l (i + 1)
    have h2 := pieces_flat_len g hg S ws i s 6
    rw [List.take_of_length_le (by unfold piecesC; simp), pieces_word] at h2
    omega
set_option maxHeartbeats 8000000 in
theorem Items_any (g : Gram) (A : Option Addr) (cp : Nat) (l : List Term) (lang : Int) (s : StrS) (t u : Int) (w : World) (hT : TabsG w) (hg : g.lies w) (hs : g.short) (hr : TermsAt w A l) (hm : l.length ≤ 9223372036854775807) (hws : s.lies w) :
    Calls Tryz.prog 32 #[.agg #[.string g.name, .slice g.cats.addr g.cats.xs.length g.cats.cap, .string g.start, .int .i64 g.startNo, .slice g.entries.addr g.entries.xs.length g.entries.cap, .slice g.rules.addr g.rules.xs.length g.rules.cap], .slice A l.length cp, .int .i64 lang, .slice s.addr s.xs.length s.cap, .int .i64 t, .int .i64 u] w (ItemsPost g l lang s.xs t u w) := by
  obtain ⟨i0, z0, hi0, hz0, hz1, hz2, hzs⟩ := parts_item
  have hmm := @run_makeMap Tryz.prog
  obtain ⟨W0, hW0⟩ : ∃ W0, ((w.alloc (.cells #[.string g.name, .slice g.cats.addr g.cats.xs.length g.cats.cap, .string g.start, .int .i64 g.startNo, .slice g.entries.addr g.entries.xs.length g.entries.cap, .slice g.rules.addr g.rules.xs.length g.rules.cap] 26)).alloc (.cells #[.slice s.addr s.xs.length s.cap] 22)).alloc (.cells #[.slice none 0 0] 27) = W0 := ⟨_, rfl⟩
  have hB0 : Below w.heap.size w W0 := by rw [← hW0]; exact ext_alloc (ext_alloc (ext_alloc (Below.refl _ _) _) _) _
  have hg0 : W0.heap[w.heap.size]? = some (.cells #[.string g.name, .slice g.cats.addr g.cats.xs.length g.cats.cap, .string g.start, .int .i64 g.startNo, .slice g.entries.addr g.entries.xs.length g.entries.cap, .slice g.rules.addr g.rules.xs.length g.rules.cap] 26 (0, 0)) := by rw [← hW0]; exact (Below.heap_alloc _ _ _ (by simp; omega)).trans ((Below.heap_alloc _ _ _ (by simp)).trans (World.alloc_heap_new _ _))
  have hw0 : W0.heap[w.heap.size + 1]? = some (.cells #[.slice s.addr s.xs.length s.cap] 22 (0, 0)) := by rw [← hW0]; exact (Below.heap_alloc _ _ _ (by simp)).trans (galloc_at _ _ _ (by simp))
  have hb0 : Boxed W0 (w.heap.size + 1 + 1) 27 (.slice none 0 0) := by rw [← hW0]; exact galloc_at _ _ _ (by simp)
  have hz0' : W0.heap.size = w.heap.size + 3 := by rw [← hW0]; simp
  have HE : Hid (tagsE g l lang s.xs t u = if checkG g ≠ 0 then checkG g else if standE l lang t u ≠ 0 then standE l lang t u else if 16 < s.xs.length then 2 else if s.xs.all wordB = false then 280 else if 1024 < (tagsC g (standT l lang t u) s.xs).length then 2 else 0) := rfl
  have c1 := Lib.hid (check26_any_p g W0 (hT.ext hB0) (hg.ext hB0) hs)
  have c2 := Lib.hid (fun V (hV : Below W0.heap.size W0 V) => Standing_any A cp l lang t u V (hT.ext (ext_trans hB0 hV)).u (hr.ext (ext_trans hB0 hV)) hm)
  have HT := Lib.hid hT
  have Hg := Lib.hid hg
  have Hr := Lib.hid hr
  have Hws := Lib.hid hws
  have Hg0 := Lib.hid hg0
  have Hw0 := Lib.hid hw0
  have Hb0 := Lib.hid hb0
  have Hz0 := Lib.hid hz0'
  have g0 := gblk hg0 0
  have g1 := gblk hg0 1
  have g2 := gblk hg0 2
  have g3 := gblk hg0 3
  have g4 := gblk hg0 4
  have g5 := gblk hg0 5
  clear hT hg hs hr hws hg0 hw0 hb0 hz0'
  go_enter Tryz.func32, Tryz.ntmps32
  go_wp2_with fail
  refine c1.out.mono ?_
  rintro e w1 ⟨rfl, hb1⟩
  clear c1 g0 g1 g2 g3 g4 g5 hW0
  have hbx := (hb1.block _ (lt_block Hb0.out)).trans Hb0.out
  have k0 := cell_one hbx
  have f0 := frozen_one hbx 0
  have hB1 := ext_trans hB0 hb1
  by_cases hc : checkG g ≠ 0
  · have HF : Hid (tagsE g l lang s.xs t u = checkG g) := by show _ = _; rw [HE.out, if_pos hc]
    have q : (checkG g != 0) = true := by simpa using hc
    have Hc := Lib.hid hc
    generalize checkG g = r at *
    clear hc HE c2 hbx
    go_wp2_with fail
    exact bodyPost_ret (v := .tuple #[.slice none 0 0, .int .i64 r]) (by simp [results, Tryz.results32, go_sem, k0]) rfl ⟨hB1.setCell (p := ⟨w.heap.size + 1 + 1, 0, none⟩) (by simp; omega) _, .inl ⟨by rw [HF.out]; exact Hc.out, by rw [HF.out]⟩⟩
  have hc := Decidable.not_not.1 hc
  have HC := Lib.hid hc
  have HE2 : Hid (tagsE g l lang s.xs t u = if standE l lang t u ≠ 0 then standE l lang t u else if 16 < s.xs.length then 2 else if s.xs.all wordB = false then 280 else if 1024 < (tagsC g (standT l lang t u) s.xs).length then 2 else 0) := by show _ = _; rw [HE.out, if_neg (fun h => h hc)]
  rw [hc]
  clear hc HE
  go_wp2_with fail
  refine (c2.out w1 hb1).mono ?_
  rintro e w2 ⟨hb2, ⟨hne, rfl⟩ | ⟨hz, SA, Sc, rfl, hS, hSn⟩⟩
  · have HF : Hid (tagsE g l lang s.xs t u = standE l lang t u) := by show _ = _; rw [HE2.out, if_pos hne]
    have q : (standE l lang t u != 0) = true := by simpa using hne
    have Hc := Lib.hid hne
    have hbx2 := (hb2.block _ (lt_block hbx)).trans hbx
    clear k0 f0
    have k0 := cell_one hbx2
    have f0 := frozen_one hbx2 0
    have hB2 := ext_trans hB1 hb2
    generalize standE l lang t u = r at *
    clear hne HE2 c2 hbx hbx2
    go_wp2_with fail
    exact bodyPost_ret (v := .tuple #[.slice none 0 0, .int .i64 r]) (by simp [results, Tryz.results32, go_sem, k0]) rfl ⟨hB2.setCell (p := ⟨w.heap.size + 1 + 1, 0, none⟩) (by simp; omega) _, .inl ⟨by rw [HF.out]; exact Hc.out, by rw [HF.out]⟩⟩
  have hB2 := ext_trans hB1 hb2
  have hbx2 := (hb2.block _ (lt_block hbx)).trans hbx
  have hwx2 := (hb2.block _ (lt_block ((hb1.block _ (lt_block Hw0.out)).trans Hw0.out))).trans ((hb1.block _ (lt_block Hw0.out)).trans Hw0.out)
  have hgx2 := (hb2.block _ (lt_block ((hb1.block _ (lt_block Hg0.out)).trans Hg0.out))).trans ((hb1.block _ (lt_block Hg0.out)).trans Hg0.out)
  clear k0 f0 hbx
  have k0 := cell_one hbx2
  have f0 := frozen_one hbx2 0
  have kw := cell_one hwx2
  have HZ := Lib.hid hz
  have HE3 : Hid (tagsE g l lang s.xs t u = if 16 < s.xs.length then 2 else if s.xs.all wordB = false then 280 else if 1024 < (tagsC g (standT l lang t u) s.xs).length then 2 else 0) := by show _ = _; rw [HE2.out, if_neg (fun h => h hz)]
  have hlt0 := standE_zero hz
  have hu := standT_one hlt0.1 lang t u
  have hok := standT_ok hlt0.1 lang t u
  have hSl : ∀ x ∈ standT l lang t u, x.lies w := fun x hx => Hr.out.lie x (List.mem_filter.1 hx).1
  have hSlen : (standT l lang t u).length ≤ 1024 := Nat.le_trans (List.length_filter_le _ _) (checkT_zero hlt0.1).1
  have Hu := Lib.hid hu
  have Hok := Lib.hid hok
  have HSl := Lib.hid hSl
  clear HE2 c2 hlt0 hu hok hSl
  clear hz
  generalize hSS : standT l lang t u = S at *
  have HSS := Lib.hid hSS
  clear hSS
  by_cases hlen : 16 < s.xs.length
  · have HF : Hid (tagsE g l lang s.xs t u = 2) := by show _ = _; rw [HE3.out, if_pos hlen]
    clear HE3 hS hSn hbx2 hwx2 hgx2
    go_wp2_with fail
    exact bodyPost_ret (v := .tuple #[.slice none 0 0, .int .i64 2]) (by simp [results, Tryz.results32, go_sem, k0]) rfl ⟨hB2.setCell (p := ⟨w.heap.size + 1 + 1, 0, none⟩) (by simp; omega) _, .inl ⟨by rw [HF.out]; decide, by rw [HF.out]⟩⟩
  have HE4 : Hid (tagsE g l lang s.xs t u = if s.xs.all wordB = false then 280 else if 1024 < (tagsC g S s.xs).length then 2 else 0) := by show _ = _; rw [HE3.out, if_neg hlen]
  have HLen : Hid (s.xs.length ≤ 16) := by show _ ≤ _; omega
  have g0 := gblk hgx2 0
  have g1 := gblk hgx2 1
  have g2 := gblk hgx2 2
  have g3 := gblk hgx2 3
  have g4 := gblk hgx2 4
  have g5 := gblk hgx2 5
  have hsz : w.heap.size + 3 ≤ w2.heap.size := by have := hb1.size; have := hb2.size; have := Hz0.out; omega
  have l1 : w.heap.size + 1 < w2.heap.size := by omega
  have n1 : w.heap.size + 1 ≠ w2.heap.size := by omega
  clear HE3
  go_wp2_with fail
  clear g0 g1 g2 g3 g4 g5 k0 f0 kw
  obtain ⟨T, hT⟩ : ∃ T : TagG, (⟨g, w2.heap.size, s⟩ : TagG) = T := ⟨_, rfl⟩
  obtain ⟨W3, hW3⟩ : ∃ W3, (w2.alloc (.map #[] 0)).alloc (.cells #[.string g.name, .slice g.cats.addr g.cats.xs.length g.cats.cap, .string g.start, .int .i64 g.startNo, .slice g.entries.addr g.entries.xs.length g.entries.cap, .slice g.rules.addr g.rules.xs.length g.rules.cap, .map (some w2.heap.size), .slice s.addr s.xs.length s.cap] 115) = W3 := ⟨_, rfl⟩
  have hB3 : Below w2.heap.size w2 W3 := by rw [← hW3]; exact ext_alloc (ext_alloc (Below.refl _ _) _) _
  have ht3 : W3.heap[w2.heap.size + 1]? = some (.cells #[.string g.name, .slice g.cats.addr g.cats.xs.length g.cats.cap, .string g.start, .int .i64 g.startNo, .slice g.entries.addr g.entries.xs.length g.entries.cap, .slice g.rules.addr g.rules.xs.length g.rules.cap, .map (some w2.heap.size), .slice s.addr s.xs.length s.cap] 115 (0, 0)) := by rw [← hW3]; exact galloc_at _ _ _ (by simp)
  have hm3 : TermsM W3 w2.heap.size 0 [] := by
    rw [← hW3]
    have h1 := MapF.made (P := Tryz.prog) w2 strK termShape
    exact (h1.of_block (Below.heap_alloc _ _ _ (by simp))).congr fun _ _ => rfl
  rw [hW3]
  clear hW3 l1 n1
  go_loopw [49] (fun iv wr => ∃ k : Nat, k ≤ S.length ∧ iv = .int .i64 k ∧ Below w2.heap.size w2 wr ∧ wr.heap[w2.heap.size + 1]? = some (.cells #[.string g.name, .slice g.cats.addr g.cats.xs.length g.cats.cap, .string g.start, .int .i64 g.startNo, .slice g.entries.addr g.entries.xs.length g.entries.cap, .slice g.rules.addr g.rules.xs.length g.rules.cap, .map (some w2.heap.size), .slice s.addr s.xs.length s.cap] 115 (0, 0)) ∧ TermsM wr w2.heap.size k (S.take k)) (fun iv _ => S.length - (intOf iv).toNat)
  case atStart => exact ⟨0, Nat.zero_le _, rfl, hB3, ht3, hm3⟩
  case round =>
    obtain ⟨k, hk, rfl, hB, ht, hmp⟩ := hrel
    by_cases hlt : k < S.length
    · obtain ⟨b, off, hA, hb, hcl⟩ := hS.at_ hlt
      obtain ⟨d0, d1, d2, d3, d4, d5, d6, d7⟩ := hcl k hlt wr hB
      have hmem : S[k] ∈ S := List.getElem_mem hlt
      have htk : S.take (k + 1) = S.take k ++ [S[k]] := List.take_succ_eq_append_getElem hlt
      have hyok := Hok.out _ hmem
      have hyl := HSl.out _ hmem
      have hklen : k < 1024 ∨ 1024 ≤ k := by omega
      rw [hA]
      clear hcl hmem hA
      generalize S[k] = y at *
      obtain ⟨w4, hw4⟩ : ∃ w4, wr.alloc (.cells #[.int .i64 y.no, .int .i64 y.at_, .int .i64 y.known, .int .i64 y.lang, .slice y.src.addr y.src.xs.length y.src.cap, .slice y.tgt.addr y.tgt.xs.length y.tgt.cap, .string y.cat, .bool y.gone] 66) = w4 := ⟨_, rfl⟩
      have hb4 : Below wr.heap.size wr w4 := by rw [← hw4]; exact ext_alloc (Below.refl _ _) _
      have hx4 : w4.heap[wr.heap.size]? = some (.cells #[.int .i64 y.no, .int .i64 y.at_, .int .i64 y.known, .int .i64 y.lang, .slice y.src.addr y.src.xs.length y.src.cap, .slice y.tgt.addr y.tgt.xs.length y.tgt.cap, .string y.cat, .bool y.gone] 66 (0, 0)) := by rw [← hw4]; exact World.alloc_heap_new _ _
      have hB4 := ext_trans hB hb4
      have ht4 := (hb4.block _ (lt_block ht)).trans ht
      have hm4 := hmp.ext hb4
      obtain ⟨s1, s2, s3⟩ := ok_src hyok
      have hkey : keySp y.src.xs = keySp y.src.xs := rfl
      have hkl := keySp_length s3 s2
      have cJ : Hid (∀ V, Below w4.heap.size w4 V → Calls Tryz.prog 68 #[.slice y.src.addr y.src.xs.length y.src.cap, .string ⟨#[32]⟩] V (fun e w' => e = .returned (.string (keySp y.src.xs)) ∧ Below V.heap.size V w')) := fun V hV =>
        joinSp_any y.src V (StrS.lies.ext hyl.1 (ext_trans (ext_trans (ext_trans hB2 hB) hb4) hV)) s1 s2 s3
      have HG : Hid (∀ V, Only (fun j => j = w2.heap.size) w4 V → V.cell? ⟨w2.heap.size + 1, 6, none⟩ = some (.map (some w2.heap.size)) ∧ V.cell? ⟨wr.heap.size, 0, none⟩ = some (.int .i64 y.no) ∧ V.cell? ⟨wr.heap.size, 1, none⟩ = some (.int .i64 y.at_) ∧ V.cell? ⟨wr.heap.size, 2, none⟩ = some (.int .i64 y.known) ∧ V.cell? ⟨wr.heap.size, 3, none⟩ = some (.int .i64 y.lang) ∧ V.cell? ⟨wr.heap.size, 4, none⟩ = some (.slice y.src.addr y.src.xs.length y.src.cap) ∧ V.cell? ⟨wr.heap.size, 5, none⟩ = some (.slice y.tgt.addr y.tgt.xs.length y.tgt.cap) ∧ V.cell? ⟨wr.heap.size, 6, none⟩ = some (.string y.cat) ∧ V.cell? ⟨wr.heap.size, 7, none⟩ = some (.bool y.gone)) := fun V hV => by
        have g1 := (hV.block _ (lt_block ht4) (by show ¬ _ = _; omega)).trans ht4
        have hlm := hmp.lt
        have g2 := (hV.block _ (lt_block hx4) (by show ¬ _ = _; omega)).trans hx4
        exact ⟨gblk g1 6, gblk g2 0, gblk g2 1, gblk g2 2, gblk g2 3, gblk g2 4, gblk g2 5, gblk g2 6, gblk g2 7⟩
      have HM4 := Lib.hid hm4
      have HT4 := Lib.hid ht4
      have HB4 := Lib.hid hB4
      have Htk := Lib.hid htk
      have hlw2 : w2.heap.size < w4.heap.size := hm4.lt
      have Hlw := Lib.hid hlw2
      clear hyok hyl hB ht hmp hx4 hB4 ht4 hm4 s1 s2 s3 htk hkey hb4 hlw2
      generalize hkk : keySp y.src.xs = key at *
      have Hkk := Lib.hid hkk
      clear hkk
      go_wp2_with fail
      clear hw4 d0 d1 d2 d3 d4 d5 d6 d7
      refine wpIn_wide (n := 0) |>.1 ?_
      apply wpIn_meetP (Phi := fun V => Hid (Below w2.heap.size w2 V ∧ V.heap[w2.heap.size + 1]? = some (.cells #[.string g.name, .slice g.cats.addr g.cats.xs.length g.cats.cap, .string g.start, .int .i64 g.startNo, .slice g.entries.addr g.entries.xs.length g.entries.cap, .slice g.rules.addr g.rules.xs.length g.rules.cap, .map (some w2.heap.size), .slice s.addr s.xs.length s.cap] 115 (0, 0)) ∧ TermsM V w2.heap.size (k + 1) (S.take (k + 1))))
      · refine wpIn_region_cls (fun V => Only (fun j => j = w2.heap.size) w4 V) (by kernel_rfl) ?_
        refine wpAnyC_take (i := 0) rfl (by kernel_rfl) (by kernel_rfl) (by kernel_rfl) (fun _ _ _ h => h) (by rfl) (fun V hV => (by obtain ⟨r0, r1, r2, r3, r4, r5, r6, r7, r8⟩ := HG.out V hV; go_simp <;> rfl)) ?_
        refine wpAnyC_take (i := 1) rfl (by kernel_rfl) (by kernel_rfl) (by kernel_rfl) (fun _ _ _ h => h) (by rfl) (fun V hV => (by obtain ⟨r0, r1, r2, r3, r4, r5, r6, r7, r8⟩ := HG.out V hV; go_simp <;> rfl)) ?_
        refine wpAnyC_take (i := 2) rfl (by kernel_rfl) (by kernel_rfl) (by kernel_rfl) (fun _ _ _ h => h) (by rfl) (fun V hV => (by obtain ⟨r0, r1, r2, r3, r4, r5, r6, r7, r8⟩ := HG.out V hV; go_simp <;> rfl)) ?_
        refine wpAnyC_take (i := 3) rfl (by kernel_rfl) (by kernel_rfl) (by kernel_rfl) (fun _ _ _ h => h) (by rfl) (fun V hV => (by obtain ⟨r0, r1, r2, r3, r4, r5, r6, r7, r8⟩ := HG.out V hV; go_simp <;> rfl)) ?_
        refine wpAnyC_take (i := 5) rfl (by kernel_rfl) (by kernel_rfl) (by kernel_rfl) (fun _ _ _ h => h) (by rfl) (fun V hV => (by obtain ⟨r0, r1, r2, r3, r4, r5, r6, r7, r8⟩ := HG.out V hV; go_simp <;> rfl)) ?_
        refine wpAnyC_ready (rs := [4]) (.of_below (ext_drew (Below.refl _ _))) (by kernel_rfl) (by simp) (AllC.cons rfl (fun K hK => ?_) AllC.nil)
        go_simp
        refine ⟨trivial, rfl, callsIn_wide.2 ((cJ.out _ (ext_drew (Below.refl _ _))).mono ?_)⟩
        rintro e w5 ⟨rfl, hb5⟩
        refine hK _ _ ?_
        clear hK K
        have hb5 : Below w4.heap.size w4 w5 := ext_trans (ext_drew (Below.refl _ _)) hb5
        have hm5 := HM4.out.ext hb5
        obtain ⟨w9, hrun0, hm9, hg9, hs9⟩ := MapF.store w5 keyedS Tryz.underlying113 hm5 (by unfold maxLen; omega) key y.shown (show key.size ≤ maxLen by unfold maxLen; omega)
        have hrun : (Instr.mapUpdate 113 (.map (some w2.heap.size)) (.string key) (.agg #[.int .i64 y.no, .int .i64 y.at_, .int .i64 y.known, .int .i64 y.lang, .slice y.src.addr y.src.xs.length y.src.cap, .slice y.tgt.addr y.tgt.xs.length y.tgt.cap, .string y.cat, .bool y.gone])).run Tryz.prog w5 = .ok () w9 := hrun0
        refine wpAnyC_ready (rs := [6]) (.of_below hb5) (by kernel_rfl) (by simp) (AllC.cons rfl (fun K hK => ?_) AllC.nil)
        go_simp
        refine hK _ _ ?_
        clear hK K
        have hon : Only (fun j => j = w2.heap.size) w4 w9 := only_grown (.of_below hb5) hg9 fun q hq => .inl (Option.some.inj hq).symm
        refine wpAnyC_done hon (by kernel_rfl) ⟨rfl, ?_, ?_, ?_⟩ _
        · exact ⟨hon.os.trans HB4.out.os, hon.tape.trans HB4.out.tape, hon.output.trans HB4.out.output, Nat.le_trans HB4.out.size hon.size, fun q hq => (hon.block q (by have := HB4.out.size; omega) (fun (e : q = w2.heap.size) => by omega)).trans (HB4.out.block q hq)⟩
        · exact (hon.block _ (lt_block HT4.out) (fun (e : w2.heap.size + 1 = w2.heap.size) => by omega)).trans HT4.out
        · refine hm9.congr fun x _ => ?_
          rw [Htk.out, termsF_snoc, Hkk.out]
          by_cases hx : x = key
          · simp [hx]
          · rw [if_neg hx, if_neg (fun h => hx h.symm)]
      intro w9 h9
      go_wp2
      go_roundw
      case rel => exact ⟨k + 1, by omega, by go_num, h9.out.1, h9.out.2.1, h9.out.2.2⟩
      case measure => simp [intOf]; omega
    · have hkS : k = S.length := by omega
      subst hkS
      have hI0 : ItSt w (w.heap.size + 1 + 1) (w2.heap.size + 1) (w.heap.size + 1) S.length ⟨g, w2.heap.size, s⟩ S (.slice none 0 0) [] wr := by
        have hbw := ext_trans hB2 hB
        refine ⟨hbw.os, hbw.tape, hbw.output, ⟨hbw.size, fun q hq => hbw.block q hq, Hg.out, Hws.out⟩, ht, (hB.block _ (lt_block hwx2)).trans hwx2, ?_, (hB.block _ (lt_block hbx2)).trans hbx2, OwnL.nil _ _ _ _ _, fun x hx => (by cases hx), by omega⟩
        have := hmp
        rw [List.take_length] at this
        exact this
      have kw := cell_one hI0.wbox
      have HI0 := Lib.hid hI0
      have HSn := Lib.hid hSn
      clear hI0 hmp ht hB hlt hk hbx2 hwx2 hgx2 hS hSn
      have hs16 : s.xs.length ≤ 9223372036854775807 := by have := HLen.out; omega
      go_wp2_with fail
      clear kw
      go_loopw [62] (fun iv wx => ∃ (k : Nat) (v : Value) (L : List ItemG), k ≤ s.xs.length ∧ iv = .int .i64 k ∧ Hid (ItSt w (w.heap.size + 1 + 1) (w2.heap.size + 1) (w.heap.size + 1) S.length ⟨g, w2.heap.size, s⟩ S v L wx) ∧ Hid (L.map ItemG.c = ownsC 0 (s.xs.take k)) ∧ Hid ((s.xs.take k).all wordB = true)) (fun iv _ => s.xs.length - (intOf iv).toNat)
      case atStart => exact ⟨0, .slice none 0 0, [], Nat.zero_le _, rfl, HI0, rfl, rfl⟩
      case round =>
        obtain ⟨k, v, L, hk, rfl, HI, HMp, HAll⟩ := hrel
        clear HI0
        by_cases hlt : k < s.xs.length
        · have hIs := HI.out
          obtain ⟨b, off, hA, hb, hc⟩ := StrS.at_ hIs.d.wsv (k := k) hlt
          have e0 : wr.cell? ⟨b, off + k, none⟩ = some (.string s.xs[k]) := hc k hlt
          have htk : s.xs.take (k + 1) = s.xs.take k ++ [s.xs[k]] := List.take_succ_eq_append_getElem hlt
          have hmem := List.getElem_mem hlt
          have cW := Lib.hid (word_any s.xs[k] wr (HT.out.ext hIs.below).u)
          have HT2 : Hid (wordB s.xs[k] = true → (s.xs.take (k + 1)).all wordB = true) := by intro h; rw [htk, List.all_append, HAll.out]; simp [h]
          have HF2 : Hid (wordB s.xs[k] = false → s.xs.all wordB = false) := by intro h; rw [List.all_eq_false]; exact ⟨_, hmem, by simp [h]⟩
          have HO : Hid (ownsC 0 (s.xs.take (k + 1)) = ownsC 0 (s.xs.take k) ++ [ownWC k s.xs[k]]) := by
            show _ = _
            rw [htk, ownsC_snoc, List.length_take, Nat.min_eq_left hk, Nat.zero_add]
          have hLk : L.length = k := by
            have h1 := congrArg List.length HMp.out
            rw [List.length_map, ownsC_len, List.length_take, Nat.min_eq_left hk] at h1
            exact h1
          rw [hA]
          clear hc hA htk hmem hIs
          generalize s.xs[k] = x at *
          generalize wordB x = f at *
          have hk16 : k < 16 := by have := HLen.out; omega
          have hL16 : L.length < 16 := by omega
          clear hLk
          have hwr : IntKind.i64.wrap ((k : Int) + 1) = (k : Int) + 1 := IntWalk.i64_in _ (by omega)
          go_wp2_with fail
          clear e0
          refine cW.out.mono ?_
          rintro ee w4 ⟨rfl, hb4⟩
          have hI4 := HI.out.ext hb4
          have k0 := hI4.box.cell
          have f0 := hI4.box.frozen
          clear cW
          cases f
          · have HF : Hid (tagsE g l lang s.xs t u = 280) := by show _ = _; rw [HE4.out, if_pos (HF2.out rfl)]
            have Hbel := Lib.hid hI4.below
            clear hI4 HT2 HF2 HO
            go_wp2_with fail
            exact bodyPost_ret (v := .tuple #[.slice none 0 0, .int .i64 280]) (by simp [results, Tryz.results32, go_sem, k0]) rfl ⟨Hbel.out.setCell (p := ⟨w.heap.size + 1 + 1, 0, none⟩) (by simp; omega) _, .inl ⟨by rw [HF.out]; decide, by rw [HF.out]⟩⟩
          · have HAll2 := Lib.hid (HT2.out rfl)
            obtain ⟨Av, cv, rfl, _⟩ := own_room hI4.own
            have hrow : w4.ownsRow w.heap.size 47 6 (.slice Av L.length cv) L.length (L.flatMap ItemG.cells) := hI4.own
            have hbxb : Boxed w4 (w.heap.size + 1 + 1) 27 (.slice Av L.length cv) := hI4.box
            have hBw : w.heap.size ≤ w4.heap.size := hI4.d.size
            have HI4 := Lib.hid hI4
            clear HT2 HF2 hI4
            go_wp2_with (at_builtin; refine wpList_append_own_at _ rfl _ _ 27 rfl w.heap.size 47 i0 z0 6 64 Tryz.underlying27 hi0 hz0 hz1 hz2 hzs (by decide) _ _ _ rfl ((hrow.alloc _).alloc _) ⟨w4.heap.size + 1, 0, none⟩ 1 1 [.int .i64 (-1), .int .i64 (k : Int), .int .i64 ((k : Int) + 1), .int .i64 0, .slice (some ⟨w4.heap.size, 0, none⟩) 1 1, .int .i64 (-1)] rfl rfl (gcells_new2 w4 _ [.int .i64 (-1), .int .i64 (k : Int), .int .i64 ((k : Int) + 1), .int .i64 0, .slice (some ⟨w4.heap.size, 0, none⟩) 1 1, .int .i64 (-1)] 47) (by simp [Value.oneCell']) (by unfold maxLen; omega) (by omega) (by simp; omega) ?_; intro v' w6 hown' hgrow hnil hat; obtain ⟨g', cap', rfl⟩ := ownsRow_succ hown'; obtain ⟨hv1, hv2, hr2, hk2, hb2'⟩ := (hbxb.alloc (.cells #[.string x] 9)).appended (by decide) (hrow.alloc _) (by simp; omega) (by omega) hown' hgrow; have hc1 := hv1.cell; have hf1 := hv1.frozen)
            have hyF : FarI w.heap.size ((w4.alloc (.cells #[.string x] 9)).alloc (.cells ([.int .i64 (-1), .int .i64 (k : Int), .int .i64 ((k : Int) + 1), .int .i64 0, .slice (some ⟨w4.heap.size, 0, none⟩) 1 1, .int .i64 (-1)]).toArray 47)) ⟨some ⟨w4.heap.size, 0, none⟩, 1, [x]⟩ := far_new (V := w4) (by rw [← World.size_alloc]; exact ext_alloc (Below.refl _ _) _)
            have hbq : Below w4.heap.size w4 ((w4.alloc (.cells #[.string x] 9)).alloc (.cells ([.int .i64 (-1), .int .i64 (k : Int), .int .i64 ((k : Int) + 1), .int .i64 0, .slice (some ⟨w4.heap.size, 0, none⟩) 1 1, .int .i64 (-1)]).toArray 47)) := ext_alloc (ext_alloc (Below.refl _ _) _) _
            have hIq := HI4.out.ext hbq
            have hst := HI4.out.step (only_grown (.of_below hbq) hgrow fun g hg => .inl hg) (OwnL.snoc ⟨-1, k, (k : Int) + 1, 0, ⟨some ⟨w4.heap.size, 0, none⟩, 1, [x]⟩, -1⟩ hown') (fun z hz => by
              rcases List.mem_append.1 hz with h | h
              · exact (hIq.far z h).grown hIq.own hIq.d.size hgrow
              · obtain rfl := List.mem_singleton.1 h
                exact hyF.grown hIq.own hIq.d.size hgrow)
            have Hst := Lib.hid hst
            clear hst hIq hyF hbq hrow hbxb hown' hgrow hnil hat hv1 hv2 hr2 hk2 hb2' HI4 HI
            go_wp2
            go_roundw
            case rel => exact ⟨k + 1, _, L ++ [⟨-1, k, (k : Int) + 1, 0, ⟨some ⟨w4.heap.size, 0, none⟩, 1, [x]⟩, -1⟩], by omega, by go_num, Hst, by show _ = _; rw [List.map_append, HMp.out, HO.out]; rfl, HAll2⟩
            case measure => simp [intOf]; omega
        · have hks : k = s.xs.length := by omega
          subst hks
          rw [List.take_length] at HMp HAll
          have HE5 : Hid (tagsE g l lang s.xs t u = if 1024 < (tagsC g S s.xs).length then 2 else 0) := by show _ = _; rw [HE4.out, if_neg (by rw [HAll.out]; decide)]
          have HWs : Hid (∀ z ∈ s.xs, wordB z = true) := List.all_eq_true.1 HAll.out
          have kw := cell_one HI.out.wbox
          clear HE4 hlt hk HAll
          go_wp2_with fail
          clear kw
          have HGO := Lib.hid (checkG_ok HC.out)
          go_loopw [82] (fun iv wx => ∃ (k : Nat) (v : Value) (L : List ItemG), k ≤ s.xs.length ∧ iv = .int .i64 k ∧ Hid (ItSt w (w.heap.size + 1 + 1) (w2.heap.size + 1) (w.heap.size + 1) S.length ⟨g, w2.heap.size, s⟩ S v L wx) ∧ Hid (L.map ItemG.c = ownsC 0 s.xs ++ wordsC g S s.xs 0 (s.xs.take k))) (fun iv _ => s.xs.length - (intOf iv).toNat)
          case atStart => exact ⟨0, v, L, Nat.zero_le _, rfl, HI, by show _ = _; rw [HMp.out, List.take_zero]; simp [wordsC]⟩
          case round =>
            obtain ⟨k, v, L, hk, rfl, HI, HMp⟩ := hrel
            by_cases hlt : k < s.xs.length
            · obtain ⟨wz, hwz⟩ : ∃ wz, wz = wr := ⟨_, rfl⟩
              subst hwz
              have hIs := HI.out
              obtain ⟨Av, cv, rfl, _⟩ := own_room hIs.own
              have kb := hIs.box.cell
              have htk : s.xs.take (k + 1) = s.xs.take k ++ [s.xs[k]] := List.take_succ_eq_append_getElem hlt
              have hsk : s.xs[k]? = some s.xs[k] := List.getElem?_eq_getElem hlt
              have hb5 : ∀ W5, ((wz.alloc (.cells #[.int .i64 (k : Int)] 3)).alloc (.cells #[.int .i64 (L.length : Int)] 3)).alloc (.cells #[.func (.func 69) #[] #[.pointer (some ⟨w2.heap.size + 1, 0, none⟩), .pointer (some ⟨wz.heap.size, 0, none⟩)], .func (.func 71) #[] #[.pointer (some ⟨w2.heap.size + 1, 0, none⟩), .pointer (some ⟨wz.heap.size, 0, none⟩)], .func (.func 73) #[] #[.pointer (some ⟨w.heap.size + 1 + 1, 0, none⟩), .pointer (some ⟨wz.heap.size + 1, 0, none⟩), .pointer (some ⟨w2.heap.size + 1, 0, none⟩), .pointer (some ⟨wz.heap.size, 0, none⟩), .pointer (some ⟨w.heap.size + 1, 0, none⟩)], .func (.func 75) #[] #[.pointer (some ⟨w2.heap.size + 1, 0, none⟩), .pointer (some ⟨wz.heap.size, 0, none⟩)], .func (.func 76) #[] #[.pointer (some ⟨w2.heap.size + 1, 0, none⟩), .pointer (some ⟨wz.heap.size, 0, none⟩)], .func (.func 77) #[] #[.pointer (some ⟨w2.heap.size + 1, 0, none⟩), .pointer (some ⟨wz.heap.size, 0, none⟩)]] 120) = W5 → Below wz.heap.size wz W5 ∧ W5.heap[wz.heap.size]? = some (.cells #[.int .i64 (k : Int)] 3 (0, 0)) ∧ W5.heap[wz.heap.size + 1]? = some (.cells #[.int .i64 (L.length : Int)] 3 (0, 0)) ∧ W5.heap[wz.heap.size + 1 + 1]? = some (.cells #[.func (.func 69) #[] #[.pointer (some ⟨w2.heap.size + 1, 0, none⟩), .pointer (some ⟨wz.heap.size, 0, none⟩)], .func (.func 71) #[] #[.pointer (some ⟨w2.heap.size + 1, 0, none⟩), .pointer (some ⟨wz.heap.size, 0, none⟩)], .func (.func 73) #[] #[.pointer (some ⟨w.heap.size + 1 + 1, 0, none⟩), .pointer (some ⟨wz.heap.size + 1, 0, none⟩), .pointer (some ⟨w2.heap.size + 1, 0, none⟩), .pointer (some ⟨wz.heap.size, 0, none⟩), .pointer (some ⟨w.heap.size + 1, 0, none⟩)], .func (.func 75) #[] #[.pointer (some ⟨w2.heap.size + 1, 0, none⟩), .pointer (some ⟨wz.heap.size, 0, none⟩)], .func (.func 76) #[] #[.pointer (some ⟨w2.heap.size + 1, 0, none⟩), .pointer (some ⟨wz.heap.size, 0, none⟩)], .func (.func 77) #[] #[.pointer (some ⟨w2.heap.size + 1, 0, none⟩), .pointer (some ⟨wz.heap.size, 0, none⟩)]] 120 (0, 0)) := by
                rintro W5 rfl
                exact ⟨ext_alloc (ext_alloc (ext_alloc (Below.refl _ _) _) _) _, (Below.heap_alloc _ _ _ (by simp; omega)).trans ((Below.heap_alloc _ _ _ (by simp)).trans (World.alloc_heap_new _ _)), (Below.heap_alloc _ _ _ (by simp)).trans (galloc_at _ _ _ (by simp)), galloc_at _ _ _ (by simp)⟩
              have l1 : w.heap.size + 1 + 1 < wz.heap.size := hIs.box.lt
              have n1 : w.heap.size + 1 + 1 ≠ wz.heap.size := by omega
              have Htk := Lib.hid htk
              have Hsk := Lib.hid hsk
              have hmf : ∀ (fn : Fn) (first cap : Array Value) (w : World), (Instr.makeFunc fn first cap).run Tryz.prog w = .ok (.func fn first cap) w := fun _ _ _ _ => rfl
              clear hIs htk hsk
              generalize s.xs[k] = x at *
              go_wp2_with fail
              obtain ⟨W5, hW5⟩ : ∃ W5, ((wz.alloc (.cells #[.int .i64 (k : Int)] 3)).alloc (.cells #[.int .i64 (L.length : Int)] 3)).alloc (.cells #[.func (.func 69) #[] #[.pointer (some ⟨w2.heap.size + 1, 0, none⟩), .pointer (some ⟨wz.heap.size, 0, none⟩)], .func (.func 71) #[] #[.pointer (some ⟨w2.heap.size + 1, 0, none⟩), .pointer (some ⟨wz.heap.size, 0, none⟩)], .func (.func 73) #[] #[.pointer (some ⟨w.heap.size + 1 + 1, 0, none⟩), .pointer (some ⟨wz.heap.size + 1, 0, none⟩), .pointer (some ⟨w2.heap.size + 1, 0, none⟩), .pointer (some ⟨wz.heap.size, 0, none⟩), .pointer (some ⟨w.heap.size + 1, 0, none⟩)], .func (.func 75) #[] #[.pointer (some ⟨w2.heap.size + 1, 0, none⟩), .pointer (some ⟨wz.heap.size, 0, none⟩)], .func (.func 76) #[] #[.pointer (some ⟨w2.heap.size + 1, 0, none⟩), .pointer (some ⟨wz.heap.size, 0, none⟩)], .func (.func 77) #[] #[.pointer (some ⟨w2.heap.size + 1, 0, none⟩), .pointer (some ⟨wz.heap.size, 0, none⟩)]] 120) = W5 := ⟨_, rfl⟩
              obtain ⟨hb5, hi5, hn5, hc5⟩ := hb5 W5 hW5
              have HI5 : Hid (ItSt w (w.heap.size + 1 + 1) (w2.heap.size + 1) (w.heap.size + 1) S.length ⟨g, w2.heap.size, s⟩ S (.slice Av L.length cv) L W5) := HI.out.ext hb5
              rw [hW5]
              clear kb l1 n1 hW5 hmf
              go_loopw [95] (fun iv wx => ∃ (j : Nat) (v : Value) (L' : List ItemG), j ≤ 6 ∧ iv = .int .i64 j ∧ Hid (ItSt w (w.heap.size + 1 + 1) (w2.heap.size + 1) (w.heap.size + 1) S.length ⟨g, w2.heap.size, s⟩ S v L' wx) ∧ wx.heap[wz.heap.size]? = some (.cells #[.int .i64 (k : Int)] 3 (0, 0)) ∧ wx.heap[wz.heap.size + 1]? = some (.cells #[.int .i64 (L.length : Int)] 3 (0, 0)) ∧ wx.heap[wz.heap.size + 1 + 1]? = some (.cells #[.func (.func 69) #[] #[.pointer (some ⟨w2.heap.size + 1, 0, none⟩), .pointer (some ⟨wz.heap.size, 0, none⟩)], .func (.func 71) #[] #[.pointer (some ⟨w2.heap.size + 1, 0, none⟩), .pointer (some ⟨wz.heap.size, 0, none⟩)], .func (.func 73) #[] #[.pointer (some ⟨w.heap.size + 1 + 1, 0, none⟩), .pointer (some ⟨wz.heap.size + 1, 0, none⟩), .pointer (some ⟨w2.heap.size + 1, 0, none⟩), .pointer (some ⟨wz.heap.size, 0, none⟩), .pointer (some ⟨w.heap.size + 1, 0, none⟩)], .func (.func 75) #[] #[.pointer (some ⟨w2.heap.size + 1, 0, none⟩), .pointer (some ⟨wz.heap.size, 0, none⟩)], .func (.func 76) #[] #[.pointer (some ⟨w2.heap.size + 1, 0, none⟩), .pointer (some ⟨wz.heap.size, 0, none⟩)], .func (.func 77) #[] #[.pointer (some ⟨w2.heap.size + 1, 0, none⟩), .pointer (some ⟨wz.heap.size, 0, none⟩)]] 120 (0, 0)) ∧ Hid (L'.map ItemG.c = L.map ItemG.c ++ ((piecesC g S s.xs k x).take j).flatten)) (fun iv _ => 6 - (intOf iv).toNat)
              case atStart => exact ⟨0, _, L, by omega, rfl, HI5, hi5, hn5, hc5, by show _ = _; simp⟩
              case round =>
                obtain ⟨j, v, L', hj, rfl, HJ, hi5, hn5, hc5, HMj⟩ := hrel
                by_cases hlj : j < 6
                · have hkl : k < s.xs.length := hlt
                  have HLl : Hid (L'.length ≤ 60000) := by
                    have h1 := congrArg List.length HMj.out
                    have h2 := congrArg List.length HMp.out
                    rw [List.length_map, List.length_append, List.length_map] at h1
                    rw [List.length_map, List.length_append, ownsC_len] at h2
                    have h3 := words_len g HGO.out S s.xs (s.xs.take k) 0
                    have h4 := pieces_flat_len g HGO.out S s.xs k x j
                    have h5 := HLen.out
                    rw [List.length_take] at h3
                    have h6 : min k s.xs.length ≤ 16 := by omega
                    have h7 : 512 * 6 * min k s.xs.length ≤ 512 * 6 * 16 := Nat.mul_le_mul_left _ h6
                    show _ ≤ _
                    omega
                  have hpl := pieces_len g HGO.out S s.xs k x
                  have hj6 : j = 0 ∨ j = 1 ∨ j = 2 ∨ j = 3 ∨ j = 4 ∨ j = 5 := by omega
                  have Hi5 := Lib.hid hi5
                  have Hn5 := Lib.hid hn5
                  have Hc5 := Lib.hid hc5
                  clear hj hlj hi5 hn5 hc5
                  rcases hj6 with rfl | rfl | rfl | rfl | rfl | rfl
                  · have e0 : wr.cell? ⟨wz.heap.size + 1 + 1, 0, none⟩ = some (.func (.func 69) #[] #[.pointer (some ⟨w2.heap.size + 1, 0, none⟩), .pointer (some ⟨wz.heap.size, 0, none⟩)]) := gblk Hc5.out 0
                    have kb := HJ.out.box.cell
                    have cF : Hid (∀ V, Below wr.heap.size wr V → Calls Tryz.prog 69 #[.pointer (some ⟨w2.heap.size + 1, 0, none⟩), .pointer (some ⟨wz.heap.size, 0, none⟩)] V (OfPost w w2.heap.size (termC g.cats.xs S s.xs k 1) V)) := by
                      intro V hV
                      have hq := HJ.out.ext hV
                      have hiq := (hV.block _ (lt_block Hi5.out)).trans Hi5.out
                      have hnq := (hV.block _ (lt_block Hn5.out)).trans Hn5.out
                      exact of1 hq hiq hkl HLen.out HSl.out Hu.out Hok.out HWs.out
                    have hpj : (termC g.cats.xs S s.xs k 1).length ≤ 512 := hpl _ (by unfold piecesC; simp)
                    have HMj2 : Hid (∀ L3 : List ItemG, L3.map ItemG.c = termC g.cats.xs S s.xs k 1 → (L' ++ L3).map ItemG.c = L.map ItemG.c ++ ((piecesC g S s.xs k x).take 1).flatten) := by
                      intro L3 h3
                      rw [List.map_append, HMj.out, h3]
                      unfold piecesC
                      simp
                    clear hpl
                    generalize termC g.cats.xs S s.xs k 1 = pj at *
                    go_wp2_with fail
                    clear e0
                    go_region_with (first | (go_at_call 69; refine (cF.out _ ?_).mono ?_; (repeat (first | exact Below.refl _ _ | refine ext_drew ?_)); rintro e V2 ⟨gf, lb, rfl, hq2, heg, hit⟩; have hbq : Below wr.heap.size wr V2 := ext_trans (ext_drew (Below.refl _ _)) hq2; have cA := Lib.hid (app_at (HJ.out.ext (ext_drew (Below.refl _ _))) hq2 heg hit (by have := HLl.out; omega)); have kb2 := (HJ.out.ext hbq).box.cell; have Hbq := Lib.hid hbq; clear hq2 heg hit hbq) | (go_at_call 78; refine cA.out.mono ?_; rintro e V3 ⟨v3, L3, rfl, hown3, hmap3, hfar3, hon3⟩; obtain ⟨A3, c3, rfl, _⟩ := own_room hown3; have hb3 := (HJ.out.ext Hbq.out).boxed hon3; have kb3 := hb3.cell; have kf3 := hb3.frozen))
                    all_goals
                      have hq2 := HJ.out.ext Hbq.out
                      have hst0 := hq2.step hon3 hown3 hfar3
                      have hi6 := hq2.keep (v' := .slice A3 (L' ++ L3).length c3) hon3 ((Hbq.out.block _ (lt_block Hi5.out)).trans Hi5.out) (by decide) (by decide)
                      have hn6 := hq2.keep (v' := .slice A3 (L' ++ L3).length c3) hon3 ((Hbq.out.block _ (lt_block Hn5.out)).trans Hn5.out) (by decide) (by decide)
                      have hc6 := hq2.keep (v' := .slice A3 (L' ++ L3).length c3) hon3 ((Hbq.out.block _ (lt_block Hc5.out)).trans Hc5.out) (by decide) (by decide)
                      have HM6 := Lib.hid (HMj2.out L3 hmap3)
                      rw [List.length_append] at hst0 hi6 hn6 hc6
                      have hst := Lib.hid hst0
                      clear hst0
                      clear hq2 hon3 hown3 hfar3 hmap3 hb3 kb3 kf3 kb2 kb cA cF
                      go_wp2
                      go_roundw
                      case rel => exact ⟨1, _, L' ++ L3, by omega, by go_num, hst, hi6, hn6, hc6, HM6⟩
                      case measure => simp [intOf]
                  · have e0 : wr.cell? ⟨wz.heap.size + 1 + 1, 1, none⟩ = some (.func (.func 71) #[] #[.pointer (some ⟨w2.heap.size + 1, 0, none⟩), .pointer (some ⟨wz.heap.size, 0, none⟩)]) := gblk Hc5.out 1
                    have kb := HJ.out.box.cell
                    have cF : Hid (∀ V, Below wr.heap.size wr V → Calls Tryz.prog 71 #[.pointer (some ⟨w2.heap.size + 1, 0, none⟩), .pointer (some ⟨wz.heap.size, 0, none⟩)] V (OfPost w w2.heap.size (entriesC g.entries.xs k x) V)) := by
                      intro V hV
                      have hq := HJ.out.ext hV
                      have hiq := (hV.block _ (lt_block Hi5.out)).trans Hi5.out
                      have hnq := (hV.block _ (lt_block Hn5.out)).trans Hn5.out
                      exact of2 x hq hiq Hsk.out
                    have hpj : (entriesC g.entries.xs k x).length ≤ 512 := hpl _ (by unfold piecesC; simp)
                    have HMj2 : Hid (∀ L3 : List ItemG, L3.map ItemG.c = entriesC g.entries.xs k x → (L' ++ L3).map ItemG.c = L.map ItemG.c ++ ((piecesC g S s.xs k x).take 2).flatten) := by
                      intro L3 h3
                      rw [List.map_append, HMj.out, h3]
                      unfold piecesC
                      simp
                    clear hpl
                    generalize entriesC g.entries.xs k x = pj at *
                    go_wp2_with fail
                    clear e0
                    go_region_with (first | (go_at_call 71; refine (cF.out _ ?_).mono ?_; (repeat (first | exact Below.refl _ _ | refine ext_drew ?_)); rintro e V2 ⟨gf, lb, rfl, hq2, heg, hit⟩; have hbq : Below wr.heap.size wr V2 := ext_trans (ext_drew (Below.refl _ _)) hq2; have cA := Lib.hid (app_at (HJ.out.ext (ext_drew (Below.refl _ _))) hq2 heg hit (by have := HLl.out; omega)); have kb2 := (HJ.out.ext hbq).box.cell; have Hbq := Lib.hid hbq; clear hq2 heg hit hbq) | (go_at_call 78; refine cA.out.mono ?_; rintro e V3 ⟨v3, L3, rfl, hown3, hmap3, hfar3, hon3⟩; obtain ⟨A3, c3, rfl, _⟩ := own_room hown3; have hb3 := (HJ.out.ext Hbq.out).boxed hon3; have kb3 := hb3.cell; have kf3 := hb3.frozen))
                    all_goals
                      have hq2 := HJ.out.ext Hbq.out
                      have hst0 := hq2.step hon3 hown3 hfar3
                      have hi6 := hq2.keep (v' := .slice A3 (L' ++ L3).length c3) hon3 ((Hbq.out.block _ (lt_block Hi5.out)).trans Hi5.out) (by decide) (by decide)
                      have hn6 := hq2.keep (v' := .slice A3 (L' ++ L3).length c3) hon3 ((Hbq.out.block _ (lt_block Hn5.out)).trans Hn5.out) (by decide) (by decide)
                      have hc6 := hq2.keep (v' := .slice A3 (L' ++ L3).length c3) hon3 ((Hbq.out.block _ (lt_block Hc5.out)).trans Hc5.out) (by decide) (by decide)
                      have HM6 := Lib.hid (HMj2.out L3 hmap3)
                      rw [List.length_append] at hst0 hi6 hn6 hc6
                      have hst := Lib.hid hst0
                      clear hst0
                      clear hq2 hon3 hown3 hfar3 hmap3 hb3 kb3 kf3 kb2 kb cA cF
                      go_wp2
                      go_roundw
                      case rel => exact ⟨2, _, L' ++ L3, by omega, by go_num, hst, hi6, hn6, hc6, HM6⟩
                      case measure => simp [intOf]
                  · have e0 : wr.cell? ⟨wz.heap.size + 1 + 1, 2, none⟩ = some (.func (.func 73) #[] #[.pointer (some ⟨w.heap.size + 1 + 1, 0, none⟩), .pointer (some ⟨wz.heap.size + 1, 0, none⟩), .pointer (some ⟨w2.heap.size + 1, 0, none⟩), .pointer (some ⟨wz.heap.size, 0, none⟩), .pointer (some ⟨w.heap.size + 1, 0, none⟩)]) := gblk Hc5.out 2
                    have kb := HJ.out.box.cell
                    have hL : L'.length = L.length + (termC g.cats.xs S s.xs k 1 ++ entriesC g.entries.xs k x).length := by
                      have h1 := congrArg List.length HMj.out
                      rw [List.length_map, List.length_append, List.length_map] at h1
                      rw [h1]
                      unfold piecesC
                      simp
                    have hp3 : (if L'.length = L.length then unkC g.cats.xs.length k x else []) = (if (termC g.cats.xs S s.xs k 1 ++ entriesC g.entries.xs k x).length = 0 then unkC g.cats.xs.length k x else []) := by
                      by_cases h0 : (termC g.cats.xs S s.xs k 1 ++ entriesC g.entries.xs k x).length = 0
                      · rw [if_pos h0, if_pos (by omega)]
                      · rw [if_neg h0, if_neg (by omega)]
                    have cF : Hid (∀ V, Below wr.heap.size wr V → Calls Tryz.prog 73 #[.pointer (some ⟨w.heap.size + 1 + 1, 0, none⟩), .pointer (some ⟨wz.heap.size + 1, 0, none⟩), .pointer (some ⟨w2.heap.size + 1, 0, none⟩), .pointer (some ⟨wz.heap.size, 0, none⟩), .pointer (some ⟨w.heap.size + 1, 0, none⟩)] V (OfPost w w2.heap.size ((if (termC g.cats.xs S s.xs k 1 ++ entriesC g.entries.xs k x).length = 0 then unkC g.cats.xs.length k x else [])) V)) := by
                      intro V hV
                      have hq := HJ.out.ext hV
                      have hiq := (hV.block _ (lt_block Hi5.out)).trans Hi5.out
                      have hnq := (hV.block _ (lt_block Hn5.out)).trans Hn5.out
                      exact (hp3 ▸ of3 L.length x hq hiq hnq Hsk.out HLen.out HSl.out Hu.out Hok.out HWs.out)
                    have hpj : ((if (termC g.cats.xs S s.xs k 1 ++ entriesC g.entries.xs k x).length = 0 then unkC g.cats.xs.length k x else [])).length ≤ 512 := hpl _ (by unfold piecesC; simp)
                    have HMj2 : Hid (∀ L3 : List ItemG, L3.map ItemG.c = (if (termC g.cats.xs S s.xs k 1 ++ entriesC g.entries.xs k x).length = 0 then unkC g.cats.xs.length k x else []) → (L' ++ L3).map ItemG.c = L.map ItemG.c ++ ((piecesC g S s.xs k x).take 3).flatten) := by
                      intro L3 h3
                      rw [List.map_append, HMj.out, h3]
                      unfold piecesC
                      simp
                    clear hpl hL hp3
                    generalize (if (termC g.cats.xs S s.xs k 1 ++ entriesC g.entries.xs k x).length = 0 then unkC g.cats.xs.length k x else []) = pj at *
                    go_wp2_with fail
                    clear e0
                    go_region_with (first | (go_at_call 73; refine (cF.out _ ?_).mono ?_; (repeat (first | exact Below.refl _ _ | refine ext_drew ?_)); rintro e V2 ⟨gf, lb, rfl, hq2, heg, hit⟩; have hbq : Below wr.heap.size wr V2 := ext_trans (ext_drew (Below.refl _ _)) hq2; have cA := Lib.hid (app_at (HJ.out.ext (ext_drew (Below.refl _ _))) hq2 heg hit (by have := HLl.out; omega)); have kb2 := (HJ.out.ext hbq).box.cell; have Hbq := Lib.hid hbq; clear hq2 heg hit hbq) | (go_at_call 78; refine cA.out.mono ?_; rintro e V3 ⟨v3, L3, rfl, hown3, hmap3, hfar3, hon3⟩; obtain ⟨A3, c3, rfl, _⟩ := own_room hown3; have hb3 := (HJ.out.ext Hbq.out).boxed hon3; have kb3 := hb3.cell; have kf3 := hb3.frozen))
                    all_goals
                      have hq2 := HJ.out.ext Hbq.out
                      have hst0 := hq2.step hon3 hown3 hfar3
                      have hi6 := hq2.keep (v' := .slice A3 (L' ++ L3).length c3) hon3 ((Hbq.out.block _ (lt_block Hi5.out)).trans Hi5.out) (by decide) (by decide)
                      have hn6 := hq2.keep (v' := .slice A3 (L' ++ L3).length c3) hon3 ((Hbq.out.block _ (lt_block Hn5.out)).trans Hn5.out) (by decide) (by decide)
                      have hc6 := hq2.keep (v' := .slice A3 (L' ++ L3).length c3) hon3 ((Hbq.out.block _ (lt_block Hc5.out)).trans Hc5.out) (by decide) (by decide)
                      have HM6 := Lib.hid (HMj2.out L3 hmap3)
                      rw [List.length_append] at hst0 hi6 hn6 hc6
                      have hst := Lib.hid hst0
                      clear hst0
                      clear hq2 hon3 hown3 hfar3 hmap3 hb3 kb3 kf3 kb2 kb cA cF
                      go_wp2
                      go_roundw
                      case rel => exact ⟨3, _, L' ++ L3, by omega, by go_num, hst, hi6, hn6, hc6, HM6⟩
                      case measure => simp [intOf]
                  · have e0 : wr.cell? ⟨wz.heap.size + 1 + 1, 3, none⟩ = some (.func (.func 75) #[] #[.pointer (some ⟨w2.heap.size + 1, 0, none⟩), .pointer (some ⟨wz.heap.size, 0, none⟩)]) := gblk Hc5.out 3
                    have kb := HJ.out.box.cell
                    have cF : Hid (∀ V, Below wr.heap.size wr V → Calls Tryz.prog 75 #[.pointer (some ⟨w2.heap.size + 1, 0, none⟩), .pointer (some ⟨wz.heap.size, 0, none⟩)] V (OfPost w w2.heap.size (termC g.cats.xs S s.xs k 2) V)) := by
                      intro V hV
                      have hq := HJ.out.ext hV
                      have hiq := (hV.block _ (lt_block Hi5.out)).trans Hi5.out
                      have hnq := (hV.block _ (lt_block Hn5.out)).trans Hn5.out
                      exact of4 hq hiq hkl HLen.out HSl.out Hu.out Hok.out HWs.out
                    have hpj : (termC g.cats.xs S s.xs k 2).length ≤ 512 := hpl _ (by unfold piecesC; simp)
                    have HMj2 : Hid (∀ L3 : List ItemG, L3.map ItemG.c = termC g.cats.xs S s.xs k 2 → (L' ++ L3).map ItemG.c = L.map ItemG.c ++ ((piecesC g S s.xs k x).take 4).flatten) := by
                      intro L3 h3
                      rw [List.map_append, HMj.out, h3]
                      unfold piecesC
                      simp
                    clear hpl
                    generalize termC g.cats.xs S s.xs k 2 = pj at *
                    go_wp2_with fail
                    clear e0
                    go_region_with (first | (go_at_call 75; refine (cF.out _ ?_).mono ?_; (repeat (first | exact Below.refl _ _ | refine ext_drew ?_)); rintro e V2 ⟨gf, lb, rfl, hq2, heg, hit⟩; have hbq : Below wr.heap.size wr V2 := ext_trans (ext_drew (Below.refl _ _)) hq2; have cA := Lib.hid (app_at (HJ.out.ext (ext_drew (Below.refl _ _))) hq2 heg hit (by have := HLl.out; omega)); have kb2 := (HJ.out.ext hbq).box.cell; have Hbq := Lib.hid hbq; clear hq2 heg hit hbq) | (go_at_call 78; refine cA.out.mono ?_; rintro e V3 ⟨v3, L3, rfl, hown3, hmap3, hfar3, hon3⟩; obtain ⟨A3, c3, rfl, _⟩ := own_room hown3; have hb3 := (HJ.out.ext Hbq.out).boxed hon3; have kb3 := hb3.cell; have kf3 := hb3.frozen))
                    all_goals
                      have hq2 := HJ.out.ext Hbq.out
                      have hst0 := hq2.step hon3 hown3 hfar3
                      have hi6 := hq2.keep (v' := .slice A3 (L' ++ L3).length c3) hon3 ((Hbq.out.block _ (lt_block Hi5.out)).trans Hi5.out) (by decide) (by decide)
                      have hn6 := hq2.keep (v' := .slice A3 (L' ++ L3).length c3) hon3 ((Hbq.out.block _ (lt_block Hn5.out)).trans Hn5.out) (by decide) (by decide)
                      have hc6 := hq2.keep (v' := .slice A3 (L' ++ L3).length c3) hon3 ((Hbq.out.block _ (lt_block Hc5.out)).trans Hc5.out) (by decide) (by decide)
                      have HM6 := Lib.hid (HMj2.out L3 hmap3)
                      rw [List.length_append] at hst0 hi6 hn6 hc6
                      have hst := Lib.hid hst0
                      clear hst0
                      clear hq2 hon3 hown3 hfar3 hmap3 hb3 kb3 kf3 kb2 kb cA cF
                      go_wp2
                      go_roundw
                      case rel => exact ⟨4, _, L' ++ L3, by omega, by go_num, hst, hi6, hn6, hc6, HM6⟩
                      case measure => simp [intOf]
                  · have e0 : wr.cell? ⟨wz.heap.size + 1 + 1, 4, none⟩ = some (.func (.func 76) #[] #[.pointer (some ⟨w2.heap.size + 1, 0, none⟩), .pointer (some ⟨wz.heap.size, 0, none⟩)]) := gblk Hc5.out 4
                    have kb := HJ.out.box.cell
                    have cF : Hid (∀ V, Below wr.heap.size wr V → Calls Tryz.prog 76 #[.pointer (some ⟨w2.heap.size + 1, 0, none⟩), .pointer (some ⟨wz.heap.size, 0, none⟩)] V (OfPost w w2.heap.size (termC g.cats.xs S s.xs k 3) V)) := by
                      intro V hV
                      have hq := HJ.out.ext hV
                      have hiq := (hV.block _ (lt_block Hi5.out)).trans Hi5.out
                      have hnq := (hV.block _ (lt_block Hn5.out)).trans Hn5.out
                      exact of5 hq hiq hkl HLen.out HSl.out Hu.out Hok.out HWs.out
                    have hpj : (termC g.cats.xs S s.xs k 3).length ≤ 512 := hpl _ (by unfold piecesC; simp)
                    have HMj2 : Hid (∀ L3 : List ItemG, L3.map ItemG.c = termC g.cats.xs S s.xs k 3 → (L' ++ L3).map ItemG.c = L.map ItemG.c ++ ((piecesC g S s.xs k x).take 5).flatten) := by
                      intro L3 h3
                      rw [List.map_append, HMj.out, h3]
                      unfold piecesC
                      simp
                    clear hpl
                    generalize termC g.cats.xs S s.xs k 3 = pj at *
                    go_wp2_with fail
                    clear e0
                    go_region_with (first | (go_at_call 76; refine (cF.out _ ?_).mono ?_; (repeat (first | exact Below.refl _ _ | refine ext_drew ?_)); rintro e V2 ⟨gf, lb, rfl, hq2, heg, hit⟩; have hbq : Below wr.heap.size wr V2 := ext_trans (ext_drew (Below.refl _ _)) hq2; have cA := Lib.hid (app_at (HJ.out.ext (ext_drew (Below.refl _ _))) hq2 heg hit (by have := HLl.out; omega)); have kb2 := (HJ.out.ext hbq).box.cell; have Hbq := Lib.hid hbq; clear hq2 heg hit hbq) | (go_at_call 78; refine cA.out.mono ?_; rintro e V3 ⟨v3, L3, rfl, hown3, hmap3, hfar3, hon3⟩; obtain ⟨A3, c3, rfl, _⟩ := own_room hown3; have hb3 := (HJ.out.ext Hbq.out).boxed hon3; have kb3 := hb3.cell; have kf3 := hb3.frozen))
                    all_goals
                      have hq2 := HJ.out.ext Hbq.out
                      have hst0 := hq2.step hon3 hown3 hfar3
                      have hi6 := hq2.keep (v' := .slice A3 (L' ++ L3).length c3) hon3 ((Hbq.out.block _ (lt_block Hi5.out)).trans Hi5.out) (by decide) (by decide)
                      have hn6 := hq2.keep (v' := .slice A3 (L' ++ L3).length c3) hon3 ((Hbq.out.block _ (lt_block Hn5.out)).trans Hn5.out) (by decide) (by decide)
                      have hc6 := hq2.keep (v' := .slice A3 (L' ++ L3).length c3) hon3 ((Hbq.out.block _ (lt_block Hc5.out)).trans Hc5.out) (by decide) (by decide)
                      have HM6 := Lib.hid (HMj2.out L3 hmap3)
                      rw [List.length_append] at hst0 hi6 hn6 hc6
                      have hst := Lib.hid hst0
                      clear hst0
                      clear hq2 hon3 hown3 hfar3 hmap3 hb3 kb3 kf3 kb2 kb cA cF
                      go_wp2
                      go_roundw
                      case rel => exact ⟨5, _, L' ++ L3, by omega, by go_num, hst, hi6, hn6, hc6, HM6⟩
                      case measure => simp [intOf]
                  · have e0 : wr.cell? ⟨wz.heap.size + 1 + 1, 5, none⟩ = some (.func (.func 77) #[] #[.pointer (some ⟨w2.heap.size + 1, 0, none⟩), .pointer (some ⟨wz.heap.size, 0, none⟩)]) := gblk Hc5.out 5
                    have kb := HJ.out.box.cell
                    have cF : Hid (∀ V, Below wr.heap.size wr V → Calls Tryz.prog 77 #[.pointer (some ⟨w2.heap.size + 1, 0, none⟩), .pointer (some ⟨wz.heap.size, 0, none⟩)] V (OfPost w w2.heap.size (termC g.cats.xs S s.xs k 4) V)) := by
                      intro V hV
                      have hq := HJ.out.ext hV
                      have hiq := (hV.block _ (lt_block Hi5.out)).trans Hi5.out
                      have hnq := (hV.block _ (lt_block Hn5.out)).trans Hn5.out
                      exact of6 hq hiq hkl HLen.out HSl.out Hu.out Hok.out HWs.out
                    have hpj : (termC g.cats.xs S s.xs k 4).length ≤ 512 := hpl _ (by unfold piecesC; simp)
                    have HMj2 : Hid (∀ L3 : List ItemG, L3.map ItemG.c = termC g.cats.xs S s.xs k 4 → (L' ++ L3).map ItemG.c = L.map ItemG.c ++ ((piecesC g S s.xs k x).take 6).flatten) := by
                      intro L3 h3
                      rw [List.map_append, HMj.out, h3]
                      unfold piecesC
                      simp
                    clear hpl
                    generalize termC g.cats.xs S s.xs k 4 = pj at *
                    go_wp2_with fail
                    clear e0
                    go_region_with (first | (go_at_call 77; refine (cF.out _ ?_).mono ?_; (repeat (first | exact Below.refl _ _ | refine ext_drew ?_)); rintro e V2 ⟨gf, lb, rfl, hq2, heg, hit⟩; have hbq : Below wr.heap.size wr V2 := ext_trans (ext_drew (Below.refl _ _)) hq2; have cA := Lib.hid (app_at (HJ.out.ext (ext_drew (Below.refl _ _))) hq2 heg hit (by have := HLl.out; omega)); have kb2 := (HJ.out.ext hbq).box.cell; have Hbq := Lib.hid hbq; clear hq2 heg hit hbq) | (go_at_call 78; refine cA.out.mono ?_; rintro e V3 ⟨v3, L3, rfl, hown3, hmap3, hfar3, hon3⟩; obtain ⟨A3, c3, rfl, _⟩ := own_room hown3; have hb3 := (HJ.out.ext Hbq.out).boxed hon3; have kb3 := hb3.cell; have kf3 := hb3.frozen))
                    all_goals
                      have hq2 := HJ.out.ext Hbq.out
                      have hst0 := hq2.step hon3 hown3 hfar3
                      have hi6 := hq2.keep (v' := .slice A3 (L' ++ L3).length c3) hon3 ((Hbq.out.block _ (lt_block Hi5.out)).trans Hi5.out) (by decide) (by decide)
                      have hn6 := hq2.keep (v' := .slice A3 (L' ++ L3).length c3) hon3 ((Hbq.out.block _ (lt_block Hn5.out)).trans Hn5.out) (by decide) (by decide)
                      have hc6 := hq2.keep (v' := .slice A3 (L' ++ L3).length c3) hon3 ((Hbq.out.block _ (lt_block Hc5.out)).trans Hc5.out) (by decide) (by decide)
                      have HM6 := Lib.hid (HMj2.out L3 hmap3)
                      rw [List.length_append] at hst0 hi6 hn6 hc6
                      have hst := Lib.hid hst0
                      clear hst0
                      clear hq2 hon3 hown3 hfar3 hmap3 hb3 kb3 kf3 kb2 kb cA cF
                      go_wp2
                      go_roundw
                      case rel => exact ⟨6, _, L' ++ L3, by omega, by go_num, hst, hi6, hn6, hc6, HM6⟩
                      case measure => simp [intOf]
                · have hj6 : j = 6 := by omega
                  subst hj6
                  have HM7 : Hid (L'.map ItemG.c = ownsC 0 s.xs ++ wordsC g S s.xs 0 (s.xs.take (k + 1))) := by
                    show _ = _
                    rw [HMj.out, HMp.out, List.take_of_length_le (show (piecesC g S s.xs k x).length ≤ 6 by unfold piecesC; simp), pieces_word, Htk.out, wordsC_snoc, List.length_take, Nat.min_eq_left hk, Nat.zero_add, List.append_assoc]
                  go_wp2_with fail
                  exact ⟨⟨k + 1, v, L', by omega, by go_num, HJ, HM7⟩, by simp [intOf]; omega⟩
            · have hks : k = s.xs.length := by omega
              subst hks
              have HTl : Hid (L.map ItemG.c = tagsC g S s.xs) := by
                have := HMp.out
                rw [List.take_length] at this
                exact this
              have hLl : (tagsC g S s.xs).length = L.length := by rw [← HTl.out, List.length_map]
              obtain ⟨Av, cv, rfl, _⟩ := own_room HI.out.own
              have k0 := HI.out.box.cell
              have f0 := HI.out.box.frozen
              have HE6 : Hid (tagsE g l lang s.xs t u = if 1024 < L.length then 2 else 0) := by show _ = _; rw [HE5.out, hLl]
              clear HE5 hLl hlt hk
              by_cases hbig : 1024 < L.length
              · have HF : Hid (tagsE g l lang s.xs t u = 2) := by show _ = _; rw [HE6.out, if_pos hbig]
                go_wp2_with fail
                exact bodyPost_ret (v := .tuple #[.slice none 0 0, .int .i64 2]) (by simp [results, Tryz.results32, go_sem, k0]) rfl ⟨HI.out.below.setCell (p := ⟨w.heap.size + 1 + 1, 0, none⟩) (by simp; omega) _, .inl ⟨by rw [HF.out]; decide, by rw [HF.out]⟩⟩
              · have HF : Hid (tagsE g l lang s.xs t u = 0) := by show _ = _; rw [HE6.out, if_neg hbig]
                have hst := HI.out.step (.refl _ _) HI.out.own HI.out.far
                obtain ⟨A9, c9, e9, hr9, hn9⟩ := hst.own.form (by decide)
                cases e9
                obtain ⟨hc9, hm9⟩ : L.length ≤ cv ∧ cv ≤ 9223372036854775807 := by
                  rcases hst.own.2 with ⟨h1, h2⟩ | ⟨g9, c9, cur, h1, _, _, h4, h5, _⟩
                  · injection h1 with _ h3 h4
                    subst h4
                    exact ⟨by omega, by omega⟩
                  · injection h1 with _ _ h6
                    subst h6
                    exact ⟨h4, by unfold maxLen at h5; omega⟩
                have HIt : Hid (ItemsAt (wr.setCell ⟨w.heap.size + 1 + 1, 0, none⟩ (.slice Av L.length cv)) ⟨Av, cv, L⟩) := ⟨⟨hr9, hc9, hm9, hn9⟩, fun y hy => (hst.far y hy).1⟩
                have Hbl := Lib.hid hst.below
                clear hst hr9 hn9 hc9 hm9
                go_wp2_with fail
                exact bodyPost_ret (v := .tuple #[.slice Av L.length cv, .int .i64 0]) (by simp [results, Tryz.results32, go_sem, k0]) rfl ⟨Hbl.out, .inr ⟨HF.out, ⟨Av, cv, L⟩, rfl, by rw [HSS.out]; exact HTl.out, HIt.out⟩⟩
end Go.Proofs.YthojaplnimoacaaGreatDoor

/- Reference 28: Items. -/
namespace Go.Proofs.YthojaplnimoacaaGreatDoor
open Go.RowKit Go.Han
attribute [local irreducible] wpStill wpQuiet
set_option maxRecDepth 100000

def termsTo (g : Gram) (S : List Term) (ws : List ByteArray) (i j : Nat) : List ItemC := (List.range j).flatMap fun n => termC g.cats.xs S ws i (n + 2)
theorem termsTo_succ (g : Gram) (S : List Term) (ws : List ByteArray) (i j : Nat) : termsTo g S ws i (j + 1) = termsTo g S ws i j ++ termC g.cats.xs S ws i (j + 2) := by unfold termsTo; rw [List.range_succ, List.flatMap_append]; simp
theorem termsTo_word (g : Gram) (S : List Term) (ws : List ByteArray) (i : Nat) (s : ByteArray) : singleC g S ws i s ++ termsTo g S ws i 3 = wordC g S ws i s := by
  rw [termsTo_succ, termsTo_succ, termsTo_succ]
  unfold wordC termsTo
  simp
theorem single_len (g : Gram) (hg : GramOk g) (S : List Term) (ws : List ByteArray) (i : Nat) (s : ByteArray) : (singleC g S ws i s).length ≤ 512 * 6 := by
  have h2 := pieces_flat_len g hg S ws i s 6
  rw [List.take_of_length_le (by unfold piecesC; simp), pieces_word] at h2
  unfold wordC at h2
  simp only [List.length_append] at h2
  omega
theorem items_one (L : List ItemG) : ∀ u ∈ L.flatMap ItemG.cells, u.oneCell' = true := by
  intro u hu
  obtain ⟨x, _, hx⟩ := List.mem_flatMap.1 hu
  simp only [ItemG.cells, List.mem_cons, List.not_mem_nil, or_false] at hx
  rcases hx with rfl | rfl | rfl | rfl | rfl | rfl <;> rfl
theorem items_len (L : List ItemG) : (L.flatMap ItemG.cells).length = L.length * 6 := by
  induction L with
  | nil => rfl
  | cons x L ih => rw [List.flatMap_cons, List.length_append, ih, List.length_cons]; show 6 + _ = _; omega
set_option maxHeartbeats 8000000 in
theorem Items28_any (g : Gram) (A : Option Addr) (cp : Nat) (l : List Term) (lang : Int) (s : StrS) (t u : Int) (w : World) (hg : g.lies w) (hr : TermsAt w A l) (hm : l.length ≤ 9223372036854775807) (hws : s.lies w) :
    Calls Tryz.prog 33 #[.agg #[.string g.name, .slice g.cats.addr g.cats.xs.length g.cats.cap, .string g.start, .int .i64 g.startNo, .slice g.entries.addr g.entries.xs.length g.entries.cap, .slice g.rules.addr g.rules.xs.length g.rules.cap], .slice A l.length cp, .int .i64 lang, .slice s.addr s.xs.length s.cap, .int .i64 t, .int .i64 u] w (ItemsPost g l lang s.xs t u w) := by
  obtain ⟨i0, z0, hi0, hz0, hz1, hz2, hzs⟩ := parts_item
  obtain ⟨W0, hW0⟩ : ∃ W0, w.alloc (.cells #[.string g.name, .slice g.cats.addr g.cats.xs.length g.cats.cap, .string g.start, .int .i64 g.startNo, .slice g.entries.addr g.entries.xs.length g.entries.cap, .slice g.rules.addr g.rules.xs.length g.rules.cap] 26) = W0 := ⟨_, rfl⟩
  have hB0 : Below w.heap.size w W0 := by rw [← hW0]; exact ext_alloc (Below.refl _ _) _
  have hg0 : W0.heap[w.heap.size]? = some (.cells #[.string g.name, .slice g.cats.addr g.cats.xs.length g.cats.cap, .string g.start, .int .i64 g.startNo, .slice g.entries.addr g.entries.xs.length g.entries.cap, .slice g.rules.addr g.rules.xs.length g.rules.cap] 26 (0, 0)) := by rw [← hW0]; exact World.alloc_heap_new _ _
  have HE : Hid (tagsE g l lang s.xs t u = if checkG g ≠ 0 then checkG g else if standE l lang t u ≠ 0 then standE l lang t u else if 16 < s.xs.length then 2 else if s.xs.all wordB = false then 280 else if 1024 < (tagsC g (standT l lang t u) s.xs).length then 2 else 0) := rfl
  have c1 := Lib.hid (check26r_any g W0 (hg.ext hB0))
  have c2 := Lib.hid (fun V (hV : Below W0.heap.size W0 V) => Standing27_any A cp l lang t u V (hr.ext (ext_trans hB0 hV)) hm)
  have Hg := Lib.hid hg
  have Hr := Lib.hid hr
  have Hws := Lib.hid hws
  have Hg0 := Lib.hid hg0
  have g0 := gblk hg0 0
  have g1 := gblk hg0 1
  have g2 := gblk hg0 2
  have g3 := gblk hg0 3
  have g4 := gblk hg0 4
  have g5 := gblk hg0 5
  clear hg hr hws hg0
  go_enter Tryz.func33, Tryz.ntmps33
  go_wp2_with fail
  refine c1.out.mono ?_
  rintro e w1 ⟨rfl, hb1⟩
  clear c1 g0 g1 g2 g3 g4 g5 hW0
  have hB1 := ext_trans hB0 hb1
  by_cases hc : checkG g ≠ 0
  · have HF : Hid (tagsE g l lang s.xs t u = checkG g) := by show _ = _; rw [HE.out, if_pos hc]
    have q : (checkG g != 0) = true := by simpa using hc
    have Hc := Lib.hid hc
    generalize checkG g = r at *
    clear hc HE c2
    go_wp2_with fail
    go_ret2
    exact ⟨hB1, .inl ⟨by rw [HF.out]; exact Hc.out, by rw [HF.out]; rfl⟩⟩
  have hc := Decidable.not_not.1 hc
  have HC := Lib.hid hc
  have HE2 : Hid (tagsE g l lang s.xs t u = if standE l lang t u ≠ 0 then standE l lang t u else if 16 < s.xs.length then 2 else if s.xs.all wordB = false then 280 else if 1024 < (tagsC g (standT l lang t u) s.xs).length then 2 else 0) := by show _ = _; rw [HE.out, if_neg (fun h => h hc)]
  rw [hc]
  clear hc HE
  go_wp2_with fail
  refine (c2.out w1 hb1).mono ?_
  rintro e w2 ⟨hb2, ⟨hne, rfl⟩ | ⟨hz, SA, Sc, rfl, hS, hSn⟩⟩
  · have HF : Hid (tagsE g l lang s.xs t u = standE l lang t u) := by show _ = _; rw [HE2.out, if_pos hne]
    have q : (standE l lang t u != 0) = true := by simpa using hne
    have Hc := Lib.hid hne
    have hB2 := ext_trans hB1 hb2
    generalize standE l lang t u = r at *
    clear hne HE2 c2
    go_wp2_with fail
    go_ret2
    exact ⟨hB2, .inl ⟨by rw [HF.out]; exact Hc.out, by rw [HF.out]; rfl⟩⟩
  have hB2 := ext_trans hB1 hb2
  have hgx2 := (hb2.block _ (lt_block ((hb1.block _ (lt_block Hg0.out)).trans Hg0.out))).trans ((hb1.block _ (lt_block Hg0.out)).trans Hg0.out)
  have HE3 : Hid (tagsE g l lang s.xs t u = if 16 < s.xs.length then 2 else if s.xs.all wordB = false then 280 else if 1024 < (tagsC g (standT l lang t u) s.xs).length then 2 else 0) := by show _ = _; rw [HE2.out, if_neg (fun h => h hz)]
  have hlt0 := standE_zero hz
  have hSl : ∀ x ∈ standT l lang t u, x.lies w := fun x hx => Hr.out.lie x (List.mem_filter.1 hx).1
  have hSlen : (standT l lang t u).length ≤ 1024 := Nat.le_trans (List.length_filter_le _ _) (checkT_zero hlt0.1).1
  have HSl := Lib.hid hSl
  have HS := Lib.hid hS
  clear HE2 c2 hlt0 hSl hS hSn
  clear hz
  generalize hSS : standT l lang t u = S at *
  have HSS := Lib.hid hSS
  clear hSS
  by_cases hlen : 16 < s.xs.length
  · have HF : Hid (tagsE g l lang s.xs t u = 2) := by show _ = _; rw [HE3.out, if_pos hlen]
    clear HE3 hgx2
    go_wp2_with fail
    go_ret2
    exact ⟨hB2, .inl ⟨by rw [HF.out]; decide, by rw [HF.out]; rfl⟩⟩
  have HE4 : Hid (tagsE g l lang s.xs t u = if s.xs.all wordB = false then 280 else if 1024 < (tagsC g S s.xs).length then 2 else 0) := by show _ = _; rw [HE3.out, if_neg hlen]
  have HLen : Hid (s.xs.length ≤ 16) := by show _ ≤ _; omega
  have h02 : w.heap.size ≤ w2.heap.size := hB2.size
  have HR0 := Lib.hid (RowI.empty w (Below.refl w2.heap.size w2))
  have hk0 : (w2.alloc (.cells #[] 47)).heap[w.heap.size]? = some (.cells #[.string g.name, .slice g.cats.addr g.cats.xs.length g.cats.cap, .string g.start, .int .i64 g.startNo, .slice g.entries.addr g.entries.xs.length g.entries.cap, .slice g.rules.addr g.rules.xs.length g.rules.cap] 26 (0, 0)) := (Below.heap_alloc _ _ _ (by have := lt_block hgx2; omega)).trans hgx2
  have Hk0 := Lib.hid hk0
  have HD : Hid (∀ V, Below w2.heap.size w2 V → TagD w V ⟨g, 0, s⟩) := fun V hV => ⟨Nat.le_trans h02 hV.size, fun q hq => (ext_trans hB2 hV).block q hq, Hg.out, Hws.out⟩
  have hs16 : s.xs.length ≤ 9223372036854775807 := by omega
  clear HE3 hgx2 hk0
  obtain ⟨W2, hW2⟩ : ∃ W2, W2 = w2 := ⟨_, rfl⟩
  subst hW2
  go_wp2_with fail
  go_loopw [17, 18] (fun v iv wr => ∃ (k : Nat) (L : List ItemG), k ≤ s.xs.length ∧ iv = .int .i64 k ∧ Hid (RowI w W2 v L wr) ∧ Hid (L.map ItemG.c = ownsC 0 (s.xs.take k)) ∧ Hid ((s.xs.take k).all wordB = true) ∧ wr.heap[w.heap.size]? = some (.cells #[.string g.name, .slice g.cats.addr g.cats.xs.length g.cats.cap, .string g.start, .int .i64 g.startNo, .slice g.entries.addr g.entries.xs.length g.entries.cap, .slice g.rules.addr g.rules.xs.length g.rules.cap] 26 (0, 0))) (fun _ iv _ => s.xs.length - (intOf iv).toNat)
  case atStart => exact ⟨0, [], Nat.zero_le _, rfl, HR0, rfl, rfl, Hk0.out⟩
  case round =>
    obtain ⟨k, L, hk, rfl, HR, HMp, HAll, hkg⟩ := hrel
    clear HR0 Hk0
    obtain ⟨Av, cv, rfl, _⟩ := own_room HR.out.own
    by_cases hlt : k < s.xs.length
    · have hD := HD.out wr HR.out.below
      obtain ⟨b, off, hA, hb, hcl⟩ := StrS.at_ hD.wsv (k := k) hlt
      change s.addr = _ at hA
      have e0 : wr.cell? ⟨b, off + k, none⟩ = some (.string s.xs[k]) := hcl k hlt
      have htk : s.xs.take (k + 1) = s.xs.take k ++ [s.xs[k]] := List.take_succ_eq_append_getElem hlt
      have hmem := List.getElem_mem hlt
      have cW := Lib.hid (word9_any s.xs[k] wr)
      have HT2 : Hid (wordB s.xs[k] = true → (s.xs.take (k + 1)).all wordB = true) := by intro h; rw [htk, List.all_append, HAll.out]; simp [h]
      have HF2 : Hid (wordB s.xs[k] = false → s.xs.all wordB = false) := by intro h; rw [List.all_eq_false]; exact ⟨_, hmem, by simp [h]⟩
      have HO : Hid (ownsC 0 (s.xs.take (k + 1)) = ownsC 0 (s.xs.take k) ++ [ownWC k s.xs[k]]) := by
        show _ = _
        rw [htk, ownsC_snoc, List.length_take, Nat.min_eq_left hk, Nat.zero_add]
      have hLk : L.length = k := by
        have h1 := congrArg List.length HMp.out
        rw [List.length_map, ownsC_len, List.length_take, Nat.min_eq_left hk] at h1
        exact h1
      rw [hA]
      clear hcl hA htk hmem hD
      generalize s.xs[k] = x at *
      generalize wordB x = f at *
      have hk16 : k < 16 := by have := HLen.out; omega
      have hL16 : L.length < 16 := by omega
      have hwr : IntKind.i64.wrap ((k : Int) + 1) = (k : Int) + 1 := IntWalk.i64_in _ (by omega)
      clear hLk
      go_wp2_with fail
      refine cW.out.mono ?_
      rintro ee w4 ⟨rfl, hb4⟩
      have HR4 := Lib.hid (HR.out.ext h02 hb4)
      have hk4 := (hb4.block _ (lt_block hkg)).trans hkg
      have e4 := (hb4.cell (p := ⟨b, off + k, none⟩) hb).trans e0
      clear cW e0 HR hkg
      cases f
      · have HF : Hid (tagsE g l lang s.xs t u = 280) := by show _ = _; rw [HE4.out, if_pos (HF2.out rfl)]
        clear HT2 HF2 HO
        go_wp2_with fail
        go_ret2
        exact ⟨ext_trans hB2 HR4.out.below, .inl ⟨by rw [HF.out]; decide, by rw [HF.out]; rfl⟩⟩
      · have HAll2 := Lib.hid (HT2.out rfl)
        have hrow : w4.ownsRow W2.heap.size 47 6 (.slice Av L.length cv) L.length (L.flatMap ItemG.cells) := HR4.out.own
        have hW4 := HR4.out.below.size
        clear HT2 HF2
        go_wp2_with (at_builtin; refine wpList_append_own_at _ rfl _ _ 27 rfl W2.heap.size 47 i0 z0 6 64 Tryz.underlying27 hi0 hz0 hz1 hz2 hzs (by decide) _ _ _ rfl ((hrow.alloc _).alloc _) ⟨w4.heap.size + 1, 0, none⟩ 1 1 [.int .i64 (-1), .int .i64 (k : Int), .int .i64 ((k : Int) + 1), .int .i64 0, .slice (some ⟨w4.heap.size, 0, none⟩) 1 1, .int .i64 (-1)] rfl rfl (gcells_new2 w4 _ [.int .i64 (-1), .int .i64 (k : Int), .int .i64 ((k : Int) + 1), .int .i64 0, .slice (some ⟨w4.heap.size, 0, none⟩) 1 1, .int .i64 (-1)] 47) (by simp [Value.oneCell']) (by unfold maxLen; omega) (by omega) (by simp; omega) ?_; intro v' w6 hown' hgrow hnil hat; obtain ⟨g', cap', rfl⟩ := ownsRow_succ hown')
        have hyF : FarI w.heap.size ((w4.alloc (.cells #[.string x] 9)).alloc (.cells ([.int .i64 (-1), .int .i64 (k : Int), .int .i64 ((k : Int) + 1), .int .i64 0, .slice (some ⟨w4.heap.size, 0, none⟩) 1 1, .int .i64 (-1)]).toArray 47)) ⟨some ⟨w4.heap.size, 0, none⟩, 1, [x]⟩ := far_new (V := w4) (by rw [← World.size_alloc]; exact ext_alloc (Below.refl _ _) _)
        have hbq : Below w4.heap.size w4 ((w4.alloc (.cells #[.string x] 9)).alloc (.cells ([.int .i64 (-1), .int .i64 (k : Int), .int .i64 ((k : Int) + 1), .int .i64 0, .slice (some ⟨w4.heap.size, 0, none⟩) 1 1, .int .i64 (-1)]).toArray 47)) := ext_alloc (ext_alloc (Below.refl _ _) _) _
        have HR6 := Lib.hid (HR4.out.snoc h02 hbq (y := ⟨-1, k, (k : Int) + 1, 0, ⟨some ⟨w4.heap.size, 0, none⟩, 1, [x]⟩, -1⟩) hyF hown' hgrow)
        have hkg6 := HR4.out.keep hbq hgrow hk4 (by decide)
        clear hyF hbq hrow hown' hgrow hnil hat HR4 e4
        go_wp2
        go_roundw
        case rel => exact ⟨k + 1, L ++ [⟨-1, k, (k : Int) + 1, 0, ⟨some ⟨w4.heap.size, 0, none⟩, 1, [x]⟩, -1⟩], by omega, by go_num, HR6, by show _ = _; rw [List.map_append, HMp.out, HO.out]; rfl, HAll2, hkg6⟩
        case measure => simp [intOf]; omega
    · have hks : k = s.xs.length := by omega
      subst hks
      rw [List.take_length] at HMp HAll
      have HE5 : Hid (tagsE g l lang s.xs t u = if 1024 < (tagsC g S s.xs).length then 2 else 0) := by show _ = _; rw [HE4.out, if_neg (by rw [HAll.out]; decide)]
      have HGO := Lib.hid (checkG_ok HC.out)
      have Hkg := Lib.hid hkg
      clear HE4 hlt hk HAll hkg
      go_wp2_with fail
      go_loopw [17, 19] (fun v iv wr => ∃ (k : Nat) (L : List ItemG), k ≤ s.xs.length ∧ iv = .int .i64 k ∧ Hid (RowI w W2 v L wr) ∧ Hid (L.map ItemG.c = ownsC 0 s.xs ++ wordsC g S s.xs 0 (s.xs.take k)) ∧ wr.heap[w.heap.size]? = some (.cells #[.string g.name, .slice g.cats.addr g.cats.xs.length g.cats.cap, .string g.start, .int .i64 g.startNo, .slice g.entries.addr g.entries.xs.length g.entries.cap, .slice g.rules.addr g.rules.xs.length g.rules.cap] 26 (0, 0))) (fun _ iv _ => s.xs.length - (intOf iv).toNat)
      case atStart => exact ⟨0, L, Nat.zero_le _, rfl, HR, by show _ = _; rw [HMp.out, List.take_zero]; simp [wordsC], Hkg.out⟩
      case round =>
        obtain ⟨k, L, hk, rfl, HR, HMp, hkg⟩ := hrel
        obtain ⟨Av, cv, rfl, _⟩ := own_room HR.out.own
        have hLB : L.length ≤ 50000 := by
          have h2 := congrArg List.length HMp.out
          rw [List.length_map, List.length_append, ownsC_len] at h2
          have h3 := words_len g HGO.out S s.xs (s.xs.take k) 0
          rw [List.length_take] at h3
          have h5 := HLen.out
          have h7 : 512 * 6 * min k s.xs.length ≤ 512 * 6 * 16 := Nat.mul_le_mul_left _ (by omega)
          omega
        by_cases hlt : k < s.xs.length
        · have hD := HD.out wr HR.out.below
          have htk : s.xs.take (k + 1) = s.xs.take k ++ [s.xs[k]] := List.take_succ_eq_append_getElem hlt
          have hsk : s.xs[k]? = some s.xs[k] := List.getElem?_eq_getElem hlt
          have Htk := Lib.hid htk
          clear htk
          generalize s.xs[k] = x at *
          have cS := Lib.hid (single28_any w wr g 0 s SA Sc S k x hsk hD HGO.out.few HGO.out.fewE (HS.out.ext HR.out.below) hSlen HSl.out)
          have hsl := single_len g HGO.out S s.xs k x
          have g0 := gblk hkg 0
          have g1 := gblk hkg 1
          have g2 := gblk hkg 2
          have g3 := gblk hkg 3
          have g4 := gblk hkg 4
          have g5 := gblk hkg 5
          have Hkg := Lib.hid hkg
          clear hD hsk hkg
          go_wp2_with (first | (at_builtin; refine wpList_append_rd rfl _ _ 27 rfl W2.heap.size 47 i0 z0 6 64 Tryz.underlying27 hi0 hz0 hz1 hz2 hzs (by decide) _ _ _ rfl A7 L7.length c7 (L7.flatMap ItemG.cells) rfl hrow (items_len L7) hrd7 (items_one L7) (by unfold maxLen; omega) (by omega) (by omega) ?_; intro v' w6 hown' hgrow hat) | (refine cS.out.mono ?_; rintro e w4 ⟨v7, L7, rfl, hr7, hm7⟩; obtain ⟨A7, c7, rfl, hrd7, _⟩ := hr7.own.form (by decide); have hL7 : L7.length ≤ 512 * 6 := (by rw [← hm7, List.length_map] at hsl; exact hsl); have HR4 := Lib.hid (HR.out.ext h02 hr7.below); have hk4 := (hr7.below.block _ (lt_block Hkg.out)).trans Hkg.out; have hrow : w4.ownsRow W2.heap.size 47 6 (.slice Av L.length cv) L.length (L.flatMap ItemG.cells) := HR4.out.own; have hW4 := HR4.out.below.size; clear g0 g1 g2 g3 g4 g5 cS))
          have HR6 : Hid (RowI w W2 v' (L ++ L7) w6) := HR4.out.more h02 hr7.far hown' hgrow
          have hkg6 := HR4.out.keep (Below.refl _ _) hgrow hk4 (by decide)
          have HM6 : Hid ((L ++ L7).map ItemG.c = ownsC 0 s.xs ++ wordsC g S s.xs 0 (s.xs.take k) ++ singleC g S s.xs k x) := by show _ = _; rw [List.map_append, HMp.out, hm7]
          have hLB6 : (L ++ L7).length ≤ 54000 := by rw [List.length_append]; omega
          have hmx : k < 17 := by have := HLen.out; omega
          obtain ⟨A6, c6, rfl, _⟩ := own_room hown'
          have Hkg6 := Lib.hid hkg6
          clear hown' hgrow hat hr7 hm7 hrd7 hrow HR4 hk4 hsl hkg6 HR
          generalize L ++ L7 = L1 at *
          go_wp2_with fail
          go_loopw [17, 20] (fun v iv wr => ∃ (j : Nat) (L' : List ItemG), j ≤ 3 ∧ iv = .int .i64 ((j + 2 : Nat) : Int) ∧ Hid (RowI w W2 v L' wr) ∧ Hid (L'.map ItemG.c = ownsC 0 s.xs ++ wordsC g S s.xs 0 (s.xs.take k) ++ singleC g S s.xs k x ++ termsTo g S s.xs k j) ∧ L'.length ≤ 54000 + j ∧ wr.heap[w.heap.size]? = some (.cells #[.string g.name, .slice g.cats.addr g.cats.xs.length g.cats.cap, .string g.start, .int .i64 g.startNo, .slice g.entries.addr g.entries.xs.length g.entries.cap, .slice g.rules.addr g.rules.xs.length g.rules.cap] 26 (0, 0))) (fun _ iv _ => 6 - (intOf iv).toNat)
          case atStart => exact ⟨0, L1, by omega, rfl, HR6, by show _ = _; rw [HM6.out]; simp [termsTo], by omega, Hkg6.out⟩
          case round =>
            obtain ⟨j, L', hj, rfl, HJ, HMj, hLj, hkg⟩ := hrel
            clear HR6 HM6 Hkg6
            obtain ⟨Aw, cw, rfl, _⟩ := own_room HJ.out.own
            by_cases hlj : j < 3
            · have hD := HD.out wr HJ.out.below
              have cT := Lib.hid (term28_any wr g s SA Sc S k (j + 2) hD.cats hD.wsv (HS.out.ext HJ.out.below) (by omega) (by omega) (by omega))
              have g0 := gblk hkg 0
              have g1 := gblk hkg 1
              have g2 := gblk hkg 2
              have g3 := gblk hkg 3
              have g4 := gblk hkg 4
              have g5 := gblk hkg 5
              have Hkg := Lib.hid hkg
              have hq1 : ((j + 2 : Nat) : Int) ≤ 4 := by omega
              have hwj : IntKind.i64.wrap ((((j + 2 : Nat) : Int)) + 1) = ((j + 1 + 2 : Nat) : Int) := by rw [IntWalk.i64_in _ (by omega)]; omega
              clear hD hkg
              go_wp2_with fail
              refine cT.out.mono ?_
              rintro e w8 ⟨rfl, hb8⟩
              have HJ8 := Lib.hid (HJ.out.ext h02 hb8)
              have hk8 := (hb8.block _ (lt_block Hkg.out)).trans Hkg.out
              clear cT HJ g0 g1 g2 g3 g4 g5
              cases hp : pickC g.cats.xs S s.xs k (j + 2) with
              | none =>
                have HM8 : Hid (L'.map ItemG.c = ownsC 0 s.xs ++ wordsC g S s.xs 0 (s.xs.take k) ++ singleC g S s.xs k x ++ termsTo g S s.xs k (j + 1)) := by
                  show _ = _
                  rw [HMj.out, termsTo_succ, show termC g.cats.xs S s.xs k (j + 2) = [] from by unfold termC; rw [hp]]
                  simp
                rw [show pickV g.cats.xs k (j + 2) none = .tuple #[.agg #[.int .i64 0, .int .i64 0, .int .i64 0, .int .i64 0, .slice none 0 0, .int .i64 0], .bool false] from rfl]
                have hba : Below w8.heap.size w8 (w8.alloc (.cells #[.int .i64 0, .int .i64 0, .int .i64 0, .int .i64 0, .slice none 0 0, .int .i64 0] 47)) := ext_alloc (Below.refl _ _) _
                have HQ := Lib.hid (HJ8.out.ext h02 hba)
                have hkq := (hba.block _ (lt_block hk8)).trans hk8
                clear hp hba HJ8 hk8 HMj
                go_wp2_with fail
                go_roundw
                case rel => exact ⟨j + 1, L', by omega, by first | rfl | exact congrArg _ hwj | (simp; omega), HQ, HM8, by omega, hkq⟩
                case measure => simp [intOf]; omega
              | some y =>
                have hmem : y ∈ S := List.mem_of_find?_eq_some hp
                have hyT : FarI w.heap.size w8 y.tgt := (HD.out w8 HJ8.out.below).far (HSl.out y hmem).2
                have HM8 : Hid ((L' ++ [(⟨idxF y.cat g.cats.xs, k, (k : Int) + ((j + 2 : Nat) : Int), 0, y.tgt, y.no⟩ : ItemG)]).map ItemG.c = ownsC 0 s.xs ++ wordsC g S s.xs 0 (s.xs.take k) ++ singleC g S s.xs k x ++ termsTo g S s.xs k (j + 1)) := by
                  show _ = _
                  rw [List.map_append, HMj.out, termsTo_succ, show termC g.cats.xs S s.xs k (j + 2) = [⟨idxF y.cat g.cats.xs, k, (k : Int) + ((j + 2 : Nat) : Int), 0, y.tgt.xs, y.no⟩] from by unfold termC; rw [hp]]
                  simp [ItemG.c]
                rw [show pickV g.cats.xs k (j + 2) (some y) = .tuple #[.agg #[.int .i64 (idxF y.cat g.cats.xs), .int .i64 (k : Int), .int .i64 ((k : Int) + ((j + 2 : Nat) : Int)), .int .i64 0, .slice y.tgt.addr y.tgt.xs.length y.tgt.cap, .int .i64 y.no], .bool true] from rfl]
                have hrow : w8.ownsRow W2.heap.size 47 6 (.slice Aw L'.length cw) L'.length (L'.flatMap ItemG.cells) := HJ8.out.own
                have hW8 := HJ8.out.below.size
                clear hp hmem HMj
                go_wp2_with (at_builtin; refine wpList_append_own_at _ rfl _ _ 27 rfl W2.heap.size 47 i0 z0 6 64 Tryz.underlying27 hi0 hz0 hz1 hz2 hzs (by decide) _ _ _ rfl ((hrow.alloc _).alloc _) ⟨w8.heap.size + 1, 0, none⟩ 1 1 [.int .i64 (idxF y.cat g.cats.xs), .int .i64 (k : Int), .int .i64 ((k : Int) + ((j + 2 : Nat) : Int)), .int .i64 0, .slice y.tgt.addr y.tgt.xs.length y.tgt.cap, .int .i64 y.no] rfl rfl (gcells_new2 w8 _ [.int .i64 (idxF y.cat g.cats.xs), .int .i64 (k : Int), .int .i64 ((k : Int) + ((j + 2 : Nat) : Int)), .int .i64 0, .slice y.tgt.addr y.tgt.xs.length y.tgt.cap, .int .i64 y.no] 47) (by simp [Value.oneCell']) (by unfold maxLen; omega) (by omega) (by simp; omega) ?_; intro v' w6 hown' hgrow hnil hat; obtain ⟨g', cap', rfl⟩ := ownsRow_succ hown')
                have hbq : Below w8.heap.size w8 ((w8.alloc (.cells ([.int .i64 (idxF y.cat g.cats.xs), .int .i64 (k : Int), .int .i64 ((k : Int) + ((j + 2 : Nat) : Int)), .int .i64 0, .slice y.tgt.addr y.tgt.xs.length y.tgt.cap, .int .i64 y.no]).toArray 47)).alloc (.cells ([.int .i64 (idxF y.cat g.cats.xs), .int .i64 (k : Int), .int .i64 ((k : Int) + ((j + 2 : Nat) : Int)), .int .i64 0, .slice y.tgt.addr y.tgt.xs.length y.tgt.cap, .int .i64 y.no]).toArray 47)) := ext_alloc (ext_alloc (Below.refl _ _) _) _
                have HQ := Lib.hid (HJ8.out.snoc h02 hbq (y := ⟨idxF y.cat g.cats.xs, k, (k : Int) + ((j + 2 : Nat) : Int), 0, y.tgt, y.no⟩) (hyT.ext (Nat.le_trans h02 hW8) hbq) hown' hgrow)
                have hkq := HJ8.out.keep hbq hgrow hk8 (by decide)
                clear hrow hown' hgrow hnil hat hbq hyT HJ8 hk8
                go_wp2
                go_roundw
                case rel => exact ⟨j + 1, _, by omega, by first | rfl | exact congrArg _ hwj | (simp; omega), HQ, HM8, by simp; omega, hkq⟩
                case measure => simp [intOf]; omega
            · have hj3 : j = 3 := by omega
              subst hj3
              have HM9 : Hid (L'.map ItemG.c = ownsC 0 s.xs ++ wordsC g S s.xs 0 (s.xs.take (k + 1))) := by
                show _ = _
                rw [HMj.out, List.append_assoc, List.append_assoc, termsTo_word, Htk.out, wordsC_snoc, List.length_take, Nat.min_eq_left hk, Nat.zero_add]
              go_wp2_with fail
              exact ⟨⟨k + 1, L', by omega, by go_num, HJ, HM9, hkg⟩, by simp [intOf]; omega⟩
        · have hks : k = s.xs.length := by omega
          subst hks
          have HTl : Hid (L.map ItemG.c = tagsC g S s.xs) := by
            have := HMp.out
            rw [List.take_length] at this
            exact this
          have hLl : (tagsC g S s.xs).length = L.length := by rw [← HTl.out, List.length_map]
          have HE6 : Hid (tagsE g l lang s.xs t u = if 1024 < L.length then 2 else 0) := by show _ = _; rw [HE5.out, hLl]
          clear HE5 hLl hlt hk
          by_cases hbig : 1024 < L.length
          · have HF : Hid (tagsE g l lang s.xs t u = 2) := by show _ = _; rw [HE6.out, if_pos hbig]
            go_wp2_with fail
            go_ret2
            exact ⟨ext_trans hB2 HR.out.below, .inl ⟨by rw [HF.out]; decide, by rw [HF.out]; rfl⟩⟩
          · have HF : Hid (tagsE g l lang s.xs t u = 0) := by show _ = _; rw [HE6.out, if_neg hbig]
            obtain ⟨A9, c9, e9, hr9, hn9⟩ := HR.out.own.form (by decide)
            cases e9
            obtain ⟨hc9, hm9⟩ : L.length ≤ cv ∧ cv ≤ 9223372036854775807 := by
              rcases HR.out.own.2 with ⟨h1, h2⟩ | ⟨g9, c9, cur, h1, _, _, h4, h5, _⟩
              · injection h1 with _ h3 h4
                subst h4
                exact ⟨by omega, by omega⟩
              · injection h1 with _ _ h6
                subst h6
                exact ⟨h4, by unfold maxLen at h5; omega⟩
            have HIt : Hid (ItemsAt wr ⟨Av, cv, L⟩) := ⟨⟨hr9, hc9, hm9, hn9⟩, fun y hy => (HR.out.far y hy).1⟩
            clear hr9 hn9 hc9 hm9
            go_wp2_with fail
            go_ret2
            exact ⟨ext_trans hB2 HR.out.below, .inr ⟨HF.out, ⟨Av, cv, L⟩, rfl, by rw [HSS.out]; exact HTl.out, HIt.out⟩⟩
end Go.Proofs.YthojaplnimoacaaGreatDoor
