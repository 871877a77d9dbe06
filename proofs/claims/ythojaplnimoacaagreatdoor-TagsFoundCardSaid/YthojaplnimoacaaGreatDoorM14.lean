/- Texts of this claim, one after the other: TagC, TagE, TagI, R28b, R28c. -/
import Derived.Test.YthojaplnimoacaaGreatDoorM13
import Derived.Test.YthojaplnimoacaaGreatDoorShelfG
import Derived.Test.YthojaplnimoacaaGreatDoorM5
import Derived.Test.YthojaplnimoacaaGreatDoorM11
import Derived.Test.YthojaplnimoacaaGreatDoorM6
/- The tagger: the item of the term with so many words. -/
namespace Go.Proofs.YthojaplnimoacaaGreatDoor
open Go.RowKit Go.Han
attribute [local irreducible] wpStill wpQuiet
attribute [local go_sem] Oper.semAt_some
set_option maxRecDepth 100000

theorem idxFromS_is (x : ByteArray) : ∀ (zs : List ByteArray) (i : Nat), Lib.idxFromS zs x i = if idxF x zs = -1 then -1 else idxF x zs + i
  | [], i => rfl
  | z :: zs, i => by
    unfold Lib.idxFromS idxF
    rw [idxFromS_is x zs (i + 1)]
    have := idxF_ge x zs
    by_cases h : z = x
    · simp [h]
    · simp only [h, if_false]
      by_cases h2 : idxF x zs = -1
      · simp [h2]
      · simp only [h2, if_false]
        rw [if_neg (by omega)]; omega
theorem idxOfS_is (x : ByteArray) (zs : List ByteArray) : Lib.idxOfS zs x = idxF x zs := by
  unfold Lib.idxOfS
  rw [idxFromS_is]
  split <;> omega
/-- slices.Index at strings. -/
theorem indexS_any (s : StrS) (x : ByteArray) (w : World) (hs : s.lies w) : Calls Tryz.prog 120 #[.slice s.addr s.xs.length s.cap, .string x] w fun e w' => e = .returned (.int .i64 (idxF x s.xs)) ∧ w' = w := by
  have hm : s.xs.length ≤ 9223372036854775807 := Nat.le_trans hs.cap hs.max
  cases hx : s.xs with
  | nil => exact (Tryz.slices_Index_string_empty s.addr s.cap x w).mono fun _ _ h => ⟨by rw [h.1, idxOfS_is], h.2⟩
  | cons y ys =>
    rw [← hx]
    have hlen : 0 < s.xs.length := by rw [hx]; simp
    obtain ⟨b, off, e, hb, _⟩ := StrS.at_ hs (k := 0) hlen
    rw [e]
    refine (Tryz.slices_Index_string b off s.xs.length s.cap s.xs x w (Nat.le_refl _) hm fun j hj => ?_).mono fun e w' h => ⟨?_, h.2⟩
    · obtain ⟨b', off', e', _, hc⟩ := StrS.at_ hs (k := j) hj
      rw [e] at e'
      cases e'
      rw [getD_str s.xs j hj]
      exact hc j hj
    · rw [h.1, List.take_length, idxOfS_is]
/-- strings.Join with spaces, at words. -/
theorem joinSp_any (s : StrS) (w : World) (hs : s.lies w) (h1 : 1 ≤ s.xs.length) (h4 : s.xs.length ≤ 4) (hw : ∀ x ∈ s.xs, wordB x = true) : Calls Tryz.prog 68 #[.slice s.addr s.xs.length s.cap, .string ⟨#[32]⟩] w fun e w' => e = .returned (.string (keySp s.xs)) ∧ Below w.heap.size w w' := by
  obtain ⟨b, off, he, hb, hc⟩ := StrS.at_ hs (k := 0) (by omega)
  rw [he]
  have hk := keySp_length hw h4
  have e : (keySp s.xs).size = (Lib.join (s.xs.map (fun s => s.data.toList)) [32]).length := by unfold keySp; rw [Lib.size_eq]
  exact Tryz.strings_Join b off s.cap s.xs ⟨#[32]⟩ w (fun j y hj => by
    obtain ⟨hj1, rfl⟩ := List.getElem?_eq_some_iff.1 hj
    exact hc j hj1) hb (by omega) hs.cap (by show (Lib.join _ [32]).length ≤ _; omega)
/-- The map of the terms. -/
def TermsM (V : World) (m n : Nat) (S : List Term) : Prop := MapF V strK termShape m n (fun k => (termsF S k).map Term.shown)
def lookV (o : Option Term) : Value := .tuple #[termShape.val ((o.map Term.shown).getD zeroTV), .bool o.isSome]
theorem look_terms {V : World} {m n : Nat} {S : List Term} (h : TermsM V m n S) (k : ByteArray) (hk : k.size ≤ maxLen) :
    (Instr.lookup 113 (.map (some m)) (.string k) true).run Tryz.prog V = .ok (lookV (termsF S k)) V := by
  have := run_lookup_f V keyedS Tryz.underlying113 strK termShape zeroTV (zero_termV V) h k hk
  rw [show strK.val k = .string k from rfl] at this
  rw [this]
  unfold lookV
  congr 4
  cases termsF S k <;> rfl
theorem st8 {W : World} {b t : Nat} {u0 u1 u2 u3 u4 u5 u6 u7 : Value} (v0 v1 v2 v3 v4 v5 v6 v7 : Value) (h : W.heap[b]? = some (.cells #[u0, u1, u2, u3, u4, u5, u6, u7] t (0, 0))) :
    ((((((((W.setCell ⟨b, 0, none⟩ v0).setCell ⟨b, 1, none⟩ v1).setCell ⟨b, 2, none⟩ v2).setCell ⟨b, 3, none⟩ v3).setCell ⟨b, 4, none⟩ v4).setCell ⟨b, 5, none⟩ v5).setCell ⟨b, 6, none⟩ v6).setCell ⟨b, 7, none⟩ v7).heap[b]? = some (.cells #[v0, v1, v2, v3, v4, v5, v6, v7] t (0, 0)) := by
  have h1 := blk_set (blk_set (blk_set (blk_set (blk_set (blk_set (blk_set (blk_set h 0 v0) 1 v1) 2 v2) 3 v3) 4 v4) 5 v5) 6 v6) 7 v7
  simpa using h1
theorem below8 {a W : World} {B b : Nat} {v0 v1 v2 v3 v4 v5 v6 v7 : Value} (h : Below B a W) (hb : B ≤ b) : Below B a ((((((((W.setCell ⟨b, 0, none⟩ v0).setCell ⟨b, 1, none⟩ v1).setCell ⟨b, 2, none⟩ v2).setCell ⟨b, 3, none⟩ v3).setCell ⟨b, 4, none⟩ v4).setCell ⟨b, 5, none⟩ v5).setCell ⟨b, 6, none⟩ v6).setCell ⟨b, 7, none⟩ v7) :=
  (((((((h.setCell (p := ⟨b, 0, none⟩) hb _).setCell (p := ⟨b, 1, none⟩) hb _).setCell (p := ⟨b, 2, none⟩) hb _).setCell (p := ⟨b, 3, none⟩) hb _).setCell (p := ⟨b, 4, none⟩) hb _).setCell (p := ⟨b, 5, none⟩) hb _).setCell (p := ⟨b, 6, none⟩) hb _).setCell (p := ⟨b, 7, none⟩) hb _
/-- Where term$1 reads. -/
structure TermD (w V : World) (T : TagG) (i many b bi bm n : Nat) (S : List Term) : Prop where
  tag : V.heap[b]? = some (.cells #[.string T.g.name, .slice T.g.cats.addr T.g.cats.xs.length T.g.cats.cap, .string T.g.start, .int .i64 T.g.startNo, .slice T.g.entries.addr T.g.entries.xs.length T.g.entries.cap, .slice T.g.rules.addr T.g.rules.xs.length T.g.rules.cap, .map (some T.m), .slice T.ws.addr T.ws.xs.length T.ws.cap] 115 (0, 0))
  i : V.heap[bi]? = some (.cells #[.int .i64 i] 3 (0, 0))
  many : V.heap[bm]? = some (.cells #[.int .i64 many] 3 (0, 0))
  d : TagD w V T
  map : TermsM V T.m n S
theorem TermsM.ext {V V' : World} {m n : Nat} {S : List Term} (h : TermsM V m n S) (hb : Below V.heap.size V V') : TermsM V' m n S := h.of_block (hb.block _ h.lt)
theorem TermD.ext {w V V' : World} {T : TagG} {i many b bi bm n : Nat} {S : List Term} (h : TermD w V T i many b bi bm n S) (hb : Below V.heap.size V V') : TermD w V' T i many b bi bm n S :=
  ⟨(hb.block _ (lt_block h.tag)).trans h.tag, (hb.block _ (lt_block h.i)).trans h.i, (hb.block _ (lt_block h.many)).trans h.many, h.d.ext hb, h.map.ext hb⟩
set_option maxHeartbeats 4000000 in
theorem term1 (w w0 : World) (T : TagG) (i many b bi bm n : Nat) (S : List Term) (R : Nat → Prop) (hi : i < T.ws.xs.length) (h0m : 0 < many) (hm4 : many ≤ 4 ∨ T.ws.xs.length < i + many) (hmx : i + many ≤ 9223372036854775807)
    (hD : TermD w w0 T i many b bi bm n S) (hSl : ∀ x ∈ S, x.lies w) (hu : ∀ x ∈ S, ∀ y ∈ S, x.src.xs = y.src.xs → x = y) (hok : ∀ x ∈ S, x.ok = true) (hws : ∀ s ∈ T.ws.xs, wordB s = true)
    (hRl : ∀ k, k < w.heap.size → R k) (hRb : R b) (hRi : R bi) (hRm : R bm) (hRt : R T.m) :
    IterX Tryz.prog 119 #[.pointer (some ⟨bi, 0, none⟩), .pointer (some ⟨bm, 0, none⟩), .pointer (some ⟨b, 0, none⟩)] (EncI w.heap.size) R (termC T.g.cats.xs S T.ws.xs i many) w0 := by
  intro l' J W hJR hJB hY h0
  refine (callsIn_wide (n := 0)).1 ?_
  refine callsIn_of_wp Tryz.func119 rfl trivial ?_
  simp only [Tryz.ntmps119, List.size_toArray, List.length_cons, List.length_nil, Nat.reduceAdd, Nat.reduceSub, Array.replicate_succ, Array.replicate_zero, List.push_toArray, List.append_toArray, List.nil_append, List.cons_append]
  have HK : Hid (∀ q V, J q V → TermD w V T i many b bi bm n S) := fun q V h =>
    have hl : ∀ k, k < w.heap.size → V.heap[k]? = w.heap[k]? := fun k hk => (hJR q V h k (hRl k hk)).trans (hD.d.low k hk)
    ⟨(hJR q V h b hRb).trans hD.tag, (hJR q V h bi hRi).trans hD.i, (hJR q V h bm hRm).trans hD.many, ⟨size_of_low hl, hl, hD.d.g, hD.d.ws⟩, hD.map.of_block (hJR q V h T.m hRt)⟩
  have HY := Lib.hid hY
  have HJ := Lib.hid hJB
  have hk := HK.out [] W h0
  have c7 := gblk hk.tag 7
  have ci := cell_one hk.i
  have cm := cell_one hk.many
  have hwr : IntKind.i64.wrap ((i : Int) + (many : Int)) = (i : Int) + (many : Int) := IntWalk.i64_in _ (by omega)
  have hlx : T.ws.xs.length ≤ 9223372036854775807 := Nat.le_trans hD.d.ws.cap hD.d.ws.max
  have hcap := hD.d.ws.cap
  have HP := Lib.hid fun h2 => pickC_map hu hok hws T.g.cats.xs (i := i) (many := many) h0m h2
  clear hY hJB hJR hRl hRb hRi hRm hRt
  by_cases hlong : T.ws.xs.length < i + many
  · have ht : termC T.g.cats.xs S T.ws.xs i many = [] := termC_long _ S h0m hlong
    rw [ht]
    clear ht hm4 HP hk hD hSl hu hok hws
    gi_wp2
    exact bodyPost_ret (results_none rfl _ _ _) rfl ⟨⟨_, rfl⟩, h0⟩
  have hle : i + many ≤ T.ws.xs.length := by omega
  have hm4 : many ≤ 4 := by omega
  have hsub := StrS.sub_lies hk.d.wsv (i := i) (n := many) hle
  have hsl := StrS.sub_len hle
  have hrs : ∀ V : World, _ := fun V => run_sub T.ws i many V hle hcap
  have hsw : ∀ s ∈ (T.ws.sub i many).xs, wordB s = true := fun s hs => hws s (List.mem_of_mem_drop (List.mem_of_mem_take hs))
  obtain ⟨key, hkey⟩ : ∃ key, keySp (T.ws.sub i many).xs = key := ⟨_, rfl⟩
  have hkl : key.size ≤ 260 := by rw [← hkey]; exact keySp_length hsw (by rw [hsl]; exact hm4)
  have cJ : Hid (∀ V, Below W.heap.size W V → Calls Tryz.prog 68 #[.slice (T.ws.sub i many).addr many (T.ws.sub i many).cap, .string ⟨#[32]⟩] V (fun e w' => e = .returned (.string key) ∧ Below V.heap.size V w')) := by
    intro V hV
    have h := joinSp_any (T.ws.sub i many) V (hsub.ext hV) (by omega) (by omega) hsw
    rw [hsl, hkey] at h
    exact h
  have hp2 := HP.out hle
  rw [show keySp ((T.ws.xs.drop i).take many) = key from hkey] at hp2
  have hMem : ∀ x, termsF S key = some x → x.lies w := fun x hx => by
    have := termsF_find hu hok hws (i := i) (many := many) h0m hle
    rw [show keySp ((T.ws.xs.drop i).take many) = key from hkey, hx] at this
    exact hSl x (List.mem_of_find?_eq_some this.symm)
  obtain ⟨o, ho⟩ : ∃ o, termsF S key = o := ⟨_, rfl⟩
  have hl0 : ∀ V, Below W.heap.size W V → (Instr.lookup 113 (.map (some T.m)) (.string key) true).run Tryz.prog V = .ok (lookV (termsF S key)) V := fun V hV => look_terms (hk.ext hV).map key (by unfold maxLen; omega)
  obtain ⟨tv, htv⟩ : ∃ tv, (o.map Term.shown).getD zeroTV = tv := ⟨_, rfl⟩
  obtain ⟨ok, hok2⟩ : ∃ ok, o.isSome = ok := ⟨_, rfl⟩
  rw [ho] at hp2 hMem hl0
  have hcc := StrS.at_ hk.d.wsv (k := i) (by omega)
  have HG : Hid (∀ V, Below W.heap.size W V → V.cell? ⟨bi, 0, none⟩ = some (.int .i64 i) ∧ V.cell? ⟨bm, 0, none⟩ = some (.int .i64 many) ∧ V.cell? ⟨b, 6, none⟩ = some (.map (some T.m)) ∧ V.cell? ⟨b, 7, none⟩ = some (.slice T.ws.addr T.ws.xs.length T.ws.cap) ∧
      (Instr.lookup 113 (.map (some T.m)) (.string key) true).run Tryz.prog V = .ok (.tuple #[.agg #[.int .i64 tv.no, .int .i64 tv.at_, .int .i64 tv.known, .int .i64 tv.lang, .slice tv.sA tv.sn tv.sc, .slice tv.tA tv.tn tv.tc, .string tv.cat, .bool tv.gone], .bool ok]) V) := fun V hV => by
    have h := hk.ext hV
    refine ⟨cell_one h.i, cell_one h.many, gblk h.tag 6, gblk h.tag 7, ?_⟩
    rw [hl0 V hV]
    unfold lookV
    rw [htv, hok2]; rfl
  have HT : Hid (termC T.g.cats.xs S T.ws.xs i many = if ok = true ∧ 0 ≤ idxF tv.cat T.g.cats.xs then [⟨idxF tv.cat T.g.cats.xs, i, i + many, 0, (o.map (fun x => x.tgt.xs)).getD [], tv.no⟩] else []) := by
    show _ = _
    unfold termC
    rw [hp2, ← hok2, ← htv]
    cases o with
    | none => rfl
    | some x =>
      by_cases hc : 0 ≤ idxF x.cat T.g.cats.xs
      · have hb : catB T.g.cats.xs x.cat = true := by unfold catB; simpa using hc
        simp only [Option.bind_some, hb, if_true]
        rw [if_pos ⟨rfl, hc⟩]; rfl
      · have hb : catB T.g.cats.xs x.cat = false := by unfold catB; simpa using hc
        have e2 : ¬ (((some x : Option Term).isSome = true) ∧ 0 ≤ idxF ((Option.map Term.shown (some x)).getD zeroTV).cat T.g.cats.xs) := fun h => hc h.2
        simp only [Option.bind_some, hb]
        rw [if_neg e2]; rfl
  have HE : Hid (ok = true → ∃ t : StrS, t.addr = tv.tA ∧ t.xs.length = tv.tn ∧ t.cap = tv.tc ∧ t.lies w ∧ (o.map (fun x => x.tgt.xs)).getD [] = t.xs) := by
    intro h
    rw [← hok2] at h
    cases o with
    | none => cases h
    | some x =>
      rw [← htv]
      exact ⟨x.tgt, rfl, rfl, rfl, (hMem x rfl).2, rfl⟩
  have HX : Hid (∀ V, Below W.heap.size W V → Calls Tryz.prog 120 #[.slice T.g.cats.addr T.g.cats.xs.length T.g.cats.cap, .string tv.cat] V fun e w' => e = .returned (.int .i64 (idxF tv.cat T.g.cats.xs)) ∧ w' = V) := fun V hV => indexS_any T.g.cats _ V (hk.ext hV).d.cats
  have Hk := Lib.hid hk
  have hkb : W.heap[b]? = some (.cells #[.string T.g.name, .slice T.g.cats.addr T.g.cats.xs.length T.g.cats.cap, .string T.g.start, .int .i64 T.g.startNo, .slice T.g.entries.addr T.g.entries.xs.length T.g.entries.cap, .slice T.g.rules.addr T.g.rules.xs.length T.g.rules.cap, .map (some T.m), .slice T.ws.addr T.ws.xs.length T.ws.cap] 115 (0, 0)) := hk.tag
  have hlt0 : W.heap.size ≤ W.heap.size := Nat.le_refl _
  clear HP hp2 hsub hsl hsw hkey hkl hk hu hok hws hSl hl0 htv hok2 hMem hD hcc
  clear ho
  generalize (o.map (fun x : Term => x.tgt.xs)).getD [] = txs at *
  generalize idxF tv.cat T.g.cats.xs = ix at *
  gi_wp2_with fail
  refine wpIn_meetX (fun bx : Nat => (⟨#[.func (.yield l') #[] #[], .pointer (some ⟨bi, 0, none⟩), .pointer (some ⟨bm, 0, none⟩), .pointer (some ⟨b, 0, none⟩), undef, .pointer (some ⟨bx, 0, none⟩), .bool ok, undef, .int .i64 (i : Int), .int .i64 (many : Int), .int .i64 ((i : Int) + (many : Int)), .pointer (some ⟨b, 7, none⟩), .slice T.ws.addr T.ws.xs.length T.ws.cap, .int .i64 (T.ws.xs.length : Int), .bool (decide ((T.ws.xs.length : Int) < (i : Int) + (many : Int))), .tuple #[.agg #[.int .i64 tv.no, .int .i64 tv.at_, .int .i64 tv.known, .int .i64 tv.lang, .slice tv.sA tv.sn tv.sc, .slice tv.tA tv.tn tv.tc, .string tv.cat, .bool tv.gone], .bool ok], .pointer (some ⟨b, 6, none⟩), .map (some T.m), .pointer (some ⟨b, 7, none⟩), .slice T.ws.addr T.ws.xs.length T.ws.cap, .int .i64 (i : Int), .int .i64 (i : Int), .int .i64 (many : Int), .int .i64 ((i : Int) + (many : Int)), .slice (T.ws.sub i many).addr many (T.ws.sub i many).cap, .string key, .tuple #[.agg #[.int .i64 tv.no, .int .i64 tv.at_, .int .i64 tv.known, .int .i64 tv.lang, .slice tv.sA tv.sn tv.sc, .slice tv.tA tv.tn tv.tc, .string tv.cat, .bool tv.gone], .bool ok], .agg #[.int .i64 tv.no, .int .i64 tv.at_, .int .i64 tv.known, .int .i64 tv.lang, .slice tv.sA tv.sn tv.sc, .slice tv.tA tv.tn tv.tc, .string tv.cat, .bool tv.gone], .bool ok, undef, undef, undef, undef, undef, undef, undef, undef, undef, undef, undef, undef, undef, undef, undef, undef, undef, undef, undef, undef, undef, undef, undef], []⟩ : Act)) (fun bx V => Below W.heap.size W V ∧ W.heap.size ≤ bx ∧ V.heap[bx]? = some (.cells #[.int .i64 tv.no, .int .i64 tv.at_, .int .i64 tv.known, .int .i64 tv.lang, .slice tv.sA tv.sn tv.sc, .slice tv.tA tv.tn tv.tc, .string tv.cat, .bool tv.gone] 66 (0, 0))) ?_ ?_
  · refine wpIn_region_cls (fun V => Below W.heap.size W V) (by kernel_rfl) ?_
    refine wpAnyC_take (i := 0) rfl (by kernel_rfl) (by kernel_rfl) (by kernel_rfl) (fun _ _ _ h => h) (by rfl) (fun V hV => (by obtain ⟨r1, r2, r3, r4, r5⟩ := HG.out V hV; go_simp <;> rfl)) ?_
    refine wpAnyC_take (i := 1) rfl (by kernel_rfl) (by kernel_rfl) (by kernel_rfl) (fun _ _ _ h => h) (by rfl) (fun V hV => (by obtain ⟨r1, r2, r3, r4, r5⟩ := HG.out V hV; go_simp <;> rfl)) ?_
    refine wpAnyC_take (i := 2) rfl (by kernel_rfl) (by kernel_rfl) (by kernel_rfl) (fun _ _ _ h => h) (by rfl) (fun V hV => (by obtain ⟨r1, r2, r3, r4, r5⟩ := HG.out V hV; go_simp <;> rfl)) ?_
    refine wpAnyC_take (i := 3) rfl (by kernel_rfl) (by kernel_rfl) (by kernel_rfl) (fun _ _ _ h => h) (by rfl) (fun V hV => (by obtain ⟨r1, r2, r3, r4, r5⟩ := HG.out V hV; go_simp <;> rfl)) ?_
    refine wpAnyC_take (i := 4) rfl (by kernel_rfl) (by kernel_rfl) (by kernel_rfl) (fun _ _ _ h => h) (by rfl) (fun V hV => (by obtain ⟨r1, r2, r3, r4, r5⟩ := HG.out V hV; go_simp <;> rfl)) ?_
    refine wpAnyC_take (i := 5) rfl (by kernel_rfl) (by kernel_rfl) (by kernel_rfl) (fun _ _ _ h => h) (by rfl) (fun V hV => (by obtain ⟨r1, r2, r3, r4, r5⟩ := HG.out V hV; go_simp <;> rfl)) ?_
    refine wpAnyC_take (i := 6) rfl (by kernel_rfl) (by kernel_rfl) (by kernel_rfl) (fun _ _ _ h => h) (by rfl) (fun V hV => (by obtain ⟨r1, r2, r3, r4, r5⟩ := HG.out V hV; go_simp <;> rfl)) ?_
    refine wpAnyC_take (i := 7) rfl (by kernel_rfl) (by kernel_rfl) (by kernel_rfl) (fun _ _ _ h => h) (by rfl) (fun V hV => (by obtain ⟨r1, r2, r3, r4, r5⟩ := HG.out V hV; go_simp <;> rfl)) ?_
    refine wpAnyC_take (i := 8) rfl (by kernel_rfl) (by kernel_rfl) (by kernel_rfl) (fun _ _ _ h => h) (by rfl) (fun V hV => (by obtain ⟨r1, r2, r3, r4, r5⟩ := HG.out V hV; go_simp <;> rfl)) ?_
    refine wpAnyC_ready (rs := [9, 14]) (ext_drew (Below.refl _ _)) (by kernel_rfl) (by simp) (AllC.cons rfl (fun K hK => ?_) (AllC.cons rfl (fun K hK => ?_) AllC.nil))
    · go_simp
      refine ⟨trivial, rfl, callsIn_wide.2 ((cJ.out _ (ext_drew (Below.refl _ _))).mono ?_)⟩
      rintro e w4 ⟨rfl, hb4⟩
      refine hK _ _ ?_
      clear hK K
      have hB4 : Below W.heap.size W w4 := ext_trans (ext_drew (Below.refl _ _)) hb4
      refine wpAnyC_take (i := 10) rfl (by kernel_rfl) (by kernel_rfl) (by kernel_rfl) (fun _ _ _ h => h) (by rfl) (fun V hV => (by obtain ⟨r1, r2, r3, r4, r5⟩ := HG.out V hV; go_simp <;> rfl)) ?_
      refine wpAnyC_take (i := 11) rfl (by kernel_rfl) (by kernel_rfl) (by kernel_rfl) (fun _ _ _ h => h) (by rfl) (fun V hV => (by obtain ⟨r1, r2, r3, r4, r5⟩ := HG.out V hV; go_simp <;> rfl)) ?_
      refine wpAnyC_take (i := 12) rfl (by kernel_rfl) (by kernel_rfl) (by kernel_rfl) (fun _ _ _ h => h) (by rfl) (fun V hV => (by obtain ⟨r1, r2, r3, r4, r5⟩ := HG.out V hV; go_simp <;> rfl)) ?_
      refine wpAnyC_take (i := 13) rfl (by kernel_rfl) (by kernel_rfl) (by kernel_rfl) (fun _ _ _ h => h) (by rfl) (fun V hV => (by obtain ⟨r1, r2, r3, r4, r5⟩ := HG.out V hV; go_simp <;> rfl)) ?_
      refine wpAnyC_ready (rs := [14]) hB4 (by kernel_rfl) (by simp) (AllC.cons rfl (fun K hK => ?_) AllC.nil)
      go_simp
      refine hK _ _ ?_
      clear hK K
      refine wpAnyC_ready (rs := [15]) (ext_alloc hB4 _) (by kernel_rfl) (by simp) (AllC.cons rfl (fun K hK => ?_) AllC.nil)
      go_simp
      refine hK _ _ ?_
      clear hK K
      refine wpAnyC_take (i := 16) rfl (by kernel_rfl) (by kernel_rfl) (by kernel_rfl) (fun _ _ _ h => h) (by rfl) (fun V hV => (by obtain ⟨r1, r2, r3, r4, r5⟩ := HG.out V hV; go_simp <;> rfl)) ?_
      exact wpAnyC_done (ext_alloc hB4 _) (by kernel_rfl) ⟨w4.heap.size, rfl, ext_alloc hB4 _, hB4.size, World.alloc_heap_new _ _⟩ _
    · go_simp
      refine hK _ _ ?_
      clear hK K
      obtain ⟨w3, hw3⟩ : ∃ w3, (W.alloc (.cells #[.int .i64 0, .int .i64 0, .int .i64 0, .int .i64 0, .slice none 0 0, .slice none 0 0, .string ⟨#[]⟩, .bool false] 66)).drew = w3 := ⟨_, rfl⟩
      have hB3 : Below W.heap.size W w3 := by rw [← hw3]; exact ext_drew (ext_alloc (Below.refl _ _) _)
      have hx3 : w3.heap[W.heap.size]? = some (.cells #[.int .i64 0, .int .i64 0, .int .i64 0, .int .i64 0, .slice none 0 0, .slice none 0 0, .string ⟨#[]⟩, .bool false] 66 (0, 0)) := by rw [← hw3]; exact World.alloc_heap_new _ _
      rw [hw3]
      clear hw3
      refine wpAnyC_ready (rs := [9]) hB3 (by kernel_rfl) (by simp) (AllC.cons rfl (fun K hK => ?_) AllC.nil)
      go_simp
      refine ⟨trivial, rfl, callsIn_wide.2 ((cJ.out _ hB3).mono ?_)⟩
      rintro e w4 ⟨rfl, hb4⟩
      refine hK _ _ ?_
      clear hK K
      have hB4 : Below W.heap.size W w4 := ext_trans hB3 hb4
      refine wpAnyC_take (i := 10) rfl (by kernel_rfl) (by kernel_rfl) (by kernel_rfl) (fun _ _ _ h => h) (by rfl) (fun V hV => (by obtain ⟨r1, r2, r3, r4, r5⟩ := HG.out V hV; go_simp <;> rfl)) ?_
      refine wpAnyC_take (i := 11) rfl (by kernel_rfl) (by kernel_rfl) (by kernel_rfl) (fun _ _ _ h => h) (by rfl) (fun V hV => (by obtain ⟨r1, r2, r3, r4, r5⟩ := HG.out V hV; go_simp <;> rfl)) ?_
      refine wpAnyC_take (i := 12) rfl (by kernel_rfl) (by kernel_rfl) (by kernel_rfl) (fun _ _ _ h => h) (by rfl) (fun V hV => (by obtain ⟨r1, r2, r3, r4, r5⟩ := HG.out V hV; go_simp <;> rfl)) ?_
      refine wpAnyC_take (i := 13) rfl (by kernel_rfl) (by kernel_rfl) (by kernel_rfl) (fun _ _ _ h => h) (by rfl) (fun V hV => (by obtain ⟨r1, r2, r3, r4, r5⟩ := HG.out V hV; go_simp <;> rfl)) ?_
      refine wpAnyC_ready (rs := [15]) hB4 (by kernel_rfl) (by simp) (AllC.cons rfl (fun K hK => ?_) AllC.nil)
      have hx4 := (hb4.block _ (lt_block hx3)).trans hx3
      have z0 := gblk hx4 0
      have f0 := frozen_one hx4 0
      have z1 := gblk hx4 1
      have f1 := frozen_one hx4 1
      have z2 := gblk hx4 2
      have f2 := frozen_one hx4 2
      have z3 := gblk hx4 3
      have f3 := frozen_one hx4 3
      have z4 := gblk hx4 4
      have f4 := frozen_one hx4 4
      have z5 := gblk hx4 5
      have f5 := frozen_one hx4 5
      have z6 := gblk hx4 6
      have f6 := frozen_one hx4 6
      have z7 := gblk hx4 7
      have f7 := frozen_one hx4 7
      go_simp
      refine hK _ _ ?_
      clear hK K
      have hB5 := below8 (b := W.heap.size) (v0 := .int .i64 tv.no) (v1 := .int .i64 tv.at_) (v2 := .int .i64 tv.known) (v3 := .int .i64 tv.lang) (v4 := .slice tv.sA tv.sn tv.sc) (v5 := .slice tv.tA tv.tn tv.tc) (v6 := .string tv.cat) (v7 := .bool tv.gone) hB4 (Nat.le_refl _)
      have hx5 := st8 (.int .i64 tv.no) (.int .i64 tv.at_) (.int .i64 tv.known) (.int .i64 tv.lang) (.slice tv.sA tv.sn tv.sc) (.slice tv.tA tv.tn tv.tc) (.string tv.cat) (.bool tv.gone) hx4
      refine wpAnyC_take (i := 16) rfl (by kernel_rfl) (by kernel_rfl) (by kernel_rfl) (fun _ _ _ h => h) (by rfl) (fun V hV => (by obtain ⟨r1, r2, r3, r4, r5⟩ := HG.out V hV; go_simp <;> rfl)) ?_
      exact wpAnyC_done hB5 (by kernel_rfl) ⟨W.heap.size, rfl, hB5, Nat.le_refl _, hx5⟩ _
  · rintro bx W5 ⟨hB5, hbx, hx5⟩
    clear cJ
    have hk5 := (hB5.block _ (lt_block hkb)).trans hkb
    have c1 := gblk hk5 1
    have x6 := gblk hx5 6
    have cX := HX.out W5 hB5
    gi_wp2_with fail
    refine ⟨trivial, rfl, callsIn_wide.2 (cX.mono ?_)⟩
    rintro e w6 ⟨rfl, rfl⟩
    have J5 := Lib.hid (HJ.out _ _ _ h0 hB5)
    clear cX
    cases ok
    · have ht : termC T.g.cats.xs S T.ws.xs i many = [] := by rw [HT.out]; rfl
      have Ht := Lib.hid ht
      clear ht HT HE
      gi_wp2
      go_end0
      exact ⟨⟨_, rfl⟩, by rw [Ht.out]; exact J5.out⟩
    by_cases hix : 0 ≤ ix
    rotate_left
    · have ht : termC T.g.cats.xs S T.ws.xs i many = [] := by rw [HT.out, if_neg (fun h => hix h.2)]
      have Ht := Lib.hid ht
      clear ht HT HE
      gi_wp2
      go_end0
      exact ⟨⟨_, rfl⟩, by rw [Ht.out]; exact J5.out⟩
    obtain ⟨t, ht1, ht2, ht3, ht4, ht5⟩ := HE.out rfl
    have ht : termC T.g.cats.xs S T.ws.xs i many = [⟨ix, i, i + many, 0, t.xs, tv.no⟩] := by rw [HT.out, if_pos ⟨rfl, hix⟩, ht5]
    have hn5 := gblk hx5 0
    have ht6 := gblk hx5 5
    have ci5 := cell_one ((hB5.block _ (lt_block Hk.out.i)).trans Hk.out.i)
    have cm5 := cell_one ((hB5.block _ (lt_block Hk.out.many)).trans Hk.out.many)
    obtain ⟨fn, tmps, assign, body, hYY⟩ := HY.out [] ⟨ix, i, i + many, 0, t.xs, tv.no⟩ #[.agg #[.int .i64 ix, .int .i64 (i : Int), .int .i64 ((i : Int) + (many : Int)), .int .i64 0, .slice tv.tA tv.tn tv.tc, .int .i64 tv.no]] w6 J5.out (by rw [ht]; exact List.prefix_refl _)
    obtain ⟨hyy, hRd⟩ := hYY w6 (Below.refl _ _) ⟨⟨ix, i, i + many, 0, t, tv.no⟩, rfl, by rw [ht1, ht2, ht3], (Hk.out.ext hB5).d.far ht4⟩
    have Ht := Lib.hid ht
    clear ht HT HE ht1 ht2 ht3 ht4 ht5
    gi_wp2_with (refine ⟨rfl, hRd.mono ?_⟩; rintro e w9 ⟨rfl, hj9⟩)
    go_end0
    exact ⟨⟨_, rfl⟩, by rw [Ht.out]; exact hj9⟩
end Go.Proofs.YthojaplnimoacaaGreatDoor

/- The tagger: the items that entries give. -/
namespace Go.Proofs.YthojaplnimoacaaGreatDoor
open Go.RowKit Go.Han
attribute [local irreducible] wpStill wpQuiet
attribute [local go_sem] Oper.semAt_some
set_option maxRecDepth 100000

set_option maxHeartbeats 2000000 in
theorem entries1 (w w0 : World) (T : TagG) (i b bi : Nat) (s : ByteArray) (R : Nat → Prop) (hi : T.ws.xs[i]? = some s) (hD : TagD w w0 T)
    (hRl : ∀ k, k < w.heap.size → R k) (hRb : R b) (hRi : R bi) (hb0 : w0.heap[b]? = some (.cells #[.string T.g.name, .slice T.g.cats.addr T.g.cats.xs.length T.g.cats.cap, .string T.g.start, .int .i64 T.g.startNo, .slice T.g.entries.addr T.g.entries.xs.length T.g.entries.cap, .slice T.g.rules.addr T.g.rules.xs.length T.g.rules.cap, .map (some T.m), .slice T.ws.addr T.ws.xs.length T.ws.cap] 115 (0, 0))) (hi0 : w0.heap[bi]? = some (.cells #[.int .i64 i] 3 (0, 0))) :
    IterX Tryz.prog 121 #[.pointer (some ⟨b, 0, none⟩), .pointer (some ⟨bi, 0, none⟩)] (EncI w.heap.size) R (entriesC T.g.entries.xs i s) w0 := by
  intro l' J W hJR hJB hY h0
  refine (callsIn_wide (n := 0)).1 ?_
  refine callsIn_of_wp Tryz.func121 rfl trivial ?_
  simp only [Tryz.ntmps121, List.size_toArray, List.length_cons, List.length_nil, Nat.reduceAdd, Nat.reduceSub, Array.replicate_succ, Array.replicate_zero, List.push_toArray, List.append_toArray, List.nil_append, List.cons_append]
  have HK : Hid (∀ q V, J q V → V.heap[b]? = some (.cells #[.string T.g.name, .slice T.g.cats.addr T.g.cats.xs.length T.g.cats.cap, .string T.g.start, .int .i64 T.g.startNo, .slice T.g.entries.addr T.g.entries.xs.length T.g.entries.cap, .slice T.g.rules.addr T.g.rules.xs.length T.g.rules.cap, .map (some T.m), .slice T.ws.addr T.ws.xs.length T.ws.cap] 115 (0, 0)) ∧ V.heap[bi]? = some (.cells #[.int .i64 i] 3 (0, 0)) ∧ TagD w V T) := fun q V h =>
    have hl : ∀ k, k < w.heap.size → V.heap[k]? = w.heap[k]? := fun k hk => (hJR q V h k (hRl k hk)).trans (hD.low k hk)
    ⟨(hJR q V h b hRb).trans hb0, (hJR q V h bi hRi).trans hi0, size_of_low hl, hl, hD.g, hD.ws⟩
  have HY := Lib.hid hY
  have HJ := Lib.hid hJB
  obtain ⟨hkb, hki, hkD⟩ := HK.out [] W h0
  have c4 := gblk hkb 4
  have hil : i < T.ws.xs.length := (List.getElem?_eq_some_iff.1 hi).1
  have hsi : T.ws.xs[i] = s := (List.getElem?_eq_some_iff.1 hi).2
  have hm : T.g.entries.xs.length ≤ 9223372036854775807 := Nat.le_trans hD.g.entries.cap hD.g.entries.max
  have him : i < 9223372036854775807 := Nat.lt_of_lt_of_le hil (Nat.le_trans hD.ws.cap hD.ws.max)
  have Hsi := Lib.hid hsi
  have Hi := Lib.hid hi
  clear hY hJB hJR hb0 hi0 hkb hki hkD hRl hRb hRi hD hsi hi
  gi_wp2
  clear c4
  gi_loopw [10] (fun iv wr => ∃ k : Nat, k ≤ T.g.entries.xs.length ∧ iv = .int .i64 k ∧ J (entriesV (T.g.entries.xs.take k) i s) wr) (fun iv _ => T.g.entries.xs.length - (intOf iv).toNat)
  case atStart => exact ⟨0, Nat.zero_le _, rfl, h0⟩
  case round =>
    obtain ⟨k, hk, rfl, hj⟩ := hrel
    by_cases hlt : k < T.g.entries.xs.length
    · obtain ⟨hkb, hki, hD⟩ := HK.out _ wr hj
      obtain ⟨b', off, hA, hb', hc⟩ := hD.ents.at_ EntryG.size_cells (by omega) hlt
      have d0 : wr.cell? ⟨b', off + k * 5, none⟩ = some (.string T.g.entries.xs[k].text) := hc k hlt wr (Below.refl _ _) 0 _ rfl
      have d1 : wr.cell? ⟨b', off + k * 5 + 1, none⟩ = some (.string T.g.entries.xs[k].cat) := hc k hlt wr (Below.refl _ _) 1 _ rfl
      have d2 : wr.cell? ⟨b', off + k * 5 + 2, none⟩ = some (.int .i64 T.g.entries.xs[k].no) := hc k hlt wr (Below.refl _ _) 2 _ rfl
      have d3 : wr.cell? ⟨b', off + k * 5 + 3, none⟩ = some (.slice T.g.entries.xs[k].gives.addr T.g.entries.xs[k].gives.xs.length T.g.entries.xs[k].gives.cap) := hc k hlt wr (Below.refl _ _) 3 _ rfl
      have d4 : wr.cell? ⟨b', off + k * 5 + 4, none⟩ = some (.int .i64 T.g.entries.xs[k].cost) := hc k hlt wr (Below.refl _ _) 4 _ rfl
      have htk := entriesV_snoc T.g.entries.xs i s k hlt
      have hpf := entriesV_pre T.g.entries.xs i s (k + 1)
      have hgl := hD.g.entry _ (List.getElem_mem hlt)
      rw [hA]
      have Htk := Lib.hid htk
      have Hpf := Lib.hid hpf
      have Hgl := Lib.hid hgl
      clear hc hA htk hpf hgl
      generalize T.g.entries.xs[k] = y at *
      obtain ⟨w4, hw4⟩ : ∃ w4, wr.alloc (.cells #[.string y.text, .string y.cat, .int .i64 y.no, .slice y.gives.addr y.gives.xs.length y.gives.cap, .int .i64 y.cost] 70) = w4 := ⟨_, rfl⟩
      have hB4 : Below wr.heap.size wr w4 := by rw [← hw4]; exact ext_alloc (Below.refl _ _) _
      have hz4 : w4.heap.size = wr.heap.size + 1 := by rw [← hw4]; simp
      have hx4 : w4.heap[wr.heap.size]? = some (.cells #[.string y.text, .string y.cat, .int .i64 y.no, .slice y.gives.addr y.gives.xs.length y.gives.cap, .int .i64 y.cost] 70 (0, 0)) := by rw [← hw4]; exact World.alloc_heap_new _ _
      have hb4 := (hB4.block _ (lt_block hkb)).trans hkb
      have hi4 := cell_one ((hB4.block _ (lt_block hki)).trans hki)
      have e0 := gblk hx4 0
      have e1 := gblk hx4 1
      have e2 := gblk hx4 2
      have e3 := gblk hx4 3
      have e4 := gblk hx4 4
      have t7 := gblk hb4 7
      obtain ⟨b2, off2, hA2, hb2, hc2⟩ := StrS.at_ (hD.ext hB4).wsv (k := i) hil
      have q0 := hc2 i hil
      rw [Hsi.out] at q0
      have J4 := Lib.hid (HJ.out _ _ _ hj hB4)
      have D4 := Lib.hid (hD.ext hB4)
      have q1 := str_beq y.text s
      rw [hA2] at t7
      by_cases hts : y.text = s
      · have e1 : decide (y.text = s) = true := by simpa using hts
        rw [e1] at q1
        have HN : Hid (entriesV (T.g.entries.xs.take (k + 1)) i s = entriesV (T.g.entries.xs.take k) i s ++ [entryC i y]) := by show _ = _; rw [Htk.out, if_pos hts]
        obtain ⟨fn, tmps, assign, body, hYY⟩ := HY.out _ (entryC i y) #[.agg #[.int .i64 y.no, .int .i64 (i : Int), .int .i64 ((i : Int) + 1), .int .i64 y.cost, .slice y.gives.addr y.gives.xs.length y.gives.cap, .int .i64 (-1)]] w4 J4.out (by rw [← HN.out]; exact Hpf.out)
        have HEnc : Hid (∀ V, Below w4.heap.size w4 V → EncI w.heap.size (entryC i y) #[.agg #[.int .i64 y.no, .int .i64 (i : Int), .int .i64 ((i : Int) + 1), .int .i64 y.cost, .slice y.gives.addr y.gives.xs.length y.gives.cap, .int .i64 (-1)]] V) := fun V hV =>
          ⟨⟨y.no, i, i + 1, y.cost, y.gives, -1⟩, rfl, rfl, (D4.out.ext hV).far Hgl.out⟩
        have hbd : Below w4.heap.size w4 w4.drew := ⟨rfl, rfl, rfl, Nat.le_refl _, fun _ _ => rfl⟩
        obtain ⟨hyy, hRd⟩ := hYY _ hbd (HEnc.out _ hbd)
        have hwr : IntKind.i64.wrap ((i : Int) + 1) = (i : Int) + 1 := IntWalk.i64_in _ (by omega)
        have HRd := Lib.hid hRd
        clear hkb hki hD hb4 hc2 hx4 hts hj Htk Hpf hYY hRd
        gi_wp2_with fail
        have hwf : ∀ f, Fence.wide.fn f = True := fun f => by simp [Fence.wide]
        refine wpIn_still_tail 20 (by kernel_rfl) (by kernel_rfl) ?_
        simp only [List.take_succ_cons, List.take_zero, List.drop_succ_cons, List.drop_zero]
        repeat still_step
        refine wpStill_nil ?_
        gi_wp2_with (have hmark := hyy; refine ⟨rfl, HRd.out.mono ?_⟩; rintro e w9 ⟨rfl, hj9⟩; have Hj9 := Lib.hid hj9; clear hj9 hyy hmark)
        clear q1 e1 e0 e2 e3 e4 hwr t7 hi4 q0
        gi_wp2
        go_roundw
        case rel => exact ⟨k + 1, by omega, by go_num, by rw [HN.out]; exact Hj9.out⟩
        case measure => simp [intOf]; omega
      · have e1 : decide (y.text = s) = false := by simpa using hts
        rw [e1] at q1
        have HN : Hid (entriesV (T.g.entries.xs.take (k + 1)) i s = entriesV (T.g.entries.xs.take k) i s) := by show _ = _; rw [Htk.out, if_neg hts]; simp
        clear hkb hki hD hb4 hc2 hx4 hts hj Htk Hpf
        gi_wp2_with fail
        have hwf : ∀ f, Fence.wide.fn f = True := fun f => by simp [Fence.wide]
        refine wpIn_still_tail 20 (by kernel_rfl) (by kernel_rfl) ?_
        simp only [List.take_succ_cons, List.take_zero, List.drop_succ_cons, List.drop_zero]
        repeat still_step
        refine wpStill_nil ?_
        gi_wp2
        go_roundw
        case rel => exact ⟨k + 1, by omega, by go_num, by rw [HN.out]; exact HJ.out _ _ _ J4.out ⟨rfl, rfl, rfl, Nat.le_refl _, fun _ _ => rfl⟩⟩
        case measure => simp [intOf]; omega
    · gi_wp2
      go_end0
      have : k = T.g.entries.xs.length := by omega
      subst this
      rw [List.take_length] at hj
      exact ⟨⟨_, rfl⟩, hj⟩

end Go.Proofs.YthojaplnimoacaaGreatDoor

/- Package tags: what Items keeps between two rounds; the ways to make items. -/
namespace Go.Proofs.YthojaplnimoacaaGreatDoor
open Go.RowKit Go.Han
attribute [local irreducible] wpStill wpQuiet
attribute [local go_sem] Oper.semAt_some
set_option maxRecDepth 100000

/-- The ways to make the items of a word, in order. -/
def piecesC (g : Gram) (S : List Term) (ws : List ByteArray) (i : Nat) (s : ByteArray) : List (List ItemC) :=
  [termC g.cats.xs S ws i 1, entriesC g.entries.xs i s, if (termC g.cats.xs S ws i 1 ++ entriesC g.entries.xs i s).length = 0 then unkC g.cats.xs.length i s else [], termC g.cats.xs S ws i 2, termC g.cats.xs S ws i 3, termC g.cats.xs S ws i 4]
theorem pieces_word (g : Gram) (S : List Term) (ws : List ByteArray) (i : Nat) (s : ByteArray) : (piecesC g S ws i s).flatten = wordC g S ws i s := by
  unfold piecesC wordC singleC
  split
  · rename_i h
    have h1 : termC g.cats.xs S ws i 1 = [] := List.eq_nil_of_length_eq_zero (by rw [List.length_append] at h; omega)
    have h2 : entriesC g.entries.xs i s = [] := List.eq_nil_of_length_eq_zero (by rw [List.length_append] at h; omega)
    rw [h1, h2]; simp
  · simp
/-- Between two steps of Items: w is the world at its start. -/
structure ItSt (w : World) (bi tb bw n : Nat) (T : TagG) (S : List Term) (v : Value) (L : List ItemG) (V : World) : Prop where
  os : V.os = w.os
  tape : V.tape = w.tape
  output : V.output = w.output
  d : TagD w V T
  tag : V.heap[tb]? = some (.cells #[.string T.g.name, .slice T.g.cats.addr T.g.cats.xs.length T.g.cats.cap, .string T.g.start, .int .i64 T.g.startNo, .slice T.g.entries.addr T.g.entries.xs.length T.g.entries.cap, .slice T.g.rules.addr T.g.rules.xs.length T.g.rules.cap, .map (some T.m), .slice T.ws.addr T.ws.xs.length T.ws.cap] 115 (0, 0))
  wbox : V.heap[bw]? = some (.cells #[.slice T.ws.addr T.ws.xs.length T.ws.cap] 22 (0, 0))
  map : TermsM V T.m n S
  box : Boxed V bi 27 v
  own : OwnL ItemG.cells 47 6 V w.heap.size v L
  far : ∀ x ∈ L, FarI w.heap.size V x.tgt
  hi : w.heap.size ≤ bi
theorem ItSt.ext {w V V' : World} {bi tb bw n : Nat} {T : TagG} {S : List Term} {v : Value} {L : List ItemG} (h : ItSt w bi tb bw n T S v L V) (hb : Below V.heap.size V V') : ItSt w bi tb bw n T S v L V' :=
  ⟨hb.os.trans h.os, hb.tape.trans h.tape, hb.output.trans h.output, h.d.ext hb, (hb.block _ (lt_block h.tag)).trans h.tag, (hb.block _ (lt_block h.wbox)).trans h.wbox, h.map.ext hb, (hb.block _ h.box.lt).trans h.box, h.own.ext hb, fun x hx => (h.far x hx).ext h.d.size hb, h.hi⟩
theorem ItSt.below {w V : World} {bi tb bw n : Nat} {T : TagG} {S : List Term} {v : Value} {L : List ItemG} (h : ItSt w bi tb bw n T S v L V) : Below w.heap.size w V := ⟨h.os, h.tape, h.output, h.d.size, h.d.low⟩
theorem mapF_kind {V : World} {m n : Nat} {S : List Term} (h : TermsM V m n S) : ∃ es c, V.heap[m]? = some (.map es c) := by
  obtain ⟨D, ⟨es, clock, h1, h2⟩, h3⟩ := h
  exact ⟨_, _, h1⟩
/-- A step that changes the row's own block alone, and the box: the row is longer. -/
theorem ItSt.step {w V V1 : World} {bi tb bw n : Nat} {T : TagG} {S : List Term} {v v' : Value} {L L' : List ItemG} (h : ItSt w bi tb bw n T S v L V) (hon : Only (fun k => v.ownBlock = some k) V V1)
    (hown : OwnL ItemG.cells 47 6 V1 w.heap.size v' L') (hfar : ∀ x ∈ L', FarI w.heap.size V1 x.tgt) : ItSt w bi tb bw n T S v' L' (V1.setCell ⟨bi, 0, none⟩ v') := by
  have hne : ∀ {k : Nat} {o : Obj}, V.heap[k]? = some o → (∀ cs fr, o ≠ .cells cs 47 fr) → V1.heap[k]? = some o := fun {k o} hk ho => by
    refine (hon.block k (lt_block hk) fun he => ?_).trans hk
    obtain ⟨cur, hc⟩ := OwnL.kind h.own he
    rw [hk] at hc
    exact ho _ _ (Option.some.inj hc)
  have hb1 : Boxed V1 bi 27 v := hne h.box fun cs fr e => by injection e with _ e2 _; exact absurd e2 (by decide)
  have hset : ∀ {k : Nat} {o : Obj}, V1.heap[k]? = some o → (∀ cs fr, o ≠ .cells cs 27 fr) → (V1.setCell ⟨bi, 0, none⟩ v').heap[k]? = some o := fun {k o} hk ho =>
    (Below.heap_setCell _ _ _ _ fun e => by
      have e : k = bi := e
      rw [e, hb1] at hk
      exact ho _ _ (Option.some.inj hk).symm).trans hk
  have hlow1 : ∀ k, k < w.heap.size → V1.heap[k]? = w.heap[k]? := fun k hk => (hon.block k (Nat.lt_of_lt_of_le hk h.d.size) fun he => by have := (h.own.lt k he).1; omega).trans (h.d.low k hk)
  have hsz1 : w.heap.size ≤ V1.heap.size := Nat.le_trans h.d.size hon.size
  refine ⟨hon.os.trans h.os, hon.tape.trans h.tape, hon.output.trans h.output, ⟨by simpa [World.setCell] using hsz1, fun k hk => (Below.heap_setCell _ _ _ _ fun e => by have := h.hi; have e : k = bi := e; omega).trans (hlow1 k hk), h.d.g, h.d.ws⟩, ?_, ?_, ?_, hb1.set v', hown.block ?_, fun x hx => (hfar x hx).box hb1 (by decide) h.hi 0 v', h.hi⟩
  · exact hset (hne h.tag fun cs fr e => by injection e with _ e2 _; exact absurd e2 (by decide)) fun cs fr e => by injection e with _ e2 _; exact absurd e2 (by decide)
  · exact hset (hne h.wbox fun cs fr e => by injection e with _ e2 _; exact absurd e2 (by decide)) fun cs fr e => by injection e with _ e2 _; exact absurd e2 (by decide)
  · obtain ⟨es, c, hm⟩ := mapF_kind h.map
    exact h.map.of_block ((hset (hne hm fun _ _ e => by cases e) fun _ _ e => by cases e).trans hm.symm)
  · intro g hg
    obtain ⟨cur, hc⟩ := OwnL.kind hown hg
    exact (hset hc fun cs fr e => by injection e with _ e2 _; exact absurd e2 (by decide)).trans hc.symm
/-- Another box is kept by such a step. -/
theorem ItSt.keep {w V V1 : World} {bi tb bw n : Nat} {T : TagG} {S : List Term} {v v' : Value} {L : List ItemG} (h : ItSt w bi tb bw n T S v L V) (hon : Only (fun k => v.ownBlock = some k) V V1) {k : Nat} {cs : Array Value} {t : TypeId} {fr : Nat × Nat}
    (hk : V.heap[k]? = some (.cells cs t fr)) (h1 : t ≠ 47) (h2 : t ≠ 27) : (V1.setCell ⟨bi, 0, none⟩ v').heap[k]? = some (.cells cs t fr) := by
  have hk1 : V1.heap[k]? = some (.cells cs t fr) := (hon.block k (lt_block hk) fun he => by
    obtain ⟨cur, hc⟩ := OwnL.kind h.own he
    rw [hk] at hc
    simp only [Option.some.injEq, Obj.cells.injEq] at hc
    exact h1 hc.2.1).trans hk
  refine (Below.heap_setCell _ _ _ _ fun e => ?_).trans hk1
  have e : k = bi := e
  have hb := h.box
  rw [← e] at hb
  have := hk.symm.trans hb
  simp only [Option.some.injEq, Obj.cells.injEq] at this
  exact h2 this.2.1

/-! ### the ways, as functions -/
/-- A call yields an iterator over xs. -/
def OfPost (w : World) (m : Nat) (xs : List ItemC) (V : World) (e : Ending) (V' : World) : Prop :=
  ∃ gf lb, e = .returned (.func (.func gf) #[] lb) ∧ Below V.heap.size V V' ∧ (∀ args W, (callFunc gf args).run Tryz.prog W = .ok (.enter gf args) W) ∧
    ∀ R : Nat → Prop, (∀ k, k < w.heap.size → R k) → (∀ k, V.heap.size ≤ k → k < V'.heap.size → R k) → R m → IterX Tryz.prog gf lb (EncI w.heap.size) R xs V'
section
variable {w V : World} {T : TagG} {S : List Term} {i n tb bI bi bw : Nat} {v : Value} {L : List ItemG}
theorem term_of (many : Nat) (h : ItSt w bi tb bw n T S v L V) (hi : i < T.ws.xs.length) (h0m : 0 < many) (hm4 : many ≤ 4 ∨ T.ws.xs.length < i + many) (hmx : i + many ≤ 9223372036854775807) (hSl : ∀ x ∈ S, x.lies w)
    (hu : ∀ x ∈ S, ∀ y ∈ S, x.src.xs = y.src.xs → x = y) (hok : ∀ x ∈ S, x.ok = true) (hws : ∀ s ∈ T.ws.xs, wordB s = true) :
    Calls Tryz.prog 70 #[.agg #[.string T.g.name, .slice T.g.cats.addr T.g.cats.xs.length T.g.cats.cap, .string T.g.start, .int .i64 T.g.startNo, .slice T.g.entries.addr T.g.entries.xs.length T.g.entries.cap, .slice T.g.rules.addr T.g.rules.xs.length T.g.rules.cap, .map (some T.m), .slice T.ws.addr T.ws.xs.length T.ws.cap], .int .i64 (i : Int), .int .i64 (many : Int)] V (OfPost w T.m (termC T.g.cats.xs S T.ws.xs i many) V) := by
  refine (term_any T i many V).mono ?_
  rintro e V' ⟨rfl, rfl⟩
  refine ⟨_, _, rfl, ext_alloc (ext_alloc (ext_alloc (Below.refl _ _) _) _) _, enters_of Tryz.func119 (by kernel_rfl) rfl, fun R hR1 hR2 hR3 => ?_⟩
  have hb : Below V.heap.size V (((V.alloc (.cells #[.string T.g.name, .slice T.g.cats.addr T.g.cats.xs.length T.g.cats.cap, .string T.g.start, .int .i64 T.g.startNo, .slice T.g.entries.addr T.g.entries.xs.length T.g.entries.cap, .slice T.g.rules.addr T.g.rules.xs.length T.g.rules.cap, .map (some T.m), .slice T.ws.addr T.ws.xs.length T.ws.cap] 115)).alloc (.cells #[.int .i64 (i : Int)] 3)).alloc (.cells #[.int .i64 (many : Int)] 3)) := ext_alloc (ext_alloc (ext_alloc (Below.refl _ _) _) _) _
  have h' := h.ext hb
  refine term1 w _ T i many V.heap.size (V.heap.size + 1) (V.heap.size + 2) n S R hi h0m hm4 hmx ⟨?_, ?_, ?_, h'.d, h'.map⟩ hSl hu hok hws hR1 (hR2 _ (by omega) (by simp only [World.size_alloc]; omega)) (hR2 _ (by omega) (by simp only [World.size_alloc]; omega)) (hR2 _ (by omega) (by simp only [World.size_alloc]; omega)) hR3
  · exact (Below.heap_alloc _ _ _ (by simp; omega)).trans ((Below.heap_alloc _ _ _ (by simp)).trans (World.alloc_heap_new _ _))
  · exact (Below.heap_alloc _ _ _ (by simp)).trans (galloc_at _ _ _ (by simp))
  · exact galloc_at _ _ _ (by simp)
theorem entries_of (s : ByteArray) (h : ItSt w bi tb bw n T S v L V) (hi : T.ws.xs[i]? = some s) :
    Calls Tryz.prog 72 #[.agg #[.string T.g.name, .slice T.g.cats.addr T.g.cats.xs.length T.g.cats.cap, .string T.g.start, .int .i64 T.g.startNo, .slice T.g.entries.addr T.g.entries.xs.length T.g.entries.cap, .slice T.g.rules.addr T.g.rules.xs.length T.g.rules.cap, .map (some T.m), .slice T.ws.addr T.ws.xs.length T.ws.cap], .int .i64 (i : Int)] V (OfPost w T.m (entriesC T.g.entries.xs i s) V) := by
  refine (entries_any T i V).mono ?_
  rintro e V' ⟨rfl, rfl⟩
  refine ⟨_, _, rfl, ext_alloc (ext_alloc (Below.refl _ _) _) _, enters_of Tryz.func121 (by kernel_rfl) rfl, fun R hR1 hR2 hR3 => ?_⟩
  have hb : Below V.heap.size V ((V.alloc (.cells #[.string T.g.name, .slice T.g.cats.addr T.g.cats.xs.length T.g.cats.cap, .string T.g.start, .int .i64 T.g.startNo, .slice T.g.entries.addr T.g.entries.xs.length T.g.entries.cap, .slice T.g.rules.addr T.g.rules.xs.length T.g.rules.cap, .map (some T.m), .slice T.ws.addr T.ws.xs.length T.ws.cap] 115)).alloc (.cells #[.int .i64 (i : Int)] 3)) := ext_alloc (ext_alloc (Below.refl _ _) _) _
  have h' := h.ext hb
  refine entries1 w _ T i V.heap.size (V.heap.size + 1) s R hi h'.d hR1 (hR2 _ (by omega) (by simp only [World.size_alloc]; omega)) (hR2 _ (by omega) (by simp only [World.size_alloc]; omega)) ?_ ?_
  · exact (Below.heap_alloc _ _ _ (by simp)).trans (World.alloc_heap_new _ _)
  · exact galloc_at _ _ _ (by simp)
theorem unknowns_of (s : ByteArray) (h : ItSt w bi tb bw n T S v L V) (hi : T.ws.xs[i]? = some s) :
    Calls Tryz.prog 74 #[.agg #[.string T.g.name, .slice T.g.cats.addr T.g.cats.xs.length T.g.cats.cap, .string T.g.start, .int .i64 T.g.startNo, .slice T.g.entries.addr T.g.entries.xs.length T.g.entries.cap, .slice T.g.rules.addr T.g.rules.xs.length T.g.rules.cap, .map (some T.m), .slice T.ws.addr T.ws.xs.length T.ws.cap], .int .i64 (i : Int)] V (OfPost w T.m (unkC T.g.cats.xs.length i s) V) := by
  refine (unknowns_any T i V).mono ?_
  rintro e V' ⟨rfl, rfl⟩
  refine ⟨_, _, rfl, ext_alloc (ext_alloc (Below.refl _ _) _) _, enters_of Tryz.func122 (by kernel_rfl) rfl, fun R hR1 hR2 hR3 => ?_⟩
  have hb : Below V.heap.size V ((V.alloc (.cells #[.string T.g.name, .slice T.g.cats.addr T.g.cats.xs.length T.g.cats.cap, .string T.g.start, .int .i64 T.g.startNo, .slice T.g.entries.addr T.g.entries.xs.length T.g.entries.cap, .slice T.g.rules.addr T.g.rules.xs.length T.g.rules.cap, .map (some T.m), .slice T.ws.addr T.ws.xs.length T.ws.cap] 115)).alloc (.cells #[.int .i64 (i : Int)] 3)) := ext_alloc (ext_alloc (Below.refl _ _) _) _
  have h' := h.ext hb
  refine unknowns1 w _ T i V.heap.size (V.heap.size + 1) s R hi h'.d hR1 (hR2 _ (by omega) (by simp only [World.size_alloc]; omega)) (hR2 _ (by omega) (by simp only [World.size_alloc]; omega)) ?_ ?_
  · exact (Below.heap_alloc _ _ _ (by simp)).trans (World.alloc_heap_new _ _)
  · exact galloc_at _ _ _ (by simp)
end
end Go.Proofs.YthojaplnimoacaaGreatDoor

/- Reference 28: rows of items of a call's own; unknowns, term. -/
namespace Go.Proofs.YthojaplnimoacaaGreatDoor
open Go.RowKit Go.Han
attribute [local irreducible] wpStill wpQuiet
set_option maxRecDepth 100000

/-- A row of the call's own: W is the world at its start, w0 the one in which texts lie. -/
structure RowI (w0 W : World) (v : Value) (L : List ItemG) (V : World) : Prop where
  below : Below W.heap.size W V
  own : OwnL ItemG.cells 47 6 V W.heap.size v L
  far : ∀ x ∈ L, FarI w0.heap.size V x.tgt
theorem RowI.ext {w0 W V V' : World} {v : Value} {L : List ItemG} (h : RowI w0 W v L V) (h0 : w0.heap.size ≤ W.heap.size) (hb : Below V.heap.size V V') : RowI w0 W v L V' :=
  ⟨ext_trans h.below hb, h.own.ext hb, fun x hx => (h.far x hx).ext (Nat.le_trans h0 h.below.size) hb⟩
/-- An item more. -/
theorem RowI.snoc {w0 W V V1 V2 : World} {v v' : Value} {L : List ItemG} {y : ItemG} (h : RowI w0 W v L V) (h0 : w0.heap.size ≤ W.heap.size) (hb : Below V.heap.size V V1) (hy : FarI w0.heap.size V1 y.tgt)
    (hown : V2.ownsRow W.heap.size 47 6 v' (L.length + 1) (L.flatMap ItemG.cells ++ y.cells)) (hg : V1.grownBy V2 v.ownBlock) : RowI w0 W v' (L ++ [y]) V2 := by
  have h1 := h.ext h0 hb
  have h2 : w0.heap.size ≤ V1.heap.size := Nat.le_trans h0 h1.below.size
  refine ⟨below_own h1.below h1.own (Nat.le_refl _) hg, OwnL.snoc y hown, fun x hx => ?_⟩
  rcases List.mem_append.1 hx with hx | hx
  · exact (h1.far x hx).grown (h1.own.mono h0) h2 hg
  · obtain rfl := List.mem_singleton.1 hx
    exact hy.grown (h1.own.mono h0) h2 hg
/-- A row behind it. -/
theorem RowI.more {w0 W V V2 : World} {v v' : Value} {L M : List ItemG} (h : RowI w0 W v L V) (h0 : w0.heap.size ≤ W.heap.size) (hM : ∀ y ∈ M, FarI w0.heap.size V y.tgt)
    (hown : V2.ownsRow W.heap.size 47 6 v' (L.length + M.length) (L.flatMap ItemG.cells ++ M.flatMap ItemG.cells)) (hg : V.grownBy V2 v.ownBlock) : RowI w0 W v' (L ++ M) V2 := by
  have h2 : w0.heap.size ≤ V.heap.size := Nat.le_trans h0 h.below.size
  refine ⟨below_own h.below h.own (Nat.le_refl _) hg, ?_, fun x hx => ?_⟩
  · unfold OwnL
    rw [List.length_append, List.flatMap_append]
    exact hown
  · rcases List.mem_append.1 hx with hx | hx
    · exact (h.far x hx).grown (h.own.mono h0) h2 hg
    · exact (hM x hx).grown (h.own.mono h0) h2 hg
def RowPost (w0 W : World) (xs : List ItemC) (e : Ending) (V : World) : Prop := ∃ v L, e = .returned v ∧ RowI w0 W v L V ∧ L.map ItemG.c = xs
theorem RowI.empty (w0 : World) {W V : World} (hb : Below W.heap.size W V) : RowI w0 W (.slice (some ⟨V.heap.size, 0, none⟩) 0 0) [] (V.alloc (.cells #[] 47)) :=
  ⟨ext_alloc hb _, own_empty (World.alloc_heap_new _ _) hb.size, fun x hx => by cases hx⟩
set_option maxHeartbeats 4000000 in
theorem unknowns28_any (w0 W : World) (g : Gram) (m : Nat) (s : StrS) (i : Nat) (x : ByteArray) (hi : s.xs[i]? = some x) (hD : TagD w0 W ⟨g, m, s⟩) (hc : g.cats.xs.length ≤ 32) :
    Calls Tryz.prog 128 #[.agg #[.string g.name, .slice g.cats.addr g.cats.xs.length g.cats.cap, .string g.start, .int .i64 g.startNo, .slice g.entries.addr g.entries.xs.length g.entries.cap, .slice g.rules.addr g.rules.xs.length g.rules.cap], .slice s.addr s.xs.length s.cap, .int .i64 (i : Int)] W (RowPost w0 W (unkC g.cats.xs.length i x)) := by
  obtain ⟨i0, z0, hi0, hz0, hz1, hz2, hzs⟩ := parts_item
  have h0 : w0.heap.size ≤ W.heap.size := hD.size
  have hil : i < s.xs.length := (List.getElem?_eq_some_iff.1 hi).1
  have hsi : s.xs[i] = x := (List.getElem?_eq_some_iff.1 hi).2
  have him : i < 9223372036854775807 := Nat.lt_of_lt_of_le hil (Nat.le_trans hD.ws.cap hD.ws.max)
  have hwr : IntKind.i64.wrap ((i : Int) + 1) = (i : Int) + 1 := IntWalk.i64_in _ (by omega)
  obtain ⟨W1, hW1⟩ : ∃ W1, W.alloc (.cells #[.string g.name, .slice g.cats.addr g.cats.xs.length g.cats.cap, .string g.start, .int .i64 g.startNo, .slice g.entries.addr g.entries.xs.length g.entries.cap, .slice g.rules.addr g.rules.xs.length g.rules.cap] 26) = W1 := ⟨_, rfl⟩
  have hB1 : Below W.heap.size W W1 := by rw [← hW1]; exact ext_alloc (Below.refl _ _) _
  have hk : W1.heap[W.heap.size]? = some (.cells #[.string g.name, .slice g.cats.addr g.cats.xs.length g.cats.cap, .string g.start, .int .i64 g.startNo, .slice g.entries.addr g.entries.xs.length g.entries.cap, .slice g.rules.addr g.rules.xs.length g.rules.cap] 26 (0, 0)) := by rw [← hW1]; exact World.alloc_heap_new _ _
  have hR := RowI.empty w0 hB1
  have hBe : Below W1.heap.size W1 (W1.alloc (.cells #[] 47)) := ext_alloc (Below.refl _ _) _
  have hkE := (hBe.block _ (lt_block hk)).trans hk
  have HD := Lib.hid hD
  have HR0 := Lib.hid hR
  have HkE := Lib.hid hkE
  have Hsi := Lib.hid hsi
  clear hk hR hD hkE hi hsi
  go_enter Tryz.func128, Tryz.ntmps128
  go_wp2_with fail
  go_loopw [7, 8] (fun v iv wr => ∃ (k : Nat) (L : List ItemG), k ≤ g.cats.xs.length ∧ iv = .int .i64 k ∧ Hid (RowI w0 W v L wr) ∧ Hid (L.map ItemG.c = unkC k i x) ∧ wr.heap[W.heap.size]? = some (.cells #[.string g.name, .slice g.cats.addr g.cats.xs.length g.cats.cap, .string g.start, .int .i64 g.startNo, .slice g.entries.addr g.entries.xs.length g.entries.cap, .slice g.rules.addr g.rules.xs.length g.rules.cap] 26 (0, 0))) (fun _ iv _ => g.cats.xs.length - (intOf iv).toNat)
  case atStart => exact ⟨0, [], Nat.zero_le _, rfl, HR0, rfl, HkE.out⟩
  case round =>
    obtain ⟨k, L, hk, rfl, HR, HL, hkg⟩ := hrel
    have c1 := gblk hkg 1
    by_cases hlt : k < g.cats.xs.length
    · have hDr := HD.out.ext HR.out.below
      obtain ⟨b, off, hA, hb, hcl⟩ := StrS.at_ hDr.wsv (k := i) hil
      have e0 : wr.cell? ⟨b, off + i, none⟩ = some (.string s.xs[i]) := hcl i hil
      rw [Hsi.out] at e0
      change s.addr = _ at hA
      rw [hA]
      obtain ⟨Av, cv, rfl, _⟩ := own_room HR.out.own
      have hrow : wr.ownsRow W.heap.size 47 6 (.slice Av L.length cv) L.length (L.flatMap ItemG.cells) := HR.out.own
      have hWr := HR.out.below.size
      have hL16 : L.length < 33 := by
        have h1 := congrArg List.length HL.out
        unfold unkC at h1
        rw [List.length_map, List.length_map, List.length_range] at h1
        omega
      have hwk : k < 9223372036854775807 := by omega
      clear hDr hcl hA
      go_wp2_with (at_builtin; refine wpList_append_own_at _ rfl _ _ 27 rfl W.heap.size 47 i0 z0 6 64 Tryz.underlying27 hi0 hz0 hz1 hz2 hzs (by decide) _ _ _ rfl ((hrow.alloc _).alloc _) ⟨wr.heap.size + 1, 0, none⟩ 1 1 [.int .i64 (k : Int), .int .i64 (i : Int), .int .i64 ((i : Int) + 1), .int .i64 100, .slice (some ⟨wr.heap.size, 0, none⟩) 1 1, .int .i64 (-1)] rfl rfl (gcells_new2 wr _ [.int .i64 (k : Int), .int .i64 (i : Int), .int .i64 ((i : Int) + 1), .int .i64 100, .slice (some ⟨wr.heap.size, 0, none⟩) 1 1, .int .i64 (-1)] 47) (by simp [Value.oneCell']) (by unfold maxLen; omega) (by omega) (by simp; omega) ?_; intro v' w6 hown' hgrow hnil hat; obtain ⟨g', cap', rfl⟩ := ownsRow_succ hown')
      have hyF : FarI w0.heap.size ((wr.alloc (.cells #[.string x] 9)).alloc (.cells ([.int .i64 (k : Int), .int .i64 (i : Int), .int .i64 ((i : Int) + 1), .int .i64 100, .slice (some ⟨wr.heap.size, 0, none⟩) 1 1, .int .i64 (-1)]).toArray 47)) ⟨some ⟨wr.heap.size, 0, none⟩, 1, [x]⟩ := far_new (V := wr) (by rw [← World.size_alloc]; exact ext_alloc (Below.refl _ _) _)
      have hbq : Below wr.heap.size wr ((wr.alloc (.cells #[.string x] 9)).alloc (.cells ([.int .i64 (k : Int), .int .i64 (i : Int), .int .i64 ((i : Int) + 1), .int .i64 100, .slice (some ⟨wr.heap.size, 0, none⟩) 1 1, .int .i64 (-1)]).toArray 47)) := ext_alloc (ext_alloc (Below.refl _ _) _) _
      have HR2 := Lib.hid (HR.out.snoc h0 hbq (y := ⟨(k : Int), i, (i : Int) + 1, 100, ⟨some ⟨wr.heap.size, 0, none⟩, 1, [x]⟩, -1⟩) hyF hown' hgrow)
      have hkg6 : w6.heap[W.heap.size]? = some (.cells #[.string g.name, .slice g.cats.addr g.cats.xs.length g.cats.cap, .string g.start, .int .i64 g.startNo, .slice g.entries.addr g.entries.xs.length g.entries.cap, .slice g.rules.addr g.rules.xs.length g.rules.cap] 26 (0, 0)) := by
        have h1 := (hbq.block _ (lt_block hkg)).trans hkg
        refine (hgrow.block _ (lt_block h1) fun he => ?_).trans h1
        obtain ⟨cur, hcc⟩ := OwnL.kind (HR.out.own) he.symm
        rw [hkg] at hcc
        simp only [Option.some.injEq, Obj.cells.injEq] at hcc
        exact absurd hcc.2.1 (by decide)
      clear hyF hbq hrow hown' hgrow hnil hat HR c1 e0 hkg
      go_wp2
      go_roundw
      case rel => exact ⟨k + 1, L ++ [⟨(k : Int), i, (i : Int) + 1, 100, ⟨some ⟨wr.heap.size, 0, none⟩, 1, [x]⟩, -1⟩], by omega, by go_num, HR2, by show _ = _; rw [List.map_append, HL.out, unkC_succ]; rfl, hkg6⟩
      case measure => simp [intOf]; omega
    · have hks : k = g.cats.xs.length := by omega
      subst hks
      go_wp2_with fail
      go_ret
      exact ⟨_, L, rfl, HR.out, HL.out⟩
end Go.Proofs.YthojaplnimoacaaGreatDoor

/- Reference 28: term. -/
namespace Go.Proofs.YthojaplnimoacaaGreatDoor
open Go.RowKit Go.Han
attribute [local irreducible] wpStill wpQuiet
set_option maxRecDepth 100000

def itemV (cats : List ByteArray) (i many : Nat) (y : Term) : Value := .agg #[.int .i64 (idxF y.cat cats), .int .i64 (i : Int), .int .i64 ((i : Int) + (many : Int)), .int .i64 0, .slice y.tgt.addr y.tgt.xs.length y.tgt.cap, .int .i64 y.no]
def zeroItem : Value := .agg #[.int .i64 0, .int .i64 0, .int .i64 0, .int .i64 0, .slice none 0 0, .int .i64 0]
def pickV (cats : List ByteArray) (i many : Nat) (o : Option Term) : Value := match o with | some y => .tuple #[itemV cats i many y, .bool true] | none => .tuple #[zeroItem, .bool false]
def pickQ (cats ws : List ByteArray) (i many : Nat) (x : Term) : Bool := decide (x.src.xs.length = many) && startB x (ws.drop i) && catB cats x.cat
theorem find_here {q : Term → Bool} {S : List Term} {k : Nat} (hk : k < S.length) (h : (S.take k).find? q = none) (hq : q S[k] = true) : S.find? q = some S[k] := by
  conv => lhs; rw [← List.take_append_drop k S, List.find?_append, h, List.drop_eq_getElem_cons hk, List.find?_cons, hq]
  simp
theorem find_next {q : Term → Bool} {S : List Term} {k : Nat} (hk : k < S.length) (h : (S.take k).find? q = none) (hq : q S[k] = false) : (S.take (k + 1)).find? q = none := by
  rw [List.take_succ_eq_append_getElem hk, List.find?_append, h, List.find?_cons, hq]; rfl
theorem st6i {W : World} {b t : Nat} {u0 u1 u2 u3 u4 u5 : Value} (v0 v1 v2 v3 v4 v5 : Value) (h : W.heap[b]? = some (.cells #[u0, u1, u2, u3, u4, u5] t (0, 0))) :
    ((((((W.setCell ⟨b, 0, none⟩ v0).setCell ⟨b, 1, none⟩ v1).setCell ⟨b, 2, none⟩ v2).setCell ⟨b, 3, none⟩ v3).setCell ⟨b, 4, none⟩ v4).setCell ⟨b, 5, none⟩ v5).heap[b]? = some (.cells #[v0, v1, v2, v3, v4, v5] t (0, 0)) := by
  have h1 := blk_set (blk_set (blk_set (blk_set (blk_set (blk_set h 0 v0) 1 v1) 2 v2) 3 v3) 4 v4) 5 v5
  simpa using h1
theorem below6i {a W : World} {B b : Nat} {v0 v1 v2 v3 v4 v5 : Value} (h : Below B a W) (hb : B ≤ b) : Below B a ((((((W.setCell ⟨b, 0, none⟩ v0).setCell ⟨b, 1, none⟩ v1).setCell ⟨b, 2, none⟩ v2).setCell ⟨b, 3, none⟩ v3).setCell ⟨b, 4, none⟩ v4).setCell ⟨b, 5, none⟩ v5) :=
  (((((h.setCell (p := ⟨b, 0, none⟩) hb _).setCell (p := ⟨b, 1, none⟩) hb _).setCell (p := ⟨b, 2, none⟩) hb _).setCell (p := ⟨b, 3, none⟩) hb _).setCell (p := ⟨b, 4, none⟩) hb _).setCell (p := ⟨b, 5, none⟩) hb _
set_option maxHeartbeats 4000000 in
theorem term28_any (W : World) (g : Gram) (s : StrS) (SA : Option Addr) (Sc : Nat) (S : List Term) (i many : Nat) (hg : g.cats.lies W) (hs : s.lies W) (hS : TermsAt W SA S) (hSm : S.length ≤ 9223372036854775806) (hi : i ≤ s.xs.length) (hmx : i + many ≤ 9223372036854775807) :
    Calls Tryz.prog 82 #[.agg #[.string g.name, .slice g.cats.addr g.cats.xs.length g.cats.cap, .string g.start, .int .i64 g.startNo, .slice g.entries.addr g.entries.xs.length g.entries.cap, .slice g.rules.addr g.rules.xs.length g.rules.cap], .slice SA S.length Sc, .slice s.addr s.xs.length s.cap, .int .i64 (i : Int), .int .i64 (many : Int)] W fun e V => e = .returned (pickV g.cats.xs i many (pickC g.cats.xs S s.xs i many)) ∧ Below W.heap.size W V := by
  have HP : Hid (pickC g.cats.xs S s.xs i many = S.find? (pickQ g.cats.xs s.xs i many)) := rfl
  obtain ⟨W1, hW1⟩ : ∃ W1, (W.alloc (.cells #[.string g.name, .slice g.cats.addr g.cats.xs.length g.cats.cap, .string g.start, .int .i64 g.startNo, .slice g.entries.addr g.entries.xs.length g.entries.cap, .slice g.rules.addr g.rules.xs.length g.rules.cap] 26)).alloc (.cells #[.int .i64 0, .int .i64 0, .int .i64 0, .int .i64 0, .slice none 0 0, .int .i64 0] 47) = W1 := ⟨_, rfl⟩
  have hB1 : Below W.heap.size W W1 := by rw [← hW1]; exact ext_alloc (ext_alloc (Below.refl _ _) _) _
  have hkg : W1.heap[W.heap.size]? = some (.cells #[.string g.name, .slice g.cats.addr g.cats.xs.length g.cats.cap, .string g.start, .int .i64 g.startNo, .slice g.entries.addr g.entries.xs.length g.entries.cap, .slice g.rules.addr g.rules.xs.length g.rules.cap] 26 (0, 0)) := by rw [← hW1]; exact (Below.heap_alloc _ _ _ (by simp)).trans (World.alloc_heap_new _ _)
  have hki : W1.heap[W.heap.size + 1]? = some (.cells #[.int .i64 0, .int .i64 0, .int .i64 0, .int .i64 0, .slice none 0 0, .int .i64 0] 47 (0, 0)) := by rw [← hW1]; exact galloc_at _ _ _ (by simp)
  have hwr : IntKind.i64.wrap ((i : Int) + (many : Int)) = (i : Int) + (many : Int) := IntWalk.i64_in _ (by omega)
  have Hg := Lib.hid hg
  have Hs := Lib.hid hs
  have HS := Lib.hid hS
  have Hkg := Lib.hid hkg
  have Hki := Lib.hid hki
  have HB1 := Lib.hid hB1
  clear hg hs hS hkg hki hB1
  go_enter Tryz.func82, Tryz.ntmps82
  go_wp2_with fail
  clear hW1
  go_loopw [12] (fun iv wr => ∃ k : Nat, k ≤ S.length ∧ iv = .int .i64 k ∧ Below W1.heap.size W1 wr ∧ Hid ((S.take k).find? (pickQ g.cats.xs s.xs i many) = none)) (fun iv _ => S.length - (intOf iv).toNat)
  case atStart => exact ⟨0, Nat.zero_le _, rfl, Below.refl _ _, rfl⟩
  case round =>
    obtain ⟨k, hk, rfl, hB, HN⟩ := hrel
    by_cases hlt : k < S.length
    · obtain ⟨b, off, hA, hb, hcl⟩ := HS.out.at_ hlt
      obtain ⟨d0, d1, d2, d3, d4, d5, d6, d7⟩ := hcl k hlt wr (ext_trans HB1.out hB)
      have hyl := HS.out.lie _ (List.getElem_mem hlt)
      have HH : Hid (pickQ g.cats.xs s.xs i many S[k] = true → pickC g.cats.xs S s.xs i many = some S[k]) := fun h => by rw [HP.out]; exact find_here hlt HN.out h
      have HX : Hid (pickQ g.cats.xs s.xs i many S[k] = false → (S.take (k + 1)).find? (pickQ g.cats.xs s.xs i many) = none) := fun h => find_next hlt HN.out h
      rw [hA]
      clear hcl HN hA
      generalize S[k] = y at *
      have Hyl := Lib.hid hyl
      clear hyl
      obtain ⟨w4, hw4⟩ : ∃ w4, wr.alloc (.cells #[.int .i64 y.no, .int .i64 y.at_, .int .i64 y.known, .int .i64 y.lang, .slice y.src.addr y.src.xs.length y.src.cap, .slice y.tgt.addr y.tgt.xs.length y.tgt.cap, .string y.cat, .bool y.gone] 66) = w4 := ⟨_, rfl⟩
      have hb4 : Below wr.heap.size wr w4 := by rw [← hw4]; exact ext_alloc (Below.refl _ _) _
      have hx4 : w4.heap[wr.heap.size]? = some (.cells #[.int .i64 y.no, .int .i64 y.at_, .int .i64 y.known, .int .i64 y.lang, .slice y.src.addr y.src.xs.length y.src.cap, .slice y.tgt.addr y.tgt.xs.length y.tgt.cap, .string y.cat, .bool y.gone] 66 (0, 0)) := by rw [← hw4]; exact World.alloc_heap_new _ _
      have hB4 := ext_trans hB hb4
      have hkg4 := (hB4.block _ (lt_block Hkg.out)).trans Hkg.out
      have c1 := gblk hkg4 1
      have x0 := gblk hx4 0
      have x1 := gblk hx4 1
      have x2 := gblk hx4 2
      have x3 := gblk hx4 3
      have x4 := gblk hx4 4
      have x5 := gblk hx4 5
      have x6 := gblk hx4 6
      have x7 := gblk hx4 7
      have cX := Lib.hid (index26_any g.cats y.cat w4 (Hg.out.ext (ext_trans HB1.out hB4)))
      have cI := Lib.hid (isAt_any y s i w4 (Hyl.out.ext (ext_trans HB1.out hB4)) (Hs.out.ext (ext_trans HB1.out hB4)) hi)
      have HQ : Hid (pickQ g.cats.xs s.xs i many y = (decide (y.src.xs.length = many) && startB y (s.xs.drop i) && decide (0 ≤ idxF y.cat g.cats.xs))) := rfl
      have Hx4 := Lib.hid hx4
      have q1 : ((y.src.xs.length : Int) == (many : Int)) = decide (y.src.xs.length = many) := by rw [int_beqD]; exact decide_eq_decide.2 (by omega)
      have q2 : (y.src.xs.length == many) = decide (y.src.xs.length = many) := by rw [Bool.eq_iff_iff]; simp
      clear hx4 hkg4
      generalize decide (y.src.xs.length = many) = f1 at *
      generalize startB y (s.xs.drop i) = f2 at *
      go_wp2_with fail
      clear d0 d1 d2 d3 d4 d5 d6 d7 hw4
      refine cX.out.mono ?_
      rintro e w5 ⟨rfl, rfl⟩
      clear cX
      cases f1
      · simp only [Bool.false_and] at HQ
        have HN2 : Hid ((S.take (k + 1)).find? (pickQ g.cats.xs s.xs i many) = none) := HX.out (by rw [HQ.out])
        clear HX HH
        go_wp2_with fail
        go_roundw
        case rel => exact ⟨k + 1, by omega, by go_num, hB4, HN2⟩
        case measure => simp [intOf]; omega
      go_wp2_with fail
      refine cI.out.mono ?_
      rintro e w6 ⟨rfl, hb6⟩
      clear cI x0 x1 x2 x3 x4 x5 x6 x7 c1
      have hB6 := ext_trans hB4 hb6
      cases f2
      · simp only [Bool.and_false, Bool.false_and] at HQ
        have HN2 : Hid ((S.take (k + 1)).find? (pickQ g.cats.xs s.xs i many) = none) := HX.out (by rw [HQ.out])
        clear HX HH
        go_wp2_with fail
        go_roundw
        case rel => exact ⟨k + 1, by omega, by go_num, hB6, HN2⟩
        case measure => simp [intOf]; omega
      by_cases hix : 0 ≤ idxF y.cat g.cats.xs
      rotate_left
      · have HQ2 : Hid (pickQ g.cats.xs s.xs i many y = false) := by show _ = _; rw [HQ.out, decide_eq_false hix]; rfl
        clear HQ
        have HN2 : Hid ((S.take (k + 1)).find? (pickQ g.cats.xs s.xs i many) = none) := HX.out (HQ2.out)
        clear HX HH
        go_wp2_with fail
        go_roundw
        case rel => exact ⟨k + 1, by omega, by go_num, hB6, HN2⟩
        case measure => simp [intOf]; omega
      have HQ2 : Hid (pickQ g.cats.xs s.xs i many y = true) := by show _ = _; rw [HQ.out, decide_eq_true hix]; rfl
      have HH2 := Lib.hid (HH.out HQ2.out)
      have hx6 := (hb6.block _ (lt_block Hx4.out)).trans Hx4.out
      have hki6 := (hB6.block _ (lt_block Hki.out)).trans Hki.out
      have x0 := gblk hx6 0
      have x1 := gblk hx6 1
      have x2 := gblk hx6 2
      have x3 := gblk hx6 3
      have x4 := gblk hx6 4
      have x5 := gblk hx6 5
      have x6 := gblk hx6 6
      have x7 := gblk hx6 7
      have z0 := gblk hki6 0
      have z1 := gblk hki6 1
      have z2 := gblk hki6 2
      have z3 := gblk hki6 3
      have z4 := gblk hki6 4
      have z5 := gblk hki6 5
      have f0 := frozen_one hki6 0
      have f1 := frozen_one hki6 1
      have f2 := frozen_one hki6 2
      have f3 := frozen_one hki6 3
      have f4 := frozen_one hki6 4
      have f5 := frozen_one hki6 5
      have Hki6 := Lib.hid hki6
      clear HQ HQ2 HH HX hx6 hki6
      go_wp2_with fail
      have HF := Lib.hid (st6i (.int .i64 (idxF y.cat g.cats.xs)) (.int .i64 (i : Int)) (.int .i64 ((i : Int) + (many : Int))) (.int .i64 0) (.slice y.tgt.addr y.tgt.xs.length y.tgt.cap) (.int .i64 y.no) Hki6.out)
      clear z0 z1 z2 z3 z4 z5 f0 f1 f2 f3 f4 f5
      have z0 := gblk HF.out 0
      have z1 := gblk HF.out 1
      have z2 := gblk HF.out 2
      have z3 := gblk HF.out 3
      have z4 := gblk HF.out 4
      have z5 := gblk HF.out 5
      refine bodyPost_ret (v := .tuple #[itemV g.cats.xs i many y, .bool true]) ?_ rfl ⟨by rw [HH2.out]; rfl, below6i (ext_trans HB1.out hB6) (by omega)⟩
      simp [results, Tryz.results82, go_sem, z0, z1, z2, z3, z4, z5, itemV]
    · have HN2 : Hid (pickC g.cats.xs S s.xs i many = none) := by
        have h := HN.out
        rw [List.take_of_length_le (by omega)] at h
        show _ = _
        rw [HP.out, h]
      have hki6 := (hB.block _ (lt_block Hki.out)).trans Hki.out
      have z0 := gblk hki6 0
      have z1 := gblk hki6 1
      have z2 := gblk hki6 2
      have z3 := gblk hki6 3
      have z4 := gblk hki6 4
      have z5 := gblk hki6 5
      have f0 := frozen_one hki6 0
      have f1 := frozen_one hki6 1
      have f2 := frozen_one hki6 2
      have f3 := frozen_one hki6 3
      have f4 := frozen_one hki6 4
      have f5 := frozen_one hki6 5
      have Hki6 := Lib.hid hki6
      clear HN hki6
      go_wp2_with fail
      have HF := Lib.hid (st6i (.int .i64 0) (.int .i64 0) (.int .i64 0) (.int .i64 0) (.slice none 0 0) (.int .i64 0) Hki6.out)
      clear z0 z1 z2 z3 z4 z5 f0 f1 f2 f3 f4 f5
      have z0 := gblk HF.out 0
      have z1 := gblk HF.out 1
      have z2 := gblk HF.out 2
      have z3 := gblk HF.out 3
      have z4 := gblk HF.out 4
      have z5 := gblk HF.out 5
      refine bodyPost_ret (v := .tuple #[zeroItem, .bool false]) ?_ rfl ⟨by rw [HN2.out]; rfl, below6i (ext_trans HB1.out hB) (by omega)⟩
      simp [results, Tryz.results82, go_sem, z0, z1, z2, z3, z4, z5, zeroItem]
end Go.Proofs.YthojaplnimoacaaGreatDoor
