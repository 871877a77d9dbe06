/- ChangesThere. -/
import Derived.Test.YtmindojbkedmlaaDoorLaw34d
import Derived.BigQuiet
namespace Go.Proofs.YtmindojbkedmlaaDoor
open Go.RowKit Go.Han
attribute [local irreducible] wpStill wpQuiet
set_option maxRecDepth 100000

def valC (s : StrS) : List Value := [.slice s.addr s.xs.length s.cap]
theorem valC_one (s : StrS) : ∀ u ∈ valC s, u.oneCell' = true := by intro u hu; simp [valC] at hu; subst hu; rfl
theorem valC_flat (l : List StrS) : l.flatMap valC = l.map StrS.val := by
  induction l with
  | nil => rfl
  | cons x l ih => rw [List.flatMap_cons, ih]; rfl
theorem info_strsA : (Tryd.prog.info? 23).map (fun i => (i.zero, i.size, i.bytes)) = some (some (.slice none 0 0), 1, 24) := by kernel_rfl
theorem strs_one (l : Ws) : ∀ u ∈ strs l, u.oneCell' = true := by
  intro u hu
  obtain ⟨x, _, rfl⟩ := List.mem_map.1 hu
  rfl
theorem strs_len (l : Ws) : (strs l).length = l.length * 1 := by unfold strs; simp
theorem ownStr_one (w : World) (x : ByteArray) : w.alloc (.cells #[.string x] 9) |>.ownsRow w.heap.size 9 1 (.slice (some ⟨w.heap.size, 0, none⟩) 1 1) 1 (strC x) :=
  ⟨rfl, .inr ⟨w.heap.size, 1, #[.string x], rfl, Nat.le_refl _, World.alloc_heap_new _ _, Nat.le_refl _, by unfold maxLen; decide, rfl, rfl⟩⟩
/-- A slice of strings in a block of strings. -/
def StrT (w : World) (s : StrS) : Prop := s.lies w ∧ ∃ b cs, s.addr = some ⟨b, 0, none⟩ ∧ w.heap[b]? = some (.cells cs 9 (0, 0))
theorem StrT.ext {w w' : World} {s : StrS} (h : StrT w s) (hb : Below w.heap.size w w') : StrT w' s := by
  obtain ⟨h1, b, cs, h2, h3⟩ := h
  exact ⟨h1.ext hb, b, cs, h2, (hb.block _ (lt_block h3)).trans h3⟩
theorem own_strT {w : World} {base : Nat} {v : Value} {x : ByteArray} {l : Ws} (h : OwnL strC 9 1 w base v (x :: l)) : ∃ s : StrS, v = .slice s.addr s.xs.length s.cap ∧ s.xs = x :: l ∧ StrT w s := by
  obtain ⟨s, hv, hx, hl⟩ := own_lies h
  refine ⟨s, hv, hx, hl, ?_⟩
  rcases h.2 with ⟨_, h2⟩ | ⟨g, cap, cur, rfl, _, hgb, _⟩
  · cases h2
  · have : s.addr = some ⟨g, 0, none⟩ := by injection hv with h1 _ _; exact h1.symm
    exact ⟨g, cur, this, hgb⟩
theorem strT_grown {w w' : World} {base : Nat} {v : Value} {M : List StrS} {s : StrS} (h : StrT w s) (ho : OwnL valC 23 1 w base v M) (hg : w.grownBy w' v.ownBlock) : StrT w' s := by
  obtain ⟨h1, b, cs, h2, h3⟩ := h
  have hne : some b ≠ v.ownBlock := by
    intro e
    rcases ho.2 with ⟨rfl, _⟩ | ⟨g, cap, cur, rfl, _, hgb, _⟩
    · simp [Value.ownBlock] at e
    · obtain rfl : b = g := by simpa [Value.ownBlock] using e
      have := hgb.symm.trans h3
      simp at this
  refine ⟨⟨grd_grown h1.rd hg (fun a ha => ?_), h1.cap, h1.max, h1.nil⟩, b, cs, h2, (hg.block b (lt_block h3) hne).trans h3⟩
  rw [h2] at ha
  cases ha
  exact hne
def ThInv (S : List StrS) (x : Term) (base : Nat) (w3 : World) (vl vm vk vi : Value) (wr : World) : Prop :=
  ∃ (i : Nat) (M : List StrS) (g : Bool), i ≤ S.length ∧ vi = .int .i64 i ∧ vk = .int .i64 (idxT S (fun s => touchB x s.xs) i).length ∧ vl = .bool g ∧ (g = true → ∀ s ∈ M, s.xs.length ≤ 16) ∧
    M.length = (idxT S (fun s => touchB x s.xs) i).length ∧ moreOk x M ∧ OwnL valC 23 1 wr base vm M ∧ (∀ s ∈ M, StrT wr s) ∧ Below w3.heap.size w3 wr
theorem there_short {l : List Term} {x : Term} {S : List StrS} (h : touchE l x S = 0) : ∀ s ∈ S, s.xs.length ≤ 16 := by
  cases h3 : longS S
  · exact fun s hs => long_at h3 hs
  · exfalso
    have h0 := (there_zero h).1
    unfold touchE at h
    rw [if_neg (by intro h; exact h h0), h3] at h
    split at h
    · cases h
    · rw [if_pos rfl] at h; cases h
theorem range_any_succ (k : Nat) (P : Nat → Bool) : (List.range (k + 1)).any P = ((List.range k).any P || P k) := by rw [List.range_succ, List.any_append]; simp
/-- A sentence made longer, by itself. -/
theorem more_one {wr w8 : World} {base : Nat} {v v8 : Value} {M : List StrS} {bf : ByteArray} {xs : Ws} (hown : OwnL valC 23 1 wr base v M) (hbs : base ≤ wr.heap.size)
    (h7 : w8.ownsRow wr.heap.size 9 1 v8 (1 + xs.length) (strC bf ++ strs xs)) (hg : (wr.alloc (.cells #[.string bf] 9)).grownBy w8 (Value.slice (some ⟨wr.heap.size, 0, none⟩) 1 1).ownBlock) :
    ∃ s8 : StrS, v8 = .slice s8.addr s8.xs.length s8.cap ∧ Hid (s8.xs = bf :: xs) ∧ Hid (StrT w8 s8) ∧ OwnL valC 23 1 w8 base v M ∧ Hid (Below wr.heap.size wr w8) ∧ base ≤ w8.heap.size := by
  have hb : Below wr.heap.size wr w8 := (ext_alloc (Below.refl _ _) _).grown hg (by simp) (fun k hk => by simp [Value.ownBlock] at hk; omega)
  have ho : OwnL strC 9 1 w8 wr.heap.size v8 (bf :: xs) := by
    show w8.ownsRow wr.heap.size 9 1 v8 (bf :: xs).length ((bf :: xs).flatMap strC)
    rw [strC_flat, List.length_cons, Nat.add_comm]
    exact h7
  obtain ⟨s8, hv, hx, ht⟩ := own_strT ho
  exact ⟨s8, hv, hx, ht, hown.ext hb, hb, Nat.le_trans hbs hb.size⟩
theorem more_two {S : List StrS} {x : Term} {w5 wr w8 w9 : World} {v v9 : Value} {M : List StrS} {s s8 : StrS} {bf : ByteArray} {i kk : Nat} (g' : Bool) (hi : i < S.length) (hN : (idxT S (fun s => touchB x s.xs) (i + 1)).length = kk + 1) (hM : M.length = kk) (hmo : moreOk x M) (htb : touchB x s.xs = true)
    (hx8 : s8.xs = bf :: s.xs) (hst : ∀ s ∈ M, StrT wr s) (hst8 : StrT w8 s8) (hown8 : OwnL valC 23 1 w8 w5.heap.size v M) (hb8 : Below wr.heap.size wr w8) (hbs8 : w5.heap.size ≤ w8.heap.size)
    (hown9 : w9.ownsRow w5.heap.size 23 1 v9 (M.length + 1) (M.flatMap valC ++ valC s8)) (hg9 : (w8.alloc (.cells #[.slice s8.addr s8.xs.length s8.cap] 23)).grownBy w9 v.ownBlock) (hB : Below w5.heap.size w5 wr)
    (hg : g' = true → (∀ s ∈ M, s.xs.length ≤ 16) ∧ s.xs.length < 16) : ThInv S x w5.heap.size w5 (.bool g') v9 (.int .i64 ((kk : Int) + 1)) (.int .i64 ((i : Int) + 1)) w9 := by
  have hba : Below w8.heap.size w8 (w8.alloc (.cells #[.slice s8.addr s8.xs.length s8.cap] 23)) := ext_alloc (Below.refl _ _) _
  have hoa := hown8.ext hba
  have hB9 : Below w5.heap.size w5 w9 := (ext_trans (ext_trans hB hb8) hba).grown hg9 (Nat.le_trans hbs8 (by simp)) (fun k hk => (hown8.lt k hk).1)
  refine ⟨i + 1, M ++ [s8], g', hi, by go_num, by rw [hN]; go_num, rfl, ?_, by rw [hN, List.length_append, hM]; rfl, ?_, OwnL.snoc (f := valC) s8 hown9, ?_, hB9⟩
  · intro h t ht
    rcases List.mem_append.1 ht with h1 | h1
    · exact (hg h).1 t h1
    · obtain rfl := List.mem_singleton.1 h1
      rw [hx8, List.length_cons]
      exact (hg h).2
  · intro t ht
    rcases List.mem_append.1 ht with h1 | h1
    · exact hmo t h1
    · obtain rfl := List.mem_singleton.1 h1
      rw [hx8]
      exact touchB_cons htb
  · intro t ht
    rcases List.mem_append.1 ht with h1 | h1
    · exact strT_grown ((hst t h1).ext (ext_trans hb8 hba)) hoa hg9
    · obtain rfl := List.mem_singleton.1 h1
      exact strT_grown (hst8.ext hba) hoa hg9
set_option maxHeartbeats 16000000 in
theorem ChangesThere_any (A : Option Addr) (cp : Nat) (l : List Term) (x : Term) (B : Option Addr) (cq : Nat) (S : List StrS) (bf : ByteArray) (w : World) (hU : Tabs w) (hr : TermsAt w A l) (hx : x.lies w) (hS : SentsAt w B S) (hA : A = none → l = []) (_ : l.length ≤ cp) (_ : cp ≤ 9223372036854775807) (hm : l.length ≤ 9223372036854775807) (hm' : S.length ≤ 9223372036854775807) :
    Calls Tryd.prog 5 #[.slice A l.length cp, .agg #[.int .i64 x.no, .int .i64 x.at_, .int .i64 x.known, .int .i64 x.lang, .slice x.src.addr x.src.xs.length x.src.cap, .slice x.tgt.addr x.tgt.xs.length x.tgt.cap, .string x.cat, .bool x.gone], .slice B S.length cq, .string bf] w fun e w' => e = .returned (.bool true) ∧ Below w.heap.size w w' := by
  obtain ⟨i0, hi0, iz0, is0, ib0⟩ := info_parts info_strA
  obtain ⟨j0, hj0, jz0, js0, jb0⟩ := info_parts info_strsA
  obtain ⟨w0, hw0⟩ : ∃ w0, w.alloc (.cells #[.int .i64 x.no, .int .i64 x.at_, .int .i64 x.known, .int .i64 x.lang, .slice x.src.addr x.src.xs.length x.src.cap, .slice x.tgt.addr x.tgt.xs.length x.tgt.cap, .string x.cat, .bool x.gone] 25) = w0 := ⟨_, rfl⟩
  have hB0 : Below w.heap.size w w0 := by rw [← hw0]; exact ext_alloc (Below.refl _ _) _
  have hx0 : w0.heap[w.heap.size]? = some (.cells #[.int .i64 x.no, .int .i64 x.at_, .int .i64 x.known, .int .i64 x.lang, .slice x.src.addr x.src.xs.length x.src.cap, .slice x.tgt.addr x.tgt.xs.length x.tgt.cap, .string x.cat, .bool x.gone] 25 (0, 0)) := by rw [← hw0]; exact World.alloc_heap_new _ _
  have HB0 : Hid (∀ W, Below w0.heap.size w0 W → Below w.heap.size w W) := fun W h => ext_trans hB0 h
  have Hr := Lib.hid (hr.ext hB0)
  have Hx := Lib.hid (hx.ext hB0)
  have HS := Lib.hid (hS.ext hB0)
  have HU := Lib.hid (utf_ext hU hB0)
  have HA := Lib.hid hA
  have Hm := Lib.hid hm
  have Hm' := Lib.hid hm'
  have HX0 := Lib.hid hx0
  have cs := sane34_any w0 HU.out
  have cf := Lib.hid (fun w => fewT_any A cp l w Hm.out)
  have cg := Lib.hid (fun W (hW : Below w0.heap.size w0 W) => few34_any B cq S W (HS.out.ext hW) Hm'.out)
  generalize (decide (l.length ≤ 30) || (decide (1024 < l.length) && decide (l.length ≤ 1100))) = q at *
  generalize fewS S = q2 at *
  clear hr hx hU hA hm hm' hS
  go_enter Tryd.func5, Tryd.ntmps5
  go_wp2_with fail
  refine cs.mono ?_
  rintro e w1 ⟨rfl, hb1⟩
  have HB1 := Lib.hid hb1
  have hx1 := (hb1.block _ (lt_block hx0)).trans hx0
  have lx1 := lt_block hx1
  have lx2 := Nat.ne_of_lt lx1
  have b0 := gblk hx1 0
  have b1 := gblk hx1 1
  have b2 := gblk hx1 2
  have b3 := gblk hx1 3
  have b4 := gblk hx1 4
  have b5 := gblk hx1 5
  have b6 := gblk hx1 6
  have b7 := gblk hx1 7
  clear hx1 cs hb1 hx0
  go_wp2_with fail
  refine (cf.out _).mono ?_
  rintro e w' ⟨rfl, rfl⟩
  cases q
  · go_wp2_with fail
    go_ret
    exact ⟨rfl, HB0.out _ HB1.out⟩
  go_wp2_with fail
  refine (few1_any _ _ _).mono ?_
  rintro e w' ⟨rfl, rfl⟩
  obtain ⟨w2, hw2⟩ : ∃ w2, w1.alloc (.cells #[.int .i64 x.no, .int .i64 x.at_, .int .i64 x.known, .int .i64 x.lang, .slice x.src.addr x.src.xs.length x.src.cap, .slice x.tgt.addr x.tgt.xs.length x.tgt.cap, .string x.cat, .bool x.gone] 25) = w2 := ⟨_, rfl⟩
  have hb2 : Below w1.heap.size w1 w2 := by rw [← hw2]; exact ext_alloc (Below.refl _ _) _
  have HB2 := Lib.hid (ext_trans HB1.out hb2)
  try rw [hw2]
  clear hb2 b0 b1 b2 b3 b4 b5 b6 b7 lx1 lx2
  by_cases h60 : S.length ≤ 60
  rotate_left
  · have g1 : (60 : Int) < S.length := by omega
    go_wp2_with fail
    go_ret
    exact ⟨rfl, HB0.out _ HB2.out⟩
  have g60 : ¬ (60 : Int) < S.length := by omega
  go_wp2_with fail
  refine (cg.out w2 HB2.out).mono ?_
  rintro e w' ⟨rfl, rfl⟩
  cases q2
  · go_wp2_with fail
    go_ret
    exact ⟨rfl, HB0.out _ HB2.out⟩
  have hx2 := (HB2.out.block _ (lt_block HX0.out)).trans HX0.out
  have b0 := gblk hx2 0
  have b1 := gblk hx2 1
  have b2 := gblk hx2 2
  have b3 := gblk hx2 3
  have b4 := gblk hx2 4
  have b5 := gblk hx2 5
  have b6 := gblk hx2 6
  have b7 := gblk hx2 7
  clear hx2 hw2 cf cg
  go_wp2_with fail
  refine (Touched_any A cp l x B cq S w2 (utf_ext HU.out HB2.out) (Hr.out.ext HB2.out) (Hx.out.ext HB2.out) HA.out Hm.out (HS.out.ext HB2.out) Hm'.out).mono ?_
  rintro e w3 hp
  obtain ⟨A3, c3, rfl, hT3, hb3⟩ := tou_form hp
  have HB3 := Lib.hid (ext_trans HB2.out hb3)
  have HT3 := Lib.hid hT3
  clear hb3 hT3 hp b0 b1 b2 b3 b4 b5 b6 b7
  have hx2 := (HB3.out.block _ (lt_block HX0.out)).trans HX0.out
  have b0 := gblk hx2 0
  have b1 := gblk hx2 1
  have b2 := gblk hx2 2
  have b3 := gblk hx2 3
  have b4 := gblk hx2 4
  have b5 := gblk hx2 5
  have b6 := gblk hx2 6
  have b7 := gblk hx2 7
  clear hx2
  go_wp2_with fail
  refine (Touched_any none 0 [] x B cq S w3 (utf_ext HU.out HB3.out) (terms_nil _) (Hx.out.ext HB3.out) (fun _ => rfl) (by decide) (HS.out.ext HB3.out) Hm'.out).mono ?_
  rintro e w4 hp
  obtain ⟨A4, c4, rfl, hT4, hb4⟩ := tou_form hp
  have HB4 := Lib.hid (ext_trans HB3.out hb4)
  have HT3 := Lib.hid (HT3.out.ext hb4)
  have HT4 := Lib.hid hT4
  clear hb4 hT4 hp b0 b1 b2 b3 b4 b5 b6 b7
  by_cases h0 : touchE l x S = 0
  rotate_left
  · have g2 : (touchE l x S != 0) = true := by simpa using h0
    have g3 : touchO l x S = [] := by unfold touchO; rw [if_neg h0]
    rw [g3]
    go_wp2_with fail
    go_ret
    exact ⟨by first | rfl | (simp; done), HB0.out _ HB4.out⟩
  obtain ⟨ha0, hz, ho1, ho2⟩ := there_zero h0
  rw [h0, hz, ho1, ho2]
  rw [ho1] at HT3
  rw [ho2] at HT4
  have HA0 := Lib.hid ha0
  have H16 := Lib.hid (there_short h0)
  have hln : (touchL x S).length ≤ 60 := Nat.le_trans (idx_len_le S (fun s => touchB x s.xs) S.length) h60
  have cq := sameNats_any A3 A4 c3 c4 (touchL x S) (touchL x S) w4 HT3.out HT4.out (by omega)
  rw [decide_eq_true rfl] at cq
  have CQ := Lib.hid cq
  clear ha0 h0 hz ho1 ho2 cq
  go_wp2_with fail
  refine CQ.out.mono ?_
  rintro e w5 ⟨rfl, hb5⟩
  have HB5 := Lib.hid (ext_trans HB4.out hb5)
  have HT5 := Lib.hid (HT3.out.ext hb5)
  clear hb5 CQ HT3 HT4
  go_wp2_with fail
  go_loopw [13, 14, 15, 71] (fun vl vm vk vi wr => ThInv S x w5.heap.size w5 vl vm vk vi wr) (fun _ _ _ vi _ => S.length - (intOf vi).toNat)
  case atStart => exact ⟨0, [], true, Nat.zero_le _, rfl, rfl, rfl, (fun _ s hs => by cases hs), rfl, (fun s hs => by cases hs), OwnL.nil _ _ _ _ _, (fun s hs => by cases hs), Below.refl _ _⟩
  case round =>
    obtain ⟨i, M, g, hi, rfl, rfl, rfl, hg, hM, hmo, hown, hst, hBr⟩ := hrel
    by_cases hlt : i < S.length
    · have hlt2 : (i : Int) < S.length := by omega
      obtain ⟨bS, oS, e1, hbS, hcS⟩ := (HS.out.ext HB5.out).at_ hlt
      have dS := hcS i hlt wr hBr
      have H16s := Lib.hid (H16.out _ (List.getElem_mem hlt))
      have Hlie := Lib.hid ((HS.out.ext (ext_trans HB5.out hBr)).lie _ (List.getElem_mem hlt))
      obtain ⟨hn1, hn2⟩ := idx_next (P := fun s => touchB x s.xs) hlt _ rfl
      have Hn1 := Lib.hid hn1
      have Hn2 := Lib.hid hn2
      have Hsucc := Lib.hid (idxT_succ (P := fun s => touchB x s.xs) hlt)
      have hkl := idx_len_le S (fun s => touchB x s.xs) i
      have HBr := Lib.hid hBr
      have Hown := Lib.hid hown
      have Hst := Lib.hid hst
      have hxw := ((ext_trans HB5.out hBr).block _ (lt_block HX0.out)).trans HX0.out
      have x4 : wr.cell? ⟨w.heap.size, 4, none⟩ = some (.slice x.src.addr x.src.xs.length x.src.cap) := gblk hxw 4
      have lxw := lt_block hxw
      have X4 := Lib.hid x4
      subst e1
      clear hcS hn1 hn2 hbS hown hst hxw x4
      generalize S[i] = s at *
      go_wp2_with fail
      go_loopw [18, 78] (fun vt vj W => ∃ j : Nat, j ≤ s.xs.length ∧ vj = .int .i64 j ∧ vt = .bool ((List.range j).any fun j => startB x (s.xs.drop j)) ∧ Below wr.heap.size wr W) (fun _ vj _ => s.xs.length - (intOf vj).toNat)
      case atStart => exact ⟨0, Nat.zero_le _, rfl, rfl, Below.refl _ _⟩
      case round =>
        obtain ⟨j, hj, rfl, rfl, hB2⟩ := hrel
        by_cases hjt : j < s.xs.length
        · have hjt2 : (j : Int) < s.xs.length := by omega
          have Hjt := Lib.hid hjt
          have hmx := Nat.le_trans Hlie.out.cap Hlie.out.max
          have Hs := Lib.hid (range_any_succ j (fun j => startB x (s.xs.drop j)))
          have HB2 := Lib.hid hB2
          have hlie2 := Hlie.out.ext hB2
          have hsub : ∀ W : World, _ := fun W => run_from s j W (Nat.le_of_lt hjt)
          have hL := StrS.sub_len (s := s) (i := j) (n := s.xs.length - j) (by omega)
          have cB : Hid (∀ p : ExtBy wr, Calls Tryd.prog 15 #[.slice (s.sub j (s.xs.length - j)).addr (s.xs.length - j) (s.sub j (s.xs.length - j)).cap, .slice x.src.addr x.src.xs.length x.src.cap] p.to fun e w' => e = .returned (.bool (startB x (s.xs.drop j))) ∧ Below p.to.heap.size p.to w') := by
            intro p
            have h := begins_any (s.sub j (s.xs.length - j)) x.src p.to ((StrS.sub_lies hlie2 (by omega)).ext p.ext) (((Hx.out.ext (ext_trans HB5.out (ext_trans HBr.out hB2))).1).ext p.ext)
            rw [hL] at h
            refine h.mono ?_
            rintro e w' ⟨rfl, hb⟩
            refine ⟨?_, hb⟩
            congr 2
            unfold startB begB
            rw [show (s.sub j (s.xs.length - j)).xs = s.xs.drop j from List.take_of_length_le (by simp)]
          have x4' := (hB2.cell (p := ⟨w.heap.size, 4, none⟩) lxw).trans X4.out
          have lxw2 := Nat.lt_of_lt_of_le lxw hB2.size
          have y4 := fun p => cell_ext (w := wr) (a := ⟨w.heap.size, 4, none⟩) lxw2 x4' p
          have hB2s := hB2.size
          generalize (List.range j).any (fun j => startB x (s.xs.drop j)) = t at *
          generalize startB x (s.xs.drop j) = r at *
          generalize (s.sub j (s.xs.length - j)).addr = B7 at *
          generalize (s.sub j (s.xs.length - j)).cap = d7 at *
          generalize s.xs.length - j = m7 at *
          clear hL hlie2 x4' hB2
          cases t
          · go_wp2_with fail
            refine wp_region_ext (by kernel_rfl) (by kernel_rfl) ?_
            repeat (go_big_quiet_step ((go_at_call 15; exact Calls.ext_of (cB.out _))))
            refine wpQuiet_nil ?_
            intro _ hw'
            obtain ⟨p, rfl⟩ := hw'
            have hB3 := ext_trans HB2.out p.ext
            generalize p.to = V at *
            clear y4 hsub cB
            go_wp2_with fail
            go_roundw
            case rel => exact ⟨j + 1, Hjt.out, by go_num, by rw [Hs.out]; rfl, hB3⟩
            case measure => have := Hjt.out; simp [intOf]; omega
          · go_wp2_with fail
            refine wp_region_ext (by kernel_rfl) (by kernel_rfl) ?_
            repeat (go_big_quiet_step (fail))
            refine wpQuiet_nil ?_
            intro _ hw'
            obtain ⟨p, rfl⟩ := hw'
            have hB3 := ext_trans HB2.out p.ext
            generalize p.to = V at *
            clear y4 hsub cB
            go_wp2_with fail
            go_roundw
            case rel => exact ⟨j + 1, Hjt.out, by go_num, by rw [Hs.out]; rfl, hB3⟩
            case measure => have := Hjt.out; simp [intOf]; omega
        · obtain rfl : j = s.xs.length := by omega
          have htb : (List.range s.xs.length).any (fun j => startB x (s.xs.drop j)) = touchB x s.xs := rfl
          rw [htb]
          have Hlie2 := Lib.hid (Hlie.out.ext hB2)
          have hB5r := ext_trans HBr.out hB2
          have HB5r := Lib.hid hB5r
          have hown2 := Hown.out.ext hB2
          have Hst2 : Hid (∀ s ∈ M, StrT wr s) := fun s hs => (Hst.out s hs).ext hB2
          have Hsl := Lib.hid hlt
          generalize hkk : (idxT S (fun s => touchB x s.xs) i).length = kk at *
          have HT6 := Lib.hid (HT5.out.ext hB5r)
          clear X4 lxw dS htb hj hjt hBr
          cases htb2 : touchB x s.xs
          · have hcond := Hn2.out htb2
            have HN : Hid (idxT S (fun s => touchB x s.xs) (i + 1) = idxT S (fun s => touchB x s.xs) i) := by show _ = _; rw [Hsucc.out, if_neg (by rw [htb2]; decide), List.append_nil]
            have hfin : Hid (∀ vl, vl = .bool g → ThInv S x w5.heap.size w5 vl u14 (.int .i64 kk) (.int .i64 ((i : Int) + 1)) wr) := by
              rintro _ rfl
              exact ⟨i + 1, M, g, Hsl.out, by go_num, by rw [HN.out, hkk], rfl, hg, by rw [HN.out, hkk]; exact hM, hmo, hown2, Hst2.out, HB5r.out⟩
            by_cases hk2 : kk < (touchL x S).length
            · obtain ⟨ba, oa, rfl, hba, hca⟩ := rd_nat HT6.out hk2
              have hne : (touchL x S)[kk] ≠ i := hcond hk2
              have dA := (Below.refl wr.heap.size wr |>.cell (p := ⟨ba, oa + kk, none⟩) hba).trans hca
              have hk3 : (kk : Int) < (touchL x S).length := by omega
              generalize (touchL x S)[kk] = av at *
              have hne2 : ¬ (av : Int) = i := by omega
              have hne3 : decide (av = i) = false := decide_eq_false hne
              clear hcond hne hown2 hB5r hM hmo hg hB2 hca
              go_wp2_with fail
              go_roundw
              case rel => exact hfin.out _ rfl
              case measure => simp [intOf]; omega
            · have hk3 : ¬ (kk : Int) < (touchL x S).length := by omega
              clear hcond hown2 hB5r hM hmo hg hB2
              go_wp2_with fail
              go_roundw
              case rel => exact hfin.out _ rfl
              case measure => simp [intOf]; omega
          · obtain ⟨hkl2, hkv⟩ := Hn1.out htb2
            have hk2 : kk < (touchL x S).length := hkl2
            have hv : (touchL x S)[kk] = i := hkv
            obtain ⟨ba, oa, rfl, hba, hca⟩ := rd_nat HT6.out hk2
            rw [hv] at hca
            have hk3 : (kk : Int) < (touchL x S).length := by omega
            have HN : Hid ((idxT S (fun s => touchB x s.xs) (i + 1)).length = kk + 1) := by show _ = _; rw [Hsucc.out, if_pos htb2, List.length_append, hkk]; rfl
            have Hmo := Lib.hid hmo
            have HM := Lib.hid hM
            have Hg := Lib.hid hg
            have Htb := Lib.hid htb2
            have hml : M.length ≤ 60 := by omega
            have hMl : M.length + 1 ≤ maxLen ∧ (M.length + 1) * 24 ≤ 140737488355328 := by unfold maxLen; omega
            have h16 := H16s.out
            have hSl : 1 + s.xs.length ≤ maxLen ∧ (1 + s.xs.length) * 16 ≤ 140737488355328 := by unfold maxLen; omega
            have hbs := HB5r.out.size
            have Hs2 := Lib.hid (strs_len s.xs)
            have H1 := Lib.hid hlt
            clear hB5r hM hmo hg hB2 hkl2 hkv hv
            go_wp2_with (at_builtin; first | (refine wpList_append_rd rfl (.tmp 108) (.tmp 113) 26 rfl w5.heap.size 23 j0 _ 1 24 Tryd.underlying26 hj0 jz0 js0 jb0 rfl (by decide) _ M.length (M.flatMap valC) rfl (some ⟨w8.heap.size, 0, none⟩) 1 1 (valC s8) rfl (hown8.ext (ext_alloc (Below.refl w8.heap.size w8) _)) rfl (grd_new rfl) (valC_one s8) hMl.1 hMl.2 (Nat.le_trans hbs8 (by simp)) ?_; intro v9 w9 hown9 hg9 _) | (refine wpList_append_rd rfl (.tmp 110) (.tmp 111) 23 rfl wr.heap.size 9 i0 _ 1 16 Tryd.underlying23 hi0 iz0 is0 ib0 rfl (by decide) (.slice (some ⟨wr.heap.size, 0, none⟩) 1 1) 1 (strC bf) rfl s.addr s.xs.length s.cap (strs s.xs) rfl (ownStr_one wr bf) Hs2.out (Hlie2.out.rd.ext (ext_alloc (Below.refl _ _) _)) (strs_one s.xs) hSl.1 hSl.2 (by simp) ?_; intro v8 w8 hown7 hg8 _; obtain ⟨s8, rfl, hx8, hst8, hown8, hb8, hbs8⟩ := more_one hown2 hbs hown7 hg8; clear hown7 hg8))
            · go_roundw
              case rel => exact more_two _ H1.out HN.out HM.out Hmo.out Htb.out hx8.out Hst2.out hst8.out hown8 hb8.out hbs8 hown9 hg9 HB5r.out (fun h => ⟨Hg.out (by assumption), by have := of_decide_eq_true h; omega⟩)
              case measure => have := H1.out; simp [intOf]; omega
            · go_roundw
              case rel => exact more_two false H1.out HN.out HM.out Hmo.out Htb.out hx8.out Hst2.out hst8.out hown8 hb8.out hbs8 hown9 hg9 HB5r.out (fun h => by cases h)
              case measure => have := H1.out; simp [intOf]; omega
    · obtain rfl : i = S.length := by omega
      have hkn : (idxT S (fun s => touchB x s.xs) S.length).length = (touchL x S).length := rfl
      rw [hkn] at hM ⊢
      have hx9 := ((ext_trans HB5.out hBr).block _ (lt_block HX0.out)).trans HX0.out
      cases g
      · go_wp2_with fail
        go_ret
        exact ⟨by first | rfl | (simp; done), HB0.out _ (ext_trans HB5.out hBr)⟩
      · obtain ⟨A9, c9, rfl, hrd9, _⟩ := OwnL.form (by omega) hown
        rw [valC_flat] at hrd9
        have hSt : SentsAt wr A9 M := ⟨hrd9, fun s hs => (hst s hs).1⟩
        have hmore := there_more HA0.out (by omega) (hg rfl) hmo
        have HBr := Lib.hid (ext_trans HB5.out hBr)
        have cT := Lib.hid (Touched_any A cp l x A9 c9 M wr (utf_ext HU.out HBr.out) (Hr.out.ext HBr.out) (Hx.out.ext HBr.out) HA.out Hm.out hSt (by omega))
        have b0 := gblk hx9 0
        have b1 := gblk hx9 1
        have b2 := gblk hx9 2
        have b3 := gblk hx9 3
        have b4 := gblk hx9 4
        have b5 := gblk hx9 5
        have b6 := gblk hx9 6
        have b7 := gblk hx9 7
        clear hx9 hrd9 hSt hown hst hmo hg hBr
        generalize hML : M.length = ml at *
        generalize (touchL x S).length = tl at *
        subst hM
        go_wp2_with fail
        refine cT.out.mono ?_
        rintro e w6 hp
        obtain ⟨A6, c6, rfl, _, hb6⟩ := tou_form hp
        rcases hmore with h280 | ⟨hz, hlen⟩
        · rw [h280]
          clear hp h280
          go_wp2_with fail
          go_ret
          exact ⟨by first | rfl | (simp; done), HB0.out _ (ext_trans HBr.out hb6)⟩
        · rw [hz, hlen]
          clear hp hz hlen
          go_wp2_with fail
          go_ret
          exact ⟨by first | rfl | (simp; done), HB0.out _ (ext_trans HBr.out hb6)⟩
end Go.Proofs.YtmindojbkedmlaaDoor
