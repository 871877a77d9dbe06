/- Texts of this claim, one after the other: GrmR, GrmS, R29b, R29c, Chwg, Chwh. -/
import Derived.Test.YthojaplnimoacaaGreatDoorM11
import Derived.Test.YthojaplnimoacaaGreatDoorM20
import Derived.Test.YthojaplnimoacaaGreatDoorM9
import Derived.Test.YthojaplnimoacaaGreatDoorM10
import Derived.Test.YthojaplnimoacaaGreatDoorM2
import Derived.Test.YthojaplnimoacaaGreatDoorM19
import Derived.BigQuiet
import Derived.Defers
namespace Go.Proofs.YthojaplnimoacaaGreatDoor
open Go.RowKit Go.Han
attribute [local irreducible] wpStill wpQuiet
set_option maxRecDepth 100000
set_option maxHeartbeats 2000000 in
theorem Xpu (s t:SlS EntryG) (fid:Nat) (Q:EntryG→EntryG→Bool) (w:World) (hs:s.lies EntryG.cells w) (ht:t.lies EntryG.cells w) (hl:s.xs.length=t.xs.length) (eg:∀args w,(callFunc fid args).run Tryz.prog w = .ok (.enter fid args) w)
  (hf:∀W,Below w.heap.size w W→∀(i:Nat) x y,s.xs[i]? = some x→t.xs[i]? = some y→Calls Tryz.prog fid #[.agg #[.string x.text,.string x.cat,.int .i64 x.no,.slice x.gives.addr x.gives.xs.length x.gives.cap,.int .i64 x.cost],.agg #[.string y.text,.string y.cat,.int .i64 y.no,.slice y.gives.addr y.gives.xs.length y.gives.cap,.int .i64 y.cost]] W fun e w'=>e = .returned (.bool (Q x y))∧Below W.heap.size W w') :
  Calls Tryz.prog 111 #[.slice s.addr s.xs.length s.cap,.slice t.addr t.xs.length t.cap,.func (.func fid) #[] #[]] w fun e w'=>e = .returned (.bool (allZ Q s.xs t.xs))∧Below w.heap.size w w':=by
 have Hz:=Xa (Vl Q hl)
 have Hf:=Xa hf
 have HS:=Xa hs
 have HT:=Xa ht
 have hm:s.xs.length≤9223372036854775807:=Nat.le_trans hs.cap hs.max
 have Hl:=Xa hl
 rw[← hl]
 generalize allZ Q s.xs t.xs=r at *
 clear hs ht hl hf
 go_enter Tryz.func111,Tryz.ntmps111
 go_wp2_with fail
 go_loopw [17] (fun i wr=>∃k:Nat,k≤s.xs.length∧i = .int .i64 k∧Below w.heap.size w wr∧Hid (∀(i:Nat) x y,s.xs[i]? = some x→t.xs[i]? = some y→i<k→Q x y=true)) (fun i _=>s.xs.length-(intOf i).toNat)
 case atStart=>exact⟨0,Nat.zero_le _,rfl,Below.refl _ _,fun i x y _ _ h=>by omega⟩
 case round =>
  obtain⟨k,hk,rfl,hB,HR⟩:=hrel
  by_cases hlt:k<s.xs.length
  ·have hlt':k<t.xs.length:=by have:=Hl.out;omega
   obtain⟨b1,o1,hA,hb,hc⟩:=HS.out.at_ EntryG.size_cells (by omega) hlt
   obtain⟨b2,o2,hA',hb',hc'⟩:=HT.out.at_ EntryG.size_cells (by omega) hlt'
   have e0:wr.cell? ⟨b1,o1+k*5,none⟩=some (.string s.xs[k].text):=hc k hlt wr hB 0 _ rfl
   have e1:wr.cell? ⟨b1,o1+k*5+1,none⟩=some (.string s.xs[k].cat):=hc k hlt wr hB 1 _ rfl
   have e2:wr.cell? ⟨b1,o1+k*5+2,none⟩=some (.int .i64 s.xs[k].no):=hc k hlt wr hB 2 _ rfl
   have e3:wr.cell? ⟨b1,o1+k*5+3,none⟩=some (.slice s.xs[k].gives.addr s.xs[k].gives.xs.length s.xs[k].gives.cap):=hc k hlt wr hB 3 _ rfl
   have e4:wr.cell? ⟨b1,o1+k*5+4,none⟩=some (.int .i64 s.xs[k].cost):=hc k hlt wr hB 4 _ rfl
   rw[hA]
   rw[hA']
   have g1:=List.getElem?_eq_getElem hlt
   have g2:=List.getElem?_eq_getElem hlt'
   obtain⟨W2,hW2⟩:∃W2,wr.alloc (.cells #[.string s.xs[k].text,.string s.xs[k].cat,.int .i64 s.xs[k].no,.slice s.xs[k].gives.addr s.xs[k].gives.xs.length s.xs[k].gives.cap,.int .i64 s.xs[k].cost] 70)=W2:=⟨_,rfl⟩
   have hb2:Below wr.heap.size wr W2:=by subst hW2;exact Xe (Below.refl _ _) _
   have hk2:W2.heap[wr.heap.size]? = some (.cells #[.string s.xs[k].text,.string s.xs[k].cat,.int .i64 s.xs[k].no,.slice s.xs[k].gives.addr s.xs[k].gives.xs.length s.xs[k].gives.cap,.int .i64 s.xs[k].cost] 70 (0,0)):=by subst hW2;exact World.alloc_heap_new _ _
   have hB2:=Xb hB hb2
   have f0:W2.cell? ⟨b2,o2+k*5,none⟩=some (.string t.xs[k].text):=hc' k hlt' W2 hB2 0 _ rfl
   have f1:W2.cell? ⟨b2,o2+k*5+1,none⟩=some (.string t.xs[k].cat):=hc' k hlt' W2 hB2 1 _ rfl
   have f2:W2.cell? ⟨b2,o2+k*5+2,none⟩=some (.int .i64 t.xs[k].no):=hc' k hlt' W2 hB2 2 _ rfl
   have f3:W2.cell? ⟨b2,o2+k*5+3,none⟩=some (.slice t.xs[k].gives.addr t.xs[k].gives.xs.length t.xs[k].gives.cap):=hc' k hlt' W2 hB2 3 _ rfl
   have f4:W2.cell? ⟨b2,o2+k*5+4,none⟩=some (.int .i64 t.xs[k].cost):=hc' k hlt' W2 hB2 4 _ rfl
   obtain⟨W3,hW3⟩:∃W3,W2.alloc (.cells #[.string t.xs[k].text,.string t.xs[k].cat,.int .i64 t.xs[k].no,.slice t.xs[k].gives.addr t.xs[k].gives.xs.length t.xs[k].gives.cap,.int .i64 t.xs[k].cost] 70)=W3:=⟨_,rfl⟩
   have hb3:Below W2.heap.size W2 W3:=by subst hW3;exact Xe (Below.refl _ _) _
   have hk3:W3.heap[W2.heap.size]? = some (.cells #[.string t.xs[k].text,.string t.xs[k].cat,.int .i64 t.xs[k].no,.slice t.xs[k].gives.addr t.xs[k].gives.xs.length t.xs[k].gives.cap,.int .i64 t.xs[k].cost] 70 (0,0)):=by subst hW3;exact World.alloc_heap_new _ _
   have hB3:=Xb hB2 hb3
   have hk23:=Xh hb3 hk2
   have x0:=gblk hk23 0
   have x1:=gblk hk23 1
   have x2:=gblk hk23 2
   have x3:=gblk hk23 3
   have x4:=gblk hk23 4
   have y0:=gblk hk3 0
   have y1:=gblk hk3 1
   have y2:=gblk hk3 2
   have y3:=gblk hk3 3
   have y4:=gblk hk3 4
   have cF:=Xa (Hf.out W3 hB3 k _ _ g1 g2)
   have HT2:Hid (Q s.xs[k] t.xs[k]=true→∀(i:Nat) x y,s.xs[i]? = some x→t.xs[i]? = some y→i<k+1→Q x y=true):=by
    intro h0 i x y hx hy hi
    by_cases e:i<k
    ·exact HR.out i x y hx hy e
    ·obtain rfl:i=k:=by omega
     rw[g1] at hx;rw[g2] at hy
     cases hx;cases hy
     exact h0
   have HF2:Hid (Q s.xs[k] t.xs[k]=false→r=false):=by
    intro h0
    rw[Bool.eq_false_iff]
    intro h
    rw[Hz.out.1 h k _ _ g1 g2] at h0
    cases h0
   clear hc hc' hA hA' HR g1 g2 hk2 hk3 hk23 hb2 hb3 hB hB2
   generalize s.xs[k]=p at *
   generalize t.xs[k]=q at *
   generalize Q p q=f at *
   go_wp2_with fail
   clear hW2 hW3 e0 e1 e2 e3 e4 f0 f1 f2 f3 f4
   refine cF.out.mono ?_
   rintro ee w4 ⟨rfl,hb4⟩
   have hB4:=Xb hB3 hb4
   cases f
   ·have HF3:=Xa (HF2.out rfl)
    clear HT2 HF2 x0 x1 x2 x3 x4 y0 y1 y2 y3 y4
    go_wp2_with fail
    go_ret
    exact⟨by rw[HF3.out];rfl,hB4⟩
   ·have HT3:=Xa (HT2.out rfl)
    clear HT2 HF2 x0 x1 x2 x3 x4 y0 y1 y2 y3 y4
    go_wp2_with fail
    go_roundw
    case rel=>exact⟨k+1,by omega,by go_num,hB4,HT3⟩
    case measure=>simp[intOf];omega
  ·have HE:Hid (r=true):=Hz.out.2 fun i x y hx hy=>HR.out i x y hx hy (by have:=(List.getElem?_eq_some_iff.1 hx).1;omega)
   clear HR Hz
   go_wp2_with fail
   go_ret
   exact⟨by rw[HE.out];rfl,hB⟩
set_option maxHeartbeats 2000000 in
theorem Xpv (s t:SlS RuleG) (fid:Nat) (Q:RuleG→RuleG→Bool) (w:World) (hs:s.lies RuleG.cells w) (ht:t.lies RuleG.cells w) (hl:s.xs.length=t.xs.length) (eg:∀args w,(callFunc fid args).run Tryz.prog w = .ok (.enter fid args) w)
  (hf:∀W,Below w.heap.size w W→∀(i:Nat) x y,s.xs[i]? = some x→t.xs[i]? = some y→Calls Tryz.prog fid #[.agg #[.string x.cat,.int .i64 x.no,.slice x.parts.addr x.parts.xs.length x.parts.cap,.slice x.gives.addr x.gives.xs.length x.gives.cap,.int .i64 x.cost],.agg #[.string y.cat,.int .i64 y.no,.slice y.parts.addr y.parts.xs.length y.parts.cap,.slice y.gives.addr y.gives.xs.length y.gives.cap,.int .i64 y.cost]] W fun e w'=>e = .returned (.bool (Q x y))∧Below W.heap.size W w') :
  Calls Tryz.prog 113 #[.slice s.addr s.xs.length s.cap,.slice t.addr t.xs.length t.cap,.func (.func fid) #[] #[]] w fun e w'=>e = .returned (.bool (allZ Q s.xs t.xs))∧Below w.heap.size w w':=by
 have Hz:=Xa (Vl Q hl)
 have Hf:=Xa hf
 have HS:=Xa hs
 have HT:=Xa ht
 have hm:s.xs.length≤9223372036854775807:=Nat.le_trans hs.cap hs.max
 have Hl:=Xa hl
 rw[← hl]
 generalize allZ Q s.xs t.xs=r at *
 clear hs ht hl hf
 go_enter Tryz.func113,Tryz.ntmps113
 go_wp2_with fail
 go_loopw [17] (fun i wr=>∃k:Nat,k≤s.xs.length∧i = .int .i64 k∧Below w.heap.size w wr∧Hid (∀(i:Nat) x y,s.xs[i]? = some x→t.xs[i]? = some y→i<k→Q x y=true)) (fun i _=>s.xs.length-(intOf i).toNat)
 case atStart=>exact⟨0,Nat.zero_le _,rfl,Below.refl _ _,fun i x y _ _ h=>by omega⟩
 case round =>
  obtain⟨k,hk,rfl,hB,HR⟩:=hrel
  by_cases hlt:k<s.xs.length
  ·have hlt':k<t.xs.length:=by have:=Hl.out;omega
   obtain⟨b1,o1,hA,hb,hc⟩:=HS.out.at_ RuleG.size_cells (by omega) hlt
   obtain⟨b2,o2,hA',hb',hc'⟩:=HT.out.at_ RuleG.size_cells (by omega) hlt'
   have e0:wr.cell? ⟨b1,o1+k*5,none⟩=some (.string s.xs[k].cat):=hc k hlt wr hB 0 _ rfl
   have e1:wr.cell? ⟨b1,o1+k*5+1,none⟩=some (.int .i64 s.xs[k].no):=hc k hlt wr hB 1 _ rfl
   have e2:wr.cell? ⟨b1,o1+k*5+2,none⟩=some (.slice s.xs[k].parts.addr s.xs[k].parts.xs.length s.xs[k].parts.cap):=hc k hlt wr hB 2 _ rfl
   have e3:wr.cell? ⟨b1,o1+k*5+3,none⟩=some (.slice s.xs[k].gives.addr s.xs[k].gives.xs.length s.xs[k].gives.cap):=hc k hlt wr hB 3 _ rfl
   have e4:wr.cell? ⟨b1,o1+k*5+4,none⟩=some (.int .i64 s.xs[k].cost):=hc k hlt wr hB 4 _ rfl
   rw[hA]
   rw[hA']
   have g1:=List.getElem?_eq_getElem hlt
   have g2:=List.getElem?_eq_getElem hlt'
   obtain⟨W2,hW2⟩:∃W2,wr.alloc (.cells #[.string s.xs[k].cat,.int .i64 s.xs[k].no,.slice s.xs[k].parts.addr s.xs[k].parts.xs.length s.xs[k].parts.cap,.slice s.xs[k].gives.addr s.xs[k].gives.xs.length s.xs[k].gives.cap,.int .i64 s.xs[k].cost] 104)=W2:=⟨_,rfl⟩
   have hb2:Below wr.heap.size wr W2:=by subst hW2;exact Xe (Below.refl _ _) _
   have hk2:W2.heap[wr.heap.size]? = some (.cells #[.string s.xs[k].cat,.int .i64 s.xs[k].no,.slice s.xs[k].parts.addr s.xs[k].parts.xs.length s.xs[k].parts.cap,.slice s.xs[k].gives.addr s.xs[k].gives.xs.length s.xs[k].gives.cap,.int .i64 s.xs[k].cost] 104 (0,0)):=by subst hW2;exact World.alloc_heap_new _ _
   have hB2:=Xb hB hb2
   have f0:W2.cell? ⟨b2,o2+k*5,none⟩=some (.string t.xs[k].cat):=hc' k hlt' W2 hB2 0 _ rfl
   have f1:W2.cell? ⟨b2,o2+k*5+1,none⟩=some (.int .i64 t.xs[k].no):=hc' k hlt' W2 hB2 1 _ rfl
   have f2:W2.cell? ⟨b2,o2+k*5+2,none⟩=some (.slice t.xs[k].parts.addr t.xs[k].parts.xs.length t.xs[k].parts.cap):=hc' k hlt' W2 hB2 2 _ rfl
   have f3:W2.cell? ⟨b2,o2+k*5+3,none⟩=some (.slice t.xs[k].gives.addr t.xs[k].gives.xs.length t.xs[k].gives.cap):=hc' k hlt' W2 hB2 3 _ rfl
   have f4:W2.cell? ⟨b2,o2+k*5+4,none⟩=some (.int .i64 t.xs[k].cost):=hc' k hlt' W2 hB2 4 _ rfl
   obtain⟨W3,hW3⟩:∃W3,W2.alloc (.cells #[.string t.xs[k].cat,.int .i64 t.xs[k].no,.slice t.xs[k].parts.addr t.xs[k].parts.xs.length t.xs[k].parts.cap,.slice t.xs[k].gives.addr t.xs[k].gives.xs.length t.xs[k].gives.cap,.int .i64 t.xs[k].cost] 104)=W3:=⟨_,rfl⟩
   have hb3:Below W2.heap.size W2 W3:=by subst hW3;exact Xe (Below.refl _ _) _
   have hk3:W3.heap[W2.heap.size]? = some (.cells #[.string t.xs[k].cat,.int .i64 t.xs[k].no,.slice t.xs[k].parts.addr t.xs[k].parts.xs.length t.xs[k].parts.cap,.slice t.xs[k].gives.addr t.xs[k].gives.xs.length t.xs[k].gives.cap,.int .i64 t.xs[k].cost] 104 (0,0)):=by subst hW3;exact World.alloc_heap_new _ _
   have hB3:=Xb hB2 hb3
   have hk23:=Xh hb3 hk2
   have x0:=gblk hk23 0
   have x1:=gblk hk23 1
   have x2:=gblk hk23 2
   have x3:=gblk hk23 3
   have x4:=gblk hk23 4
   have y0:=gblk hk3 0
   have y1:=gblk hk3 1
   have y2:=gblk hk3 2
   have y3:=gblk hk3 3
   have y4:=gblk hk3 4
   have cF:=Xa (Hf.out W3 hB3 k _ _ g1 g2)
   have HT2:Hid (Q s.xs[k] t.xs[k]=true→∀(i:Nat) x y,s.xs[i]? = some x→t.xs[i]? = some y→i<k+1→Q x y=true):=by
    intro h0 i x y hx hy hi
    by_cases e:i<k
    ·exact HR.out i x y hx hy e
    ·obtain rfl:i=k:=by omega
     rw[g1] at hx;rw[g2] at hy
     cases hx;cases hy
     exact h0
   have HF2:Hid (Q s.xs[k] t.xs[k]=false→r=false):=by
    intro h0
    rw[Bool.eq_false_iff]
    intro h
    rw[Hz.out.1 h k _ _ g1 g2] at h0
    cases h0
   clear hc hc' hA hA' HR g1 g2 hk2 hk3 hk23 hb2 hb3 hB hB2
   generalize s.xs[k]=p at *
   generalize t.xs[k]=q at *
   generalize Q p q=f at *
   go_wp2_with fail
   clear hW2 hW3 e0 e1 e2 e3 e4 f0 f1 f2 f3 f4
   refine cF.out.mono ?_
   rintro ee w4 ⟨rfl,hb4⟩
   have hB4:=Xb hB3 hb4
   cases f
   ·have HF3:=Xa (HF2.out rfl)
    clear HT2 HF2 x0 x1 x2 x3 x4 y0 y1 y2 y3 y4
    go_wp2_with fail
    go_ret
    exact⟨by rw[HF3.out];rfl,hB4⟩
   ·have HT3:=Xa (HT2.out rfl)
    clear HT2 HF2 x0 x1 x2 x3 x4 y0 y1 y2 y3 y4
    go_wp2_with fail
    go_roundw
    case rel=>exact⟨k+1,by omega,by go_num,hB4,HT3⟩
    case measure=>simp[intOf];omega
  ·have HE:Hid (r=true):=Hz.out.2 fun i x y hx hy=>HR.out i x y hx hy (by have:=(List.getElem?_eq_some_iff.1 hx).1;omega)
   clear HR Hz
   go_wp2_with fail
   go_ret
   exact⟨by rw[HE.out];rfl,hB⟩
set_option maxHeartbeats 2000000 in
theorem Xrg (s t:SlS PartG) (w:World) (hs:s.lies PartG.cells w) (ht:t.lies PartG.cells w) (hl:s.xs.length=t.xs.length):Calls Tryz.prog 115 #[.slice s.addr s.xs.length s.cap,.slice t.addr t.xs.length t.cap] w fun e w'=>e = .returned (.bool (decide (s.xs=t.xs)))∧Below w.heap.size w w':=by
 have HS:=Xa hs
 have HT:=Xa ht
 have hm:s.xs.length≤9223372036854775807:=Nat.le_trans hs.cap hs.max
 have Hl:=Xa hl
 rw[← hl]
 clear hs ht hl
 go_enter Tryz.func115,Tryz.ntmps115
 go_wp2_with fail
 go_loopw [13] (fun i wr=>∃k:Nat,k≤s.xs.length∧i = .int .i64 k∧Below w.heap.size w wr∧Hid (s.xs.take k=t.xs.take k)) (fun i _=>s.xs.length-(intOf i).toNat)
 case atStart=>exact⟨0,Nat.zero_le _,rfl,Below.refl _ _,rfl⟩
 case round =>
  obtain⟨k,hk,rfl,hB,HR⟩:=hrel
  by_cases hlt:k<s.xs.length
  ·have hlt':k<t.xs.length:=by have:=Hl.out;omega
   obtain⟨b1,o1,hA,hb,hc⟩:=HS.out.at_ PartG.size_cells (by omega) hlt
   obtain⟨b2,o2,hA',hb',hc'⟩:=HT.out.at_ PartG.size_cells (by omega) hlt'
   have e0:wr.cell? ⟨b1,o1+k*3,none⟩=some (.string s.xs[k].cat):=hc k hlt wr hB 0 _ rfl
   have e1:wr.cell? ⟨b1,o1+k*3+1,none⟩=some (.int .i64 s.xs[k].no):=hc k hlt wr hB 1 _ rfl
   have e2:wr.cell? ⟨b1,o1+k*3+2,none⟩=some (.string s.xs[k].text):=hc k hlt wr hB 2 _ rfl
   have f0:wr.cell? ⟨b2,o2+k*3,none⟩=some (.string t.xs[k].cat):=hc' k hlt' wr hB 0 _ rfl
   have f1:wr.cell? ⟨b2,o2+k*3+1,none⟩=some (.int .i64 t.xs[k].no):=hc' k hlt' wr hB 1 _ rfl
   have f2:wr.cell? ⟨b2,o2+k*3+2,none⟩=some (.string t.xs[k].text):=hc' k hlt' wr hB 2 _ rfl
   rw[hA]
   rw[hA']
   have hq:=fun (w:World)=>T0 s.xs[k].cat t.xs[k].cat s.xs[k].no t.xs[k].no s.xs[k].text t.xs[k].text w
   have Ht:=Xa (fun h=>Xdg hlt hlt' HR.out h)
   have Hf:Hid (s.xs[k]≠t.xs[k]→s.xs≠t.xs):=fun h e=>h (by simp[e])
   clear hc hc' hA hA' HR
   generalize s.xs[k]=x at *
   generalize t.xs[k]=y at *
   obtain⟨xa,xn,xs⟩:=x
   obtain⟨ya,yn,ys⟩:=y
   simp only at hq e0 e1 e2 f0 f1 f2
   cases hxy:decide ((⟨xa,xn,xs⟩:PartG)=⟨ya,yn,ys⟩)
   ·rw[hxy] at hq
    have HF:Hid (decide (s.xs=t.xs)=false):=decide_eq_false (Hf.out (of_decide_eq_false hxy))
    clear hxy Hf Ht
    go_wp2_with fail
    go_still (by kernel_rfl)
    go_wp2
    go_ret
    exact⟨by rw[HF.out];rfl,hB.drew⟩
   ·rw[hxy] at hq
    have HT2:=Xa (Ht.out (of_decide_eq_true hxy))
    clear hxy Hf Ht
    go_wp2_with fail
    go_still (by kernel_rfl)
    go_wp2
    go_roundw
    case rel=>exact⟨k+1,by omega,by go_num,hB.drew,HT2⟩
    case measure=>simp[intOf];omega
  ·have HE:Hid (decide (s.xs=t.xs)=true):=by
    have h:=HR.out
    rw[List.take_of_length_le (by omega),List.take_of_length_le (by have:=Hl.out;omega)] at h
    exact decide_eq_true h
   clear HR
   go_wp2_with fail
   go_ret
   exact⟨by rw[HE.out];rfl,hB⟩
theorem Xpo (a b:EntryG) (w:World):Calls Tryz.prog 112 #[.agg #[.string a.text,.string a.cat,.int .i64 a.no,.slice a.gives.addr a.gives.xs.length a.gives.cap,.int .i64 a.cost],.agg #[.string b.text,.string b.cat,.int .i64 b.no,.slice b.gives.addr b.gives.xs.length b.gives.cap,.int .i64 b.cost]] w fun e w'=>e = .returned (.bool (decide (a.no=b.no)))∧Below w.heap.size w w':=by
 obtain⟨W1,hW1⟩:∃W1,(w.alloc (.cells #[.string a.text,.string a.cat,.int .i64 a.no,.slice a.gives.addr a.gives.xs.length a.gives.cap,.int .i64 a.cost] 70)).alloc (.cells #[.string b.text,.string b.cat,.int .i64 b.no,.slice b.gives.addr b.gives.xs.length b.gives.cap,.int .i64 b.cost] 70)=W1:=⟨_,rfl⟩
 have hB1:Below w.heap.size w W1:=by subst hW1;exact Xe (Xe (Below.refl _ _) _) _
 have hk:W1.heap[w.heap.size]? = some (.cells #[.string a.text,.string a.cat,.int .i64 a.no,.slice a.gives.addr a.gives.xs.length a.gives.cap,.int .i64 a.cost] 70 (0,0)):=by subst hW1;exact(Below.heap_alloc _ _ _ (by simp)).trans (World.alloc_heap_new _ _)
 have hk2:W1.heap[w.heap.size+1]? = some (.cells #[.string b.text,.string b.cat,.int .i64 b.no,.slice b.gives.addr b.gives.xs.length b.gives.cap,.int .i64 b.cost] 70 (0,0)):=by subst hW1;have:=World.alloc_heap_new (w.alloc (.cells #[.string a.text,.string a.cat,.int .i64 a.no,.slice a.gives.addr a.gives.xs.length a.gives.cap,.int .i64 a.cost] 70)) (.cells #[.string b.text,.string b.cat,.int .i64 b.no,.slice b.gives.addr b.gives.xs.length b.gives.cap,.int .i64 b.cost] 70);rwa [World.size_alloc] at this
 have q:=Z8 a.no b.no
 have c0:=gblk hk 0
 have c1:=gblk hk 1
 have c2:=gblk hk 2
 have c3:=gblk hk 3
 have c4:=gblk hk 4
 have d0:=gblk hk2 0
 have d1:=gblk hk2 1
 have d2:=gblk hk2 2
 have d3:=gblk hk2 3
 have d4:=gblk hk2 4
 clear hk hk2
 generalize decide (a.no=b.no)=f at *
 cases f
 ·go_enter Tryz.func112,Tryz.ntmps112
  go_wp2_with fail
  go_ret
  exact⟨rfl,hB1⟩
 ·go_enter Tryz.func112,Tryz.ntmps112
  go_wp2_with fail
  go_ret
  exact⟨rfl,hB1⟩
set_option maxHeartbeats 1000000 in
theorem Xpp (a b:RuleG) (w:World) (ha:a.lies w) (hb:b.lies w) (hl:a.parts.xs.length=b.parts.xs.length):Calls Tryz.prog 114 #[.agg #[.string a.cat,.int .i64 a.no,.slice a.parts.addr a.parts.xs.length a.parts.cap,.slice a.gives.addr a.gives.xs.length a.gives.cap,.int .i64 a.cost],.agg #[.string b.cat,.int .i64 b.no,.slice b.parts.addr b.parts.xs.length b.parts.cap,.slice b.gives.addr b.gives.xs.length b.gives.cap,.int .i64 b.cost]] w fun e w'=>e = .returned (.bool (decide (a.no=b.no) && decide (a.parts.xs=b.parts.xs)))∧Below w.heap.size w w':=by
 obtain⟨W1,hW1⟩:∃W1,(w.alloc (.cells #[.string a.cat,.int .i64 a.no,.slice a.parts.addr a.parts.xs.length a.parts.cap,.slice a.gives.addr a.gives.xs.length a.gives.cap,.int .i64 a.cost] 104)).alloc (.cells #[.string b.cat,.int .i64 b.no,.slice b.parts.addr b.parts.xs.length b.parts.cap,.slice b.gives.addr b.gives.xs.length b.gives.cap,.int .i64 b.cost] 104)=W1:=⟨_,rfl⟩
 have hB1:Below w.heap.size w W1:=by subst hW1;exact Xe (Xe (Below.refl _ _) _) _
 have hk:W1.heap[w.heap.size]? = some (.cells #[.string a.cat,.int .i64 a.no,.slice a.parts.addr a.parts.xs.length a.parts.cap,.slice a.gives.addr a.gives.xs.length a.gives.cap,.int .i64 a.cost] 104 (0,0)):=by subst hW1;exact(Below.heap_alloc _ _ _ (by simp)).trans (World.alloc_heap_new _ _)
 have hk2:W1.heap[w.heap.size+1]? = some (.cells #[.string b.cat,.int .i64 b.no,.slice b.parts.addr b.parts.xs.length b.parts.cap,.slice b.gives.addr b.gives.xs.length b.gives.cap,.int .i64 b.cost] 104 (0,0)):=by subst hW1;have:=World.alloc_heap_new (w.alloc (.cells #[.string a.cat,.int .i64 a.no,.slice a.parts.addr a.parts.xs.length a.parts.cap,.slice a.gives.addr a.gives.xs.length a.gives.cap,.int .i64 a.cost] 104)) (.cells #[.string b.cat,.int .i64 b.no,.slice b.parts.addr b.parts.xs.length b.parts.cap,.slice b.gives.addr b.gives.xs.length b.gives.cap,.int .i64 b.cost] 104);rwa [World.size_alloc] at this
 have cP:=Xa (Xrg a.parts b.parts W1 (ha.ext hB1).1 (hb.ext hB1).1 hl)
 have q:=Z8 a.no b.no
 have c0:=gblk hk 0
 have c1:=gblk hk 1
 have c2:=gblk hk 2
 have c3:=gblk hk 3
 have c4:=gblk hk 4
 have d0:=gblk hk2 0
 have d1:=gblk hk2 1
 have d2:=gblk hk2 2
 have d3:=gblk hk2 3
 have d4:=gblk hk2 4
 clear hk hk2 ha hb hl
 generalize decide (a.no=b.no)=f at *
 generalize decide (a.parts.xs=b.parts.xs)=h at *
 cases f
 ·go_enter Tryz.func114,Tryz.ntmps114
  go_wp2_with fail
  go_ret
  exact⟨rfl,hB1⟩
 ·go_enter Tryz.func114,Tryz.ntmps114
  go_wp2_with fail
  refine cP.out.mono ?_
  rintro ee w4 ⟨rfl,hb4⟩
  go_wp2_with fail
  go_ret
  exact⟨by simp,Xb hB1 hb4⟩
def noE (a b:EntryG):Bool:=decide (a.no=b.no)
def noR (a b:RuleG):Bool:=decide (a.no=b.no) && decide (a.parts.xs=b.parts.xs)
theorem Xm3 {g X:Gram} (h:Xic (Zc g.cats.xs) g X):(decide (X.startNo=g.startNo) && allZ noE X.entries.xs g.entries.xs && allZ noR X.rules.xs g.rules.xs)=Zm g:=by
 rw[Bool.eq_iff_iff]
 unfold Zm
 have he:X.entries.xs.length=g.entries.xs.length:=by rw[h.entries,List.length_map]
 simp only[Bool.and_eq_true]
 rw[Vl noE he,Vl noR h.rules,Xeb,Xeb]
 constructor
 ·rintro⟨⟨h1,h2⟩,h3⟩
  refine⟨⟨?_,fun i x hx=>?_⟩,fun i x hx=>?_⟩
  ·rw[h.startNo] at h1
   exact decide_eq_true (of_decide_eq_true h1).symm
  ·have hX:X.entries.xs[i]? = some (Z0 g.cats.xs x):=by rw[h.entries,List.getElem?_map,hx];rfl
   exact decide_eq_true (of_decide_eq_true (h2 i _ _ hX hx)).symm
  ·obtain⟨r',hr'⟩:∃r',X.rules.xs[i]? = some r':=by
    have hi:=(List.getElem?_eq_some_iff.1 hx).1
    exact⟨_,List.getElem?_eq_getElem (by rw[h.rules];exact hi)⟩
   have hrr:=h.rule i x r' hx hr'
   have:=h3 i _ _ hr' hx
   unfold noR at this
   simp only[Bool.and_eq_true,decide_eq_true_eq] at this
   refine Bool.and_eq_true_iff.2 ⟨decide_eq_true ?_,List.all_eq_true.2 fun p hp=>decide_eq_true ?_⟩
   ·rw[← this.1,hrr.no]
   ·have t4:=this.2
    rw[hrr.parts,Xcf] at t4
    exact(Qj _ _).1 (t4 p hp)
 ·rintro⟨⟨h1,h2⟩,h3⟩
  refine⟨⟨?_,fun i x y hx hy=>?_⟩,fun i x y hx hy=>?_⟩
  ·rw[h.startNo]
   exact decide_eq_true (of_decide_eq_true h1).symm
  ·rw[h.entries,List.getElem?_map,hy] at hx
   cases hx
   exact decide_eq_true (of_decide_eq_true (h2 i y hy)).symm
  ·have hrr:=h.rule i y x hy hx
   have h4:=h3 i y hy
   rw[Bool.and_eq_true,List.all_eq_true] at h4
   unfold noR
   rw[hrr.no,hrr.parts,← of_decide_eq_true h4.1]
   have:y.parts.xs.map (Zc g.cats.xs)=y.parts.xs:=Xcf.2 fun p hp=>(Qj _ _).2 (of_decide_eq_true (h4.2 p hp))
   rw[this]
   simp
set_option maxHeartbeats 2000000 in
theorem Xf5 (g:Gram) (w:World) (hT:TabsG w) (hg:g.lies w) (hs:g.short):Calls Tryz.prog 67 #[.agg #[.string g.name,.slice g.cats.addr g.cats.xs.length g.cats.cap,.string g.start,.int .i64 g.startNo,.slice g.entries.addr g.entries.xs.length g.entries.cap,.slice g.rules.addr g.rules.xs.length g.rules.cap]] w fun e w'=>e = .returned (.int .i64 (Ys g))∧Below w.heap.size w w':=by
 obtain⟨W1,hW1⟩:∃W1,w.alloc (.cells #[.string g.name,.slice g.cats.addr g.cats.xs.length g.cats.cap,.string g.start,.int .i64 g.startNo,.slice g.entries.addr g.entries.xs.length g.entries.cap,.slice g.rules.addr g.rules.xs.length g.rules.cap] 26)=W1:=⟨_,rfl⟩
 have hB1:Below w.heap.size w W1:=by subst hW1;exact Xe (Below.refl _ _) _
 have hk:W1.heap[w.heap.size]? = some (.cells #[.string g.name,.slice g.cats.addr g.cats.xs.length g.cats.cap,.string g.start,.int .i64 g.startNo,.slice g.entries.addr g.entries.xs.length g.entries.cap,.slice g.rules.addr g.rules.xs.length g.rules.cap] 26 (0,0)):=by subst hW1;exact World.alloc_heap_new _ _
 have HC:=Xa (Xey g)
 have cR:=Xa (Xfn g W1 (hT.ext hB1) (hg.ext hB1) hs)
 have HG:=Xa (hg.ext hB1)
 have Hk:=Xa hk
 have c0:=gblk hk 0
 have c1:=gblk hk 1
 have c2:=gblk hk 2
 have c3:=gblk hk 3
 have c4:=gblk hk 4
 have c5:=gblk hk 5
 clear hT hg hk
 go_enter Tryz.func67,Tryz.ntmps67
 go_wp2_with fail
 clear hW1
 refine cR.out.mono ?_
 rintro e w2 ⟨X,rfl,hb2,hX⟩
 have hB2:=Xb hB1 hb2
 by_cases hz:resG g=0
 ·obtain⟨hXl,hRO⟩:=hX hz
  have hsame:=Xm3 hRO
  obtain⟨W3,hW3⟩:∃W3,w2.alloc (.cells #[.string X.name,.slice X.cats.addr X.cats.xs.length X.cats.cap,.string X.start,.int .i64 X.startNo,.slice X.entries.addr X.entries.xs.length X.entries.cap,.slice X.rules.addr X.rules.xs.length X.rules.cap] 26)=W3:=⟨_,rfl⟩
  have hb3:Below w2.heap.size w2 W3:=by subst hW3;exact Xe (Below.refl _ _) _
  have hk3:W3.heap[w2.heap.size]? = some (.cells #[.string X.name,.slice X.cats.addr X.cats.xs.length X.cats.cap,.string X.start,.int .i64 X.startNo,.slice X.entries.addr X.entries.xs.length X.entries.cap,.slice X.rules.addr X.rules.xs.length X.rules.cap] 26 (0,0)):=by subst hW3;exact World.alloc_heap_new _ _
  have hkg:=((Xb hb2 hb3).block _ (Xc Hk.out)).trans Hk.out
  have he:X.entries.xs.length=g.entries.xs.length:=by rw[hRO.entries,List.length_map]
  have hX3:=hXl.ext hb3
  have hG3:=HG.out.ext (Xb hb2 hb3)
  have cE:=Xa (Xpu X.entries g.entries 112 noE W3 hX3.entries hG3.entries he (enters_of Tryz.func112 (by kernel_rfl) rfl) (fun V hV i x y _ _=>Xpo x y V))
  have cU:=Xa (fun V (hV:Below W3.heap.size W3 V)=>Xpv X.rules g.rules 114 noR V (hX3.ext hV).rules (hG3.ext hV).rules hRO.rules (enters_of Tryz.func114 (by kernel_rfl) rfl) (fun V' hV' i x y hx hy=>Xpp x y V' (((hX3.ext hV).ext hV').rule x (List.mem_of_getElem? hx)) (((hG3.ext hV).ext hV').rule y (List.mem_of_getElem? hy)) (by rw[(hRO.rule i y x hy hx).parts,List.length_map])))
  have HE:Hid (Ys g=if Zm g then 0 else 260):=by show _=_;rw[HC.out,hz];rfl
  rw[← hsame] at HE
  have q:=Xb9 X.startNo g.startNo
  have Hk3:=Xa hk3
  have Hkg:=Xa hkg
  clear c0 c1 c2 c3 c4 c5
  have x0:=gblk hk3 0
  have x1:=gblk hk3 1
  have x2:=gblk hk3 2
  have x3:=gblk hk3 3
  have x4:=gblk hk3 4
  have x5:=gblk hk3 5
  have c0:=gblk hkg 0
  have c1:=gblk hkg 1
  have c2:=gblk hkg 2
  have c3:=gblk hkg 3
  have c4:=gblk hkg 4
  have c5:=gblk hkg 5
  generalize allZ noE X.entries.xs g.entries.xs=f2 at *
  generalize allZ noR X.rules.xs g.rules.xs=f3 at *
  generalize decide (X.startNo=g.startNo)=f1 at *
  rw[hz]
  have hB3:=Xb hB2 hb3
  clear hX hXl hRO hsame hk3 hkg he hz HC cR hX3 hG3 hb2
  go_wp2_with fail
  clear hW3
  refine cE.out.mono ?_
  rintro ee w4 ⟨rfl,hb4⟩
  have hB4:=Xb hB3 hb4
  have hk4:=Xh hb4 Hk3.out
  have hkg4:=Xh hb4 Hkg.out
  clear x0 x1 x2 x3 x4 x5 c0 c1 c2 c3 c4 c5 cE
  have x0:=gblk hk4 0
  have x1:=gblk hk4 1
  have x2:=gblk hk4 2
  have x3:=gblk hk4 3
  have x4:=gblk hk4 4
  have x5:=gblk hk4 5
  have c0:=gblk hkg4 0
  have c1:=gblk hkg4 1
  have c2:=gblk hkg4 2
  have c3:=gblk hkg4 3
  have c4:=gblk hkg4 4
  have c5:=gblk hkg4 5
  have Hk4:=Xa hk4
  have Hkg4:=Xa hkg4
  clear hk4 hkg4
  go_wp2_with fail
  refine(cU.out w4 hb4).mono ?_
  rintro ee w5 ⟨rfl,hb5⟩
  have hB5:=Xb hB4 hb5
  have hk5:=Xh hb5 Hk4.out
  have hkg5:=Xh hb5 Hkg4.out
  clear x0 x1 x2 x3 x4 x5 c0 c1 c2 c3 c4 c5 cU
  have x0:=gblk hk5 0
  have x1:=gblk hk5 1
  have x2:=gblk hk5 2
  have x3:=gblk hk5 3
  have x4:=gblk hk5 4
  have x5:=gblk hk5 5
  have c0:=gblk hkg5 0
  have c1:=gblk hkg5 1
  have c2:=gblk hkg5 2
  have c3:=gblk hkg5 3
  have c4:=gblk hkg5 4
  have c5:=gblk hkg5 5
  clear hk5 hkg5
  cases f1<;>cases f2<;>cases f3
  all_goals
   simp only[Bool.not_true,Bool.not_false] at q
   go_wp2_with fail
   go_ret
   exact⟨by rw[HE.out];rfl,hB5⟩
 ·have HE:Hid (Ys g=resG g):=by show _=_;rw[HC.out,if_pos hz]
  have hb3:Below w2.heap.size w2 (w2.alloc (.cells #[.string X.name,.slice X.cats.addr X.cats.xs.length X.cats.cap,.string X.start,.int .i64 X.startNo,.slice X.entries.addr X.entries.xs.length X.entries.cap,.slice X.rules.addr X.rules.xs.length X.rules.cap] 26)):=Xe (Below.refl _ _) _
  have g1:(resG g != 0)=true:=by simpa using hz
  generalize resG g=r at *
  clear hX HC hz
  go_wp2_with fail
  go_ret
  exact⟨by rw[HE.out];rfl,Xb hB2 hb3⟩
def Tp (n:Int) (x:ItemG):Bool:=decide (0≤x.frm) && decide (x.frm<x.unt) && decide (x.unt≤n) && (decide (-1≤x.term) && decide (x.term≤1048576)) && (decide (1≤x.tgt.xs.length) && decide (x.tgt.xs.length≤4))
def Ur (g:Gram) (x:ItemG):Bool:=if x.cat = -1 then decide (x.unt=x.frm+1) && decide (x.cost=0) && decide (x.tgt.xs.length=1) else (decide (0≤x.cat) && decide (x.cat<g.cats.xs.length)) && (decide (0≤x.cost) && decide (x.cost≤1000))
theorem Xdd (g:Gram) (n:Int) (x:ItemG):Zo g n x=(Tp n x && x.tgt.xs.all Yi && Ur g x):=rfl
set_option maxHeartbeats 4000000 in
theorem Xjo (g:Gram) (n:Int) (x:ItemG) (w:World) (hn:n≤16) (hx:x.tgt.lies w) (_hg:g.cats.xs.length≤32):Calls Tryz.prog 62 #[.agg #[.string g.name,.slice g.cats.addr g.cats.xs.length g.cats.cap,.string g.start,.int .i64 g.startNo,.slice g.entries.addr g.entries.xs.length g.entries.cap,.slice g.rules.addr g.rules.xs.length g.rules.cap],.int .i64 n,.agg #[.int .i64 x.cat,.int .i64 x.frm,.int .i64 x.unt,.int .i64 x.cost,.slice x.tgt.addr x.tgt.xs.length x.tgt.cap,.int .i64 x.term]] w fun e w'=>e = .returned (.bool (Zo g n x))∧Below w.heap.size w w':=by
 obtain⟨W1,hW1⟩:∃W1,(w.alloc (.cells #[.string g.name,.slice g.cats.addr g.cats.xs.length g.cats.cap,.string g.start,.int .i64 g.startNo,.slice g.entries.addr g.entries.xs.length g.entries.cap,.slice g.rules.addr g.rules.xs.length g.rules.cap] 26)).alloc (.cells #[.int .i64 x.cat,.int .i64 x.frm,.int .i64 x.unt,.int .i64 x.cost,.slice x.tgt.addr x.tgt.xs.length x.tgt.cap,.int .i64 x.term] 47)=W1:=⟨_,rfl⟩
 have hB1:Below w.heap.size w W1:=by subst hW1;exact Xe (Xe (Below.refl _ _) _) _
 have hk:W1.heap[w.heap.size]? = some (.cells #[.string g.name,.slice g.cats.addr g.cats.xs.length g.cats.cap,.string g.start,.int .i64 g.startNo,.slice g.entries.addr g.entries.xs.length g.entries.cap,.slice g.rules.addr g.rules.xs.length g.rules.cap] 26 (0,0)):=by subst hW1;exact(Below.heap_alloc _ _ _ (by simp)).trans (World.alloc_heap_new _ _)
 have hk2:W1.heap[w.heap.size+1]? = some (.cells #[.int .i64 x.cat,.int .i64 x.frm,.int .i64 x.unt,.int .i64 x.cost,.slice x.tgt.addr x.tgt.xs.length x.tgt.cap,.int .i64 x.term] 47 (0,0)):=by subst hW1;have:=World.alloc_heap_new (w.alloc (.cells #[.string g.name,.slice g.cats.addr g.cats.xs.length g.cats.cap,.string g.start,.int .i64 g.startNo,.slice g.entries.addr g.entries.xs.length g.entries.cap,.slice g.rules.addr g.rules.xs.length g.rules.cap] 26)) (.cells #[.int .i64 x.cat,.int .i64 x.frm,.int .i64 x.unt,.int .i64 x.cost,.slice x.tgt.addr x.tgt.xs.length x.tgt.cap,.int .i64 x.term] 47);rwa [World.size_alloc] at this
 have HX:=Xa (StrS.lies.ext hx hB1)
 have HR:=Xa (Xdd g n x)
 have Hk:=Xa hk
 have Hk2:=Xa hk2
 have b0:=gblk hk2 0
 have b1:=gblk hk2 1
 have b2:=gblk hk2 2
 have b3:=gblk hk2 3
 have b4:=gblk hk2 4
 have b5:=gblk hk2 5
 clear hx hk hk2
 by_cases hp:Tp n x=true
 rotate_left
 ·have HF:Hid (Zo g n x=false):=by
   have:Tp n x=false:=by simpa using hp
   show _=_;rw[HR.out,this];rfl
  have hp2:¬((0≤x.frm∧x.frm<x.unt∧x.unt≤n)∧(-1≤x.term∧x.term≤1048576)∧(1≤x.tgt.xs.length∧x.tgt.xs.length≤4)):=by
   rintro⟨⟨a1,a2,a3⟩,⟨a4,a5⟩,a6,a7⟩
   exact hp (by unfold Tp;simp[a1,a2,a3,a4,a5,a6,a7])
  clear hp HR
  by_cases q1:x.frm<0
  ·clear hp2
   go_enter Tryz.func62,Tryz.ntmps62
   go_wp2_with fail
   go_ret
   exact⟨by rw[HF.out];rfl,hB1⟩
  by_cases q2:x.frm≥x.unt
  ·clear hp2
   go_enter Tryz.func62,Tryz.ntmps62
   go_wp2_with fail
   go_ret
   exact⟨by rw[HF.out];rfl,hB1⟩
  by_cases q3:n<x.unt
  ·clear hp2
   go_enter Tryz.func62,Tryz.ntmps62
   go_wp2_with fail
   go_ret
   exact⟨by rw[HF.out];rfl,hB1⟩
  by_cases q4:x.term < -1
  ·clear hp2
   go_enter Tryz.func62,Tryz.ntmps62
   go_wp2_with fail
   go_ret
   exact⟨by rw[HF.out];rfl,hB1⟩
  by_cases q5:(1048576:Int)<x.term
  ·clear hp2
   go_enter Tryz.func62,Tryz.ntmps62
   go_wp2_with fail
   go_ret
   exact⟨by rw[HF.out];rfl,hB1⟩
  by_cases q6:(x.tgt.xs.length:Int)<1
  ·clear hp2
   go_enter Tryz.func62,Tryz.ntmps62
   go_wp2_with fail
   go_ret
   exact⟨by rw[HF.out];rfl,hB1⟩
  ·have q7:(4:Int)<(x.tgt.xs.length:Int):=by omega
   clear hp2
   go_enter Tryz.func62,Tryz.ntmps62
   go_wp2_with fail
   go_ret
   exact⟨by rw[HF.out];rfl,hB1⟩
 ·have HE:Hid (Zo g n x=(x.tgt.xs.all Yi && Ur g x)):=by show _=_;rw[HR.out,hp];rfl
  unfold Tp at hp
  simp only[Bool.and_eq_true,decide_eq_true_eq] at hp
  obtain⟨⟨⟨⟨a1,a2⟩,a3⟩,a4,a5⟩,a6,a7⟩:=hp
  have q1:¬x.frm<0:=by omega
  have q2:¬x.frm≥x.unt:=by omega
  have q3:¬n<x.unt:=by omega
  have q4:¬x.term < -1:=by omega
  have q5:¬(1048576:Int)<x.term:=by omega
  have q6:¬(x.tgt.xs.length:Int)<1:=by omega
  have q7:¬(4:Int)<(x.tgt.xs.length:Int):=by omega
  have hm:x.tgt.xs.length≤9223372036854775807:=by omega
  have hw1:IntKind.i64.wrap (x.frm+1)=x.frm+1:=IntWalk.i64_in _ (by omega)
  clear HR a4 a5
  go_enter Tryz.func62,Tryz.ntmps62
  go_wp2_with fail
  clear q1 q2 q3 q4 q5 q6 q7 b0 b1 b2 b3 b4 b5 hW1
  go_loopw [7] (fun i wr=>∃k:Nat,k≤x.tgt.xs.length∧i = .int .i64 k∧Below W1.heap.size W1 wr∧Hid ((x.tgt.xs.take k).all Yi=true)) (fun i _=>x.tgt.xs.length-(intOf i).toNat)
  case atStart=>exact⟨0,Nat.zero_le _,rfl,Below.refl _ _,rfl⟩
  case round =>
   obtain⟨k,hk,rfl,hB,HT⟩:=hrel
   have hBw:=Xb hB1 hB
   have hkx:=Xh hB Hk2.out
   have hkg:=Xh hB Hk.out
   have b0:=gblk hkx 0
   have b1:=gblk hkx 1
   have b2:=gblk hkx 2
   have b3:=gblk hkx 3
   have b4:=gblk hkx 4
   have b5:=gblk hkx 5
   by_cases hlt:k<x.tgt.xs.length
   ·obtain⟨b,off,hA,hb,hc⟩:=StrS.at_ HX.out (k:=k) hlt
    have e0:wr.cell? ⟨b,off+k,none⟩=some (.string x.tgt.xs[k]):=(hB.cell (p:=⟨b,off+k,none⟩) hb).trans (hc k hlt)
    have htk:x.tgt.xs.take (k+1)=x.tgt.xs.take k++[x.tgt.xs[k]]:=List.take_succ_eq_append_getElem hlt
    have hmem:=List.getElem_mem hlt
    have HT2:Hid (Yi x.tgt.xs[k]=true→(x.tgt.xs.take (k+1)).all Yi=true):=by intro h;rw[htk,List.all_append,HT.out];simp[h]
    have HF:Hid (Yi x.tgt.xs[k]=false→x.tgt.xs.all Yi=false):=by intro h;rw[List.all_eq_false];exact⟨_,hmem,by simp[h]⟩
    have cW:=Xa (Xoy x.tgt.xs[k] wr)
    rw[hA] at b4 ⊢
    clear hc htk hA HT hmem hkx hkg
    generalize x.tgt.xs[k]=y at *
    generalize Yi y=f at *
    go_wp2_with fail
    clear b0 b1 b2 b3 b4 b5 e0
    refine cW.out.mono ?_
    rintro ee w4 ⟨rfl,hb4⟩
    have hB4:=Xb hB hb4
    have hBw4:=Xb hBw hb4
    cases f
    ·have HF2:=Xa (HF.out rfl)
     clear HF HT2
     go_wp2_with fail
     go_ret
     exact⟨by rw[HE.out,HF2.out];rfl,hBw4⟩
    ·have HT3:=Xa (HT2.out rfl)
     clear HF HT2
     go_wp2_with fail
     go_roundw
     case rel=>exact⟨k+1,by omega,by go_num,hB4,HT3⟩
     case measure=>simp[intOf];omega
   ·have HE2:Hid (Zo g n x=Ur g x):=by
     have h:=HT.out
     rw[List.take_of_length_le (by omega)] at h
     show _=_
     rw[HE.out,h];rfl
    have c1:wr.cell? ⟨w.heap.size,1,none⟩=some (.slice g.cats.addr g.cats.xs.length g.cats.cap):=gblk hkg 1
    clear HT HE hkx hkg
    by_cases hc:x.cat = -1
    ·have g1:(x.cat == -1)=true:=by simp[hc]
     have HE3:Hid (Ur g x=(decide (x.unt=x.frm+1) && decide (x.cost=0) && decide (x.tgt.xs.length=1))):=by show _=_;unfold Ur;rw[if_pos hc]
     have r1:=Z8 x.unt (x.frm+1)
     have r2:=Z8 x.cost 0
     have r3:((x.tgt.xs.length:Int) == 1)=decide (x.tgt.xs.length=1):=by rw[Z8];exact decide_eq_decide.2 (by omega)
     generalize decide (x.unt=x.frm+1)=f1 at *
     generalize decide (x.cost=0)=f2 at *
     generalize decide (x.tgt.xs.length=1)=f3 at *
     clear hc
     cases f1<;>cases f2<;>cases f3
     all_goals
      go_wp2_with fail
      go_ret
      exact⟨by rw[HE2.out,HE3.out];rfl,hBw⟩
    ·have g1:(x.cat == -1)=false:=by simpa using hc
     have HE3:Hid (Ur g x=((decide (0≤x.cat) && decide (x.cat<g.cats.xs.length)) && (decide (0≤x.cost) && decide (x.cost≤1000)))):=by show _=_;unfold Ur;rw[if_neg hc]
     clear hc
     by_cases r1:x.cat≥0
     rotate_left
     ·have HE4:Hid (Ur g x=false):=by show _=_;rw[HE3.out,decide_eq_false r1];rfl
      clear HE3
      go_wp2_with fail
      go_ret
      exact⟨by rw[HE2.out,HE4.out];rfl,hBw⟩
     by_cases r2:x.cat<(g.cats.xs.length:Int)
     rotate_left
     ·have HE4:Hid (Ur g x=false):=by show _=_;rw[HE3.out,decide_eq_false r2];simp
      clear HE3
      go_wp2_with fail
      go_ret
      exact⟨by rw[HE2.out,HE4.out];rfl,hBw⟩
     by_cases r3:x.cost≥0
     rotate_left
     ·have HE4:Hid (Ur g x=false):=by show _=_;rw[HE3.out,decide_eq_false r3];simp
      clear HE3
      go_wp2_with fail
      go_ret
      exact⟨by rw[HE2.out,HE4.out];rfl,hBw⟩
     by_cases r4:x.cost≤1000
     ·have HE4:Hid (Ur g x=true):=by show _=_;rw[HE3.out,decide_eq_true (show 0≤x.cat from r1),decide_eq_true r2,decide_eq_true (show 0≤x.cost from r3),decide_eq_true r4];rfl
      clear HE3
      go_wp2_with fail
      go_ret
      exact⟨by rw[HE2.out,HE4.out];rfl,hBw⟩
     ·have HE4:Hid (Ur g x=false):=by show _=_;rw[HE3.out,decide_eq_false r4];simp
      clear HE3
      go_wp2_with fail
      go_ret
      exact⟨by rw[HE2.out,HE4.out];rfl,hBw⟩
def Q1 (n:Int):List PanicEntry:=[{v:=.iface 33 (.int .i64 n),recovered:=false}]
theorem Zz (b:Bool) (k:Int) (w:World) (h:b=true):Calls Tryz.prog 98 #[.bool b,.int .i64 k] w fun e w'=>e = .returned (.tuple #[])∧w=w':=by
 subst h
 go_enter Tryz.func98,Tryz.ntmps98
 go_wp2
 go_end0
 exact⟨rfl,rfl⟩
theorem Yg (b:Bool) (k:Int) (w:World) (h:b=false):Calls Tryz.prog 98 #[.bool b,.int .i64 k] w fun e w'=>e = .panicked (Q1 k)∧w=w':=by
 subst h
 go_enter Tryz.func98,Tryz.ntmps98
 go_wp2
 exact⟨rfl,rfl,rfl⟩
theorem Xob (s:ByteArray) (w:World) (hT:Tabs w):Calls Tryz.prog 99 #[.string s] w fun e w'=>e = .returned (.bool (!Yi s))∧Below w.heap.size w w':=by
 go_enter Tryz.func99,Tryz.ntmps99
 go_wp2_with fail
 refine(Xq6 s w hT).mono ?_
 rintro e w1 ⟨rfl,hb1⟩
 go_wp2_with fail
 go_ret
 exact⟨by simp,hb1⟩
theorem Zd (b:Nat) (w:World) :
  CallsD Tryz.prog 52 #[.pointer (some ⟨b,0,none⟩)] .returning w fun e u' w'=>u' = .returning∧e = .returned (.tuple #[])∧w'=w:=by
 refine callsD_of_wpS Tryz.func52 rfl fun c₀ cs hu=>?_
 simp only[Tryz.ntmps52,List.size_toArray,List.length_cons,List.length_nil,Nat.reduceAdd,Nat.reduceSub,Array.replicate_succ,Array.replicate_zero,List.push_toArray,List.append_toArray,List.nil_append,List.cons_append]
 apply wpS_seq
 apply wpS_region
 simp[wpOpsS,go_sem,recoverD,hu,Exit.thenS]
 refine wpS_of_wp ?_
 go_wp2
 cases c₀
 simp_all [bodyPostS,results,Tryz.results52]
def Xo5 (n:Int) (b:Nat) (w:World) (e:Ending) (u':FrameMode) (w':World):Prop :=
 u' = .panicking [{v:=.iface 33 (.int .i64 n),recovered:=true}]∧e = .returned (.tuple #[])∧w'=w.setCell ⟨b,0,none⟩ (.int .i64 n)
theorem Us (b:Nat) (v:Value) (n:Int) (w:World) (h1:w.heap[b]? = some (.cells #[v] 33 (0,0))) :
  CallsD Tryz.prog 52 #[.pointer (some ⟨b,0,none⟩)] (.panicking (Q1 n)) w (Xo5 n b w):=by
 have c1:=Xj h1
 have f1:=Xf h1 0
 have hta:∀w,(Instr.typeAssert (.iface 33 (.int .i64 n)) 20 33 true).run Tryz.prog w = .ok (.tuple #[.int .i64 n,.bool true]) w:=fun _=>by kernel_rfl
 unfold Q1
 refine callsD_of_wpS Tryz.func52 rfl fun c₀ cs hu=>?_
 simp only[Tryz.ntmps52,List.size_toArray,List.length_cons,List.length_nil,Nat.reduceAdd,Nat.reduceSub,Array.replicate_succ,Array.replicate_zero,List.push_toArray,List.append_toArray,List.nil_append,List.cons_append]
 apply wpS_seq
 apply wpS_region
 simp[wpOpsS,go_sem,recoverD,hu,Exit.thenS]
 refine wpS_of_wp ?_
 go_wp2
 exact⟨rfl,_,rfl,_,results_none rfl _ _ _,rfl,rfl,rfl⟩
end Go.Proofs.YthojaplnimoacaaGreatDoor
namespace Go.Proofs.YthojaplnimoacaaGreatDoor
open Go.RowKit Go.Han
set_option maxRecDepth 100000
def Tw (x:ItemG):ByteArray:=match x.tgt.xs with|y :: _=>y|[]=>⟨#[]⟩
def Yq (l:List ItemG) (i:Int):List ByteArray:=(l.filter fun x=>decide (x.cat = -1) && decide (x.frm=i)).map Tw
theorem Qp (l:List ItemG) (x:ItemG) (i:Int):Yq (l++[x]) i=Yq l i++(if x.cat = -1∧x.frm=i then [Tw x] else []):=by
 unfold Yq
 rw[List.filter_append,List.map_append]
 congr 1
 by_cases h:x.cat = -1∧x.frm=i
 ·rw[if_pos h,List.filter_cons_of_pos (by simp[h.1,h.2])];rfl
 ·rw[if_neg h,List.filter_cons_of_neg (by simpa using h)];rfl
theorem Xaj:∀(l:List ItemG) (i:Int) (s:ByteArray),(∀x∈l,x.cat = -1→x.tgt.xs≠[])→((Yq l i).any fun y=>decide (y=s))=Xm l i s
 | [],_,_,_=>rfl
 | x :: l,i,s,h=>by
  have ih:=Xaj l i s fun y hy=>h y (List.mem_cons_of_mem _ hy)
  have hx:=h x (List.mem_cons_self ..)
  unfold Xm at ih ⊢
  rw[List.any_cons,← ih]
  unfold Yq
  by_cases hc:x.cat = -1∧x.frm=i
  ·rw[List.filter_cons_of_pos (by simp[hc.1,hc.2]),List.map_cons,List.any_cons]
   congr 1
   have:=hx hc.1
   cases hxs:x.tgt.xs with
   | nil=>exact absurd hxs this
   | cons y ys=>simp[Tw,hxs,hc.1,hc.2]
  ·rw[List.filter_cons_of_neg (by simpa using hc)]
   have:(decide (x.cat = -1) && decide (x.frm=i))=false:=by simpa using hc
   rw[this];simp
theorem Xj4:∀(l:List ItemG) (i:Int),(Yq l i).length≤l.length:=fun l i=>by
 unfold Yq;rw[List.length_map];exact List.length_filter_le _ _
def strC (b:ByteArray):List Value:=[.string b]
abbrev Xma (V:World) (B:Nat) (v:Value) (l:List ByteArray):Prop:=OwnL strC 9 1 V B v l
def RowOk (B:Nat) (V:World) (o:Option KidS) (ws:List ByteArray):Prop :=
 match o with
 | none=>ws=[]
 | some v=>ws≠[]∧Xma V B v.val ws
def WRows (B wb:Nat) (l:List ItemG) (V:World):Prop :=
 ∃(n:Nat) (f:Int→Option KidS),n≤l.length∧MapF V intW slcShape wb n f∧(∀i,RowOk B V (f i) (Yq l i))∧∀i i' v v' b,i≠i'→f i=some v→f i'=some v'→v.val.ownBlock=some b→v'.val.ownBlock≠some b
theorem WRows.start (B:Nat) (W:World):WRows B W.heap.size [] (W.alloc (.map #[] 0)):=⟨0,fun _=>none,Nat.le_refl _,MapF.made W intW slcShape,fun _=>rfl,fun _ _ _ _ _ _ h=>by cases h⟩
theorem RowOk.keep {B:Nat} {V V':World} {o:Option KidS} {ws:List ByteArray} (h:RowOk B V o ws) (hb:∀v g,o=some v→v.val.ownBlock=some g→V'.heap[g]? = V.heap[g]?):RowOk B V' o ws:=by
 cases o with
 | none=>exact h
 | some v=>exact⟨h.1,h.2.block fun g hg=>hb v g rfl hg⟩
theorem RowOk.lt {B:Nat} {V:World} {v:KidS} {ws:List ByteArray} (h:RowOk B V (some v) ws) {g:Nat} (hg:v.val.ownBlock=some g):B≤g∧g<V.heap.size:=h.2.lt g hg
theorem WRows.ext {B wb:Nat} {l:List ItemG} {V V':World} (h:WRows B wb l V) (hb:Below V.heap.size V V'):WRows B wb l V':=by
 obtain⟨n,f,h1,h2,h3,h4⟩:=h
 exact⟨n,f,h1,h2.of_block (hb.block _ h2.lt),fun i=>(h3 i).keep fun v g e hg=>hb.block g (by have:=h3 i;rw[e] at this;exact(this.lt hg).2),h4⟩
theorem WRows.skip {B wb:Nat} {l:List ItemG} {V:World} (h:WRows B wb l V) {x:ItemG} (hx:x.cat ≠ -1):WRows B wb (l++[x]) V:=by
 obtain⟨n,f,h1,h2,h3,h4⟩:=h
 exact⟨n,f,by rw[List.length_append];omega,h2,fun i=>by rw[Qp,if_neg (fun h=>hx h.1),List.append_nil];exact h3 i,h4⟩
theorem WRows.look {B wb:Nat} {l:List ItemG} {V:World} (h:WRows B wb l V) (i:Int) (h1 : -4611686018427387904≤i) (h2:i≤4611686018427387904) :
  ∃v:KidS,(∀W:World,W.heap[wb]? = V.heap[wb]? → (Instr.lookup 156 (.map (some wb)) (.int .i64 i) false).run Tryz.prog W = .ok (v.val) W)∧Xma V B v.val (Yq l i):=by
 obtain⟨n,f,hn,hm,hr,hd⟩:=h
 refine⟨(f i).getD ⟨none,0,0⟩,fun W hW=>Uw U8 T1 intW slcShape ⟨none,0,0⟩ (Xaz W) (hm.of_block hW) i (Tc h1 h2),?_⟩
 have hi:=hr i
 cases hf:f i with
 | none =>
  rw[hf] at hi
  rw[show Yq l i=[] from hi]
  exact OwnL.nil _ _ _ _ _
 | some v=>rw[hf] at hi;exact hi.2
theorem WRows.store {B wb:Nat} {l:List ItemG} {U w1:World} (h:WRows B wb l U) {x:ItemG} (hx:x.cat = -1) (h1 : -4611686018427387904≤x.frm) (h2:x.frm≤4611686018427387904) (hl:l.length<100000) {v v':KidS} (hv:Xma U B v.val (Yq l x.frm))
  (hlook:(Instr.lookup 156 (.map (some wb)) (.int .i64 x.frm) false).run Tryz.prog U = .ok (v.val) U) (ho:Xma w1 B v'.val (Yq l x.frm++[Tw x])) (hg:U.grownBy w1 v.val.ownBlock) (hat:v'.val.ownBlock=v.val.ownBlock∨v'.val.ownBlock=some U.heap.size) (hwb:wb<B) :
  ∃w2,(Instr.mapUpdate 156 (.map (some wb)) (.int .i64 x.frm) v'.val).run Tryz.prog w1 = .ok () w2∧WRows B wb (l++[x]) w2∧Only (fun b=>b=wb∨v.val.ownBlock=some b) U w2:=by
 obtain⟨n,f,hn,hm,hr,hd⟩:=h
 have hlv:=Uw U8 T1 intW slcShape ⟨none,0,0⟩ (Xaz U) hm x.frm (Tc h1 h2)
 have hlv2:(Instr.lookup 156 (.map (some wb)) (.int .i64 x.frm) false).run Tryz.prog U = .ok ((f x.frm).getD ⟨none,0,0⟩).val U:=hlv
 obtain rfl:v=(f x.frm).getD ⟨none,0,0⟩:=Xi1 _ _ (by
  rw[hlook] at hlv2
  injection hlv2)
 have hrow:∀g,((f x.frm).getD ⟨none,0,0⟩).val.ownBlock=some g→B≤g∧g<U.heap.size:=fun g hg'=>hv.lt g hg'
 have hm1:MapF w1 intW slcShape wb n f:=hm.of_block (hg.block _ hm.lt fun e=>by have:=(hrow wb e.symm).1;omega)
 obtain⟨w2,hrun,hm2,hg2,hz2⟩:=hm1.store _ U8 T1 (by unfold maxLen;omega) x.frm v' (Tc h1 h2)
 have hO2:∀b,b<w1.heap.size→b≠wb→w2.heap[b]? = w1.heap[b]? := fun b hb hn=>hg2.block b hb fun e=>hn (by have:=Option.some.inj e;exact this)
 refine⟨w2,hrun,⟨n+1,_,by rw[List.length_append];simp;omega,hm2,fun i=>?_,?_⟩,⟨hg2.os.trans hg.os,hg2.tape.trans hg.tape,hg2.output.trans hg.output,by have:=hg.size;omega,fun b hb hn=>(hO2 b (Nat.lt_of_lt_of_le hb hg.size) fun e=>hn (.inl e)).trans (hg.block b hb fun e=>hn (.inr e.symm))⟩⟩
 ·show RowOk B w2 (if i=x.frm then some v' else f i) _
  by_cases hi:i=x.frm
  ·subst hi
   rw[if_pos rfl,Qp,if_pos ⟨hx,rfl⟩]
   exact⟨by simp,ho.block fun g hg'=>hO2 g (ho.lt g hg').2 (by have:=(ho.lt g hg').1;omega)⟩
  ·rw[if_neg hi,Qp,if_neg (fun h=>hi h.2.symm),List.append_nil]
   refine(hr i).keep fun u g e hg'=>?_
   have hri:=hr i
   rw[e] at hri
   have hlt:=hri.lt hg'
   refine(hO2 g (Nat.lt_of_lt_of_le hlt.2 hg.size) (by omega)).trans (hg.block g hlt.2 fun e2=>?_)
   cases hfx:f x.frm with
   | none=>rw[hfx] at e2;simp[KidS.val,Value.ownBlock] at e2
   | some y=>rw[hfx] at e2;exact hd i x.frm u y g hi e hfx hg' e2.symm
 ·intro i i' u u' b hne hi hi' hb hb'
  have key:∀(j:Int) (y:KidS),j≠x.frm→f j=some y→y.val.ownBlock=some b→v'.val.ownBlock=some b→False:=by
   intro j y hj hy hyb hvb
   have hrj:=hr j
   rw[hy] at hrj
   have hlt:=hrj.lt hyb
   rcases hat with e|e
   ·rw[e] at hvb
    cases hfx:f x.frm with
    | none=>rw[hfx] at hvb;simp[KidS.val,Value.ownBlock] at hvb
    | some z=>rw[hfx] at hvb;exact hd j x.frm y z b hj hy hfx hyb hvb
   ·rw[e] at hvb
    have:=Option.some.inj hvb
    omega
  change (if i=x.frm then some v' else f i)=some u at hi
  change (if i'=x.frm then some v' else f i')=some u' at hi'
  by_cases e1:i=x.frm
  ·rw[if_pos e1] at hi
   cases hi
   rw[if_neg (fun e=>hne (e1.trans e.symm))] at hi'
   exact key i' u' (fun e=>hne (e1.trans e.symm)) hi' hb' hb
  ·rw[if_neg e1] at hi
   by_cases e2:i'=x.frm
   ·rw[if_pos e2] at hi'
    cases hi'
    exact key i u e1 hi hb hb'
   ·rw[if_neg e2] at hi'
    exact hd i i' u u' b hne hi hi' hb hb'
theorem WRows.done {B wb kb:Nat} {l:List ItemG} {V:World} (h:WRows B wb l V) (hl:∀x∈l,x.cat = -1→x.tgt.xs≠[]) (hkb:kb<B):WordsM (fun b=>b<V.heap.size∧b≠kb) V wb l:=by
 obtain⟨n,f,hn,hm,hr,hd⟩:=h
 refine⟨n,f,hm,fun i=>?_⟩
 have hri:=hr i
 cases hf:f i with
 | none =>
  rw[hf] at hri
  intro s
  rw[← Xaj l i s hl,show Yq l i=[] from hri];rfl
 | some v =>
  rw[hf] at hri
  obtain⟨h1,h2⟩:=hri
  obtain⟨A,cp,e,hrd,hnil⟩:=h2.form (by decide)
  have e3:v.addr=A∧v.len=(Yq l i).length∧v.cap=cp:=by simpa[KidS.val] using e
  have hcap:(Yq l i).length≤cp∧cp≤9223372036854775807∧∃b off,A=some ⟨b,off,none⟩∧B≤b∧b<V.heap.size:=by
   rcases h2.2 with ⟨_,h4⟩|⟨g9,c9,cur,q1,q2,q3,q4,q5,_⟩
   ·exact absurd (List.eq_nil_of_length_eq_zero h4) h1
   ·rw[e] at q1
    injection q1 with q6 _ q7
    subst q7
    exact⟨q4,by unfold maxLen at q5;omega,g9,0,q6,q2,Xc q3⟩
  obtain⟨hc1,hc2,b,off,hA,hb1,hb2⟩:=hcap
  refine⟨Yq l i,e3.2.1,?_,⟨b,off,e3.1.trans hA,hb2,by omega⟩,fun s=>Xaj l i s hl⟩
  rw[e3.1,e3.2.2]
  exact⟨by show Rd V A (strs (Yq l i));unfold strs;rw[List.map_eq_flatMap];exact hrd,hc1,hc2,hnil⟩
end Go.Proofs.YthojaplnimoacaaGreatDoor
