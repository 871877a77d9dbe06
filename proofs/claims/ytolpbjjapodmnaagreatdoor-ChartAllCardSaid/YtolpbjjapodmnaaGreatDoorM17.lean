/- Texts of this claim, one after the other: GrmR, GrmS, R29b, R29c, Chwg, Chwh, Chwi. -/
import Derived.Test.YtolpbjjapodmnaaGreatDoorM9
import Derived.Test.YtolpbjjapodmnaaGreatDoorM16
import Derived.Test.YtolpbjjapodmnaaGreatDoorM7
import Derived.Test.YtolpbjjapodmnaaGreatDoorM8
import Derived.Test.YtolpbjjapodmnaaGreatDoorM2
import Derived.Test.YtolpbjjapodmnaaGreatDoorM15
import Derived.BigQuiet
import Derived.Defers
namespace Go.Proofs.YtolpbjjapodmnaaGreatDoor
open Go.RowKit Go.Han
attribute [local irreducible] wpStill wpQuiet
set_option maxRecDepth 100000
set_option maxHeartbeats 2000000 in
theorem Xpu (s t:SlS EntryG) (fid:Nat) (Q:EntryG→EntryG→Bool) (w:World) (hs:s.lies EntryG.cells w) (ht:t.lies EntryG.cells w) (hl:s.xs.length=t.xs.length) (eg:∀args w,(callFunc fid args).run Tryz.prog w = .ok (.enter fid args) w)
  (hf:∀W,Below w.heap.size w W→∀(i:Nat) x y,s.xs[i]? = some x→t.xs[i]? = some y→Calls Tryz.prog fid #[.agg #[.string x.text,.string x.cat,.int .i64 x.no,.slice x.gives.addr x.gives.xs.length x.gives.cap,.int .i64 x.cost],.agg #[.string y.text,.string y.cat,.int .i64 y.no,.slice y.gives.addr y.gives.xs.length y.gives.cap,.int .i64 y.cost]] W fun e w'=>e = .returned (.bool (Q x y))∧Below W.heap.size W w') :
  Calls Tryz.prog 135 #[.slice s.addr s.xs.length s.cap,.slice t.addr t.xs.length t.cap,.func (.func fid) #[] #[]] w fun e w'=>e = .returned (.bool (allZ Q s.xs t.xs))∧Below w.heap.size w w':=by
 have Hz:=Xa (Vl Q hl)
 have Hf:=Xa hf
 have HS:=Xa hs
 have HT:=Xa ht
 have hm:s.xs.length≤9223372036854775807:=Nat.le_trans hs.cap hs.max
 have Hl:=Xa hl
 rw[← hl]
 generalize allZ Q s.xs t.xs=r at *
 clear hs ht hl hf
 go_enter Tryz.func135,Tryz.ntmps135
 go_wp2_with fail
 go_loopw [17] (fun i wr=>∃k:Nat,k≤s.xs.length∧i = .int .i64 k∧Below w.heap.size w wr∧Hid (∀(i:Nat) x y,s.xs[i]? = some x→t.xs[i]? = some y→i<k→Q x y=true)) (fun i _=>s.xs.length-(intOf i).toNat)
 case atStart=>exact⟨0,Nat.zero_le _,rfl,Below.refl _ _,fun i x y _ _ h=>by omega⟩
 case round =>
  obtain⟨k,hk,rfl,hB,HR⟩:=hrel
  by_cases hlt:k<s.xs.length
  ·have hlt':k<t.xs.length:=by have:=Hl.out;omega
   obtain⟨b1,o1,hA,hb,hc⟩:=HS.out.at_ EntryG.size_cells (by omega) hlt
   obtain⟨b2,o2,hA',hb',hc'⟩:=HT.out.at_ EntryG.size_cells (by omega) hlt'
   have e0:wr.cell? ⟨b1,o1+k*5,none⟩=some (.string s.xs[k].text):=hc k hlt wr hB 0 _ rfl
   have e1:wr.cell? ⟨b1,o1+k*5+1,none⟩=some (.string s.xs[k].cat):=hc k hlt wr hB 1 _ rfl
   have e2:wr.cell? ⟨b1,o1+k*5+2,none⟩=some (.int .i64 s.xs[k].no):=hc k hlt wr hB 2 _ rfl
   have e3:wr.cell? ⟨b1,o1+k*5+3,none⟩=some (.slice s.xs[k].gives.addr s.xs[k].gives.xs.length s.xs[k].gives.cap):=hc k hlt wr hB 3 _ rfl
   have e4:wr.cell? ⟨b1,o1+k*5+4,none⟩=some (.int .i64 s.xs[k].cost):=hc k hlt wr hB 4 _ rfl
   rw[hA]
   rw[hA']
   have g1:=List.getElem?_eq_getElem hlt
   have g2:=List.getElem?_eq_getElem hlt'
   obtain⟨W2,hW2⟩:∃W2,wr.alloc (.cells #[.string s.xs[k].text,.string s.xs[k].cat,.int .i64 s.xs[k].no,.slice s.xs[k].gives.addr s.xs[k].gives.xs.length s.xs[k].gives.cap,.int .i64 s.xs[k].cost] 60)=W2:=⟨_,rfl⟩
   have hb2:Below wr.heap.size wr W2:=by subst hW2;exact Xe (Below.refl _ _) _
   have hk2:W2.heap[wr.heap.size]? = some (.cells #[.string s.xs[k].text,.string s.xs[k].cat,.int .i64 s.xs[k].no,.slice s.xs[k].gives.addr s.xs[k].gives.xs.length s.xs[k].gives.cap,.int .i64 s.xs[k].cost] 60 (0,0)):=by subst hW2;exact World.alloc_heap_new _ _
   have hB2:=Xb hB hb2
   have f0:W2.cell? ⟨b2,o2+k*5,none⟩=some (.string t.xs[k].text):=hc' k hlt' W2 hB2 0 _ rfl
   have f1:W2.cell? ⟨b2,o2+k*5+1,none⟩=some (.string t.xs[k].cat):=hc' k hlt' W2 hB2 1 _ rfl
   have f2:W2.cell? ⟨b2,o2+k*5+2,none⟩=some (.int .i64 t.xs[k].no):=hc' k hlt' W2 hB2 2 _ rfl
   have f3:W2.cell? ⟨b2,o2+k*5+3,none⟩=some (.slice t.xs[k].gives.addr t.xs[k].gives.xs.length t.xs[k].gives.cap):=hc' k hlt' W2 hB2 3 _ rfl
   have f4:W2.cell? ⟨b2,o2+k*5+4,none⟩=some (.int .i64 t.xs[k].cost):=hc' k hlt' W2 hB2 4 _ rfl
   obtain⟨W3,hW3⟩:∃W3,W2.alloc (.cells #[.string t.xs[k].text,.string t.xs[k].cat,.int .i64 t.xs[k].no,.slice t.xs[k].gives.addr t.xs[k].gives.xs.length t.xs[k].gives.cap,.int .i64 t.xs[k].cost] 60)=W3:=⟨_,rfl⟩
   have hb3:Below W2.heap.size W2 W3:=by subst hW3;exact Xe (Below.refl _ _) _
   have hk3:W3.heap[W2.heap.size]? = some (.cells #[.string t.xs[k].text,.string t.xs[k].cat,.int .i64 t.xs[k].no,.slice t.xs[k].gives.addr t.xs[k].gives.xs.length t.xs[k].gives.cap,.int .i64 t.xs[k].cost] 60 (0,0)):=by subst hW3;exact World.alloc_heap_new _ _
   have hB3:=Xb hB2 hb3
   have hk23:=Xh hb3 hk2
   obtain⟨x0,x1,x2,x3,x4⟩:=gb5 hk23
   obtain⟨y0,y1,y2,y3,y4⟩:=gb5 hk3
   have cF:=Xa (Hf.out W3 hB3 k _ _ g1 g2)
   have HT2:Hid (Q s.xs[k] t.xs[k]=true→∀(i:Nat) x y,s.xs[i]? = some x→t.xs[i]? = some y→i<k+1→Q x y=true):=by
    intro h0 i x y hx hy hi
    by_cases e:i<k
    ·exact HR.out i x y hx hy e
    ·obtain rfl:i=k:=by omega
     rw[g1] at hx;rw[g2] at hy
     cases hx;cases hy
     exact h0
   have HF2:Hid (Q s.xs[k] t.xs[k]=false→r=false):=by
    intro h0
    rw[Bool.eq_false_iff]
    intro h
    rw[Hz.out.1 h k _ _ g1 g2] at h0
    cases h0
   clear hc hc' hA hA' HR g1 g2 hk2 hk3 hk23 hb2 hb3 hB hB2
   generalize s.xs[k]=p at *
   generalize t.xs[k]=q at *
   generalize Q p q=f at *
   go_wp2_with fail
   clear hW2 hW3 e0 e1 e2 e3 e4 f0 f1 f2 f3 f4
   refine cF.out.mono ?_
   rintro ee w4 ⟨rfl,hb4⟩
   have hB4:=Xb hB3 hb4
   cases f
   ·have HF3:=Xa (HF2.out rfl)
    clear HT2 HF2 x0 x1 x2 x3 x4 y0 y1 y2 y3 y4
    go_wp2_with fail
    go_ret
    exact⟨by rw[HF3.out];rfl,hB4⟩
   ·have HT3:=Xa (HT2.out rfl)
    clear HT2 HF2 x0 x1 x2 x3 x4 y0 y1 y2 y3 y4
    go_wp2_with fail
    go_roundw
    case rel=>exact⟨k+1,by omega,by go_num,hB4,HT3⟩
    case measure=>simp[intOf];omega
  ·have HE:Hid (r=true):=Hz.out.2 fun i x y hx hy=>HR.out i x y hx hy (by have:=(List.getElem?_eq_some_iff.1 hx).1;omega)
   clear HR Hz
   go_wp2_with fail
   go_ret
   exact⟨by rw[HE.out];rfl,hB⟩
set_option maxHeartbeats 2000000 in
theorem Xpv (s t:SlS RuleG) (fid:Nat) (Q:RuleG→RuleG→Bool) (w:World) (hs:s.lies RuleG.cells w) (ht:t.lies RuleG.cells w) (hl:s.xs.length=t.xs.length) (eg:∀args w,(callFunc fid args).run Tryz.prog w = .ok (.enter fid args) w)
  (hf:∀W,Below w.heap.size w W→∀(i:Nat) x y,s.xs[i]? = some x→t.xs[i]? = some y→Calls Tryz.prog fid #[.agg #[.string x.cat,.int .i64 x.no,.slice x.parts.addr x.parts.xs.length x.parts.cap,.slice x.gives.addr x.gives.xs.length x.gives.cap,.int .i64 x.cost],.agg #[.string y.cat,.int .i64 y.no,.slice y.parts.addr y.parts.xs.length y.parts.cap,.slice y.gives.addr y.gives.xs.length y.gives.cap,.int .i64 y.cost]] W fun e w'=>e = .returned (.bool (Q x y))∧Below W.heap.size W w') :
  Calls Tryz.prog 137 #[.slice s.addr s.xs.length s.cap,.slice t.addr t.xs.length t.cap,.func (.func fid) #[] #[]] w fun e w'=>e = .returned (.bool (allZ Q s.xs t.xs))∧Below w.heap.size w w':=by
 have Hz:=Xa (Vl Q hl)
 have Hf:=Xa hf
 have HS:=Xa hs
 have HT:=Xa ht
 have hm:s.xs.length≤9223372036854775807:=Nat.le_trans hs.cap hs.max
 have Hl:=Xa hl
 rw[← hl]
 generalize allZ Q s.xs t.xs=r at *
 clear hs ht hl hf
 go_enter Tryz.func137,Tryz.ntmps137
 go_wp2_with fail
 go_loopw [17] (fun i wr=>∃k:Nat,k≤s.xs.length∧i = .int .i64 k∧Below w.heap.size w wr∧Hid (∀(i:Nat) x y,s.xs[i]? = some x→t.xs[i]? = some y→i<k→Q x y=true)) (fun i _=>s.xs.length-(intOf i).toNat)
 case atStart=>exact⟨0,Nat.zero_le _,rfl,Below.refl _ _,fun i x y _ _ h=>by omega⟩
 case round =>
  obtain⟨k,hk,rfl,hB,HR⟩:=hrel
  by_cases hlt:k<s.xs.length
  ·have hlt':k<t.xs.length:=by have:=Hl.out;omega
   obtain⟨b1,o1,hA,hb,hc⟩:=HS.out.at_ RuleG.size_cells (by omega) hlt
   obtain⟨b2,o2,hA',hb',hc'⟩:=HT.out.at_ RuleG.size_cells (by omega) hlt'
   have e0:wr.cell? ⟨b1,o1+k*5,none⟩=some (.string s.xs[k].cat):=hc k hlt wr hB 0 _ rfl
   have e1:wr.cell? ⟨b1,o1+k*5+1,none⟩=some (.int .i64 s.xs[k].no):=hc k hlt wr hB 1 _ rfl
   have e2:wr.cell? ⟨b1,o1+k*5+2,none⟩=some (.slice s.xs[k].parts.addr s.xs[k].parts.xs.length s.xs[k].parts.cap):=hc k hlt wr hB 2 _ rfl
   have e3:wr.cell? ⟨b1,o1+k*5+3,none⟩=some (.slice s.xs[k].gives.addr s.xs[k].gives.xs.length s.xs[k].gives.cap):=hc k hlt wr hB 3 _ rfl
   have e4:wr.cell? ⟨b1,o1+k*5+4,none⟩=some (.int .i64 s.xs[k].cost):=hc k hlt wr hB 4 _ rfl
   rw[hA]
   rw[hA']
   have g1:=List.getElem?_eq_getElem hlt
   have g2:=List.getElem?_eq_getElem hlt'
   obtain⟨W2,hW2⟩:∃W2,wr.alloc (.cells #[.string s.xs[k].cat,.int .i64 s.xs[k].no,.slice s.xs[k].parts.addr s.xs[k].parts.xs.length s.xs[k].parts.cap,.slice s.xs[k].gives.addr s.xs[k].gives.xs.length s.xs[k].gives.cap,.int .i64 s.xs[k].cost] 79)=W2:=⟨_,rfl⟩
   have hb2:Below wr.heap.size wr W2:=by subst hW2;exact Xe (Below.refl _ _) _
   have hk2:W2.heap[wr.heap.size]? = some (.cells #[.string s.xs[k].cat,.int .i64 s.xs[k].no,.slice s.xs[k].parts.addr s.xs[k].parts.xs.length s.xs[k].parts.cap,.slice s.xs[k].gives.addr s.xs[k].gives.xs.length s.xs[k].gives.cap,.int .i64 s.xs[k].cost] 79 (0,0)):=by subst hW2;exact World.alloc_heap_new _ _
   have hB2:=Xb hB hb2
   have f0:W2.cell? ⟨b2,o2+k*5,none⟩=some (.string t.xs[k].cat):=hc' k hlt' W2 hB2 0 _ rfl
   have f1:W2.cell? ⟨b2,o2+k*5+1,none⟩=some (.int .i64 t.xs[k].no):=hc' k hlt' W2 hB2 1 _ rfl
   have f2:W2.cell? ⟨b2,o2+k*5+2,none⟩=some (.slice t.xs[k].parts.addr t.xs[k].parts.xs.length t.xs[k].parts.cap):=hc' k hlt' W2 hB2 2 _ rfl
   have f3:W2.cell? ⟨b2,o2+k*5+3,none⟩=some (.slice t.xs[k].gives.addr t.xs[k].gives.xs.length t.xs[k].gives.cap):=hc' k hlt' W2 hB2 3 _ rfl
   have f4:W2.cell? ⟨b2,o2+k*5+4,none⟩=some (.int .i64 t.xs[k].cost):=hc' k hlt' W2 hB2 4 _ rfl
   obtain⟨W3,hW3⟩:∃W3,W2.alloc (.cells #[.string t.xs[k].cat,.int .i64 t.xs[k].no,.slice t.xs[k].parts.addr t.xs[k].parts.xs.length t.xs[k].parts.cap,.slice t.xs[k].gives.addr t.xs[k].gives.xs.length t.xs[k].gives.cap,.int .i64 t.xs[k].cost] 79)=W3:=⟨_,rfl⟩
   have hb3:Below W2.heap.size W2 W3:=by subst hW3;exact Xe (Below.refl _ _) _
   have hk3:W3.heap[W2.heap.size]? = some (.cells #[.string t.xs[k].cat,.int .i64 t.xs[k].no,.slice t.xs[k].parts.addr t.xs[k].parts.xs.length t.xs[k].parts.cap,.slice t.xs[k].gives.addr t.xs[k].gives.xs.length t.xs[k].gives.cap,.int .i64 t.xs[k].cost] 79 (0,0)):=by subst hW3;exact World.alloc_heap_new _ _
   have hB3:=Xb hB2 hb3
   have hk23:=Xh hb3 hk2
   obtain⟨x0,x1,x2,x3,x4⟩:=gb5 hk23
   obtain⟨y0,y1,y2,y3,y4⟩:=gb5 hk3
   have cF:=Xa (Hf.out W3 hB3 k _ _ g1 g2)
   have HT2:Hid (Q s.xs[k] t.xs[k]=true→∀(i:Nat) x y,s.xs[i]? = some x→t.xs[i]? = some y→i<k+1→Q x y=true):=by
    intro h0 i x y hx hy hi
    by_cases e:i<k
    ·exact HR.out i x y hx hy e
    ·obtain rfl:i=k:=by omega
     rw[g1] at hx;rw[g2] at hy
     cases hx;cases hy
     exact h0
   have HF2:Hid (Q s.xs[k] t.xs[k]=false→r=false):=by
    intro h0
    rw[Bool.eq_false_iff]
    intro h
    rw[Hz.out.1 h k _ _ g1 g2] at h0
    cases h0
   clear hc hc' hA hA' HR g1 g2 hk2 hk3 hk23 hb2 hb3 hB hB2
   generalize s.xs[k]=p at *
   generalize t.xs[k]=q at *
   generalize Q p q=f at *
   go_wp2_with fail
   clear hW2 hW3 e0 e1 e2 e3 e4 f0 f1 f2 f3 f4
   refine cF.out.mono ?_
   rintro ee w4 ⟨rfl,hb4⟩
   have hB4:=Xb hB3 hb4
   cases f
   ·have HF3:=Xa (HF2.out rfl)
    clear HT2 HF2 x0 x1 x2 x3 x4 y0 y1 y2 y3 y4
    go_wp2_with fail
    go_ret
    exact⟨by rw[HF3.out];rfl,hB4⟩
   ·have HT3:=Xa (HT2.out rfl)
    clear HT2 HF2 x0 x1 x2 x3 x4 y0 y1 y2 y3 y4
    go_wp2_with fail
    go_roundw
    case rel=>exact⟨k+1,by omega,by go_num,hB4,HT3⟩
    case measure=>simp[intOf];omega
  ·have HE:Hid (r=true):=Hz.out.2 fun i x y hx hy=>HR.out i x y hx hy (by have:=(List.getElem?_eq_some_iff.1 hx).1;omega)
   clear HR Hz
   go_wp2_with fail
   go_ret
   exact⟨by rw[HE.out];rfl,hB⟩
set_option maxHeartbeats 2000000 in
theorem Xrg (s t:SlS PartG) (w:World) (hs:s.lies PartG.cells w) (ht:t.lies PartG.cells w) (hl:s.xs.length=t.xs.length):Calls Tryz.prog 139 #[.slice s.addr s.xs.length s.cap,.slice t.addr t.xs.length t.cap] w fun e w'=>e = .returned (.bool (decide (s.xs=t.xs)))∧Below w.heap.size w w':=by
 have HS:=Xa hs
 have HT:=Xa ht
 have hm:s.xs.length≤9223372036854775807:=Nat.le_trans hs.cap hs.max
 have Hl:=Xa hl
 rw[← hl]
 clear hs ht hl
 go_enter Tryz.func139,Tryz.ntmps139
 go_wp2_with fail
 go_loopw [13] (fun i wr=>∃k:Nat,k≤s.xs.length∧i = .int .i64 k∧Below w.heap.size w wr∧Hid (s.xs.take k=t.xs.take k)) (fun i _=>s.xs.length-(intOf i).toNat)
 case atStart=>exact⟨0,Nat.zero_le _,rfl,Below.refl _ _,rfl⟩
 case round =>
  obtain⟨k,hk,rfl,hB,HR⟩:=hrel
  by_cases hlt:k<s.xs.length
  ·have hlt':k<t.xs.length:=by have:=Hl.out;omega
   obtain⟨b1,o1,hA,hb,hc⟩:=HS.out.at_ PartG.size_cells (by omega) hlt
   obtain⟨b2,o2,hA',hb',hc'⟩:=HT.out.at_ PartG.size_cells (by omega) hlt'
   have e0:wr.cell? ⟨b1,o1+k*3,none⟩=some (.string s.xs[k].cat):=hc k hlt wr hB 0 _ rfl
   have e1:wr.cell? ⟨b1,o1+k*3+1,none⟩=some (.int .i64 s.xs[k].no):=hc k hlt wr hB 1 _ rfl
   have e2:wr.cell? ⟨b1,o1+k*3+2,none⟩=some (.string s.xs[k].text):=hc k hlt wr hB 2 _ rfl
   have f0:wr.cell? ⟨b2,o2+k*3,none⟩=some (.string t.xs[k].cat):=hc' k hlt' wr hB 0 _ rfl
   have f1:wr.cell? ⟨b2,o2+k*3+1,none⟩=some (.int .i64 t.xs[k].no):=hc' k hlt' wr hB 1 _ rfl
   have f2:wr.cell? ⟨b2,o2+k*3+2,none⟩=some (.string t.xs[k].text):=hc' k hlt' wr hB 2 _ rfl
   rw[hA]
   rw[hA']
   have hq:=fun (w:World)=>T0 s.xs[k].cat t.xs[k].cat s.xs[k].no t.xs[k].no s.xs[k].text t.xs[k].text w
   have Ht:=Xa (fun h=>Xdg hlt hlt' HR.out h)
   have Hf:Hid (s.xs[k]≠t.xs[k]→s.xs≠t.xs):=fun h e=>h (by simp[e])
   clear hc hc' hA hA' HR
   generalize s.xs[k]=x at *
   generalize t.xs[k]=y at *
   obtain⟨xa,xn,xs⟩:=x
   obtain⟨ya,yn,ys⟩:=y
   simp only at hq e0 e1 e2 f0 f1 f2
   cases hxy:decide ((⟨xa,xn,xs⟩:PartG)=⟨ya,yn,ys⟩)
   ·rw[hxy] at hq
    have HF:Hid (decide (s.xs=t.xs)=false):=decide_eq_false (Hf.out (of_decide_eq_false hxy))
    clear hxy Hf Ht
    go_wp2_with fail
    go_still (by kernel_rfl)
    go_wp2
    go_ret
    exact⟨by rw[HF.out];rfl,hB.drew⟩
   ·rw[hxy] at hq
    have HT2:=Xa (Ht.out (of_decide_eq_true hxy))
    clear hxy Hf Ht
    go_wp2_with fail
    go_still (by kernel_rfl)
    go_wp2
    go_roundw
    case rel=>exact⟨k+1,by omega,by go_num,hB.drew,HT2⟩
    case measure=>simp[intOf];omega
  ·have HE:Hid (decide (s.xs=t.xs)=true):=by
    have h:=HR.out
    rw[List.take_of_length_le (by omega),List.take_of_length_le (by have:=Hl.out;omega)] at h
    exact decide_eq_true h
   clear HR
   go_wp2_with fail
   go_ret
   exact⟨by rw[HE.out];rfl,hB⟩
theorem Xpo (a b:EntryG) (w:World):Calls Tryz.prog 136 #[.agg #[.string a.text,.string a.cat,.int .i64 a.no,.slice a.gives.addr a.gives.xs.length a.gives.cap,.int .i64 a.cost],.agg #[.string b.text,.string b.cat,.int .i64 b.no,.slice b.gives.addr b.gives.xs.length b.gives.cap,.int .i64 b.cost]] w fun e w'=>e = .returned (.bool (decide (a.no=b.no)))∧Below w.heap.size w w':=by
 obtain⟨W1,hW1⟩:∃W1,(w.alloc (.cells #[.string a.text,.string a.cat,.int .i64 a.no,.slice a.gives.addr a.gives.xs.length a.gives.cap,.int .i64 a.cost] 60)).alloc (.cells #[.string b.text,.string b.cat,.int .i64 b.no,.slice b.gives.addr b.gives.xs.length b.gives.cap,.int .i64 b.cost] 60)=W1:=⟨_,rfl⟩
 have hB1:Below w.heap.size w W1:=by subst hW1;exact Xe (Xe (Below.refl _ _) _) _
 have hk:W1.heap[w.heap.size]? = some (.cells #[.string a.text,.string a.cat,.int .i64 a.no,.slice a.gives.addr a.gives.xs.length a.gives.cap,.int .i64 a.cost] 60 (0,0)):=by subst hW1;exact(Below.heap_alloc _ _ _ (by simp)).trans (World.alloc_heap_new _ _)
 have hk2:W1.heap[w.heap.size+1]? = some (.cells #[.string b.text,.string b.cat,.int .i64 b.no,.slice b.gives.addr b.gives.xs.length b.gives.cap,.int .i64 b.cost] 60 (0,0)):=by subst hW1;have:=World.alloc_heap_new (w.alloc (.cells #[.string a.text,.string a.cat,.int .i64 a.no,.slice a.gives.addr a.gives.xs.length a.gives.cap,.int .i64 a.cost] 60)) (.cells #[.string b.text,.string b.cat,.int .i64 b.no,.slice b.gives.addr b.gives.xs.length b.gives.cap,.int .i64 b.cost] 60);rwa [World.size_alloc] at this
 have q:=Z8 a.no b.no
 obtain⟨c0,c1,c2,c3,c4⟩:=gb5 hk
 obtain⟨d0,d1,d2,d3,d4⟩:=gb5 hk2
 clear hk hk2
 generalize decide (a.no=b.no)=f at *
 cases f
 ·go_enter Tryz.func136,Tryz.ntmps136
  go_wp2_with fail
  go_ret
  exact⟨rfl,hB1⟩
 ·go_enter Tryz.func136,Tryz.ntmps136
  go_wp2_with fail
  go_ret
  exact⟨rfl,hB1⟩
set_option maxHeartbeats 1000000 in
theorem Xpp (a b:RuleG) (w:World) (ha:a.lies w) (hb:b.lies w) (hl:a.parts.xs.length=b.parts.xs.length):Calls Tryz.prog 138 #[.agg #[.string a.cat,.int .i64 a.no,.slice a.parts.addr a.parts.xs.length a.parts.cap,.slice a.gives.addr a.gives.xs.length a.gives.cap,.int .i64 a.cost],.agg #[.string b.cat,.int .i64 b.no,.slice b.parts.addr b.parts.xs.length b.parts.cap,.slice b.gives.addr b.gives.xs.length b.gives.cap,.int .i64 b.cost]] w fun e w'=>e = .returned (.bool (decide (a.no=b.no) && decide (a.parts.xs=b.parts.xs)))∧Below w.heap.size w w':=by
 obtain⟨W1,hW1⟩:∃W1,(w.alloc (.cells #[.string a.cat,.int .i64 a.no,.slice a.parts.addr a.parts.xs.length a.parts.cap,.slice a.gives.addr a.gives.xs.length a.gives.cap,.int .i64 a.cost] 79)).alloc (.cells #[.string b.cat,.int .i64 b.no,.slice b.parts.addr b.parts.xs.length b.parts.cap,.slice b.gives.addr b.gives.xs.length b.gives.cap,.int .i64 b.cost] 79)=W1:=⟨_,rfl⟩
 have hB1:Below w.heap.size w W1:=by subst hW1;exact Xe (Xe (Below.refl _ _) _) _
 have hk:W1.heap[w.heap.size]? = some (.cells #[.string a.cat,.int .i64 a.no,.slice a.parts.addr a.parts.xs.length a.parts.cap,.slice a.gives.addr a.gives.xs.length a.gives.cap,.int .i64 a.cost] 79 (0,0)):=by subst hW1;exact(Below.heap_alloc _ _ _ (by simp)).trans (World.alloc_heap_new _ _)
 have hk2:W1.heap[w.heap.size+1]? = some (.cells #[.string b.cat,.int .i64 b.no,.slice b.parts.addr b.parts.xs.length b.parts.cap,.slice b.gives.addr b.gives.xs.length b.gives.cap,.int .i64 b.cost] 79 (0,0)):=by subst hW1;have:=World.alloc_heap_new (w.alloc (.cells #[.string a.cat,.int .i64 a.no,.slice a.parts.addr a.parts.xs.length a.parts.cap,.slice a.gives.addr a.gives.xs.length a.gives.cap,.int .i64 a.cost] 79)) (.cells #[.string b.cat,.int .i64 b.no,.slice b.parts.addr b.parts.xs.length b.parts.cap,.slice b.gives.addr b.gives.xs.length b.gives.cap,.int .i64 b.cost] 79);rwa [World.size_alloc] at this
 have cP:=Xa (Xrg a.parts b.parts W1 (ha.ext hB1).1 (hb.ext hB1).1 hl)
 have q:=Z8 a.no b.no
 obtain⟨c0,c1,c2,c3,c4⟩:=gb5 hk
 obtain⟨d0,d1,d2,d3,d4⟩:=gb5 hk2
 clear hk hk2 ha hb hl
 generalize decide (a.no=b.no)=f at *
 generalize decide (a.parts.xs=b.parts.xs)=h at *
 cases f
 ·go_enter Tryz.func138,Tryz.ntmps138
  go_wp2_with fail
  go_ret
  exact⟨rfl,hB1⟩
 ·go_enter Tryz.func138,Tryz.ntmps138
  go_wp2_with fail
  refine cP.out.mono ?_
  rintro ee w4 ⟨rfl,hb4⟩
  go_wp2_with fail
  go_ret
  exact⟨by simp,Xb hB1 hb4⟩
def noE (a b:EntryG):Bool:=decide (a.no=b.no)
def noR (a b:RuleG):Bool:=decide (a.no=b.no) && decide (a.parts.xs=b.parts.xs)
theorem Xm3 {g X:Gram} (h:Xic (Zc g.cats.xs) g X):(decide (X.startNo=g.startNo) && allZ noE X.entries.xs g.entries.xs && allZ noR X.rules.xs g.rules.xs)=Zm g:=by
 rw[Bool.eq_iff_iff]
 unfold Zm
 have he:X.entries.xs.length=g.entries.xs.length:=by rw[h.entries,List.length_map]
 simp only[Bool.and_eq_true]
 rw[Vl noE he,Vl noR h.rules,Xeb,Xeb]
 constructor
 ·rintro⟨⟨h1,h2⟩,h3⟩
  refine⟨⟨?_,fun i x hx=>?_⟩,fun i x hx=>?_⟩
  ·rw[h.startNo] at h1
   exact decide_eq_true (of_decide_eq_true h1).symm
  ·have hX:X.entries.xs[i]? = some (Z0 g.cats.xs x):=by rw[h.entries,List.getElem?_map,hx];rfl
   exact decide_eq_true (of_decide_eq_true (h2 i _ _ hX hx)).symm
  ·obtain⟨r',hr'⟩:∃r',X.rules.xs[i]? = some r':=by
    have hi:=(List.getElem?_eq_some_iff.1 hx).1
    exact⟨_,List.getElem?_eq_getElem (by rw[h.rules];exact hi)⟩
   have hrr:=h.rule i x r' hx hr'
   have:=h3 i _ _ hr' hx
   unfold noR at this
   simp only[Bool.and_eq_true,decide_eq_true_eq] at this
   refine Bool.and_eq_true_iff.2 ⟨decide_eq_true ?_,List.all_eq_true.2 fun p hp=>decide_eq_true ?_⟩
   ·rw[← this.1,hrr.no]
   ·have t4:=this.2
    rw[hrr.parts,Xcf] at t4
    exact(Qj _ _).1 (t4 p hp)
 ·rintro⟨⟨h1,h2⟩,h3⟩
  refine⟨⟨?_,fun i x y hx hy=>?_⟩,fun i x y hx hy=>?_⟩
  ·rw[h.startNo]
   exact decide_eq_true (of_decide_eq_true h1).symm
  ·rw[h.entries,List.getElem?_map,hy] at hx
   cases hx
   exact decide_eq_true (of_decide_eq_true (h2 i y hy)).symm
  ·have hrr:=h.rule i y x hy hx
   have h4:=h3 i y hy
   rw[Bool.and_eq_true,List.all_eq_true] at h4
   unfold noR
   rw[hrr.no,hrr.parts,← of_decide_eq_true h4.1]
   have:y.parts.xs.map (Zc g.cats.xs)=y.parts.xs:=Xcf.2 fun p hp=>(Qj _ _).2 (of_decide_eq_true (h4.2 p hp))
   rw[this]
   simp
set_option maxHeartbeats 2000000 in
theorem Xf5 (g:Gram) (w:World) (hT:TabsG w) (hg:g.lies w) (hs:g.short):Calls Tryz.prog 75 #[.agg #[.string g.name,.slice g.cats.addr g.cats.xs.length g.cats.cap,.string g.start,.int .i64 g.startNo,.slice g.entries.addr g.entries.xs.length g.entries.cap,.slice g.rules.addr g.rules.xs.length g.rules.cap]] w fun e w'=>e = .returned (.int .i64 (Ys g))∧Below w.heap.size w w':=by
 obtain⟨W1,hW1⟩:∃W1,w.alloc (.cells #[.string g.name,.slice g.cats.addr g.cats.xs.length g.cats.cap,.string g.start,.int .i64 g.startNo,.slice g.entries.addr g.entries.xs.length g.entries.cap,.slice g.rules.addr g.rules.xs.length g.rules.cap] 26)=W1:=⟨_,rfl⟩
 have hB1:Below w.heap.size w W1:=by subst hW1;exact Xe (Below.refl _ _) _
 have hk:W1.heap[w.heap.size]? = some (.cells #[.string g.name,.slice g.cats.addr g.cats.xs.length g.cats.cap,.string g.start,.int .i64 g.startNo,.slice g.entries.addr g.entries.xs.length g.entries.cap,.slice g.rules.addr g.rules.xs.length g.rules.cap] 26 (0,0)):=by subst hW1;exact World.alloc_heap_new _ _
 have HC:=Xa (Xey g)
 have cR:=Xa (Xfn g W1 (hT.ext hB1) (hg.ext hB1) hs)
 have HG:=Xa (hg.ext hB1)
 have Hk:=Xa hk
 obtain⟨c0,c1,c2,c3,c4,c5⟩:=gb6 hk
 clear hT hg hk
 go_enter Tryz.func75,Tryz.ntmps75
 go_wp2_with fail
 clear hW1
 refine cR.out.mono ?_
 rintro e w2 ⟨X,rfl,hb2,hX⟩
 have hB2:=Xb hB1 hb2
 by_cases hz:resG g=0
 ·obtain⟨hXl,hRO⟩:=hX hz
  have hsame:=Xm3 hRO
  obtain⟨W3,hW3⟩:∃W3,w2.alloc (.cells #[.string X.name,.slice X.cats.addr X.cats.xs.length X.cats.cap,.string X.start,.int .i64 X.startNo,.slice X.entries.addr X.entries.xs.length X.entries.cap,.slice X.rules.addr X.rules.xs.length X.rules.cap] 26)=W3:=⟨_,rfl⟩
  have hb3:Below w2.heap.size w2 W3:=by subst hW3;exact Xe (Below.refl _ _) _
  have hk3:W3.heap[w2.heap.size]? = some (.cells #[.string X.name,.slice X.cats.addr X.cats.xs.length X.cats.cap,.string X.start,.int .i64 X.startNo,.slice X.entries.addr X.entries.xs.length X.entries.cap,.slice X.rules.addr X.rules.xs.length X.rules.cap] 26 (0,0)):=by subst hW3;exact World.alloc_heap_new _ _
  have hkg:=((Xb hb2 hb3).block _ (Xc Hk.out)).trans Hk.out
  have he:X.entries.xs.length=g.entries.xs.length:=by rw[hRO.entries,List.length_map]
  have hX3:=hXl.ext hb3
  have hG3:=HG.out.ext (Xb hb2 hb3)
  have cE:=Xa (Xpu X.entries g.entries 136 noE W3 hX3.entries hG3.entries he (enters_of Tryz.func136 (by kernel_rfl) rfl) (fun V hV i x y _ _=>Xpo x y V))
  have cU:=Xa (fun V (hV:Below W3.heap.size W3 V)=>Xpv X.rules g.rules 138 noR V (hX3.ext hV).rules (hG3.ext hV).rules hRO.rules (enters_of Tryz.func138 (by kernel_rfl) rfl) (fun V' hV' i x y hx hy=>Xpp x y V' (((hX3.ext hV).ext hV').rule x (List.mem_of_getElem? hx)) (((hG3.ext hV).ext hV').rule y (List.mem_of_getElem? hy)) (by rw[(hRO.rule i y x hy hx).parts,List.length_map])))
  have HE:Hid (Ys g=if Zm g then 0 else 260):=by show _=_;rw[HC.out,hz];rfl
  rw[← hsame] at HE
  have q:=Xb9 X.startNo g.startNo
  have Hk3:=Xa hk3
  have Hkg:=Xa hkg
  clear c0 c1 c2 c3 c4 c5
  obtain⟨x0,x1,x2,x3,x4,x5⟩:=gb6 hk3
  obtain⟨c0,c1,c2,c3,c4,c5⟩:=gb6 hkg
  generalize allZ noE X.entries.xs g.entries.xs=f2 at *
  generalize allZ noR X.rules.xs g.rules.xs=f3 at *
  generalize decide (X.startNo=g.startNo)=f1 at *
  rw[hz]
  have hB3:=Xb hB2 hb3
  clear hX hXl hRO hsame hk3 hkg he hz HC cR hX3 hG3 hb2
  go_wp2_with fail
  clear hW3
  refine cE.out.mono ?_
  rintro ee w4 ⟨rfl,hb4⟩
  have hB4:=Xb hB3 hb4
  have hk4:=Xh hb4 Hk3.out
  have hkg4:=Xh hb4 Hkg.out
  clear x0 x1 x2 x3 x4 x5 c0 c1 c2 c3 c4 c5 cE
  obtain⟨x0,x1,x2,x3,x4,x5⟩:=gb6 hk4
  obtain⟨c0,c1,c2,c3,c4,c5⟩:=gb6 hkg4
  have Hk4:=Xa hk4
  have Hkg4:=Xa hkg4
  clear hk4 hkg4
  go_wp2_with fail
  refine(cU.out w4 hb4).mono ?_
  rintro ee w5 ⟨rfl,hb5⟩
  have hB5:=Xb hB4 hb5
  have hk5:=Xh hb5 Hk4.out
  have hkg5:=Xh hb5 Hkg4.out
  clear x0 x1 x2 x3 x4 x5 c0 c1 c2 c3 c4 c5 cU
  obtain⟨x0,x1,x2,x3,x4,x5⟩:=gb6 hk5
  obtain⟨c0,c1,c2,c3,c4,c5⟩:=gb6 hkg5
  clear hk5 hkg5
  cases f1<;>cases f2<;>cases f3
  all_goals
   simp only[Bool.not_true,Bool.not_false] at q
   go_wp2_with fail
   go_ret
   exact⟨by rw[HE.out];rfl,hB5⟩
 ·have HE:Hid (Ys g=resG g):=by show _=_;rw[HC.out,if_pos hz]
  have hb3:Below w2.heap.size w2 (w2.alloc (.cells #[.string X.name,.slice X.cats.addr X.cats.xs.length X.cats.cap,.string X.start,.int .i64 X.startNo,.slice X.entries.addr X.entries.xs.length X.entries.cap,.slice X.rules.addr X.rules.xs.length X.rules.cap] 26)):=Xe (Below.refl _ _) _
  have g1:(resG g != 0)=true:=by simpa using hz
  generalize resG g=r at *
  clear hX HC hz
  go_wp2_with fail
  go_ret
  exact⟨by rw[HE.out];rfl,Xb hB2 hb3⟩
def Tp (n:Int) (x:ItemG):Bool:=decide (0≤x.frm) && decide (x.frm<x.unt) && decide (x.unt≤n) && (decide (-1≤x.term) && decide (x.term≤1048576)) && (decide (1≤x.tgt.xs.length) && decide (x.tgt.xs.length≤4))
def Ur (g:Gram) (x:ItemG):Bool:=if x.cat = -1 then decide (x.unt=x.frm+1) && decide (x.cost=0) && decide (x.tgt.xs.length=1) else (decide (0≤x.cat) && decide (x.cat<g.cats.xs.length)) && (decide (0≤x.cost) && decide (x.cost≤1000))
theorem Xdd (g:Gram) (n:Int) (x:ItemG):Zo g n x=(Tp n x && x.tgt.xs.all Yi && Ur g x):=rfl
set_option maxHeartbeats 4000000 in
theorem Xjo (g:Gram) (n:Int) (x:ItemG) (w:World) (hn:n≤16) (hx:x.tgt.lies w) (_hg:g.cats.xs.length≤32):Calls Tryz.prog 122 #[.agg #[.string g.name,.slice g.cats.addr g.cats.xs.length g.cats.cap,.string g.start,.int .i64 g.startNo,.slice g.entries.addr g.entries.xs.length g.entries.cap,.slice g.rules.addr g.rules.xs.length g.rules.cap],.int .i64 n,.agg #[.int .i64 x.cat,.int .i64 x.frm,.int .i64 x.unt,.int .i64 x.cost,.slice x.tgt.addr x.tgt.xs.length x.tgt.cap,.int .i64 x.term]] w fun e w'=>e = .returned (.bool (Zo g n x))∧Below w.heap.size w w':=by
 obtain⟨W1,hW1⟩:∃W1,(w.alloc (.cells #[.string g.name,.slice g.cats.addr g.cats.xs.length g.cats.cap,.string g.start,.int .i64 g.startNo,.slice g.entries.addr g.entries.xs.length g.entries.cap,.slice g.rules.addr g.rules.xs.length g.rules.cap] 26)).alloc (.cells #[.int .i64 x.cat,.int .i64 x.frm,.int .i64 x.unt,.int .i64 x.cost,.slice x.tgt.addr x.tgt.xs.length x.tgt.cap,.int .i64 x.term] 53)=W1:=⟨_,rfl⟩
 have hB1:Below w.heap.size w W1:=by subst hW1;exact Xe (Xe (Below.refl _ _) _) _
 have hk:W1.heap[w.heap.size]? = some (.cells #[.string g.name,.slice g.cats.addr g.cats.xs.length g.cats.cap,.string g.start,.int .i64 g.startNo,.slice g.entries.addr g.entries.xs.length g.entries.cap,.slice g.rules.addr g.rules.xs.length g.rules.cap] 26 (0,0)):=by subst hW1;exact(Below.heap_alloc _ _ _ (by simp)).trans (World.alloc_heap_new _ _)
 have hk2:W1.heap[w.heap.size+1]? = some (.cells #[.int .i64 x.cat,.int .i64 x.frm,.int .i64 x.unt,.int .i64 x.cost,.slice x.tgt.addr x.tgt.xs.length x.tgt.cap,.int .i64 x.term] 53 (0,0)):=by subst hW1;have:=World.alloc_heap_new (w.alloc (.cells #[.string g.name,.slice g.cats.addr g.cats.xs.length g.cats.cap,.string g.start,.int .i64 g.startNo,.slice g.entries.addr g.entries.xs.length g.entries.cap,.slice g.rules.addr g.rules.xs.length g.rules.cap] 26)) (.cells #[.int .i64 x.cat,.int .i64 x.frm,.int .i64 x.unt,.int .i64 x.cost,.slice x.tgt.addr x.tgt.xs.length x.tgt.cap,.int .i64 x.term] 53);rwa [World.size_alloc] at this
 have HX:=Xa (StrS.lies.ext hx hB1)
 have HR:=Xa (Xdd g n x)
 have Hk:=Xa hk
 have Hk2:=Xa hk2
 obtain⟨b0,b1,b2,b3,b4,b5⟩:=gb6 hk2
 clear hx hk hk2
 by_cases hp:Tp n x=true
 rotate_left
 ·have HF:Hid (Zo g n x=false):=by
   have:Tp n x=false:=by simpa using hp
   show _=_;rw[HR.out,this];rfl
  have hp2:¬((0≤x.frm∧x.frm<x.unt∧x.unt≤n)∧(-1≤x.term∧x.term≤1048576)∧(1≤x.tgt.xs.length∧x.tgt.xs.length≤4)):=by
   rintro⟨⟨a1,a2,a3⟩,⟨a4,a5⟩,a6,a7⟩
   exact hp (by unfold Tp;simp[a1,a2,a3,a4,a5,a6,a7])
  clear hp HR
  by_cases q1:x.frm<0
  ·clear hp2
   go_enter Tryz.func122,Tryz.ntmps122
   go_wp2_with fail
   go_ret
   exact⟨by rw[HF.out];rfl,hB1⟩
  by_cases q2:x.frm≥x.unt
  ·clear hp2
   go_enter Tryz.func122,Tryz.ntmps122
   go_wp2_with fail
   go_ret
   exact⟨by rw[HF.out];rfl,hB1⟩
  by_cases q3:n<x.unt
  ·clear hp2
   go_enter Tryz.func122,Tryz.ntmps122
   go_wp2_with fail
   go_ret
   exact⟨by rw[HF.out];rfl,hB1⟩
  by_cases q4:x.term < -1
  ·clear hp2
   go_enter Tryz.func122,Tryz.ntmps122
   go_wp2_with fail
   go_ret
   exact⟨by rw[HF.out];rfl,hB1⟩
  by_cases q5:(1048576:Int)<x.term
  ·clear hp2
   go_enter Tryz.func122,Tryz.ntmps122
   go_wp2_with fail
   go_ret
   exact⟨by rw[HF.out];rfl,hB1⟩
  by_cases q6:(x.tgt.xs.length:Int)<1
  ·clear hp2
   go_enter Tryz.func122,Tryz.ntmps122
   go_wp2_with fail
   go_ret
   exact⟨by rw[HF.out];rfl,hB1⟩
  ·have q7:(4:Int)<(x.tgt.xs.length:Int):=by omega
   clear hp2
   go_enter Tryz.func122,Tryz.ntmps122
   go_wp2_with fail
   go_ret
   exact⟨by rw[HF.out];rfl,hB1⟩
 ·have HE:Hid (Zo g n x=(x.tgt.xs.all Yi && Ur g x)):=by show _=_;rw[HR.out,hp];rfl
  unfold Tp at hp
  simp only[Bool.and_eq_true,decide_eq_true_eq] at hp
  obtain⟨⟨⟨⟨a1,a2⟩,a3⟩,a4,a5⟩,a6,a7⟩:=hp
  have q1:¬x.frm<0:=by omega
  have q2:¬x.frm≥x.unt:=by omega
  have q3:¬n<x.unt:=by omega
  have q4:¬x.term < -1:=by omega
  have q5:¬(1048576:Int)<x.term:=by omega
  have q6:¬(x.tgt.xs.length:Int)<1:=by omega
  have q7:¬(4:Int)<(x.tgt.xs.length:Int):=by omega
  have hm:x.tgt.xs.length≤9223372036854775807:=by omega
  have hw1:IntKind.i64.wrap (x.frm+1)=x.frm+1:=IntWalk.i64_in _ (by omega)
  clear HR a4 a5
  go_enter Tryz.func122,Tryz.ntmps122
  go_wp2_with fail
  clear q1 q2 q3 q4 q5 q6 q7 b0 b1 b2 b3 b4 b5 hW1
  go_loopw [7] (fun i wr=>∃k:Nat,k≤x.tgt.xs.length∧i = .int .i64 k∧Below W1.heap.size W1 wr∧Hid ((x.tgt.xs.take k).all Yi=true)) (fun i _=>x.tgt.xs.length-(intOf i).toNat)
  case atStart=>exact⟨0,Nat.zero_le _,rfl,Below.refl _ _,rfl⟩
  case round =>
   obtain⟨k,hk,rfl,hB,HT⟩:=hrel
   have hBw:=Xb hB1 hB
   have hkx:=Xh hB Hk2.out
   have hkg:=Xh hB Hk.out
   obtain⟨b0,b1,b2,b3,b4,b5⟩:=gb6 hkx
   by_cases hlt:k<x.tgt.xs.length
   ·obtain⟨b,off,hA,hb,hc⟩:=StrS.at_ HX.out (k:=k) hlt
    have e0:wr.cell? ⟨b,off+k,none⟩=some (.string x.tgt.xs[k]):=(hB.cell (p:=⟨b,off+k,none⟩) hb).trans (hc k hlt)
    have htk:x.tgt.xs.take (k+1)=x.tgt.xs.take k++[x.tgt.xs[k]]:=List.take_succ_eq_append_getElem hlt
    have hmem:=List.getElem_mem hlt
    have HT2:Hid (Yi x.tgt.xs[k]=true→(x.tgt.xs.take (k+1)).all Yi=true):=by intro h;rw[htk,List.all_append,HT.out];simp[h]
    have HF:Hid (Yi x.tgt.xs[k]=false→x.tgt.xs.all Yi=false):=by intro h;rw[List.all_eq_false];exact⟨_,hmem,by simp[h]⟩
    have cW:=Xa (Xoy x.tgt.xs[k] wr)
    rw[hA] at b4 ⊢
    clear hc htk hA HT hmem hkx hkg
    generalize x.tgt.xs[k]=y at *
    generalize Yi y=f at *
    go_wp2_with fail
    clear b0 b1 b2 b3 b4 b5 e0
    refine cW.out.mono ?_
    rintro ee w4 ⟨rfl,hb4⟩
    have hB4:=Xb hB hb4
    have hBw4:=Xb hBw hb4
    cases f
    ·have HF2:=Xa (HF.out rfl)
     clear HF HT2
     go_wp2_with fail
     go_ret
     exact⟨by rw[HE.out,HF2.out];rfl,hBw4⟩
    ·have HT3:=Xa (HT2.out rfl)
     clear HF HT2
     go_wp2_with fail
     go_roundw
     case rel=>exact⟨k+1,by omega,by go_num,hB4,HT3⟩
     case measure=>simp[intOf];omega
   ·have HE2:Hid (Zo g n x=Ur g x):=by
     have h:=HT.out
     rw[List.take_of_length_le (by omega)] at h
     show _=_
     rw[HE.out,h];rfl
    have c1:wr.cell? ⟨w.heap.size,1,none⟩=some (.slice g.cats.addr g.cats.xs.length g.cats.cap):=gblk hkg 1
    clear HT HE hkx hkg
    by_cases hc:x.cat = -1
    ·have g1:(x.cat == -1)=true:=by simp[hc]
     have HE3:Hid (Ur g x=(decide (x.unt=x.frm+1) && decide (x.cost=0) && decide (x.tgt.xs.length=1))):=by show _=_;unfold Ur;rw[if_pos hc]
     have r1:=Z8 x.unt (x.frm+1)
     have r2:=Z8 x.cost 0
     have r3:((x.tgt.xs.length:Int) == 1)=decide (x.tgt.xs.length=1):=by rw[Z8];exact decide_eq_decide.2 (by omega)
     generalize decide (x.unt=x.frm+1)=f1 at *
     generalize decide (x.cost=0)=f2 at *
     generalize decide (x.tgt.xs.length=1)=f3 at *
     clear hc
     cases f1<;>cases f2<;>cases f3
     all_goals
      go_wp2_with fail
      go_ret
      exact⟨by rw[HE2.out,HE3.out];rfl,hBw⟩
    ·have g1:(x.cat == -1)=false:=by simpa using hc
     have HE3:Hid (Ur g x=((decide (0≤x.cat) && decide (x.cat<g.cats.xs.length)) && (decide (0≤x.cost) && decide (x.cost≤1000)))):=by show _=_;unfold Ur;rw[if_neg hc]
     clear hc
     by_cases r1:x.cat≥0
     rotate_left
     ·have HE4:Hid (Ur g x=false):=by show _=_;rw[HE3.out,decide_eq_false r1];rfl
      clear HE3
      go_wp2_with fail
      go_ret
      exact⟨by rw[HE2.out,HE4.out];rfl,hBw⟩
     by_cases r2:x.cat<(g.cats.xs.length:Int)
     rotate_left
     ·have HE4:Hid (Ur g x=false):=by show _=_;rw[HE3.out,decide_eq_false r2];simp
      clear HE3
      go_wp2_with fail
      go_ret
      exact⟨by rw[HE2.out,HE4.out];rfl,hBw⟩
     by_cases r3:x.cost≥0
     rotate_left
     ·have HE4:Hid (Ur g x=false):=by show _=_;rw[HE3.out,decide_eq_false r3];simp
      clear HE3
      go_wp2_with fail
      go_ret
      exact⟨by rw[HE2.out,HE4.out];rfl,hBw⟩
     by_cases r4:x.cost≤1000
     ·have HE4:Hid (Ur g x=true):=by show _=_;rw[HE3.out,decide_eq_true (show 0≤x.cat from r1),decide_eq_true r2,decide_eq_true (show 0≤x.cost from r3),decide_eq_true r4];rfl
      clear HE3
      go_wp2_with fail
      go_ret
      exact⟨by rw[HE2.out,HE4.out];rfl,hBw⟩
     ·have HE4:Hid (Ur g x=false):=by show _=_;rw[HE3.out,decide_eq_false r4];simp
      clear HE3
      go_wp2_with fail
      go_ret
      exact⟨by rw[HE2.out,HE4.out];rfl,hBw⟩
def Q1 (n:Int):List PanicEntry:=[{v:=.iface 33 (.int .i64 n),recovered:=false}]
theorem Zz (b:Bool) (k:Int) (w:World) (h:b=true):Calls Tryz.prog 124 #[.bool b,.int .i64 k] w fun e w'=>e = .returned (.tuple #[])∧w=w':=by
 subst h
 go_enter Tryz.func124,Tryz.ntmps124
 go_wp2
 go_end0
 exact⟨rfl,rfl⟩
theorem Yg (b:Bool) (k:Int) (w:World) (h:b=false):Calls Tryz.prog 124 #[.bool b,.int .i64 k] w fun e w'=>e = .panicked (Q1 k)∧w=w':=by
 subst h
 go_enter Tryz.func124,Tryz.ntmps124
 go_wp2
 exact⟨rfl,rfl,rfl⟩
theorem Xob (s:ByteArray) (w:World) (hT:Tabs w):Calls Tryz.prog 125 #[.string s] w fun e w'=>e = .returned (.bool (!Yi s))∧Below w.heap.size w w':=by
 go_enter Tryz.func125,Tryz.ntmps125
 go_wp2_with fail
 refine(Xq6 s w hT).mono ?_
 rintro e w1 ⟨rfl,hb1⟩
 go_wp2_with fail
 go_ret
 exact⟨by simp,hb1⟩
theorem Zd (b:Nat) (w:World) :
  CallsD Tryz.prog 65 #[.pointer (some ⟨b,0,none⟩)] .returning w fun e u' w'=>u' = .returning∧e = .returned (.tuple #[])∧w'=w:=by
 refine callsD_of_wpS Tryz.func65 rfl fun c₀ cs hu=>?_
 simp only[Tryz.ntmps65,List.size_toArray,List.length_cons,List.length_nil,Nat.reduceAdd,Nat.reduceSub,Array.replicate_succ,Array.replicate_zero,List.push_toArray,List.append_toArray,List.nil_append,List.cons_append]
 apply wpS_seq
 apply wpS_region
 simp[wpOpsS,go_sem,recoverD,hu,Exit.thenS]
 refine wpS_of_wp ?_
 go_wp2
 cases c₀
 simp_all [bodyPostS,results,Tryz.results65]
def Xo5 (n:Int) (b:Nat) (w:World) (e:Ending) (u':FrameMode) (w':World):Prop :=
 u' = .panicking [{v:=.iface 33 (.int .i64 n),recovered:=true}]∧e = .returned (.tuple #[])∧w'=w.setCell ⟨b,0,none⟩ (.int .i64 n)
theorem Us (b:Nat) (v:Value) (n:Int) (w:World) (h1:w.heap[b]? = some (.cells #[v] 33 (0,0))) :
  CallsD Tryz.prog 65 #[.pointer (some ⟨b,0,none⟩)] (.panicking (Q1 n)) w (Xo5 n b w):=by
 have c1:=Xj h1
 have f1:=Xf h1 0
 have hta:∀w,(Instr.typeAssert (.iface 33 (.int .i64 n)) 20 33 true).run Tryz.prog w = .ok (.tuple #[.int .i64 n,.bool true]) w:=fun _=>by kernel_rfl
 unfold Q1
 refine callsD_of_wpS Tryz.func65 rfl fun c₀ cs hu=>?_
 simp only[Tryz.ntmps65,List.size_toArray,List.length_cons,List.length_nil,Nat.reduceAdd,Nat.reduceSub,Array.replicate_succ,Array.replicate_zero,List.push_toArray,List.append_toArray,List.nil_append,List.cons_append]
 apply wpS_seq
 apply wpS_region
 simp[wpOpsS,go_sem,recoverD,hu,Exit.thenS]
 refine wpS_of_wp ?_
 go_wp2
 exact⟨rfl,_,rfl,_,results_none rfl _ _ _,rfl,rfl,rfl⟩
end Go.Proofs.YtolpbjjapodmnaaGreatDoor
namespace Go.Proofs.YtolpbjjapodmnaaGreatDoor
open Go.RowKit Go.Han
set_option maxRecDepth 100000
def Tw (x:ItemG):ByteArray:=match x.tgt.xs with|y :: _=>y|[]=>⟨#[]⟩
def Yq (l:List ItemG) (i:Int):List ByteArray:=(l.filter fun x=>decide (x.cat = -1) && decide (x.frm=i)).map Tw
theorem Qp (l:List ItemG) (x:ItemG) (i:Int):Yq (l++[x]) i=Yq l i++(if x.cat = -1∧x.frm=i then [Tw x] else []):=by
 unfold Yq
 rw[List.filter_append,List.map_append]
 congr 1
 by_cases h:x.cat = -1∧x.frm=i
 ·rw[if_pos h,List.filter_cons_of_pos (by simp[h.1,h.2])];rfl
 ·rw[if_neg h,List.filter_cons_of_neg (by simpa using h)];rfl
theorem Xaj:∀(l:List ItemG) (i:Int) (s:ByteArray),(∀x∈l,x.cat = -1→x.tgt.xs≠[])→((Yq l i).any fun y=>decide (y=s))=Xm l i s
 | [],_,_,_=>rfl
 | x :: l,i,s,h=>by
  have ih:=Xaj l i s fun y hy=>h y (List.mem_cons_of_mem _ hy)
  have hx:=h x (List.mem_cons_self ..)
  unfold Xm at ih ⊢
  rw[List.any_cons,← ih]
  unfold Yq
  by_cases hc:x.cat = -1∧x.frm=i
  ·rw[List.filter_cons_of_pos (by simp[hc.1,hc.2]),List.map_cons,List.any_cons]
   congr 1
   have:=hx hc.1
   cases hxs:x.tgt.xs with
   | nil=>exact absurd hxs this
   | cons y ys=>simp[Tw,hxs,hc.1,hc.2]
  ·rw[List.filter_cons_of_neg (by simpa using hc)]
   have:(decide (x.cat = -1) && decide (x.frm=i))=false:=by simpa using hc
   rw[this];simp
theorem Xj4:∀(l:List ItemG) (i:Int),(Yq l i).length≤l.length:=fun l i=>by
 unfold Yq;rw[List.length_map];exact List.length_filter_le _ _
def strC (b:ByteArray):List Value:=[.string b]
abbrev Xma (V:World) (B:Nat) (v:Value) (l:List ByteArray):Prop:=OwnL strC 9 1 V B v l
def RowOk (B:Nat) (V:World) (o:Option KidS) (ws:List ByteArray):Prop :=
 match o with
 | none=>ws=[]
 | some v=>ws≠[]∧Xma V B v.val ws
def WRows (B wb:Nat) (l:List ItemG) (V:World):Prop :=
 ∃(n:Nat) (f:Int→Option KidS),n≤l.length∧MapF V intW slcShape wb n f∧(∀i,RowOk B V (f i) (Yq l i))∧∀i i' v v' b,i≠i'→f i=some v→f i'=some v'→v.val.ownBlock=some b→v'.val.ownBlock≠some b
theorem WRows.start (B:Nat) (W:World):WRows B W.heap.size [] (W.alloc (.map #[] 0)):=⟨0,fun _=>none,Nat.le_refl _,MapF.made W intW slcShape,fun _=>rfl,fun _ _ _ _ _ _ h=>by cases h⟩
theorem RowOk.keep {B:Nat} {V V':World} {o:Option KidS} {ws:List ByteArray} (h:RowOk B V o ws) (hb:∀v g,o=some v→v.val.ownBlock=some g→V'.heap[g]? = V.heap[g]?):RowOk B V' o ws:=by
 cases o with
 | none=>exact h
 | some v=>exact⟨h.1,h.2.block fun g hg=>hb v g rfl hg⟩
theorem RowOk.lt {B:Nat} {V:World} {v:KidS} {ws:List ByteArray} (h:RowOk B V (some v) ws) {g:Nat} (hg:v.val.ownBlock=some g):B≤g∧g<V.heap.size:=h.2.lt g hg
theorem WRows.ext {B wb:Nat} {l:List ItemG} {V V':World} (h:WRows B wb l V) (hb:Below V.heap.size V V'):WRows B wb l V':=by
 obtain⟨n,f,h1,h2,h3,h4⟩:=h
 exact⟨n,f,h1,h2.of_block (hb.block _ h2.lt),fun i=>(h3 i).keep fun v g e hg=>hb.block g (by have:=h3 i;rw[e] at this;exact(this.lt hg).2),h4⟩
theorem WRows.skip {B wb:Nat} {l:List ItemG} {V:World} (h:WRows B wb l V) {x:ItemG} (hx:x.cat ≠ -1):WRows B wb (l++[x]) V:=by
 obtain⟨n,f,h1,h2,h3,h4⟩:=h
 exact⟨n,f,by rw[List.length_append];omega,h2,fun i=>by rw[Qp,if_neg (fun h=>hx h.1),List.append_nil];exact h3 i,h4⟩
theorem WRows.look {B wb:Nat} {l:List ItemG} {V:World} (h:WRows B wb l V) (i:Int) (h1 : -4611686018427387904≤i) (h2:i≤4611686018427387904) :
  ∃v:KidS,(∀W:World,W.heap[wb]? = V.heap[wb]? → (Instr.lookup 181 (.map (some wb)) (.int .i64 i) false).run Tryz.prog W = .ok (v.val) W)∧Xma V B v.val (Yq l i):=by
 obtain⟨n,f,hn,hm,hr,hd⟩:=h
 refine⟨(f i).getD ⟨none,0,0⟩,fun W hW=>Uw U8 T1 intW slcShape ⟨none,0,0⟩ (Xaz W) (hm.of_block hW) i (Tc h1 h2),?_⟩
 have hi:=hr i
 cases hf:f i with
 | none =>
  rw[hf] at hi
  rw[show Yq l i=[] from hi]
  exact OwnL.nil _ _ _ _ _
 | some v=>rw[hf] at hi;exact hi.2
theorem WRows.store {B wb:Nat} {l:List ItemG} {U w1:World} (h:WRows B wb l U) {x:ItemG} (hx:x.cat = -1) (h1 : -4611686018427387904≤x.frm) (h2:x.frm≤4611686018427387904) (hl:l.length<100000) {v v':KidS} (hv:Xma U B v.val (Yq l x.frm))
  (hlook:(Instr.lookup 181 (.map (some wb)) (.int .i64 x.frm) false).run Tryz.prog U = .ok (v.val) U) (ho:Xma w1 B v'.val (Yq l x.frm++[Tw x])) (hg:U.grownBy w1 v.val.ownBlock) (hat:v'.val.ownBlock=v.val.ownBlock∨v'.val.ownBlock=some U.heap.size) (hwb:wb<B) :
  ∃w2,(Instr.mapUpdate 181 (.map (some wb)) (.int .i64 x.frm) v'.val).run Tryz.prog w1 = .ok () w2∧WRows B wb (l++[x]) w2∧Only (fun b=>b=wb∨v.val.ownBlock=some b) U w2:=by
 obtain⟨n,f,hn,hm,hr,hd⟩:=h
 have hlv:=Uw U8 T1 intW slcShape ⟨none,0,0⟩ (Xaz U) hm x.frm (Tc h1 h2)
 have hlv2:(Instr.lookup 181 (.map (some wb)) (.int .i64 x.frm) false).run Tryz.prog U = .ok ((f x.frm).getD ⟨none,0,0⟩).val U:=hlv
 obtain rfl:v=(f x.frm).getD ⟨none,0,0⟩:=Xi1 _ _ (by
  rw[hlook] at hlv2
  injection hlv2)
 have hrow:∀g,((f x.frm).getD ⟨none,0,0⟩).val.ownBlock=some g→B≤g∧g<U.heap.size:=fun g hg'=>hv.lt g hg'
 have hm1:MapF w1 intW slcShape wb n f:=hm.of_block (hg.block _ hm.lt fun e=>by have:=(hrow wb e.symm).1;omega)
 obtain⟨w2,hrun,hm2,hg2,hz2⟩:=hm1.store _ U8 T1 (by unfold maxLen;omega) x.frm v' (Tc h1 h2)
 have hO2:∀b,b<w1.heap.size→b≠wb→w2.heap[b]? = w1.heap[b]? := fun b hb hn=>hg2.block b hb fun e=>hn (by have:=Option.some.inj e;exact this)
 refine⟨w2,hrun,⟨n+1,_,by rw[List.length_append];simp;omega,hm2,fun i=>?_,?_⟩,⟨hg2.os.trans hg.os,hg2.tape.trans hg.tape,hg2.output.trans hg.output,by have:=hg.size;omega,fun b hb hn=>(hO2 b (Nat.lt_of_lt_of_le hb hg.size) fun e=>hn (.inl e)).trans (hg.block b hb fun e=>hn (.inr e.symm))⟩⟩
 ·show RowOk B w2 (if i=x.frm then some v' else f i) _
  by_cases hi:i=x.frm
  ·subst hi
   rw[if_pos rfl,Qp,if_pos ⟨hx,rfl⟩]
   exact⟨by simp,ho.block fun g hg'=>hO2 g (ho.lt g hg').2 (by have:=(ho.lt g hg').1;omega)⟩
  ·rw[if_neg hi,Qp,if_neg (fun h=>hi h.2.symm),List.append_nil]
   refine(hr i).keep fun u g e hg'=>?_
   have hri:=hr i
   rw[e] at hri
   have hlt:=hri.lt hg'
   refine(hO2 g (Nat.lt_of_lt_of_le hlt.2 hg.size) (by omega)).trans (hg.block g hlt.2 fun e2=>?_)
   cases hfx:f x.frm with
   | none=>rw[hfx] at e2;simp[KidS.val,Value.ownBlock] at e2
   | some y=>rw[hfx] at e2;exact hd i x.frm u y g hi e hfx hg' e2.symm
 ·intro i i' u u' b hne hi hi' hb hb'
  have key:∀(j:Int) (y:KidS),j≠x.frm→f j=some y→y.val.ownBlock=some b→v'.val.ownBlock=some b→False:=by
   intro j y hj hy hyb hvb
   have hrj:=hr j
   rw[hy] at hrj
   have hlt:=hrj.lt hyb
   rcases hat with e|e
   ·rw[e] at hvb
    cases hfx:f x.frm with
    | none=>rw[hfx] at hvb;simp[KidS.val,Value.ownBlock] at hvb
    | some z=>rw[hfx] at hvb;exact hd j x.frm y z b hj hy hfx hyb hvb
   ·rw[e] at hvb
    have:=Option.some.inj hvb
    omega
  change (if i=x.frm then some v' else f i)=some u at hi
  change (if i'=x.frm then some v' else f i')=some u' at hi'
  by_cases e1:i=x.frm
  ·rw[if_pos e1] at hi
   cases hi
   rw[if_neg (fun e=>hne (e1.trans e.symm))] at hi'
   exact key i' u' (fun e=>hne (e1.trans e.symm)) hi' hb' hb
  ·rw[if_neg e1] at hi
   by_cases e2:i'=x.frm
   ·rw[if_pos e2] at hi'
    cases hi'
    exact key i u e1 hi hb hb'
   ·rw[if_neg e2] at hi'
    exact hd i i' u u' b hne hi hi' hb hb'
theorem WRows.done {B wb kb:Nat} {l:List ItemG} {V:World} (h:WRows B wb l V) (hl:∀x∈l,x.cat = -1→x.tgt.xs≠[]) (hkb:kb<B):WordsM (fun b=>b<V.heap.size∧b≠kb) V wb l:=by
 obtain⟨n,f,hn,hm,hr,hd⟩:=h
 refine⟨n,f,hm,fun i=>?_⟩
 have hri:=hr i
 cases hf:f i with
 | none =>
  rw[hf] at hri
  intro s
  rw[← Xaj l i s hl,show Yq l i=[] from hri];rfl
 | some v =>
  rw[hf] at hri
  obtain⟨h1,h2⟩:=hri
  obtain⟨A,cp,e,hrd,hnil⟩:=h2.form (by decide)
  have e3:v.addr=A∧v.len=(Yq l i).length∧v.cap=cp:=by simpa[KidS.val] using e
  have hcap:(Yq l i).length≤cp∧cp≤9223372036854775807∧∃b off,A=some ⟨b,off,none⟩∧B≤b∧b<V.heap.size:=by
   rcases h2.2 with ⟨_,h4⟩|⟨g9,c9,cur,q1,q2,q3,q4,q5,_⟩
   ·exact absurd (List.eq_nil_of_length_eq_zero h4) h1
   ·rw[e] at q1
    injection q1 with q6 _ q7
    subst q7
    exact⟨q4,by unfold maxLen at q5;omega,g9,0,q6,q2,Xc q3⟩
  obtain⟨hc1,hc2,b,off,hA,hb1,hb2⟩:=hcap
  refine⟨Yq l i,e3.2.1,?_,⟨b,off,e3.1.trans hA,hb2,by omega⟩,fun s=>Xaj l i s hl⟩
  rw[e3.1,e3.2.2]
  exact⟨by show Rd V A (strs (Yq l i));unfold strs;rw[List.map_eq_flatMap];exact hrd,hc1,hc2,hnil⟩
end Go.Proofs.YtolpbjjapodmnaaGreatDoor
namespace Go.Proofs.YtolpbjjapodmnaaGreatDoor
open Go.RowKit Go.Han
attribute [local irreducible] wpStill wpQuiet
set_option maxRecDepth 100000
def Xl7 (g:Gram) (its:SlS ItemG) (n:Int) (w:World) (e:Ending) (w':World):Prop :=
 Below w.heap.size w w'∧((errC g its.xs n≠0∧e = .panicked (Q1 (errC g its.xs n))) ∨
  (errC g its.xs n=0∧∃cb kb wb top,e = .returned (.pointer (some ⟨cb,0,none⟩))∧ChEnv w cb kb wb top g its n.toNat w'∧∀X,KnownF X g its.xs n.toNat kb (fun _=>none) w'))
theorem Xrc {l:List ItemG} {P:ItemG→Bool} {j:Nat} (h:j<l.length) (hp:P l[j]=false):l.all P=false:=by
 rw[List.all_eq_false];exact⟨l[j],List.getElem_mem h,by rw[hp];simp⟩
theorem Xrj {x:ItemG} (h:0<x.tgt.xs.length):x.tgt.xs[0]=Tw x:=by
 have h1:x.tgt.xs[0]? = some (Tw x):=by
  unfold Tw
  generalize x.tgt.xs=l at h ⊢
  cases l with
  | nil=>simp at h
  | cons y ys=>rfl
 exact(List.getElem?_eq_some_iff.1 h1).2
theorem Xnr:(Tryz.prog.info? 9).map (fun i=>(i.zero,i.size,i.bytes))=some (some (.string ⟨#[]⟩),1,16):=by kernel_rfl
set_option maxHeartbeats 4000000 in
theorem Xgo (g:Gram) (its:SlS ItemG) (n:Int) (w:World) (hT:TabsG w) (hg:g.lies w) (hs:g.short) (hi:ItemsAt w its):Calls Tryz.prog 66 #[.agg #[.string g.name,.slice g.cats.addr g.cats.xs.length g.cats.cap,.string g.start,.int .i64 g.startNo,.slice g.entries.addr g.entries.xs.length g.entries.cap,.slice g.rules.addr g.rules.xs.length g.rules.cap],.slice its.addr its.xs.length its.cap,.int .i64 n] w (Xl7 g its n w):=by
 obtain⟨W1,hW1⟩:∃W1,w.alloc (.cells #[.string g.name,.slice g.cats.addr g.cats.xs.length g.cats.cap,.string g.start,.int .i64 g.startNo,.slice g.entries.addr g.entries.xs.length g.entries.cap,.slice g.rules.addr g.rules.xs.length g.rules.cap] 26)=W1:=⟨_,rfl⟩
 have hB1:=Yn hW1
 have hk:=Yv hW1
 have cC:=Xa (Xf5 g W1 (hT.ext hB1) (hg.ext hB1) hs)
 obtain⟨c0,c1,c2,c3,c4,c5⟩:=gb6 hk
 have Hk:=Xa hk
 have HB1:=Xa hB1
 clear hk hB1
 have HE:Hid (errC g its.xs n=if Ys g≠0 then Ys g else if n<1∨16<n then 1 else if 16384<its.xs.length then 2 else if its.xs.all (Zo g n) then 0 else 280):=rfl
 by_cases h0:Ys g=0
 rotate_left
 ·have hE:errC g its.xs n=Ys g:=by rw[HE.out,if_pos h0]
  have q0:(Ys g == 0)=false:=by simpa using h0
  go_enter Tryz.func66,Tryz.ntmps66
  go_wp2_with fail
  refine cC.out.mono ?_
  rintro e w2 ⟨rfl,hb2⟩
  go_wp2_with fail
  refine(Yg _ _ _ (by simp)).mono ?_
  rintro e w' ⟨rfl,rfl⟩
  exact⟨rfl,Xb HB1.out hb2,.inl ⟨by rw[hE];exact h0,by rw[hE]⟩⟩
 rw[h0] at cC
 by_cases hn:n<1∨16<n
 ·have hE:errC g its.xs n=1:=by rw[HE.out,if_neg (by simpa using h0),if_pos hn]
  have Hn:=Xa hn
  clear hn h0
  go_enter Tryz.func66,Tryz.ntmps66
  go_wp2_with fail
  refine cC.out.mono ?_
  rintro e w2 ⟨rfl,hb2⟩
  go_wp2_with fail
  refine(Zz _ _ _ (by simp)).mono ?_
  rintro e w' ⟨rfl,rfl⟩
  by_cases h1:n<1
  ·have h2:¬1≤n:=by omega
   go_wp2_with fail
   refine(Yg _ _ _ (by simp)).mono ?_
   rintro e w' ⟨rfl,rfl⟩
   exact⟨rfl,Xb HB1.out hb2,.inl ⟨by rw[hE];decide,by rw[hE]⟩⟩
  ·have h2:1≤n:=by omega
   have h3:¬n≤16:=by have:=Hn.out;omega
   go_wp2_with fail
   refine(Yg _ _ _ (by simp;omega)).mono ?_
   rintro e w' ⟨rfl,rfl⟩
   exact⟨rfl,Xb HB1.out hb2,.inl ⟨by rw[hE];decide,by rw[hE]⟩⟩
 have n1:1≤n:=by omega
 have n2:n≤16:=by omega
 by_cases hm:16384<its.xs.length
 ·have hE:errC g its.xs n=2:=by rw[HE.out,if_neg (by simpa using h0),if_neg hn,if_pos hm]
  have hm2:¬(its.xs.length:Int)≤16384:=by omega
  clear h0 hn
  go_enter Tryz.func66,Tryz.ntmps66
  go_wp2_with fail
  refine cC.out.mono ?_
  rintro e w2 ⟨rfl,hb2⟩
  go_wp2_with fail
  refine(Zz _ _ _ (by simp)).mono ?_
  rintro e w' ⟨rfl,rfl⟩
  go_wp2_with fail
  refine(Zz _ _ _ (by simp)).mono ?_
  rintro e w' ⟨rfl,rfl⟩
  go_wp2_with fail
  refine(Yg _ _ _ (by simp;omega)).mono ?_
  rintro e w' ⟨rfl,rfl⟩
  exact⟨rfl,Xb HB1.out hb2,.inl ⟨by rw[hE];decide,by rw[hE]⟩⟩
 have hE:errC g its.xs n=if its.xs.all (Zo g n) then 0 else 280:=by rw[HE.out,if_neg (by simpa using h0),if_neg hn,if_neg hm]
 have HE2:=Xa hE
 have hm2:(its.xs.length:Int)≤16384:=by omega
 clear h0 hn HE hE
 go_enter Tryz.func66,Tryz.ntmps66
 go_wp2_with fail
 refine cC.out.mono ?_
 rintro e w2 ⟨rfl,hb2⟩
 have Hk2:=Xa (Xh hb2 Hk.out)
 have hk2:=Hk2.out
 obtain⟨d0,d1,d2,d3,d4,d5⟩:=gb6 hk2
 clear hk2
 go_wp2_with fail
 refine(Zz _ _ _ (by simp)).mono ?_
 rintro e w' ⟨rfl,rfl⟩
 go_wp2_with fail
 refine(Zz _ _ _ (by simp)).mono ?_
 rintro e w' ⟨rfl,rfl⟩
 go_wp2_with fail
 refine(Zz _ _ _ (by simp)).mono ?_
 rintro e w' ⟨rfl,rfl⟩
 have hmm:=@run_makeMap Tryz.prog
 obtain⟨w3,hw3⟩:∃w3,w2.alloc (.map #[] 0)=w3:=⟨_,rfl⟩
 obtain⟨w4,hw4⟩:∃w4,w3.alloc (.map #[] 0)=w4:=⟨_,rfl⟩
 obtain⟨w5,hw5⟩:∃w5,w4.alloc (.cells #[.string g.name,.slice g.cats.addr g.cats.xs.length g.cats.cap,.string g.start,.int .i64 g.startNo,.slice g.entries.addr g.entries.xs.length g.entries.cap,.slice g.rules.addr g.rules.xs.length g.rules.cap,.slice its.addr its.xs.length its.cap,.int .i64 n,.map (some w2.heap.size),.map (some w3.heap.size)] 183)=w5:=⟨_,rfl⟩
 have hb3:=Yn hw3
 have hb4:=Yn hw4
 have hb5:=Yn hw5
 have hz3:w3.heap.size=w2.heap.size+1:=by rw[← hw3];simp
 have hz4:w4.heap.size=w3.heap.size+1:=by rw[← hw4];simp
 have hz5:w5.heap.size=w4.heap.size+1:=by rw[← hw5];simp
 have hm3:MapF w3 Uy foundShape w2.heap.size 0 (fun _=>none):=by rw[← hw3];exact MapF.made w2 Uy foundShape
 have hr4:WRows w5.heap.size w3.heap.size [] w4:=by rw[← hw4];exact WRows.start _ _
 have hc5:=Yv hw5
 have hb25:=Xb hb3 (Xb hb4 hb5)
 have hB5:=Xb HB1.out (Xb hb2 hb25)
 have hk5:=Xh hb25 Hk2.out
 have Hm5:=Xa (hm3.of_block ((Xb hb4 hb5).block _ hm3.lt))
 have Hr5:=Xa (hr4.ext hb5)
 have HB5:=Xa hB5
 have Hc5:=Xa hc5
 have Hk5:=Xa hk5
 have hws:w.heap.size≤w2.heap.size:=by have:=HB1.out.size;have:=hb2.size;omega
 have z3:w3.heap.size≤w2.heap.size+1∧w2.heap.size+1≤w3.heap.size:=by omega
 have z4:w4.heap.size≤w2.heap.size+2∧w2.heap.size+2≤w4.heap.size:=by omega
 have z5:w5.heap.size≤w2.heap.size+3∧w2.heap.size+3≤w5.heap.size:=by omega
 have HT:=Xa hT
 have Hit:=Xa hi
 have hgfew:g.cats.xs.length≤9223372036854775807:=Nat.le_trans hg.cats.cap hg.cats.max
 clear hb3 hb4 hb5 hz3 hz4 hz5 hm3 hr4 hc5 hb25 hB5 hk5 hb2 hT hi hg hs hW1 cC
 go_wp2_with fail
 clear hw3 hw4 hw5 hmm d0 d1 d2 d3 d4 d5
 go_loopw [39] (fun iv wr=>∃j:Nat,j≤its.xs.length∧iv = .int .i64 j∧Only (fun b=>b=w3.heap.size) w5 wr∧Hid (WRows w5.heap.size w3.heap.size (its.xs.take j) wr)∧Hid ((its.xs.take j).all (Zo g n)=true)) (fun iv _=>its.xs.length-(intOf iv).toNat)
 case atStart=>exact⟨0,Nat.zero_le _,rfl,Only.refl _ _,Hr5.out,rfl⟩
 case round =>
  obtain⟨j,hj,rfl,hO,hR,hall⟩:=hrel
  have hBr:Below w.heap.size w wr:=⟨hO.os.trans HB5.out.os,hO.tape.trans HB5.out.tape,hO.output.trans HB5.out.output,Nat.le_trans HB5.out.size hO.size,fun b hb=>(hO.block b (by have:=HB5.out.size;omega) (by show b≠w3.heap.size;omega)).trans (HB5.out.block b hb)⟩
  by_cases hlt:j<its.xs.length
  ·have hal:=Hit.out.ext hBr
   obtain⟨bi,oi,hA,hbb,hcl⟩:=hal.lies.at_ ItemG.size_cells (by omega) hlt
   have d0:wr.cell? ⟨bi,oi+j*6,none⟩=some (.int .i64 its.xs[j].cat):=hcl j hlt wr (Below.refl _ _) 0 _ rfl
   have d1:wr.cell? ⟨bi,oi+j*6+1,none⟩=some (.int .i64 its.xs[j].frm):=hcl j hlt wr (Below.refl _ _) 1 _ rfl
   have d2:wr.cell? ⟨bi,oi+j*6+2,none⟩=some (.int .i64 its.xs[j].unt):=hcl j hlt wr (Below.refl _ _) 2 _ rfl
   have d3:wr.cell? ⟨bi,oi+j*6+3,none⟩=some (.int .i64 its.xs[j].cost):=hcl j hlt wr (Below.refl _ _) 3 _ rfl
   have d4:wr.cell? ⟨bi,oi+j*6+4,none⟩=some (.slice its.xs[j].tgt.addr its.xs[j].tgt.xs.length its.xs[j].tgt.cap):=hcl j hlt wr (Below.refl _ _) 4 _ rfl
   have d5:wr.cell? ⟨bi,oi+j*6+5,none⟩=some (.int .i64 its.xs[j].term):=hcl j hlt wr (Below.refl _ _) 5 _ rfl
   have hxl:=hal.tgt _ (List.getElem_mem hlt)
   have htk:its.xs.take (j+1)=its.xs.take j++[its.xs[j]]:=List.take_succ_eq_append_getElem hlt
   have Htk:=Xa htk
   rw[hA]
   obtain⟨x,hx⟩:∃x,its.xs[j]=x:=⟨_,rfl⟩
   have Hx:=Xa hx
   rw[hx] at d0 d1 d2 d3 d4 d5 hxl Htk
   obtain⟨w6,hw6⟩:∃w6,wr.alloc (.cells #[.int .i64 x.cat,.int .i64 x.frm,.int .i64 x.unt,.int .i64 x.cost,.slice x.tgt.addr x.tgt.xs.length x.tgt.cap,.int .i64 x.term] 53)=w6:=⟨_,rfl⟩
   have hb6:=Yn hw6
   have hx6:=Yv hw6
   have hk6:=(hb6.block _ (by have:=hO.size;have:=Xc Hk5.out;omega)).trans ((hO.block _ (Xc Hk5.out) (by show w.heap.size≠w3.heap.size;have:=Xc Hk2.out;omega)).trans Hk5.out)
   have cF:=Xgv x.tgt.addr x.tgt.cap x.tgt.xs 125 #[] (fun y => !Yi y) w6 (by have h:=(StrS.lies.ext hxl hb6).rd;rwa [show strs x.tgt.xs=x.tgt.xs.flatMap (fun b:ByteArray=>[Value.string b]) from by unfold strs;rw[List.map_eq_flatMap]] at h) (Nat.le_trans hxl.cap hxl.max) (enters_of Tryz.func125 (by kernel_rfl) rfl) (fun V hV y _=>Xob y V (HT.out.ext (Xb hBr (Xb hb6 hV))).u)
   have cF:=Xa cF
   obtain⟨a0,a1,a2,a3,a4,a5⟩:=gb6 hx6
   obtain⟨b0,b1,b2,b3,b4,b5⟩:=gb6 hk6
   have HB6:=Xa hb6
   have Hx6:=Xa hx6
   have Hk6:=Xa hk6
   have Hxl:=Xa hxl
   clear hal hcl hA hx hxl htk hb6 hx6 hk6
   by_cases hRt:Zo g n x=true
   rotate_left
   ·have hR0:Zo g n x=false:=by simpa using hRt
    have hErr:errC g its.xs n=280:=by rw[HE2.out,if_neg (by rw[Xrc hlt (by rw[Hx.out];exact hR0)];simp)]
    have HErr:=Xa hErr
    have HR0:=Xa hR0
    clear hErr hR0 hRt
    by_cases q0:x.frm<0
    ·have u:¬0≤x.frm:=by omega
     go_wp2_with fail
     refine(Yg _ _ _ (by first|rfl|(simp;done)|(simp;omega)|assumption)).mono ?_
     rintro e w' ⟨rfl,rfl⟩
     exact⟨rfl,Xb hBr HB6.out,.inl ⟨by rw[HErr.out];decide,by rw[HErr.out]⟩⟩
    have p0:0≤x.frm:=by omega
    by_cases q1:x.unt≤x.frm
    ·have u:¬x.frm<x.unt:=by omega
     go_wp2_with fail
     refine(Yg _ _ _ (by first|rfl|(simp;done)|(simp;omega)|assumption)).mono ?_
     rintro e w' ⟨rfl,rfl⟩
     exact⟨rfl,Xb hBr HB6.out,.inl ⟨by rw[HErr.out];decide,by rw[HErr.out]⟩⟩
    have p1:x.frm<x.unt:=by omega
    by_cases q2:n<x.unt
    ·have u:¬x.unt≤n:=by omega
     go_wp2_with fail
     refine(Yg _ _ _ (by first|rfl|(simp;done)|(simp;omega)|assumption)).mono ?_
     rintro e w' ⟨rfl,rfl⟩
     exact⟨rfl,Xb hBr HB6.out,.inl ⟨by rw[HErr.out];decide,by rw[HErr.out]⟩⟩
    have p2:x.unt≤n:=by omega
    by_cases q3:x.term < -1
    ·have u:¬ -1≤x.term:=by omega
     go_wp2_with fail
     refine(Yg _ _ _ (by first|rfl|(simp;done)|(simp;omega)|assumption)).mono ?_
     rintro e w' ⟨rfl,rfl⟩
     exact⟨rfl,Xb hBr HB6.out,.inl ⟨by rw[HErr.out];decide,by rw[HErr.out]⟩⟩
    have p3 : -1≤x.term:=by omega
    by_cases q4:1048576<x.term
    ·have u:¬x.term≤1048576:=by omega
     go_wp2_with fail
     refine(Yg _ _ _ (by first|rfl|(simp;done)|(simp;omega)|assumption)).mono ?_
     rintro e w' ⟨rfl,rfl⟩
     exact⟨rfl,Xb hBr HB6.out,.inl ⟨by rw[HErr.out];decide,by rw[HErr.out]⟩⟩
    have p4:x.term≤1048576:=by omega
    by_cases q5:x.tgt.xs.length<1
    ·have u:¬(1:Int)≤(x.tgt.xs.length:Int):=by omega
     go_wp2_with fail
     refine(Yg _ _ _ (by first|rfl|(simp;done)|(simp;omega)|assumption)).mono ?_
     rintro e w' ⟨rfl,rfl⟩
     exact⟨rfl,Xb hBr HB6.out,.inl ⟨by rw[HErr.out];decide,by rw[HErr.out]⟩⟩
    have p5:(1:Int)≤(x.tgt.xs.length:Int):=by omega
    by_cases q6:4<x.tgt.xs.length
    ·have u:¬(x.tgt.xs.length:Int)≤4:=by omega
     go_wp2_with fail
     refine(Yg _ _ _ (by first|rfl|(simp;done)|(simp;omega)|assumption)).mono ?_
     rintro e w' ⟨rfl,rfl⟩
     exact⟨rfl,Xb hBr HB6.out,.inl ⟨by rw[HErr.out];decide,by rw[HErr.out]⟩⟩
    have p6:(x.tgt.xs.length:Int)≤4:=by omega
    have p9:1≤x.tgt.xs.length:=by omega
    have p10:x.tgt.xs.length≤4:=by omega
    by_cases qw:x.tgt.xs.any (fun y => !Yi y)=true
    ·rw[qw] at cF
     go_wp2_with fail
     refine cF.out.mono ?_
     rintro e w7 ⟨rfl,hb7⟩
     go_wp2_with fail
     refine(Yg _ _ _ (by first|rfl|(simp;done)|(simp;omega)|assumption)).mono ?_
     rintro e w' ⟨rfl,rfl⟩
     exact⟨rfl,Xb hBr (Xb HB6.out hb7),.inl ⟨by rw[HErr.out];decide,by rw[HErr.out]⟩⟩
    have qw2:x.tgt.xs.any (fun y => !Yi y)=false:=by simpa using qw
    have qal:x.tgt.xs.all Yi=true:=by rw[List.all_eq_true];intro y hy;have:=List.any_eq_false.1 qw2 y hy;simpa using this
    rw[qw2] at cF
    have htail:Ur g x=false:=by
     have h:=HR0.out
     rw[Xdd] at h
     have hpl:Tp n x=true:=by unfold Tp;simp[p0,p1,p2,p3,p4,p9,p10]
     rw[hpl,qal] at h
     simpa using h
    have Htail:=Xa htail
    clear htail qw qw2 qal q0 q1 q2 q3 q4 q5 q6
    go_wp2_with fail
    refine cF.out.mono ?_
    rintro e w7 ⟨rfl,hb7⟩
    have hx7:=Xh hb7 Hx6.out
    have hk7:=Xh hb7 Hk6.out
    obtain⟨a0,a1,a2,a3,a4,a5⟩:=gb6 hx7
    obtain⟨b0,b1,b2,b3,b4,b5⟩:=gb6 hk7
    clear hx7 hk7
    go_wp2_with fail
    refine(Zz _ _ _ (by simp)).mono ?_
    rintro e w' ⟨rfl,rfl⟩
    have ht:=Htail.out
    unfold Ur at ht
    by_cases hcat:x.cat = -1
    ·rw[if_pos hcat] at ht
     have kc:(x.cat == -1)=true:=by simp[hcat]
     have Hcat:=Xa hcat
     have hwf:IntKind.i64.wrap (x.frm+1)=x.frm+1:=IntWalk.i64_in _ (by omega)
     clear hcat
     by_cases c1:x.unt=x.frm+1
     ·have k1:(x.unt == x.frm+1)=true:=by simp[c1]
      by_cases c2:x.cost=0
      ·have k2:(x.cost == 0)=true:=by simp[c2]
       have c3:x.tgt.xs.length≠1:=by intro h;rw[decide_eq_true c1,decide_eq_true c2,decide_eq_true h] at ht;cases ht
       have k3:(x.tgt.xs.length == 1)=false:=by simpa using c3
       have k4:((x.tgt.xs.length:Int) == 1)=false:=by have h:¬(x.tgt.xs.length:Int)=1:=(by omega);simp[h]
       clear ht c1 c2 c3
       go_wp2_with fail
       refine(Yg _ _ _ (by first|rfl|(simp;done)|(simp;omega)|assumption)).mono ?_
       rintro e w' ⟨rfl,rfl⟩
       exact⟨rfl,Xb hBr (Xb HB6.out hb7),.inl ⟨by rw[HErr.out];decide,by rw[HErr.out]⟩⟩
      ·have k2:(x.cost == 0)=false:=by simp[c2]
       clear ht c1 c2
       go_wp2_with fail
       refine(Yg _ _ _ (by first|rfl|(simp;done)|(simp;omega)|assumption)).mono ?_
       rintro e w' ⟨rfl,rfl⟩
       exact⟨rfl,Xb hBr (Xb HB6.out hb7),.inl ⟨by rw[HErr.out];decide,by rw[HErr.out]⟩⟩
     ·have k1:(x.unt == x.frm+1)=false:=by simp[c1]
      clear ht c1
      go_wp2_with fail
      refine(Yg _ _ _ (by first|rfl|(simp;done)|(simp;omega)|assumption)).mono ?_
      rintro e w' ⟨rfl,rfl⟩
      exact⟨rfl,Xb hBr (Xb HB6.out hb7),.inl ⟨by rw[HErr.out];decide,by rw[HErr.out]⟩⟩
    ·rw[if_neg hcat] at ht
     have kc:(x.cat == -1)=false:=by simp[hcat]
     have ht2:¬(((0≤x.cat)∧(x.cat<g.cats.xs.length))∧(0≤x.cost)∧(x.cost≤1000)):=by rintro⟨⟨h1,h2⟩,h3,h4⟩;rw[decide_eq_true h1,decide_eq_true h2,decide_eq_true h3,decide_eq_true h4] at ht;cases ht
     clear hcat ht
     by_cases r0:x.cat<0
     ·have u:¬0≤x.cat:=by omega
      clear ht2
      go_wp2_with fail
      refine(Yg _ _ _ (by first|rfl|(simp;done)|(simp;omega)|assumption)).mono ?_
      rintro e w' ⟨rfl,rfl⟩
      exact⟨rfl,Xb hBr (Xb HB6.out hb7),.inl ⟨by rw[HErr.out];decide,by rw[HErr.out]⟩⟩
     have t0:0≤x.cat:=by omega
     by_cases r1:(g.cats.xs.length:Int)≤x.cat
     ·have u:¬x.cat<(g.cats.xs.length:Int):=by omega
      clear ht2
      go_wp2_with fail
      refine(Yg _ _ _ (by first|rfl|(simp;done)|(simp;omega)|assumption)).mono ?_
      rintro e w' ⟨rfl,rfl⟩
      exact⟨rfl,Xb hBr (Xb HB6.out hb7),.inl ⟨by rw[HErr.out];decide,by rw[HErr.out]⟩⟩
     have t1:x.cat<(g.cats.xs.length:Int):=by omega
     by_cases r2:x.cost<0
     ·have u:¬0≤x.cost:=by omega
      clear ht2
      go_wp2_with fail
      refine(Yg _ _ _ (by first|rfl|(simp;done)|(simp;omega)|assumption)).mono ?_
      rintro e w' ⟨rfl,rfl⟩
      exact⟨rfl,Xb hBr (Xb HB6.out hb7),.inl ⟨by rw[HErr.out];decide,by rw[HErr.out]⟩⟩
     have t2:0≤x.cost:=by omega
     have u:¬x.cost≤1000:=fun h=>ht2 ⟨⟨t0,t1⟩,t2,h⟩
     clear ht2
     go_wp2_with fail
     refine(Yg _ _ _ (by first|rfl|(simp;done)|(simp;omega)|assumption)).mono ?_
     rintro e w' ⟨rfl,rfl⟩
     exact⟨rfl,Xb hBr (Xb HB6.out hb7),.inl ⟨by rw[HErr.out];decide,by rw[HErr.out]⟩⟩
   ·have hRx:=hRt
    rw[Xdd] at hRx
    have hpl:Tp n x=true:=by cases h:Tp n x;rw[h] at hRx;simp at hRx;rfl
    have hal2:x.tgt.xs.all Yi=true:=by rw[hpl] at hRx;cases h:x.tgt.xs.all Yi;rw[h] at hRx;simp at hRx;rfl
    have htail:Ur g x=true:=by rw[hpl,hal2] at hRx;simpa using hRx
    have hpp:((0≤x.frm∧x.frm<x.unt)∧x.unt≤n)∧(-1≤x.term∧x.term≤1048576)∧(1≤x.tgt.xs.length∧x.tgt.xs.length≤4):=by
     unfold Tp at hpl
     simp only[Bool.and_eq_true,decide_eq_true_eq] at hpl
     exact⟨hpl.1.1,hpl.1.2,hpl.2⟩
    obtain⟨⟨⟨p0,p1⟩,p2⟩,⟨p3,p4⟩,p9,p10⟩:=hpp
    have p5:(1:Int)≤(x.tgt.xs.length:Int):=by omega
    have p6:(x.tgt.xs.length:Int)≤4:=by omega
    have qw2:x.tgt.xs.any (fun y => !Yi y)=false:=by
     rw[List.any_eq_false]
     intro y hy
     have:=List.all_eq_true.1 hal2 y hy
     simp[this]
    rw[qw2] at cF
    have HallN:Hid ((its.xs.take (j+1)).all (Zo g n)=true):=by
     show _=_
     rw[Htk.out,List.all_append,hall.out]
     simp[hRt]
    have Htail:=Xa htail
    clear hRt hRx hpl hal2 htail qw2 hall
    go_wp2_with fail
    refine cF.out.mono ?_
    rintro e w7 ⟨rfl,hb7⟩
    have hx7:=Xh hb7 Hx6.out
    have hk7:=Xh hb7 Hk6.out
    have HB7:=Xa (Xb HB6.out hb7)
    have Hx7:=Xa hx7
    obtain⟨a0,a1,a2,a3,a4,a5⟩:=gb6 hx7
    obtain⟨b0,b1,b2,b3,b4,b5⟩:=gb6 hk7
    clear hx7 hk7 hb7
    go_wp2_with fail
    refine(Zz _ _ _ (by simp)).mono ?_
    rintro e w' ⟨rfl,rfl⟩
    have ht:=Htail.out
    unfold Ur at ht
    by_cases hcat:x.cat = -1
    rotate_left
    ·rw[if_neg hcat] at ht
     have kc:(x.cat == -1)=false:=by simp[hcat]
     simp only[Bool.and_eq_true,decide_eq_true_eq] at ht
     obtain⟨⟨t0,t1⟩,t2,t3⟩:=ht
     have HRn:Hid (WRows w5.heap.size w3.heap.size (its.xs.take (j+1)) w7):=by
      show WRows _ _ _ _
      rw[Htk.out]
      exact(hR.out.skip hcat).ext HB7.out
     have hOn:=hO.ext HB7.out
     clear hcat hR
     go_wp2_with fail
     refine(Zz _ _ _ (by first|rfl|(simp;done)|(simp;omega)|assumption)).mono ?_
     rintro e w' ⟨rfl,rfl⟩
     go_wp2_with fail
     go_roundw
     case rel=>exact⟨j+1,by omega,by go_num,hOn,HRn,HallN⟩
     case measure=>simp[intOf];omega
    ·rw[if_pos hcat] at ht
     have kc:(x.cat == -1)=true:=by simp[hcat]
     simp only[Bool.and_eq_true,decide_eq_true_eq] at ht
     obtain⟨⟨c1,c2⟩,c3⟩:=ht
     have k1:(x.unt == x.frm+1)=true:=by simp[c1]
     have k2:(x.cost == 0)=true:=by simp[c2]
     have k3:(x.tgt.xs.length == 1)=true:=by simp[c3]
     have k4:((x.tgt.xs.length:Int) == 1)=true:=by simp[c3]
     have hwf:IntKind.i64.wrap (x.frm+1)=x.frm+1:=IntWalk.i64_in _ (by omega)
     have Hcat:=Xa hcat
     have Hc3:=Xa c3
     clear hcat c1 c2 c3
     go_wp2_with fail
     refine(Zz _ _ _ (by first|rfl|(simp;done)|(simp;omega)|assumption)).mono ?_
     rintro e w' ⟨rfl,rfl⟩
     clear k1 k2 k3 k4
     have htg:=Hit.out.tgt x (by rw[← Hx.out];exact List.getElem_mem hlt)
     have h0t:0<x.tgt.xs.length:=by omega
     obtain⟨bt,ot,hAt,hbt,hct⟩:=StrS.at_ htg (k:=0) h0t
     have hs0:=hct 0 h0t
     rw[Nat.add_zero,Xrj h0t] at hs0
     rw[hAt] at a4
     have hBw:=Xb hBr HB7.out
     have hc7:=(HB7.out.block _ (by have:=hO.size;have:=Xc Hc5.out;omega)).trans ((hO.block _ (Xc Hc5.out) (by show w4.heap.size≠w3.heap.size;omega)).trans Hc5.out)
     have hR7:=hR.out.ext HB7.out
     obtain⟨⟨va,vl,vc⟩,hlook,hov⟩:=hR7.look x.frm (by omega) (by omega)
     obtain⟨u0,hu0⟩:∃u0,w7.drew=u0:=⟨_,rfl⟩
     have hbu0:Below w7.heap.size w7 u0:=by rw[← hu0];exact Xi (Below.refl _ _)
     obtain⟨u1,hu1⟩:∃u1,u0.alloc (.cells #[.string (Tw x)] 9)=u1:=⟨_,rfl⟩
     have hbu1:=Yn hu1
     have hbu:=Xb hbu0 hbu1
     have hR1:=hR7.ext hbu
     have hwbl:w3.heap.size<w7.heap.size:=by have h:=HB7.out.size;have h2:=hO.size;omega
     have hlk0:=hlook u0 (hbu0.block _ hwbl)
     have hlk1:=hlook u1 (hbu.block _ hwbl)
     have hov1:=hov.ext hbu
     have hwl:=Xj4 (its.xs.take j) x.frm
     have htl:(its.xs.take j).length≤j:=List.length_take_le _ _
     obtain⟨iS,hiS,hzS,hsS,hbS⟩:=info_parts Xnr
     obtain⟨v',w1,hrun,hown',hgrow,_,hat⟩:=run_append_own_at (P:=Tryz.prog) u1 w5.heap.size 22 22 9 iS _ 1 16 Tryz.underlying22 hiS hzS hsS hbS rfl (by decide) (.slice va vl vc) (Yq (its.xs.take j) x.frm).length ((Yq (its.xs.take j) x.frm).flatMap strC) hov1 ⟨u0.heap.size,0,none⟩ 1 1 [.string (Tw x)] rfl (by rw[← hu1];exact Xbk u0 [.string (Tw x)] 9) (by intro u hu;simp at hu;subst hu;rfl) (by unfold maxLen;omega) (by omega) (by have h:=HB7.out.size;have h2:=hO.size;have h3:=hbu.size;omega)
     obtain⟨g',cap',rfl⟩:=ownsRow_succ hown'
     obtain⟨w9,hrun2,hRn,hO9⟩:=hR1.store (x:=x) Hcat.out (by omega) (by omega) (by omega) (v:=⟨va,vl,vc⟩) (v':=⟨some ⟨g',0,none⟩,(Yq (its.xs.take j) x.frm).length+1,cap'⟩) hov1 hlk1 (OwnL.snoc (f:=strC) (Tw x) hown') hgrow hat (by omega)
     have hO7:=hO.ext HB7.out
     have hOn:Only (fun b=>b=w3.heap.size) w5 w9:=by
      have hs7:=hO7.size
      have hsu:=hbu.size
      refine⟨hO9.os.trans (hbu.os.trans hO7.os),hO9.tape.trans (hbu.tape.trans hO7.tape),hO9.output.trans (hbu.output.trans hO7.output),by have:=hO9.size;omega,fun b hb hn=>(hO9.block b (by omega) fun h=>?_).trans ((hbu.block b (by omega)).trans (hO7.block b hb hn))⟩
      rcases h with h|h
      ·exact hn h
      ·have:=(hov.lt b h).1;omega
     have HRn:Hid (WRows w5.heap.size w3.heap.size (its.xs.take (j+1)) w9):=by
      show WRows _ _ _ _
      rw[Htk.out]
      exact hRn
     have hC:∀V:World,V.heap[w4.heap.size]? = w7.heap[w4.heap.size]? → V.heap[wr.heap.size]? = w7.heap[wr.heap.size]? → V.heap[bt]? = w7.heap[bt]? → (V.cell? ⟨w4.heap.size,9,none⟩=some (.map (some w3.heap.size))∧V.cell? ⟨wr.heap.size,1,none⟩=some (.int .i64 x.frm)∧V.cell? ⟨wr.heap.size,4,none⟩=some (.slice (some ⟨bt,ot,none⟩) x.tgt.xs.length x.tgt.cap)∧V.cell? ⟨bt,ot,none⟩=some (.string (Tw x))):=fun V e1 e2 e3 =>
      ⟨gblk (e1.trans hc7) 9,gblk (e2.trans Hx7.out) 1,(gblk (e2.trans Hx7.out) 4).trans (by rw[hAt];rfl),(World.cell?_of_block (w:=w7) e3).trans ((hBw.cell (p:=⟨bt,ot,none⟩) hbt).trans hs0)⟩
     have hl4:=Xc hc7
     have hlx:=Xc Hx7.out
     have hlt7:bt<w7.heap.size:=Nat.lt_of_lt_of_le hbt hBw.size
     have hkeep:∀b,b<w5.heap.size→b≠w3.heap.size→w9.heap[b]? = w7.heap[b]? := fun b hb hn=>(hO9.block b (by have:=hO7.size;have:=hbu.size;omega) fun h=>by
      rcases h with h|h
      ·exact hn h
      ·have:=(hov.lt b h).1;omega).trans (hbu.block b (by have:=hO7.size;omega))
     have hgk:∀b,b<w7.heap.size→(∀cs fr,w7.heap[b]? ≠ some (.cells cs 9 fr))→w1.heap[b]? = w7.heap[b]? := fun b hb hn=>(hgrow.block b (by have:=hbu.size;omega) fun e=>by
      rcases hov.2 with ⟨q1,_⟩|⟨g9,c9,cur,q1,q2,q3,_⟩
      ·change KidS.val ⟨va,vl,vc⟩=_ at q1
       rw[show (Value.slice va vl vc)=KidS.val ⟨va,vl,vc⟩ from rfl,q1] at e
       cases e
      ·change KidS.val ⟨va,vl,vc⟩=_ at q1
       rw[show (Value.slice va vl vc)=KidS.val ⟨va,vl,vc⟩ from rfl,q1] at e
       have e2:=Option.some.inj e
       have e3:b=g9:=e2
       rw[e3] at hn
       exact hn _ _ q3).trans (hbu.block b hb)
     have hgt:w1.heap[bt]? = w7.heap[bt]? := (hgrow.block bt (by have:=hbu.size;omega) fun e=>by have:=(hov.lt bt e.symm).1;have:=HB5.out.size;omega).trans (hbu.block bt hlt7)
     have hne:∀ {b:Nat} {cs:Array Value} {tt:TypeId} {fr:Nat×Nat},w7.heap[b]? = some (.cells cs tt fr)→tt≠9→∀cs fr,w7.heap[b]? ≠ some (.cells cs 9 fr):=fun {b cs tt fr} h hn cs' fr' h'=>by
      rw[h] at h'
      have:=Option.some.inj h'
      injection this with _ e _
      exact hn e
     have HC0:=Xa (hC u0 (hbu0.block _ hl4) (hbu0.block _ hlx) (hbu0.block _ hlt7))
     have HC1:=Xa (hC u1 (hbu.block _ hl4) (hbu.block _ hlx) (hbu.block _ hlt7))
     have HCw:=Xa (hC w1 (hgk _ hl4 (hne hc7 (by decide))) (hgk _ hlx (hne Hx7.out (by decide))) hgt)
     have HCf:=Xa (hC w9 (hkeep _ (by omega) (by omega)) ((hO9.block _ (by have:=hbu.size;omega) fun h=>by
      rcases h with h|h
      ·have:=hO.size;omega
      ·rcases hov.2 with ⟨q1,_⟩|⟨g9,c9,cur,q1,q2,q3,_⟩
       ·rw[q1] at h;cases h
       ·rw[q1] at h
        have e2:=Option.some.inj h
        have e3:g9=wr.heap.size:=e2
        rw[e3] at q3
        exact hne Hx7.out (by decide) _ _ q3).trans (hbu.block _ hlx)) (hkeep _ (by have:=HB5.out.size;omega) (by have:=HB5.out.size;omega)))
     have HOn:=Xa hOn
     clear hs0 hct hc7 hR7 hlook hov hbu0 hbu1 hbu hR1 hov1 hown' hgrow hat hRn hO9 hO7 hOn hC hkeep hgk hgt hne hwl htl htg hBw hR
     unfold KidS.val at hlk0 hlk1 hrun2
     go_wp2_with fail
     refine wpIn_wide (n:=0) |>.1 ?_
     apply Xbz (w':=w9)
     ·refine Xo (fun V=>V.cell? ⟨w4.heap.size,9,none⟩=some (.map (some w3.heap.size))∧V.cell? ⟨wr.heap.size,1,none⟩=some (.int .i64 x.frm)∧V.cell? ⟨wr.heap.size,4,none⟩=some (.slice (some ⟨bt,ot,none⟩) x.tgt.xs.length x.tgt.cap)∧V.cell? ⟨bt,ot,none⟩=some (.string (Tw x))) (by kernel_rfl) ?_
      rw[hu0]
      refine Xd (i:=0) rfl (by kernel_rfl) (fun _ _ _ h=>h) (fun V hV=>(by obtain⟨r1,r2,r3,r4⟩:=hV;go_simp<;>rfl)) ?_
      refine Xd (i:=1) rfl (by kernel_rfl) (fun _ _ _ h=>h) (fun V hV=>(by obtain⟨r1,r2,r3,r4⟩:=hV;go_simp<;>rfl)) ?_
      refine Xd (i:=2) rfl (by kernel_rfl) (fun _ _ _ h=>h) (fun V hV=>(by obtain⟨r1,r2,r3,r4⟩:=hV;go_simp<;>rfl)) ?_
      refine Xd (i:=3) rfl (by kernel_rfl) (fun _ _ _ h=>h) (fun V hV=>(by obtain⟨r1,r2,r3,r4⟩:=hV;go_simp<;>rfl)) ?_
      refine Xd (i:=4) rfl (by kernel_rfl) (fun _ _ _ h=>h) (fun V hV=>(by obtain⟨r1,r2,r3,r4⟩:=hV;go_simp<;>rfl)) ?_
      refine Xd (i:=5) rfl (by kernel_rfl) (fun _ _ _ h=>h) (fun V hV=>(by obtain⟨r1,r2,r3,r4⟩:=hV;go_simp<;>rfl)) ?_
      refine Xd (i:=6) rfl (by kernel_rfl) (fun _ _ _ h=>h) (fun V hV=>(by obtain⟨r1,r2,r3,r4⟩:=hV;go_simp<;>rfl)) ?_
      refine Xd (i:=7) rfl (by kernel_rfl) (fun _ _ _ h=>h) (fun V hV=>(by obtain⟨r1,r2,r3,r4⟩:=hV;go_simp<;>rfl)) ?_
      refine Xd (i:=8) rfl (by kernel_rfl) (fun _ _ _ h=>h) (fun V hV=>(by obtain⟨r1,r2,r3,r4⟩:=hV;go_simp<;>rfl)) ?_
      refine Xd (i:=9) rfl (by kernel_rfl) (fun _ _ _ h=>h) (fun V hV=>(by obtain⟨r1,r2,r3,r4⟩:=hV;go_simp<;>rfl)) ?_
      refine Xd (i:=10) rfl (by kernel_rfl) (fun _ _ _ h=>h) (fun V hV=>(by obtain⟨r1,r2,r3,r4⟩:=hV;go_simp<;>rfl)) ?_
      refine Xd (i:=11) rfl (by kernel_rfl) (fun _ _ _ h=>h) (fun V hV=>(by obtain⟨r1,r2,r3,r4⟩:=hV;go_simp<;>rfl)) ?_
      refine Xd (i:=13) rfl (by kernel_rfl) (fun _ _ _ h=>h) (fun V hV=>(by obtain⟨r1,r2,r3,r4⟩:=hV;go_simp<;>rfl)) ?_
      refine Xd (i:=14) rfl (by kernel_rfl) (fun _ _ _ h=>h) (fun V hV=>(by obtain⟨r1,r2,r3,r4⟩:=hV;go_simp<;>rfl)) ?_
      refine Xd (i:=15) rfl (by kernel_rfl) (fun _ _ _ h=>h) (fun V hV=>(by obtain⟨r1,r2,r3,r4⟩:=hV;go_simp<;>rfl)) ?_
      refine Xd (i:=16) rfl (by kernel_rfl) (fun _ _ _ h=>h) (fun V hV=>(by obtain⟨r1,r2,r3,r4⟩:=hV;go_simp<;>rfl)) ?_
      refine Xs (rs:=[12,17]) HC0.out (by kernel_rfl) (by simp) (AllC.cons rfl (fun K hK=>?_) (AllC.cons rfl (fun K hK=>?_) AllC.nil))
      ·go_simp
       refine hK _ _ ?_
       clear hK K
       refine Xg (i:=17) HC0.out (by kernel_rfl) rfl (fun K hK=>?_)
       go_simp
       refine hK _ _ ?_
       clear hK K
       refine Xg (i:=18) HC1.out (by kernel_rfl) rfl (fun K hK=>?_)
       refine Xy rfl _ _ _ rfl rfl rfl hrun (hK _ _ ?_)
       clear hK K
       refine Xg (i:=19) HCw.out (by kernel_rfl) rfl (fun K hK=>?_)
       go_simp
       refine hK _ _ ?_
       clear hK K
       exact Xl HCf.out (by kernel_rfl) ⟨rfl,rfl⟩ _
      ·go_simp
       refine hK _ _ ?_
       clear hK K
       refine Xg (i:=12) HC1.out (by kernel_rfl) rfl (fun K hK=>?_)
       go_simp
       refine hK _ _ ?_
       clear hK K
       refine Xg (i:=18) HC1.out (by kernel_rfl) rfl (fun K hK=>?_)
       refine Xy rfl _ _ _ rfl rfl rfl hrun (hK _ _ ?_)
       clear hK K
       refine Xg (i:=19) HCw.out (by kernel_rfl) rfl (fun K hK=>?_)
       go_simp
       refine hK _ _ ?_
       clear hK K
       exact Xl HCf.out (by kernel_rfl) ⟨rfl,rfl⟩ _
     ·go_wp2_with fail
      go_roundw
      case rel=>exact⟨j+1,by omega,by go_num,HOn.out,HRn,HallN⟩
      case measure=>simp[intOf];omega
  ·obtain rfl:j=its.xs.length:=by omega
   have hal:=hall.out
   rw[List.take_length] at hal
   have hE0:errC g its.xs n=0:=by rw[HE2.out,if_pos hal]
   have hrr:=hR.out
   rw[List.take_length] at hrr
   have hAr:=Vz hE0
   have hne:∀x∈its.xs,x.cat = -1→x.tgt.xs≠[]:=fun x hx _ h0=>by
    have:=(Ut (hAr.right x hx)).2.2.2.2.2.2.2
    rw[h0] at this
    simp at this
   have hcn:((n.toNat:Nat):Int)=n:=by omega
   have hfin:Xl7 g its n w (.returned (.pointer (some ⟨w4.heap.size,0,none⟩))) wr:=by
    have hmr:=Hm5.out.of_block (hO.block _ Hm5.out.lt (by show w2.heap.size≠w3.heap.size;omega))
    have hwz:=hO.size
    refine⟨hBr,.inr ⟨hE0,w4.heap.size,w2.heap.size,w3.heap.size,wr.heap.size,rfl,⟨hBr,?_,hrr.done hne (by omega),⟨by omega,by omega⟩,⟨by omega,by omega⟩,⟨by omega,by omega⟩,by omega,Nat.le_refl _,?_⟩,fun X=>⟨?_,fun x fd h=>by cases h⟩⟩⟩
    ·unfold Xbd
     rw[hcn]
     exact(hO.block _ (Xc Hc5.out) (by show w4.heap.size≠w3.heap.size;omega)).trans Hc5.out
    ·obtain⟨_,⟨_,_,hmm,_⟩,_⟩:=hmr
     exact⟨_,_,hmm⟩
    ·exact hmr.mono (Nat.zero_le _)
   have HF:=Xa hfin
   clear hal hE0 hrr hAr hne hcn hfin hR hall hO hBr
   go_wp2_with fail
   go_ret
   exact HF.out
end Go.Proofs.YtolpbjjapodmnaaGreatDoor
