/- Texts of this claim, one after the other: GrmR, GrmS. -/
import Derived.Test.YtolpbjjapodmnaaGreatDoorM10
import Derived.Test.YtolpbjjapodmnaaGreatDoorM20
import Derived.Test.YtolpbjjapodmnaaGreatDoorM7
namespace Go.Proofs.YtolpbjjapodmnaaGreatDoor
open Go.RowKit Go.Han
set_option maxRecDepth 100000
attribute [local irreducible] wpStill wpQuiet
set_option maxHeartbeats 8000000
theorem Xy7 (s t:SlS EntryG) (fid:Nat) (Q:EntryG->EntryG->Bool) (w:World) (hs:s.lies EntryG.cells w) (ht:t.lies EntryG.cells w) (hl:s.xs.length=t.xs.length) (eg:∀args w,(callFunc fid args).run Tryz.prog w = .ok (.enter fid args) w)
  (hf:∀W,Below w.heap.size w W->∀(i:Nat) x y,s.xs[i]? = some x->t.xs[i]? = some y->Calls Tryz.prog fid #[x.vl,y.vl] W fun e w'=>e = .returned (.bool (Q x y))/\Below W.heap.size W w') :
  Calls Tryz.prog 135 #[.slice s.addr s.xs.length s.cap,.slice t.addr t.xs.length t.cap,.func (.func fid) #[] #[]] w fun e w'=>e = .returned (.bool (allZ Q s.xs t.xs))/\Below w.heap.size w w':=by
 have Hz:=Xa (Xbn Q hl);have Hf:=Xa hf;have HS:=Xa hs;have HT:=Xa ht;have hm:s.xs.length<=9223372036854775807:=Nat.le_trans hs.cap hs.max;have Hl:=Xa hl;rw[<- hl];generalize allZ Q s.xs t.xs=r at *;clear hs ht hl hf;go_enter Tryz.func135,Tryz.ntmps135
 go_wp2_with fail
 go_loopw [17] (fun i wr=>∃k:Nat,k<=s.xs.length/\i = .int .i64 k/\Below w.heap.size w wr/\Hid (∀(i:Nat) x y,s.xs[i]? = some x->t.xs[i]? = some y->i<k->Q x y=true)) (fun i _=>s.xs.length-(intOf i).toNat)
 case atStart=>exact⟨0,Nat.zero_le _,rfl,bo_q,fun i x y _ _ h=>by omega⟩
 case round =>
  obtain⟨k,hk,rfl,hB,HR⟩:=hrel;by_cases hlt:k<s.xs.length
  ·have hlt':k<t.xs.length:=by have:=Hl.out;omega
   obtain⟨b1,o1,hA,hb,hc⟩:=HS.out.at_ EntryG.size_cells (by omega) hlt;obtain⟨b2,o2,hA',hb',hc'⟩:=HT.out.at_ EntryG.size_cells (by omega) hlt';have e0:wr.cell? ⟨b1,o1+k*5,none⟩=some (.string s.xs[k].text):=hc k hlt wr hB 0 _ rfl;have e1:wr.cell? ⟨b1,o1+k*5+1,none⟩=some (.string s.xs[k].cat):=hc k hlt wr hB 1 _ rfl;have e2:wr.cell? ⟨b1,o1+k*5+2,none⟩=some (.int .i64 s.xs[k].no):=hc k hlt wr hB 2 _ rfl;have e3:wr.cell? ⟨b1,o1+k*5+3,none⟩=some (.slice s.xs[k].gives.addr s.xs[k].gives.xs.length s.xs[k].gives.cap):=hc k hlt wr hB 3 _ rfl;have e4:wr.cell? ⟨b1,o1+k*5+4,none⟩=some (.int .i64 s.xs[k].cost):=hc k hlt wr hB 4 _ rfl;rw[hA];rw[hA'];have g1:=List.getElem?_eq_getElem hlt;have g2:=List.getElem?_eq_getElem hlt';obtain⟨W2,hW2⟩:∃W2,wr.alloc (.cells #[.string s.xs[k].text,.string s.xs[k].cat,.int .i64 s.xs[k].no,.slice s.xs[k].gives.addr s.xs[k].gives.xs.length s.xs[k].gives.cap,.int .i64 s.xs[k].cost] 60)=W2:=⟨_,rfl⟩
   have hb2:Below wr.heap.size wr W2:=(by subst hW2;exact ba_q);have hk2:W2.heap[wr.heap.size]? = some (.cells #[.string s.xs[k].text,.string s.xs[k].cat,.int .i64 s.xs[k].no,.slice s.xs[k].gives.addr s.xs[k].gives.xs.length s.xs[k].gives.cap,.int .i64 s.xs[k].cost] 60 (0,0)):=(by subst hW2;exact World.alloc_heap_new _ _);have hB2:=Xb hB hb2;have f0:W2.cell? ⟨b2,o2+k*5,none⟩=some (.string t.xs[k].text):=hc' k hlt' W2 hB2 0 _ rfl;have f1:W2.cell? ⟨b2,o2+k*5+1,none⟩=some (.string t.xs[k].cat):=hc' k hlt' W2 hB2 1 _ rfl;have f2:W2.cell? ⟨b2,o2+k*5+2,none⟩=some (.int .i64 t.xs[k].no):=hc' k hlt' W2 hB2 2 _ rfl;have f3:W2.cell? ⟨b2,o2+k*5+3,none⟩=some (.slice t.xs[k].gives.addr t.xs[k].gives.xs.length t.xs[k].gives.cap):=hc' k hlt' W2 hB2 3 _ rfl;have f4:W2.cell? ⟨b2,o2+k*5+4,none⟩=some (.int .i64 t.xs[k].cost):=hc' k hlt' W2 hB2 4 _ rfl;obtain⟨W3,hW3⟩:∃W3,W2.alloc (.cells #[.string t.xs[k].text,.string t.xs[k].cat,.int .i64 t.xs[k].no,.slice t.xs[k].gives.addr t.xs[k].gives.xs.length t.xs[k].gives.cap,.int .i64 t.xs[k].cost] 60)=W3:=⟨_,rfl⟩
   have hb3:Below W2.heap.size W2 W3:=(by subst hW3;exact ba_q);have hk3:W3.heap[W2.heap.size]? = some (.cells #[.string t.xs[k].text,.string t.xs[k].cat,.int .i64 t.xs[k].no,.slice t.xs[k].gives.addr t.xs[k].gives.xs.length t.xs[k].gives.cap,.int .i64 t.xs[k].cost] 60 (0,0)):=(by subst hW3;exact World.alloc_heap_new _ _);have hB3:=Xb hB2 hb3;have hk23:=Xi hb3 hk2;obtain⟨x0,x1,x2,x3,x4⟩:=gb5 hk23;obtain⟨y0,y1,y2,y3,y4⟩:=gb5 hk3;have cF:=Xa (Hf.out W3 hB3 k _ _ g1 g2)
   have HT2:Hid (Q s.xs[k] t.xs[k]=true->∀(i:Nat) x y,s.xs[i]? = some x->t.xs[i]? = some y->i<k+1->Q x y=true):=by
    intro h0 i x y hx hy hi;by_cases e:i<k
    ·exact HR.out i x y hx hy e
    ·obtain rfl:i=k:=by omega
     rw[g1] at hx;rw[g2] at hy;cases hx;cases hy;exact h0
   have HF2:Hid (Q s.xs[k] t.xs[k]=false->r=false):=by
    intro h0;rw[Bool.eq_false_iff];intro h;rw[Hz.out.1 h k _ _ g1 g2] at h0;cases h0
   clear hc hc' hA hA' HR g1 g2 hk2 hk3 hk23 hb2 hb3 hB hB2;generalize s.xs[k]=p at *;generalize t.xs[k]=q at *;generalize Q p q=f at *;go_wp2_with fail
   clear hW2 hW3 e0 e1 e2 e3 e4 f0 f1 f2 f3 f4;refine cF.out.mono ?_;rintro ee w4 ⟨rfl,hb4⟩;have hB4:=Xb hB3 hb4;cases f
   ·have HF3:=Xa (HF2.out rfl)
    clear HT2 HF2 x0 x1 x2 x3 x4 y0 y1 y2 y3 y4;go_wp2_with fail
    go_ret;exact⟨by rw[HF3.out];rfl,hB4⟩
   ·have HT3:=Xa (HT2.out rfl)
    clear HT2 HF2 x0 x1 x2 x3 x4 y0 y1 y2 y3 y4;go_wp2_with fail
    go_roundw
    case rel=>exact⟨k+1,by omega,by go_num,hB4,HT3⟩
    case measure=>simp[intOf];omega
  ·have HE:Hid (r=true):=Hz.out.2 fun i x y hx hy=>HR.out i x y hx hy (by have:=(List.getElem?_eq_some_iff.1 hx).1;omega)
   clear HR Hz;go_wp2_with fail
   go_ret;exact⟨by rw[HE.out];rfl,hB⟩
theorem Xy8 (s t:SlS RuleG) (fid:Nat) (Q:RuleG->RuleG->Bool) (w:World) (hs:s.lies RuleG.cells w) (ht:t.lies RuleG.cells w) (hl:s.xs.length=t.xs.length) (eg:∀args w,(callFunc fid args).run Tryz.prog w = .ok (.enter fid args) w)
  (hf:∀W,Below w.heap.size w W->∀(i:Nat) x y,s.xs[i]? = some x->t.xs[i]? = some y->Calls Tryz.prog fid #[x.vl,y.vl] W fun e w'=>e = .returned (.bool (Q x y))/\Below W.heap.size W w') :
  Calls Tryz.prog 137 #[.slice s.addr s.xs.length s.cap,.slice t.addr t.xs.length t.cap,.func (.func fid) #[] #[]] w fun e w'=>e = .returned (.bool (allZ Q s.xs t.xs))/\Below w.heap.size w w':=by
 have Hz:=Xa (Xbn Q hl);have Hf:=Xa hf;have HS:=Xa hs;have HT:=Xa ht;have hm:s.xs.length<=9223372036854775807:=Nat.le_trans hs.cap hs.max;have Hl:=Xa hl;rw[<- hl];generalize allZ Q s.xs t.xs=r at *;clear hs ht hl hf;go_enter Tryz.func137,Tryz.ntmps137
 go_wp2_with fail
 go_loopw [17] (fun i wr=>∃k:Nat,k<=s.xs.length/\i = .int .i64 k/\Below w.heap.size w wr/\Hid (∀(i:Nat) x y,s.xs[i]? = some x->t.xs[i]? = some y->i<k->Q x y=true)) (fun i _=>s.xs.length-(intOf i).toNat)
 case atStart=>exact⟨0,Nat.zero_le _,rfl,bo_q,fun i x y _ _ h=>by omega⟩
 case round =>
  obtain⟨k,hk,rfl,hB,HR⟩:=hrel;by_cases hlt:k<s.xs.length
  ·have hlt':k<t.xs.length:=by have:=Hl.out;omega
   obtain⟨b1,o1,hA,hb,hc⟩:=HS.out.at_ RuleG.size_cells (by omega) hlt;obtain⟨b2,o2,hA',hb',hc'⟩:=HT.out.at_ RuleG.size_cells (by omega) hlt';have e0:wr.cell? ⟨b1,o1+k*5,none⟩=some (.string s.xs[k].cat):=hc k hlt wr hB 0 _ rfl;have e1:wr.cell? ⟨b1,o1+k*5+1,none⟩=some (.int .i64 s.xs[k].no):=hc k hlt wr hB 1 _ rfl;have e2:wr.cell? ⟨b1,o1+k*5+2,none⟩=some (.slice s.xs[k].parts.addr s.xs[k].parts.xs.length s.xs[k].parts.cap):=hc k hlt wr hB 2 _ rfl;have e3:wr.cell? ⟨b1,o1+k*5+3,none⟩=some (.slice s.xs[k].gives.addr s.xs[k].gives.xs.length s.xs[k].gives.cap):=hc k hlt wr hB 3 _ rfl;have e4:wr.cell? ⟨b1,o1+k*5+4,none⟩=some (.int .i64 s.xs[k].cost):=hc k hlt wr hB 4 _ rfl;rw[hA];rw[hA'];have g1:=List.getElem?_eq_getElem hlt;have g2:=List.getElem?_eq_getElem hlt';obtain⟨W2,hW2⟩:∃W2,wr.alloc (.cells #[.string s.xs[k].cat,.int .i64 s.xs[k].no,.slice s.xs[k].parts.addr s.xs[k].parts.xs.length s.xs[k].parts.cap,.slice s.xs[k].gives.addr s.xs[k].gives.xs.length s.xs[k].gives.cap,.int .i64 s.xs[k].cost] 79)=W2:=⟨_,rfl⟩
   have hb2:Below wr.heap.size wr W2:=(by subst hW2;exact ba_q);have hk2:W2.heap[wr.heap.size]? = some (.cells #[.string s.xs[k].cat,.int .i64 s.xs[k].no,.slice s.xs[k].parts.addr s.xs[k].parts.xs.length s.xs[k].parts.cap,.slice s.xs[k].gives.addr s.xs[k].gives.xs.length s.xs[k].gives.cap,.int .i64 s.xs[k].cost] 79 (0,0)):=(by subst hW2;exact World.alloc_heap_new _ _);have hB2:=Xb hB hb2;have f0:W2.cell? ⟨b2,o2+k*5,none⟩=some (.string t.xs[k].cat):=hc' k hlt' W2 hB2 0 _ rfl;have f1:W2.cell? ⟨b2,o2+k*5+1,none⟩=some (.int .i64 t.xs[k].no):=hc' k hlt' W2 hB2 1 _ rfl;have f2:W2.cell? ⟨b2,o2+k*5+2,none⟩=some (.slice t.xs[k].parts.addr t.xs[k].parts.xs.length t.xs[k].parts.cap):=hc' k hlt' W2 hB2 2 _ rfl;have f3:W2.cell? ⟨b2,o2+k*5+3,none⟩=some (.slice t.xs[k].gives.addr t.xs[k].gives.xs.length t.xs[k].gives.cap):=hc' k hlt' W2 hB2 3 _ rfl;have f4:W2.cell? ⟨b2,o2+k*5+4,none⟩=some (.int .i64 t.xs[k].cost):=hc' k hlt' W2 hB2 4 _ rfl;obtain⟨W3,hW3⟩:∃W3,W2.alloc (.cells #[.string t.xs[k].cat,.int .i64 t.xs[k].no,.slice t.xs[k].parts.addr t.xs[k].parts.xs.length t.xs[k].parts.cap,.slice t.xs[k].gives.addr t.xs[k].gives.xs.length t.xs[k].gives.cap,.int .i64 t.xs[k].cost] 79)=W3:=⟨_,rfl⟩
   have hb3:Below W2.heap.size W2 W3:=(by subst hW3;exact ba_q);have hk3:W3.heap[W2.heap.size]? = some (.cells #[.string t.xs[k].cat,.int .i64 t.xs[k].no,.slice t.xs[k].parts.addr t.xs[k].parts.xs.length t.xs[k].parts.cap,.slice t.xs[k].gives.addr t.xs[k].gives.xs.length t.xs[k].gives.cap,.int .i64 t.xs[k].cost] 79 (0,0)):=(by subst hW3;exact World.alloc_heap_new _ _);have hB3:=Xb hB2 hb3;have hk23:=Xi hb3 hk2;obtain⟨x0,x1,x2,x3,x4⟩:=gb5 hk23;obtain⟨y0,y1,y2,y3,y4⟩:=gb5 hk3;have cF:=Xa (Hf.out W3 hB3 k _ _ g1 g2)
   have HT2:Hid (Q s.xs[k] t.xs[k]=true->∀(i:Nat) x y,s.xs[i]? = some x->t.xs[i]? = some y->i<k+1->Q x y=true):=by
    intro h0 i x y hx hy hi;by_cases e:i<k
    ·exact HR.out i x y hx hy e
    ·obtain rfl:i=k:=by omega
     rw[g1] at hx;rw[g2] at hy;cases hx;cases hy;exact h0
   have HF2:Hid (Q s.xs[k] t.xs[k]=false->r=false):=by
    intro h0;rw[Bool.eq_false_iff];intro h;rw[Hz.out.1 h k _ _ g1 g2] at h0;cases h0
   clear hc hc' hA hA' HR g1 g2 hk2 hk3 hk23 hb2 hb3 hB hB2;generalize s.xs[k]=p at *;generalize t.xs[k]=q at *;generalize Q p q=f at *;go_wp2_with fail
   clear hW2 hW3 e0 e1 e2 e3 e4 f0 f1 f2 f3 f4;refine cF.out.mono ?_;rintro ee w4 ⟨rfl,hb4⟩;have hB4:=Xb hB3 hb4;cases f
   ·have HF3:=Xa (HF2.out rfl)
    clear HT2 HF2 x0 x1 x2 x3 x4 y0 y1 y2 y3 y4;go_wp2_with fail
    go_ret;exact⟨by rw[HF3.out];rfl,hB4⟩
   ·have HT3:=Xa (HT2.out rfl)
    clear HT2 HF2 x0 x1 x2 x3 x4 y0 y1 y2 y3 y4;go_wp2_with fail
    go_roundw
    case rel=>exact⟨k+1,by omega,by go_num,hB4,HT3⟩
    case measure=>simp[intOf];omega
  ·have HE:Hid (r=true):=Hz.out.2 fun i x y hx hy=>HR.out i x y hx hy (by have:=(List.getElem?_eq_some_iff.1 hx).1;omega)
   clear HR Hz;go_wp2_with fail
   go_ret;exact⟨by rw[HE.out];rfl,hB⟩
theorem X1t (s t:SlS PartG) (w:World) (hs:s.lies PartG.cells w) (ht:t.lies PartG.cells w) (hl:s.xs.length=t.xs.length):Calls Tryz.prog 139 #[.slice s.addr s.xs.length s.cap,.slice t.addr t.xs.length t.cap] w fun e w'=>e = .returned (.bool (decide (s.xs=t.xs)))/\Below w.heap.size w w':=by
 have HS:=Xa hs;have HT:=Xa ht;have hm:s.xs.length<=9223372036854775807:=Nat.le_trans hs.cap hs.max;have Hl:=Xa hl;rw[<- hl];clear hs ht hl;go_enter Tryz.func139,Tryz.ntmps139
 go_wp2_with fail
 go_loopw [13] (fun i wr=>∃k:Nat,k<=s.xs.length/\i = .int .i64 k/\Below w.heap.size w wr/\Hid (s.xs.take k=t.xs.take k)) (fun i _=>s.xs.length-(intOf i).toNat)
 case atStart=>exact⟨0,Nat.zero_le _,rfl,bo_q,rfl⟩
 case round =>
  obtain⟨k,hk,rfl,hB,HR⟩:=hrel;by_cases hlt:k<s.xs.length
  ·have hlt':k<t.xs.length:=by have:=Hl.out;omega
   obtain⟨b1,o1,hA,hb,hc⟩:=HS.out.at_ PartG.size_cells (by omega) hlt;obtain⟨b2,o2,hA',hb',hc'⟩:=HT.out.at_ PartG.size_cells (by omega) hlt';have e0:wr.cell? ⟨b1,o1+k*3,none⟩=some (.string s.xs[k].cat):=hc k hlt wr hB 0 _ rfl;have e1:wr.cell? ⟨b1,o1+k*3+1,none⟩=some (.int .i64 s.xs[k].no):=hc k hlt wr hB 1 _ rfl;have e2:wr.cell? ⟨b1,o1+k*3+2,none⟩=some (.string s.xs[k].text):=hc k hlt wr hB 2 _ rfl;have f0:wr.cell? ⟨b2,o2+k*3,none⟩=some (.string t.xs[k].cat):=hc' k hlt' wr hB 0 _ rfl;have f1:wr.cell? ⟨b2,o2+k*3+1,none⟩=some (.int .i64 t.xs[k].no):=hc' k hlt' wr hB 1 _ rfl;have f2:wr.cell? ⟨b2,o2+k*3+2,none⟩=some (.string t.xs[k].text):=hc' k hlt' wr hB 2 _ rfl;rw[hA];rw[hA'];have hq:=fun (w:World)=>Xft s.xs[k].cat t.xs[k].cat s.xs[k].no t.xs[k].no s.xs[k].text t.xs[k].text w;have Ht:=Xa (fun h=>Xw8 hlt hlt' HR.out h);have Hf:Hid (s.xs[k]≠t.xs[k]->s.xs≠t.xs):=fun h e=>h (by simp[e]);clear hc hc' hA hA' HR;generalize s.xs[k]=x at *;generalize t.xs[k]=y at *;obtain⟨xa,xn,xs⟩:=x;obtain⟨ya,yn,ys⟩:=y;simp only at hq e0 e1 e2 f0 f1 f2;cases hxy:decide ((⟨xa,xn,xs⟩:PartG)=⟨ya,yn,ys⟩)
   ·rw[hxy] at hq
    have HF:Hid (decide (s.xs=t.xs)=false):=decide_eq_false (Hf.out (of_decide_eq_false hxy));clear hxy Hf Ht;go_wp2_with fail
    go_still (by kernel_rfl)
    go_wp2
    go_ret;exact⟨by rw[HF.out];rfl,hB.drew⟩
   ·rw[hxy] at hq
    have HT2:=Xa (Ht.out (of_decide_eq_true hxy));clear hxy Hf Ht;go_wp2_with fail
    go_still (by kernel_rfl)
    go_wp2
    go_roundw
    case rel=>exact⟨k+1,by omega,by go_num,hB.drew,HT2⟩
    case measure=>simp[intOf];omega
  ·have HE:Hid (decide (s.xs=t.xs)=true):=by
    have h:=HR.out;rw[List.take_of_length_le (by omega),List.take_of_length_le (by have:=Hl.out;omega)] at h;exact decide_eq_true h
   clear HR;go_wp2_with fail
   go_ret;exact⟨by rw[HE.out];rfl,hB⟩
theorem Xyx (a b:EntryG) (w:World):Calls Tryz.prog 136 #[a.vl,b.vl] w fun e w'=>e = .returned (.bool (decide (a.no=b.no)))/\Below w.heap.size w w':=by
 obtain⟨W1,hW1⟩:∃W1,(w.alloc a.ob).alloc b.ob=W1:=⟨_,rfl⟩
 have hB1:Below w.heap.size w W1:=by subst hW1;exact Xg ba_q _
 have hk:W1.heap[w.heap.size]? = some a.ob:=by subst hW1;exact(Below.heap_alloc _ _ _ (by simp)).trans (World.alloc_heap_new _ _)
 have hk2:W1.heap[w.heap.size+1]? = some b.ob:=by subst hW1;have:=World.alloc_heap_new (w.alloc a.ob) b.ob;rwa [World.size_alloc] at this
 have q:=Xei a.no b.no;obtain⟨c0,c1,c2,c3,c4⟩:=gb5 hk;obtain⟨d0,d1,d2,d3,d4⟩:=gb5 hk2;clear hk hk2;generalize decide (a.no=b.no)=f at *;cases f
 ·go_enter Tryz.func136,Tryz.ntmps136
  go_wp2_with fail
  go_ret;exact⟨rfl,hB1⟩
 ·go_enter Tryz.func136,Tryz.ntmps136
  go_wp2_with fail
  go_ret;exact⟨rfl,hB1⟩
theorem Xyy (a b:RuleG) (w:World) (ha:a.lies w) (hb:b.lies w) (hl:a.parts.xs.length=b.parts.xs.length):Calls Tryz.prog 138 #[a.vl,b.vl] w fun e w'=>e = .returned (.bool (decide (a.no=b.no) && decide (a.parts.xs=b.parts.xs)))/\Below w.heap.size w w':=by
 obtain⟨W1,hW1⟩:∃W1,(w.alloc a.ob).alloc b.ob=W1:=⟨_,rfl⟩
 have hB1:Below w.heap.size w W1:=by subst hW1;exact Xg ba_q _
 have hk:W1.heap[w.heap.size]? = some a.ob:=by subst hW1;exact(Below.heap_alloc _ _ _ (by simp)).trans (World.alloc_heap_new _ _)
 have hk2:W1.heap[w.heap.size+1]? = some b.ob:=by subst hW1;have:=World.alloc_heap_new (w.alloc a.ob) b.ob;rwa [World.size_alloc] at this
 have cP:=Xa (X1t a.parts b.parts W1 (ha.ext hB1).1 (hb.ext hB1).1 hl);have q:=Xei a.no b.no;obtain⟨c0,c1,c2,c3,c4⟩:=gb5 hk;obtain⟨d0,d1,d2,d3,d4⟩:=gb5 hk2;clear hk hk2 ha hb hl;generalize decide (a.no=b.no)=f at *;generalize decide (a.parts.xs=b.parts.xs)=h at *;cases f
 ·go_enter Tryz.func138,Tryz.ntmps138
  go_wp2_with fail
  go_ret;exact⟨rfl,hB1⟩
 ·go_enter Tryz.func138,Tryz.ntmps138
  go_wp2_with fail
  refine cP.out.mono ?_;rintro ee w4 ⟨rfl,hb4⟩;go_wp2_with fail
  go_ret;exact⟨by simp,Xb hB1 hb4⟩
def noE (a b:EntryG):Bool:=decide (a.no=b.no)
def noR (a b:RuleG):Bool:=decide (a.no=b.no) && decide (a.parts.xs=b.parts.xs)
theorem Xuy {g X:Gram} (h:Xyf (Z4 g.cats.xs) g X):(decide (X.startNo=g.startNo) && allZ noE X.entries.xs g.entries.xs && allZ noR X.rules.xs g.rules.xs)=Ua g:=by
 rw[Bool.eq_iff_iff];unfold Ua;have he:X.entries.xs.length=g.entries.xs.length:=by rw[h.entries,List.length_map]
 simp only[Bool.and_eq_true];rw[Xbn noE he,Xbn noR h.rules,Xtq,Xtq];constructor
 ·rintro⟨⟨h1,h2⟩,h3⟩
  refine⟨⟨?_,fun i x hx=>?_⟩,fun i x hx=>?_⟩
  ·rw[h.startNo] at h1
   exact decide_eq_true (of_decide_eq_true h1).symm
  ·have hX:X.entries.xs[i]? = some (Xb2 g.cats.xs x):=by rw[h.entries,List.getElem?_map,hx];rfl
   exact decide_eq_true (of_decide_eq_true (h2 i _ _ hX hx)).symm
  ·obtain⟨r',hr'⟩:∃r',X.rules.xs[i]? = some r':=by
    have hi:=(List.getElem?_eq_some_iff.1 hx).1;exact⟨_,List.getElem?_eq_getElem (by rw[h.rules];exact hi)⟩
   have hrr:=h.rule i x r' hx hr';have:=h3 i _ _ hr' hx;unfold noR at this;simp only[Bool.and_eq_true,decide_eq_true_eq] at this;refine Bool.and_eq_true_iff.2 ⟨decide_eq_true ?_,List.all_eq_true.2 fun p hp=>decide_eq_true ?_⟩
   ·rw[<- this.1,hrr.no]
   ·have t4:=this.2
    rw[hrr.parts,Xo1] at t4;exact(Xi3 _ _).1 (t4 p hp)
 ·rintro⟨⟨h1,h2⟩,h3⟩
  refine⟨⟨?_,fun i x y hx hy=>?_⟩,fun i x y hx hy=>?_⟩
  ·rw[h.startNo]
   exact decide_eq_true (of_decide_eq_true h1).symm
  ·rw[h.entries,List.getElem?_map,hy] at hx
   cases hx;exact decide_eq_true (of_decide_eq_true (h2 i y hy)).symm
  ·have hrr:=h.rule i y x hy hx
   have h4:=h3 i y hy;rw[Bool.and_eq_true,List.all_eq_true] at h4;unfold noR;rw[hrr.no,hrr.parts,<- of_decide_eq_true h4.1];have:y.parts.xs.map (Z4 g.cats.xs)=y.parts.xs:=Xo1.2 fun p hp=>(Xi3 _ _).2 (of_decide_eq_true (h4.2 p hp));rw[this];simp
theorem Xc1 (g:Gram) (w:World) (hT:TabsG w) (hg:g.lies w) (hs:g.short):Calls Tryz.prog 75 #[g.vl] w fun e w'=>e = .returned (.int .i64 (Yb g))/\Below w.heap.size w w':=by
 obtain⟨W1,hW1⟩:∃W1,w.alloc g.ob=W1:=⟨_,rfl⟩
 have hB1:Below w.heap.size w W1:=by subst hW1;exact ba_q
 have hk:W1.heap[w.heap.size]? = some g.ob:=by subst hW1;exact World.alloc_heap_new _ _
 have HC:=Xa (Xqw g);have cR:=Xa (Xi4 g W1 (hT.ext hB1) (hg.ext hB1) hs);have HG:=Xa (hg.ext hB1);have Hk:=Xa hk;obtain⟨c0,c1,c2,c3,c4,c5⟩:=gb6 hk;clear hT hg hk;go_enter Tryz.func75,Tryz.ntmps75
 go_wp2_with fail
 clear hW1;refine cR.out.mono ?_;rintro e w2 ⟨X,rfl,hb2,hX⟩;have hB2:=Xb hB1 hb2;by_cases hz:resG g=0
 ·obtain⟨hXl,hRO⟩:=hX hz
  have hsame:=Xuy hRO;obtain⟨W3,hW3⟩:∃W3,w2.alloc X.ob=W3:=⟨_,rfl⟩
  have hb3:Below w2.heap.size w2 W3:=by subst hW3;exact ba_q
  have hk3:W3.heap[w2.heap.size]? = some X.ob:=by subst hW3;exact World.alloc_heap_new _ _
  have hkg:=((Xb hb2 hb3).block _ (Xd Hk.out)).trans Hk.out;have he:X.entries.xs.length=g.entries.xs.length:=by rw[hRO.entries,List.length_map]
  have hX3:=hXl.ext hb3;have hG3:=HG.out.ext (Xb hb2 hb3);have cE:=Xa (Xy7 X.entries g.entries 136 noE W3 hX3.entries hG3.entries he (enters_of Tryz.func136 (by kernel_rfl) rfl) (fun V hV i x y _ _=>Xyx x y V));have cU:=Xa (fun V (hV:Below W3.heap.size W3 V)=>Xy8 X.rules g.rules 138 noR V (hX3.ext hV).rules (hG3.ext hV).rules hRO.rules (enters_of Tryz.func138 (by kernel_rfl) rfl) (fun V' hV' i x y hx hy=>Xyy x y V' (((hX3.ext hV).ext hV').rule x (List.mem_of_getElem? hx)) (((hG3.ext hV).ext hV').rule y (List.mem_of_getElem? hy)) (by rw[(hRO.rule i y x hy hx).parts,List.length_map])));have HE:Hid (Yb g=if Ua g then 0 else 260):=by show _=_;rw[HC.out,hz];rfl
  rw[<- hsame] at HE;have q:=Xzp X.startNo g.startNo;have Hk3:=Xa hk3;have Hkg:=Xa hkg;clear c0 c1 c2 c3 c4 c5;obtain⟨x0,x1,x2,x3,x4,x5⟩:=gb6 hk3;obtain⟨c0,c1,c2,c3,c4,c5⟩:=gb6 hkg;generalize allZ noE X.entries.xs g.entries.xs=f2 at *;generalize allZ noR X.rules.xs g.rules.xs=f3 at *;generalize decide (X.startNo=g.startNo)=f1 at *;rw[hz];have hB3:=Xb hB2 hb3;clear hX hXl hRO hsame hk3 hkg he hz HC cR hX3 hG3 hb2;go_wp2_with fail
  clear hW3;refine cE.out.mono ?_;rintro ee w4 ⟨rfl,hb4⟩;have hB4:=Xb hB3 hb4;have hk4:=Xi hb4 Hk3.out;have hkg4:=Xi hb4 Hkg.out;clear x0 x1 x2 x3 x4 x5 c0 c1 c2 c3 c4 c5 cE;obtain⟨x0,x1,x2,x3,x4,x5⟩:=gb6 hk4;obtain⟨c0,c1,c2,c3,c4,c5⟩:=gb6 hkg4;have Hk4:=Xa hk4;have Hkg4:=Xa hkg4;clear hk4 hkg4;go_wp2_with fail
  refine(cU.out w4 hb4).mono ?_;rintro ee w5 ⟨rfl,hb5⟩;have hB5:=Xb hB4 hb5;have hk5:=Xi hb5 Hk4.out;have hkg5:=Xi hb5 Hkg4.out;clear x0 x1 x2 x3 x4 x5 c0 c1 c2 c3 c4 c5 cU;obtain⟨x0,x1,x2,x3,x4,x5⟩:=gb6 hk5;obtain⟨c0,c1,c2,c3,c4,c5⟩:=gb6 hkg5;clear hk5 hkg5;cases f1<;>cases f2<;>cases f3
  all_goals
   simp only[Bool.not_true,Bool.not_false] at q;go_wp2_with fail
   go_ret;exact⟨by rw[HE.out];rfl,hB5⟩
 ·have HE:Hid (Yb g=resG g):=by show _=_;rw[HC.out,if_pos hz]
  have hb3:Below w2.heap.size w2 (w2.alloc X.ob):=ba_q;have g1:(resG g != 0)=true:=by simpa using hz
  generalize resG g=r at *;clear hX HC hz;go_wp2_with fail
  go_ret;exact⟨by rw[HE.out];rfl,Xb hB2 hb3⟩
end Go.Proofs.YtolpbjjapodmnaaGreatDoor
