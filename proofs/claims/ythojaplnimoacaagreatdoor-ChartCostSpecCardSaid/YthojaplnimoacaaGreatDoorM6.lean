/- Texts of this claim, one after the other: RangeN, RangeW, RangeX, R26a, R26b, R26c. -/
import Derived.Test.YthojaplnimoacaaGreatDoorM1
import Derived.Test.YthojaplnimoacaaGreatDoorM3
import Derived.Test.YthojaplnimoacaaGreatDoorM2
import Derived.Test.YthojaplnimoacaaGreatDoorM5
import Derived.BigQuiet
/- A range over a function whose rounds do not panic: the iterator's contract, the caller's law (which tells that the loop's own blocks are not the caller's). Plain theorems about the machine's steps. -/
namespace Go.Han
open Go.RowKit
variable {P:Program}
def IterN {α:Type} (P:Program) (g:Nat) (lb:Array Value) (encs:α→Array Value) (R M:Nat→Prop) (xs:List α) (w0:World):Prop :=
 ∀(l B0:Nat) (J Jx:(Nat→Prop)→List α→World→Prop) (own₀:Nat→Prop) (W:World),
  (∀k,R k→k<B0∧W.heap[k]? = w0.heap[k]?)→(∀k,own₀ k→¬R k)→B0≤W.heap.size→(∀k,own₀ k→k<W.heap.size) →
  Zn B0 M J→Zn B0 M Jx →
  (∀own pre x W1,J own pre W1→pre++[x] <+: xs→(∀k,own k→¬R k)→(∀k,own k→k<W1.heap.size)→YieldAt Fence.wide 0 P l (encs x) W1 (Tq J Jx (fun _ _=>False) own (pre++[x]) W1)) →
  J own₀ [] W →
  Calls P g (#[.func (.yield l) #[] #[]]++lb) W (Xek J Jx (fun _ _=>False) xs none)
theorem IterC.n {α:Type} {g:Nat} {lb:Array Value} {encs:α→Array Value} {R M:Nat→Prop} {xs:List α} {w0:World} (h:IterC P g lb encs R M xs none w0):IterN P g lb encs R M xs w0 :=
 fun l B0 J Jx own₀ W=>h l B0 J Jx (fun _ _=>False) own₀ W
def ItInv {α:Type} (w0:World) (B0:Nat) (R:Nat→Prop) (J:(Nat→Prop)→List α→World→Prop) (ys:List α) (wr:World):Prop :=
 ∃own,J own ys wr∧(∀j,R j→wr.heap[j]? = w0.heap[j]?)∧(∀j,own j→¬R j)∧(∀j,own j→j<wr.heap.size)∧B0≤wr.heap.size
def Xo3 (w0:World) (R:Nat→Prop):Prop:=∀j,R j→j<w0.heap.size
theorem Xem {w0 W:World} {R:Nat→Prop} (ha:Xo3 w0 R) (h:∀j,R j→W.heap[j]? = w0.heap[j]?) {j:Nat} (hj:R j):j<W.heap.size:=by
 rcases Nat.lt_or_ge j W.heap.size with h1|h1
 ·exact h1
 ·have h2:=h j hj
  rw[Array.getElem?_eq_none h1] at h2
  have:=Array.getElem?_eq_none_iff.1 h2.symm
  have:=ha j hj
  omega
theorem ItInv.ext {α:Type} {w0:World} {B0:Nat} {R M:Nat→Prop} {J:(Nat→Prop)→List α→World→Prop} {ys:List α} {wr W:World} (h:ItInv w0 B0 R J ys wr) (hJ:Zn B0 M J) (ha:Xo3 w0 R) (hb:Below wr.heap.size wr W):ItInv w0 B0 R J ys W:=by
 obtain⟨own,hj,hR,hd,hl,hB⟩:=h
 exact⟨own,hJ own ys wr W hj (IterStep.of_below hb),fun j hjR=>(hb.block j (Xem ha hR hjR)).trans (hR j hjR),hd,fun j hj=>Nat.lt_of_lt_of_le (hl j hj) hb.size,Nat.le_trans hB hb.size⟩
theorem ItInv.body {α:Type} {w0:World} {B0:Nat} {R own own':Nat→Prop} {J:(Nat→Prop)→List α→World→Prop} {ys:List α} {W1 W3:World} (hj:J own' ys W3) (hbs:BodyStep own own' W1 W3) (ha:Xo3 w0 R)
  (hR:∀j,R j→W1.heap[j]? = w0.heap[j]?) (hd:∀j,own j→¬R j) (hB:B0≤W1.heap.size):ItInv w0 B0 R J ys W3:=by
 refine⟨own',hj,fun j hjR=>(hbs.block j (Xem ha hR hjR) (fun h=>hd j h hjR)).trans (hR j hjR),fun j hjo hjR=>?_,hbs.live,Nat.le_trans hB hbs.size⟩
 rcases hbs.owns j hjo with h|h
 ·exact hd j h hjR
 ·have:=Xem ha hR hjR;omega
section
variable {f:FuncId} {Q:Exit→Act→World→Prop} {a:Act} {w:World}
end
theorem Xgb {fn:Func} {tmps:Array Value} {R:Ending→World→Prop} {W:World} {v:Value} (hres:(results fn tmps).run P W = .ok v W) (hR:R (.returned v) W) :
  LeavesInM Fence.wide 0 P fn tmps R [] .returning W:=⟨v,hres,hR⟩
end Go.Han
/- A range over a function that yields what lies in its own memory: the iterator's contract, the caller's law. Plain theorems about the machine's steps. Conditions: none. -/
namespace Go.Han
open Go.RowKit
variable {P:Program}
structure OneStep (l:Nat) (W W':World):Prop where
 os:W'.os=W.os
 tape:W'.tape=W.tape
 output:W'.output=W.output
 size:W'.heap.size=W.heap.size
 block:∀k,k≠l→W'.heap[k]? = W.heap[k]?
theorem OneStep.iter {l B0:Nat} {M own:Nat→Prop} {W W':World} (h:OneStep l W W') (hl:B0≤l) (hn:¬own l):IterStep B0 M own W W' :=
 ⟨h.os,h.tape,h.output,by rw[h.size];exact Nat.le_refl _,fun k _ ho=>h.block k (by rintro rfl;rcases ho with ho|ho;omega;exact hn ho)⟩
end Go.Han
/- A range over a calm function: between two rounds it only lays new blocks, and no round stops it. The iterator's contract, the caller's law. Plain theorems about the machine's steps. Conditions: none. -/
namespace Go.Han
open Go.RowKit
variable {P:Program}
def Xl9 (o:Obj):Prop:=∀cs t fr,o ≠ .cells cs t fr
def KeepsX (W W':World):Prop:=∀(k:Nat) (o:Obj),W.heap[k]? = some o→Xl9 o→W'.heap[k]? = some o
theorem KeepsX.refl (W:World):KeepsX W W:=fun _ _ h _=>h
theorem KeepsX.trans {A B C:World} (h:KeepsX A B) (k:KeepsX B C):KeepsX A C:=fun j o ho hn=>k j o (h j o ho hn) hn
theorem KeepsX.below {W W':World} (h:Below W.heap.size W W'):KeepsX W W':=fun k _ ho _=>(h.block k (Array.getElem?_eq_some_iff.1 ho).1).trans ho
theorem KeepsX.grown {W W':World} {row:Option Nat} (h:W.grownBy W' row) (hr:∀g,row=some g→∃cs t fr,W.heap[g]? = some (.cells cs t fr)):KeepsX W W':=fun k o ho hn =>
 (h.block k (Array.getElem?_eq_some_iff.1 ho).1 (by
  intro e
  obtain⟨cs,t,fr,hc⟩:=hr k e.symm
  rw[hc] at ho
  exact hn cs t fr (Option.some.inj ho).symm)).trans ho
theorem KeepsX.setCell {W:World} {b t:Nat} {cs:Array Value} {fr:Nat×Nat} (h:W.heap[b]? = some (.cells cs t fr)) (j:Nat) (v:Value):KeepsX W (W.setCell ⟨b,j,none⟩ v):=fun k o ho hn =>
 (Below.heap_setCell _ _ _ _ (by
  rintro rfl
  have:=h.symm.trans ho
  exact hn cs t fr (Option.some.inj this).symm)).trans ho
theorem OneStep.put (W:World) (l:Nat) (o:Obj):OneStep l W (W.putObj l o):=⟨rfl,rfl,rfl,by simp,fun _ hk=>World.putObj_heap_other hk⟩
end Go.Han
namespace Go.Proofs.YthojaplnimoacaaGreatDoor
open Go.RowKit Go.Han
attribute [local irreducible] wpStill wpQuiet
set_option maxRecDepth 100000
theorem Xcm {x y:ByteArray} (h:x.toList=y.toList):x=y:=by rw[ByteArray.toList_eq,ByteArray.toList_eq] at h;exact ByteArray.ext (Array.toList_inj.1 h)
theorem Xd6 (s t:StrS) (w:World) (hs:s.lies w) (ht:t.lies w):Calls Tryz.prog 41 #[s.val,t.val] w fun e w'=>e = .returned (.bool (decide (s.xs=t.xs)))∧Below w.heap.size w w':=by
 obtain⟨A,c,l⟩:=s
 obtain⟨B,d,l'⟩:=t
 have hm:l.length≤9223372036854775807:=Nat.le_trans hs.cap hs.max
 have hat:=Xa (fun k hk=>StrS.at_ hs (k:=k) hk)
 have hat':=Xa (fun k hk=>StrS.at_ ht (k:=k) hk)
 show Calls _ _ #[.slice A l.length c,.slice B l'.length d] w fun e w'=>e = .returned (.bool (decide (l=l')))∧_
 clear hs ht
 by_cases hl:l.length=l'.length
 ·have hne:((l.length:Int) != (l'.length:Int))=false:=by simp[hl]
  have Hl:=Xa hl
  clear hl
  go_enter Tryz.func41,Tryz.ntmps41
  go_wp2_with fail
  go_loopw [5] (fun i wr=>∃k:Nat,k≤l.length∧i = .int .i64 k∧Below w.heap.size w wr∧Hid (l.take k=l'.take k)) (fun i _=>l.length-(intOf i).toNat)
  case atStart=>exact⟨0,Nat.zero_le _,rfl,Below.refl _ _,rfl⟩
  case round =>
   obtain⟨k,hk,rfl,hB,HR⟩:=hrel
   by_cases hlt:k<l.length
   ·have hlt':k<l'.length:=by have:=Hl.out;omega
    obtain⟨b,off,he,hb,hc⟩:=hat.out k hlt
    obtain⟨b',off',he',hb',hc'⟩:=hat'.out k hlt'
    change A=_ at he
    change B=_ at he'
    change ∀(j:Nat) (hj:j<l.length),w.cell? ⟨b,off+j,none⟩=some (.string l[j]) at hc
    change ∀(j:Nat) (hj:j<l'.length),w.cell? ⟨b',off'+j,none⟩=some (.string l'[j]) at hc'
    subst he he'
    have h1:=(hB.cell (p:=⟨b,off+k,none⟩) hb).trans (hc k hlt)
    have h2:=(hB.cell (p:=⟨b',off'+k,none⟩) hb').trans (hc' k hlt')
    have htk:l.take (k+1)=l.take k++[l[k]]:=List.take_succ_eq_append_getElem hlt
    have htk':l'.take (k+1)=l'.take k++[l'[k]]:=List.take_succ_eq_append_getElem hlt'
    have Htk:=Xa htk
    have Htk':=Xa htk'
    have hf:Hid (l=l'→l[k]=l'[k]):=by rintro rfl;rfl
    clear hc hc' htk htk'
    generalize l[k]=x at *
    generalize l'[k]=y at *
    by_cases hxy:x=y
    ·subst hxy
     have g1:(x.toList != x.toList)=false:=by simp
     have g2:(x.toList == x.toList)=true:=by simp
     go_wp2_with fail
     go_still (by kernel_rfl)
     go_wp2
     go_roundw
     case rel=>exact⟨k+1,by omega,by go_num,hB.drew,by show _=_;rw[Htk.out,Htk'.out,HR.out]⟩
     case measure=>simp[intOf];omega
    ·have HF:Hid (decide (l=l')=false):=decide_eq_false (fun h=>hxy (hf.out h))
     have hxl:¬x.toList=y.toList:=fun h=>hxy (by rw[ByteArray.toList_eq,ByteArray.toList_eq] at h;cases x with|mk a=>cases y with|mk b=>cases a;cases b;simp at h;rw[h])
     have g1:(x.toList != y.toList)=true:=by simpa using hxl
     have g2:(x.toList == y.toList)=false:=by simpa using hxl
     clear hxy hxl
     go_wp2_with fail
     go_still (by kernel_rfl)
     go_wp2
     go_ret
     exact⟨by rw[HF.out];rfl,hB.drew⟩
   ·have HF:Hid (decide (l=l')=true):=by
     refine decide_eq_true ?_
     obtain rfl:k=l.length:=by omega
     have h:=HR.out
     rw[List.take_length,List.take_of_length_le (by have:=Hl.out;omega)] at h
     exact h
    clear HR
    go_wp2_with fail
    go_ret
    exact⟨by rw[HF.out];rfl,hB⟩
 ·have hne:((l.length:Int) != (l'.length:Int))=true:=by simp;omega
  have HF:Hid (decide (l=l')=false):=decide_eq_false (fun h=>hl (by rw[h]))
  clear hl
  go_enter Tryz.func41,Tryz.ntmps41
  go_wp2_with fail
  go_ret
  exact⟨by rw[HF.out];rfl,Below.refl _ _⟩
theorem Xag (s t:StrS) (w:World) (hs:s.lies w) (ht:t.lies w):Calls Tryz.prog 41 #[.slice s.addr s.xs.length s.cap,.slice t.addr t.xs.length t.cap] w fun e w'=>e = .returned (.bool (decide (s.xs=t.xs)))∧Below w.heap.size w w':=Xd6 s t w hs ht
theorem Xc1 {s:ByteArray}:∀ {l:List ByteArray} {k:Nat} (hk:k<l.length),s∉l.take k→l[k]=s→idxF s l=k
 | [],k,hk,_,_=>by simp at hk
 | x :: l,0,_,_,h=>by
  have h:x=s:=h
  unfold idxF
  rw[if_pos h];rfl
 | x :: l,k+1,hk,hn,h=>by
  rw[List.take_succ_cons,List.mem_cons,not_or] at hn
  have ih:=Xc1 (l:=l) (k:=k) (by simpa using hk) hn.2 (by simpa using h)
  unfold idxF
  rw[if_neg (fun e=>hn.1 e.symm),ih,if_neg (by omega)]
  omega
theorem Xgz {s:ByteArray} {l:List ByteArray} (h:s∉l):idxF s l = -1:=by
 have h1:=Vo s l
 have h2:=Xed s l
 have h3:¬0≤idxF s l:=fun h'=>h (h1.1 h')
 omega
set_option maxHeartbeats 1000000 in
theorem Zb (l:StrS) (s:ByteArray) (w:World) (hl:l.lies w):Calls Tryz.prog 42 #[.slice l.addr l.xs.length l.cap,.string s] w fun e w'=>e = .returned (.int .i64 (idxF s l.xs))∧w=w':=by
 have hat:=Xa (fun k hk=>StrS.at_ hl (k:=k) hk)
 have hm:l.xs.length≤9223372036854775807:=Nat.le_trans hl.cap hl.max
 obtain⟨A,c,xs⟩:=l
 simp only at *
 clear hl
 go_enter Tryz.func42,Tryz.ntmps42
 go_wp2_with fail
 go_loopw [5] (fun i wr=>∃k:Nat,k≤xs.length∧i = .int .i64 k∧wr=w∧Hid (s∉xs.take k)) (fun i _=>xs.length-(intOf i).toNat)
 case atStart=>exact⟨0,Nat.zero_le _,rfl,rfl,by show ¬_;simp⟩
 case round =>
  obtain⟨k,hk,rfl,rfl,HR⟩:=hrel
  by_cases hlt:k<xs.length
  ·obtain⟨b,off,he,hb,hc⟩:=hat.out k hlt
   have he:A=some ⟨b,off,none⟩:=he
   subst he
   have d0:wr.cell? ⟨b,off+k,none⟩=some (.string xs[k]):=hc k hlt
   have Hh:=Xa (fun h=>Xc1 (s:=s) hlt HR.out h)
   have HN:Hid (xs[k]≠s→s∉xs.take (k+1)):=by
    intro hne hmem
    rw[List.take_succ_eq_append_getElem hlt,List.mem_append,List.mem_singleton] at hmem
    rcases hmem with h|h
    ·exact HR.out h
    ·exact hne h.symm
   clear hc hat
   generalize xs[k]=x at *
   by_cases hx:x=s
   ·have HF:=Xa (Hh.out hx)
    have g2:(x.toList == s.toList)=true:=by rw[hx];simp
    clear hx Hh HN
    go_wp2_with fail
    go_ret
    exact⟨by rw[HF.out];rfl,rfl⟩
   ·have HF:=Xa (HN.out hx)
    have g2:(x.toList == s.toList)=false:=by simpa using fun h=>hx (Xcm h)
    clear hx Hh HN
    go_wp2_with fail
    go_roundw
    case rel=>exact⟨k+1,by omega,by go_num,trivial,HF⟩
    case measure=>simp[intOf];omega
  ·have HF:Hid (idxF s xs = -1):=Xgz (by
    have h:=HR.out
    rw[List.take_of_length_le (by omega)] at h
    exact h)
   clear HR
   go_wp2_with fail
   go_ret
   exact⟨by rw[HF.out];rfl,rfl⟩
theorem Xrl (s:ByteArray):(kwords.any fun y=>decide (y=s))=kwords.any (fun y=>s.toList == y.toList):=by
 congr 1
 funext y
 by_cases h:y=s
 ·subst h;simp
 ·have:¬s.toList=y.toList:=fun e=>h (Xcm e).symm
  simp[h,this]
theorem Xl4 (s:ByteArray) (w:World):Calls Tryz.prog 212 #[.string s] w fun e w'=>e = .returned (.bool (kwords.any fun y=>decide (y=s)))∧w=w':=by
 have HK:Hid ((kwords.any fun y=>decide (y=s))=(s.toList == [103,114,97,109,109,97,114] || (s.toList == [99,97,116,101,103,111,114,121] || (s.toList == [115,116,97,114,116] || (s.toList == [119,111,114,100] || (s.toList == [105,115] || (s.toList == [103,105,118,101,115] || (s.toList == [99,111,115,116] || (s.toList == [114,117,108,101] || false))))))))):=by
  show _=_
  have e:kwords.map (fun y=>y.toList)=[[103,114,97,109,109,97,114],[99,97,116,101,103,111,114,121],[115,116,97,114,116],[119,111,114,100],[105,115],[103,105,118,101,115],[99,111,115,116],[114,117,108,101]]:=by kernel_rfl
  have h:(kwords.any fun y=>s.toList == y.toList)=(kwords.map (fun y=>y.toList)).any (fun l=>s.toList == l):=by rw[List.any_map];rfl
  rw[Xrl,h,e]
  rfl
 rw[HK.out]
 clear HK
 go_enter Tryz.func212,Tryz.ntmps212
 go_wp2
 all_goals try (exfalso;simp_all;done)
 all_goals go_ret
 all_goals (refine⟨?_,rfl⟩;simp[*])
theorem V0 (s:ByteArray) (w:World):Calls Tryz.prog 185 #[.string s] w fun e w'=>e = .returned (.bool (Xw s))∧w=w':=by
 have HE:Hid (Xw s=(Vk s && !(kwords.any fun y=>decide (y=s)))):=rfl
 have cN:=Xa (Xn4 s w)
 have cW:=Xa (Xl4 s w)
 generalize Vk s=b1 at *
 generalize (kwords.any fun y=>decide (y=s))=b2 at *
 go_enter Tryz.func185,Tryz.ntmps185
 go_wp2_with fail
 refine cN.out.mono ?_
 rintro e w' ⟨rfl,rfl⟩
 cases b1
 ·go_wp2_with fail
  go_ret
  exact⟨by rw[HE.out];rfl,rfl⟩
 ·go_wp2_with fail
  refine cW.out.mono ?_
  rintro e w' ⟨rfl,rfl⟩
  go_wp2_with fail
  go_ret
  exact⟨by rw[HE.out];simp,rfl⟩
theorem Xe0 (n:Int) (w:World):Calls Tryz.prog 213 #[.int .i64 n] w fun e w'=>e = .returned (.bool (Vn n))∧w=w':=by
 go_enter Tryz.func213,Tryz.ntmps213
 go_wp2
 all_goals go_ret
 ·simp[Vn, *]
 ·have:¬0≤n:=by omega
  simp[Vn, *]
theorem T9 (g:Gram) (s:ByteArray) (w:World) (hg:g.cats.lies w):Calls Tryz.prog 186 #[.agg #[.string g.name,.slice g.cats.addr g.cats.xs.length g.cats.cap,.string g.start,.int .i64 g.startNo,.slice g.entries.addr g.entries.xs.length g.entries.cap,.slice g.rules.addr g.rules.xs.length g.rules.cap],.string s] w fun e w'=>e = .returned (.bool (catB g.cats.xs s))∧Below w.heap.size w w':=by
 obtain⟨W1,hW1⟩:∃W1,w.alloc (.cells #[.string g.name,.slice g.cats.addr g.cats.xs.length g.cats.cap,.string g.start,.int .i64 g.startNo,.slice g.entries.addr g.entries.xs.length g.entries.cap,.slice g.rules.addr g.rules.xs.length g.rules.cap] 26)=W1:=⟨_,rfl⟩
 have hB1:Below w.heap.size w W1:=by subst hW1;exact Xe (Below.refl _ _) _
 have hk:W1.heap[w.heap.size]? = some (.cells #[.string g.name,.slice g.cats.addr g.cats.xs.length g.cats.cap,.string g.start,.int .i64 g.startNo,.slice g.entries.addr g.entries.xs.length g.entries.cap,.slice g.rules.addr g.rules.xs.length g.rules.cap] 26 (0,0)):=by subst hW1;exact World.alloc_heap_new _ _
 have c1:=gblk hk 1
 have cI:=Xa (Zb g.cats s W1 (hg.ext hB1))
 have HE:Hid (catB g.cats.xs s=decide (0≤idxF s g.cats.xs)):=rfl
 have HW1:=Xa hW1
 clear hg hk hW1
 go_enter Tryz.func186,Tryz.ntmps186
 go_wp2_with fail
 rw[HW1.out]
 refine cI.out.mono ?_
 rintro e w' ⟨rfl,rfl⟩
 generalize idxF s g.cats.xs=n at *
 have h3:(n≥0)=(0≤n):=rfl
 go_wp2_with fail
 go_ret
 exact⟨by rw[HE.out];rfl,hB1⟩
theorem Xjg (g:Gram) (x:PartG) (w:World) (hg:g.cats.lies w):Calls Tryz.prog 214 #[.agg #[.string g.name,.slice g.cats.addr g.cats.xs.length g.cats.cap,.string g.start,.int .i64 g.startNo,.slice g.entries.addr g.entries.xs.length g.entries.cap,.slice g.rules.addr g.rules.xs.length g.rules.cap],.agg #[.string x.cat,.int .i64 x.no,.string x.text]] w fun e w'=>e = .returned (.bool (Yj g.cats.xs x))∧Below w.heap.size w w':=by
 obtain⟨W1,hW1⟩:∃W1,(w.alloc (.cells #[.string g.name,.slice g.cats.addr g.cats.xs.length g.cats.cap,.string g.start,.int .i64 g.startNo,.slice g.entries.addr g.entries.xs.length g.entries.cap,.slice g.rules.addr g.rules.xs.length g.rules.cap] 26)).alloc (.cells #[.string x.cat,.int .i64 x.no,.string x.text] 150)=W1:=⟨_,rfl⟩
 have hB1:Below w.heap.size w W1:=by subst hW1;exact Xe (Xe (Below.refl _ _) _) _
 have hk:W1.heap[w.heap.size]? = some (.cells #[.string g.name,.slice g.cats.addr g.cats.xs.length g.cats.cap,.string g.start,.int .i64 g.startNo,.slice g.entries.addr g.entries.xs.length g.entries.cap,.slice g.rules.addr g.rules.xs.length g.rules.cap] 26 (0,0)):=by subst hW1;exact(Below.heap_alloc _ _ _ (by simp)).trans (World.alloc_heap_new _ _)
 have hk2:W1.heap[w.heap.size+1]? = some (.cells #[.string x.cat,.int .i64 x.no,.string x.text] 150 (0,0)):=by subst hW1;have:=World.alloc_heap_new (w.alloc (.cells #[.string g.name,.slice g.cats.addr g.cats.xs.length g.cats.cap,.string g.start,.int .i64 g.startNo,.slice g.entries.addr g.entries.xs.length g.entries.cap,.slice g.rules.addr g.rules.xs.length g.rules.cap] 26)) (.cells #[.string x.cat,.int .i64 x.no,.string x.text] 150);rwa [World.size_alloc] at this
 have cC:=Xa (T9 g x.cat W1 (hg.ext hB1))
 have cF:=Xa (V0 x.text W1)
 have HE:Hid (Yj g.cats.xs x=if x.text.size=0 then catB g.cats.xs x.cat else decide (x.cat.size=0) && Xw x.text):=rfl
 have a0:=gblk hk 0
 have a1:=gblk hk 1
 have a2:=gblk hk 2
 have a3:=gblk hk 3
 have a4:=gblk hk 4
 have a5:=gblk hk 5
 have b0:=gblk hk2 0
 have b1:=gblk hk2 1
 have b2:=gblk hk2 2
 generalize catB g.cats.xs x.cat=f1 at *
 generalize Xw x.text=f2 at *
 clear hg hk hk2
 by_cases h0:x.text.size=0
 ·have n0:=Zq (s:=x.text) (by omega)
  have HE2:Hid (Yj g.cats.xs x=f1):=by show _=_;rw[HE.out,if_pos h0]
  clear HE cF h0
  go_enter Tryz.func214,Tryz.ntmps214
  go_wp2_with fail
  refine cC.out.mono ?_
  rintro e w2 ⟨rfl,hb2⟩
  go_wp2_with fail
  go_ret
  exact⟨by rw[HE2.out];rfl,Xb hB1 hb2⟩
 ·have n0:=Zp (s:=x.text) (by omega)
  by_cases h1:x.cat.size=0
  ·have n1:=Zq (s:=x.cat) (by omega)
   have HE2:Hid (Yj g.cats.xs x=f2):=by show _=_;rw[HE.out,if_neg h0,decide_eq_true h1];rfl
   clear HE cC h0 h1
   go_enter Tryz.func214,Tryz.ntmps214
   go_wp2_with fail
   refine cF.out.mono ?_
   rintro e w2 ⟨rfl,rfl⟩
   go_wp2_with fail
   go_ret
   exact⟨by rw[HE2.out];rfl,hB1⟩
  ·have n1:=Zp (s:=x.cat) (by omega)
   have HE2:Hid (Yj g.cats.xs x=false):=by show _=_;rw[HE.out,if_neg h0,decide_eq_false h1];rfl
   clear HE cC cF h0 h1
   go_enter Tryz.func214,Tryz.ntmps214
   go_wp2_with fail
   go_ret
   exact⟨by rw[HE2.out];rfl,hB1⟩
set_option maxHeartbeats 1000000 in
theorem Xku (x:RuleG) (y:GiveG) (w:World) (hx:x.lies w):Calls Tryz.prog 215 #[.agg #[.string x.cat,.int .i64 x.no,.slice x.parts.addr x.parts.xs.length x.parts.cap,.slice x.gives.addr x.gives.xs.length x.gives.cap,.int .i64 x.cost],.agg #[.int .i64 y.part,.string y.text]] w fun e w'=>e = .returned (.bool (Zs x.parts.xs y))∧Below w.heap.size w w':=by
 obtain⟨W1,hW1⟩:∃W1,(w.alloc (.cells #[.string x.cat,.int .i64 x.no,.slice x.parts.addr x.parts.xs.length x.parts.cap,.slice x.gives.addr x.gives.xs.length x.gives.cap,.int .i64 x.cost] 104)).alloc (.cells #[.int .i64 y.part,.string y.text] 152)=W1:=⟨_,rfl⟩
 have hB1:Below w.heap.size w W1:=by subst hW1;exact Xe (Xe (Below.refl _ _) _) _
 have hk:W1.heap[w.heap.size]? = some (.cells #[.string x.cat,.int .i64 x.no,.slice x.parts.addr x.parts.xs.length x.parts.cap,.slice x.gives.addr x.gives.xs.length x.gives.cap,.int .i64 x.cost] 104 (0,0)):=by subst hW1;exact(Below.heap_alloc _ _ _ (by simp)).trans (World.alloc_heap_new _ _)
 have hk2:W1.heap[w.heap.size+1]? = some (.cells #[.int .i64 y.part,.string y.text] 152 (0,0)):=by subst hW1;have:=World.alloc_heap_new (w.alloc (.cells #[.string x.cat,.int .i64 x.no,.slice x.parts.addr x.parts.xs.length x.parts.cap,.slice x.gives.addr x.gives.xs.length x.gives.cap,.int .i64 x.cost] 104)) (.cells #[.int .i64 y.part,.string y.text] 152);rwa [World.size_alloc] at this
 have HX:=Xa (hx.ext hB1)
 have hm:x.parts.xs.length≤9223372036854775807:=Nat.le_trans hx.1.cap hx.1.max
 have cF:=Xa (V0 y.text W1)
 have HE:Hid (Zs x.parts.xs y=if y.text.size=0 then Th x.parts.xs y.part else decide (y.part=0) && Xw y.text):=rfl
 have a0:=gblk hk 0
 have a1:=gblk hk 1
 have a2:=gblk hk 2
 have a3:=gblk hk 3
 have a4:=gblk hk 4
 have b0:=gblk hk2 0
 have b1:=gblk hk2 1
 clear hx hk hk2
 by_cases h0:y.text.size=0
 ·have n0:=Zq (s:=y.text) (by omega)
  have HE2:Hid (Zs x.parts.xs y=Th x.parts.xs y.part):=by show _=_;rw[HE.out,if_pos h0]
  clear HE cF h0
  by_cases hp:0≤y.part∧y.part<x.parts.xs.length
  ·obtain⟨p,hp1⟩:∃p:Nat,y.part=(p:Int):=⟨y.part.toNat,by omega⟩
   have hpl:p<x.parts.xs.length:=by omega
   obtain⟨b,off,hA,hb,hc⟩:=HX.out.1.at_ PartG.size_cells (by omega) hpl
   have d0:W1.cell? ⟨b,off+p*3,none⟩=some (.string x.parts.xs[p].cat):=hc p hpl W1 (Below.refl _ _) 0 _ rfl
   have d1:W1.cell? ⟨b,off+p*3+1,none⟩=some (.int .i64 x.parts.xs[p].no):=hc p hpl W1 (Below.refl _ _) 1 _ rfl
   have d2:W1.cell? ⟨b,off+p*3+2,none⟩=some (.string x.parts.xs[p].text):=hc p hpl W1 (Below.refl _ _) 2 _ rfl
   have HE3:Hid (Zs x.parts.xs y=decide (x.parts.xs[p].text.size=0)):=by
    show _=_
    rw[HE2.out]
    unfold Th
    rw[hp1,Int.toNat_natCast,List.getElem?_eq_getElem hpl]
    simp
   have hcast:(p:Int)<(x.parts.xs.length:Int):=by omega
   rw[hA] at a2
   rw[hp1] at b0
   clear hc HE2 hp HX hA
   generalize x.parts.xs[p]=q at *
   obtain⟨yp,yt⟩:=y
   have hp1:yp=(p:Int):=hp1
   subst hp1
   dsimp only at *
   by_cases hq:q.text.size=0
   ·have n1:=Zq (s:=q.text) (by omega)
    have HE4:Hid (Zs x.parts.xs ⟨(p:Int),yt⟩=true):=by show _=_;rw[HE3.out,decide_eq_true hq]
    clear HE3 hq
    go_enter Tryz.func215,Tryz.ntmps215
    go_wp2_with fail
    go_ret
    exact⟨by rw[HE4.out];rfl,hB1⟩
   ·have n1:=Zp (s:=q.text) (by omega)
    have HE4:Hid (Zs x.parts.xs ⟨(p:Int),yt⟩=false):=by show _=_;rw[HE3.out,decide_eq_false hq]
    clear HE3 hq
    go_enter Tryz.func215,Tryz.ntmps215
    go_wp2_with fail
    go_ret
    exact⟨by rw[HE4.out];rfl,hB1⟩
  ·have HE3:Hid (Zs x.parts.xs y=false):=by
    show _=_
    rw[HE2.out]
    unfold Th
    by_cases h1:0≤y.part
    ·rw[List.getElem?_eq_none (by omega)];simp
    ·rw[decide_eq_false h1];rfl
   clear HE2 HX
   by_cases h1:0≤y.part
   ·have h2:¬y.part<(x.parts.xs.length:Int):=fun h=>hp ⟨h1,h⟩
    clear hp
    go_enter Tryz.func215,Tryz.ntmps215
    go_wp2_with fail
    go_ret
    exact⟨by rw[HE3.out];rfl,hB1⟩
   ·have h2:y.part<0:=by omega
    clear hp
    go_enter Tryz.func215,Tryz.ntmps215
    go_wp2_with fail
    go_ret
    exact⟨by rw[HE3.out];rfl,hB1⟩
 ·have n0:=Zp (s:=y.text) (by omega)
  by_cases h1:y.part=0
  ·have g1:(y.part == 0)=true:=by simp[h1]
   have HE2:Hid (Zs x.parts.xs y=Xw y.text):=by show _=_;rw[HE.out,if_neg h0,decide_eq_true h1];rfl
   generalize Xw y.text=f2 at *
   clear HE h0 h1 HX
   go_enter Tryz.func215,Tryz.ntmps215
   go_wp2_with fail
   refine cF.out.mono ?_
   rintro e w2 ⟨rfl,rfl⟩
   go_wp2_with fail
   go_ret
   exact⟨by rw[HE2.out];rfl,hB1⟩
  ·have g1:(y.part == 0)=false:=by simpa using h1
   have HE2:Hid (Zs x.parts.xs y=false):=by show _=_;rw[HE.out,if_neg h0,decide_eq_false h1];rfl
   clear HE cF h0 h1 HX
   go_enter Tryz.func215,Tryz.ntmps215
   go_wp2_with fail
   go_ret
   exact⟨by rw[HE2.out];rfl,hB1⟩
set_option maxHeartbeats 1000000 in
theorem Xiw (x:RuleG) (n:Nat) (w:World) (hx:x.lies w):Calls Tryz.prog 216 #[.agg #[.string x.cat,.int .i64 x.no,.slice x.parts.addr x.parts.xs.length x.parts.cap,.slice x.gives.addr x.gives.xs.length x.gives.cap,.int .i64 x.cost],.int .i64 (n:Int)] w fun e w'=>e = .returned (.int .i64 (Ya x.gives.xs n:Nat))∧Below w.heap.size w w':=by
 obtain⟨W1,hW1⟩:∃W1,w.alloc (.cells #[.string x.cat,.int .i64 x.no,.slice x.parts.addr x.parts.xs.length x.parts.cap,.slice x.gives.addr x.gives.xs.length x.gives.cap,.int .i64 x.cost] 104)=W1:=⟨_,rfl⟩
 have hB1:Below w.heap.size w W1:=by subst hW1;exact Xe (Below.refl _ _) _
 have hk:W1.heap[w.heap.size]? = some (.cells #[.string x.cat,.int .i64 x.no,.slice x.parts.addr x.parts.xs.length x.parts.cap,.slice x.gives.addr x.gives.xs.length x.gives.cap,.int .i64 x.cost] 104 (0,0)):=by subst hW1;exact World.alloc_heap_new _ _
 have HX:=Xa (hx.ext hB1)
 have hm:x.gives.xs.length≤9223372036854775807:=Nat.le_trans hx.2.cap hx.2.max
 have a3:W1.cell? ⟨w.heap.size,3,none⟩=some (.slice x.gives.addr x.gives.xs.length x.gives.cap):=gblk hk 3
 have HW1:=Xa hW1
 have HB1:=Xa hB1
 clear hx hk hW1 hB1
 go_enter Tryz.func216,Tryz.ntmps216
 go_wp2_with fail
 rw[HW1.out]
 clear HW1
 go_loopw [5,6] (fun m i wr=>∃k:Nat,k≤x.gives.xs.length∧i = .int .i64 k∧m = .int .i64 (Ya (x.gives.xs.take k) n:Nat)∧wr=W1) (fun _ i _=>x.gives.xs.length-(intOf i).toNat)
 case atStart=>exact⟨0,Nat.zero_le _,rfl,rfl,rfl⟩
 case round =>
  obtain⟨k,hk,rfl,rfl,rfl⟩:=hrel
  by_cases hlt:k<x.gives.xs.length
  ·obtain⟨b,off,hA,hb,hc⟩:=HX.out.2.at_ GiveG.size_cells (by omega) hlt
   have d0:wr.cell? ⟨b,off+k*2,none⟩=some (.int .i64 x.gives.xs[k].part):=hc k hlt wr (Below.refl _ _) 0 _ rfl
   have d1:wr.cell? ⟨b,off+k*2+1,none⟩=some (.string x.gives.xs[k].text):=hc k hlt wr (Below.refl _ _) 1 _ rfl
   rw[hA] at a3 ⊢
   have htk:x.gives.xs.take (k+1)=x.gives.xs.take k++[x.gives.xs[k]]:=List.take_succ_eq_append_getElem hlt
   have Htk:=Xa (htk ▸ Xbm (x.gives.xs.take k) x.gives.xs[k] n:Ya (x.gives.xs.take (k+1)) n=_)
   have hle:Ya (x.gives.xs.take k) n<9223372036854775807:=by have h1:=Xe8 (x.gives.xs.take k) n;have h2:=List.length_take_le k x.gives.xs;omega
   clear hc htk hA HX
   generalize x.gives.xs[k]=y at *
   generalize Ya (x.gives.xs.take k) n=c at *
   by_cases ht:y.text.size=0
   ·have n0:=Zq (s:=y.text) (by omega)
    by_cases hp:y.part=(n:Int)
    ·have g1:(y.part == (n:Int))=true:=by simp[hp]
     have HR:Hid (Ya (x.gives.xs.take (k+1)) n=c+1):=by show _=_;rw[Htk.out,if_pos ⟨ht,hp⟩]
     have w1:IntKind.i64.wrap ((c:Int)+1)=(c:Int)+1:=IntWalk.i64_in _ (by omega)
     clear Htk ht hp
     go_wp2_with fail
     go_roundw
     case rel=>exact⟨k+1,by omega,by go_num,by rw[HR.out];go_num,by first|rfl|trivial⟩
     case measure=>simp[intOf];omega
    ·have g1:(y.part == (n:Int))=false:=by simpa using hp
     have HR:Hid (Ya (x.gives.xs.take (k+1)) n=c):=by show _=_;rw[Htk.out,if_neg (fun h=>hp h.2)];rfl
     clear Htk ht hp
     go_wp2_with fail
     go_roundw
     case rel=>exact⟨k+1,by omega,by go_num,by rw[HR.out],by first|rfl|trivial⟩
     case measure=>simp[intOf];omega
   ·have n0:=Zp (s:=y.text) (by omega)
    have HR:Hid (Ya (x.gives.xs.take (k+1)) n=c):=by show _=_;rw[Htk.out,if_neg (fun h=>ht h.1)];rfl
    clear Htk ht
    go_wp2_with fail
    go_roundw
    case rel=>exact⟨k+1,by omega,by go_num,by rw[HR.out],by first|rfl|trivial⟩
    case measure=>simp[intOf];omega
  ·obtain rfl:k=x.gives.xs.length:=by omega
   have HR:Hid (Ya (x.gives.xs.take x.gives.xs.length) n=Ya x.gives.xs n):=by show _=_;rw[List.take_length]
   go_wp2_with fail
   go_ret
   exact⟨by first|rfl|(rw[HR.out];rfl),HB1.out⟩
def Uo (x:RuleG):Bool:=match x.parts.xs with|[p]=>decide (p.text.size=0)|_=>false
theorem Xij (x:RuleG) (w:World) (hx:x.lies w):Calls Tryz.prog 189 #[.agg #[.string x.cat,.int .i64 x.no,.slice x.parts.addr x.parts.xs.length x.parts.cap,.slice x.gives.addr x.gives.xs.length x.gives.cap,.int .i64 x.cost]] w fun e w'=>e = .returned (.bool (Uo x))∧Below w.heap.size w w':=by
 obtain⟨W1,hW1⟩:∃W1,w.alloc (.cells #[.string x.cat,.int .i64 x.no,.slice x.parts.addr x.parts.xs.length x.parts.cap,.slice x.gives.addr x.gives.xs.length x.gives.cap,.int .i64 x.cost] 104)=W1:=⟨_,rfl⟩
 have hB1:Below w.heap.size w W1:=by subst hW1;exact Xe (Below.refl _ _) _
 have hk:W1.heap[w.heap.size]? = some (.cells #[.string x.cat,.int .i64 x.no,.slice x.parts.addr x.parts.xs.length x.parts.cap,.slice x.gives.addr x.gives.xs.length x.gives.cap,.int .i64 x.cost] 104 (0,0)):=by subst hW1;exact World.alloc_heap_new _ _
 have a2:W1.cell? ⟨w.heap.size,2,none⟩=some (.slice x.parts.addr x.parts.xs.length x.parts.cap):=gblk hk 2
 have hat:=(hx.ext hB1).1
 by_cases hl:x.parts.xs.length=1
 ·obtain⟨p,hp⟩:=List.length_eq_one_iff.1 hl
  obtain⟨b,off,hA,hb,hc⟩:=hat.at_ PartG.size_cells (by omega) (k:=0) (by omega)
  have d2:=hc 0 (by omega) W1 (Below.refl _ _) 2 _ rfl
  have h0:x.parts.xs[0]'(by omega)=p:=by simp[hp]
  rw[h0] at d2
  rw[hA,hl] at a2
  have HE:Hid (Uo x=decide (p.text.size=0)):=by show _=_;unfold Uo;rw[hp]
  have d2:W1.cell? ⟨b,off+2,none⟩=some (.string p.text):=by simpa using d2
  clear hc hx hk hat hA hl h0 hp
  by_cases ht:p.text.size=0
  ·have n0:=Zq (s:=p.text) (by omega)
   have HE2:Hid (Uo x=true):=by show _=_;rw[HE.out,decide_eq_true ht]
   clear HE ht
   go_enter Tryz.func189,Tryz.ntmps189
   go_wp2_with fail
   go_ret
   exact⟨by rw[HE2.out];rfl,hB1⟩
  ·have n0:=Zp (s:=p.text) (by omega)
   have HE2:Hid (Uo x=false):=by show _=_;rw[HE.out,decide_eq_false ht]
   clear HE ht
   go_enter Tryz.func189,Tryz.ntmps189
   go_wp2_with fail
   go_ret
   exact⟨by rw[HE2.out];rfl,hB1⟩
 ·have HE:Hid (Uo x=false):=by
   show _=_
   unfold Uo
   split
   ·rename_i h;rw[h] at hl;simp at hl
   ·rfl
  have g1:((x.parts.xs.length:Int) == 1)=false:=by simp;omega
  clear hat hk hx hl
  go_enter Tryz.func189,Tryz.ntmps189
  go_wp2_with fail
  go_ret
  exact⟨by rw[HE.out];rfl,hB1⟩
set_option maxHeartbeats 1000000 in
theorem Xhu (g:Gram) (x:EntryG) (w:World) (hg:g.cats.lies w) (hx:x.lies w):Calls Tryz.prog 187 #[.agg #[.string g.name,.slice g.cats.addr g.cats.xs.length g.cats.cap,.string g.start,.int .i64 g.startNo,.slice g.entries.addr g.entries.xs.length g.entries.cap,.slice g.rules.addr g.rules.xs.length g.rules.cap],.agg #[.string x.text,.string x.cat,.int .i64 x.no,.slice x.gives.addr x.gives.xs.length x.gives.cap,.int .i64 x.cost]] w fun e w'=>e = .returned (.bool (Yt g.cats.xs x))∧Below w.heap.size w w':=by
 obtain⟨W1,hW1⟩:∃W1,(w.alloc (.cells #[.string g.name,.slice g.cats.addr g.cats.xs.length g.cats.cap,.string g.start,.int .i64 g.startNo,.slice g.entries.addr g.entries.xs.length g.entries.cap,.slice g.rules.addr g.rules.xs.length g.rules.cap] 26)).alloc (.cells #[.string x.text,.string x.cat,.int .i64 x.no,.slice x.gives.addr x.gives.xs.length x.gives.cap,.int .i64 x.cost] 70)=W1:=⟨_,rfl⟩
 have hB1:Below w.heap.size w W1:=by subst hW1;exact Xe (Xe (Below.refl _ _) _) _
 have hk:W1.heap[w.heap.size]? = some (.cells #[.string g.name,.slice g.cats.addr g.cats.xs.length g.cats.cap,.string g.start,.int .i64 g.startNo,.slice g.entries.addr g.entries.xs.length g.entries.cap,.slice g.rules.addr g.rules.xs.length g.rules.cap] 26 (0,0)):=by subst hW1;exact(Below.heap_alloc _ _ _ (by simp)).trans (World.alloc_heap_new _ _)
 have hk2:W1.heap[w.heap.size+1]? = some (.cells #[.string x.text,.string x.cat,.int .i64 x.no,.slice x.gives.addr x.gives.xs.length x.gives.cap,.int .i64 x.cost] 70 (0,0)):=by subst hW1;have:=World.alloc_heap_new (w.alloc (.cells #[.string g.name,.slice g.cats.addr g.cats.xs.length g.cats.cap,.string g.start,.int .i64 g.startNo,.slice g.entries.addr g.entries.xs.length g.entries.cap,.slice g.rules.addr g.rules.xs.length g.rules.cap] 26)) (.cells #[.string x.text,.string x.cat,.int .i64 x.no,.slice x.gives.addr x.gives.xs.length x.gives.cap,.int .i64 x.cost] 70);rwa [World.size_alloc] at this
 have HX:=Xa (StrS.lies.ext hx hB1)
 have hm:x.gives.xs.length≤9223372036854775807:=Nat.le_trans (StrS.lies.cap hx) (StrS.lies.max hx)
 have cF:=Xa (V0 x.text W1)
 have cC:=Xa (T9 g x.cat W1 (hg.ext hB1))
 have cD:=Xa (fun W=>Xe0 x.cost W)
 have HE:Hid (Yt g.cats.xs x=(Xw x.text && catB g.cats.xs x.cat && (decide (1≤x.gives.xs.length) && decide (x.gives.xs.length≤4)) && x.gives.xs.all Xw && Vn x.cost)):=rfl
 have HW1:=Xa hW1
 generalize Xw x.text=f1 at *
 generalize catB g.cats.xs x.cat=f2 at *
 generalize Vn x.cost=f5 at *
 have b0:=gblk hk2 0
 have b1:=gblk hk2 1
 have b2:=gblk hk2 2
 have b3:=gblk hk2 3
 have b4:=gblk hk2 4
 have hg0:=hk
 have c0:=gblk hk 0
 have c1:=gblk hk 1
 have c2:=gblk hk 2
 have c3:=gblk hk 3
 have c4:=gblk hk 4
 have c5:=gblk hk 5
 clear hg hx hk hg0 hW1
 go_enter Tryz.func187,Tryz.ntmps187
 go_wp2_with fail
 rw[HW1.out]
 clear HW1
 refine cF.out.mono ?_
 rintro e w2 ⟨rfl,rfl⟩
 cases f1
 ·go_wp2_with fail
  go_ret
  exact⟨by rw[HE.out];rfl,hB1⟩
 go_wp2_with fail
 refine cC.out.mono ?_
 rintro e w2 ⟨rfl,hb2⟩
 have hB2:=Xb hB1 hb2
 cases f2
 ·go_wp2_with fail
  go_ret
  exact⟨by rw[HE.out];rfl,hB2⟩
 have hk3:=Xh hb2 hk2
 have HX2:=Xa (StrS.lies.ext HX.out hb2)
 have d0:=gblk hk3 0
 have d1:=gblk hk3 1
 have d2:=gblk hk3 2
 have d3:=gblk hk3 3
 have d4:=gblk hk3 4
 clear b0 b1 b2 b3 b4 c0 c1 c2 c3 c4 c5 HX hk2 hk3 cF cC
 by_cases hl:1≤x.gives.xs.length∧x.gives.xs.length≤4
 ·have HE2:Hid (Yt g.cats.xs x=(x.gives.xs.all Xw && f5)):=by show _=_;rw[HE.out,decide_eq_true hl.1,decide_eq_true hl.2];rfl
  have l1:=hl.1
  have l2:=hl.2
  have g1:¬((x.gives.xs.length:Int)<1):=by omega
  have g2:¬((4:Int)<(x.gives.xs.length:Int)):=by omega
  clear hl HE
  go_wp2_with fail
  refine(cD.out w2).mono ?_
  rintro e w' ⟨rfl,rfl⟩
  cases f5
  ·go_wp2_with fail
   go_ret
   exact⟨by rw[HE2.out];simp,hB2⟩
  go_wp2_with fail
  go_loopw [5] (fun i wr=>∃k:Nat,k≤x.gives.xs.length∧i = .int .i64 k∧wr=w2∧Hid ((x.gives.xs.take k).all Xw=true)) (fun i _=>x.gives.xs.length-(intOf i).toNat)
  case atStart=>exact⟨0,Nat.zero_le _,rfl,rfl,rfl⟩
  case round =>
   obtain⟨k,hk,rfl,rfl,HR⟩:=hrel
   by_cases hlt:k<x.gives.xs.length
   ·obtain⟨b,off,hA,hb,hc⟩:=StrS.at_ HX2.out (k:=k) hlt
    have e0:wr.cell? ⟨b,off+k,none⟩=some (.string x.gives.xs[k]):=hc k hlt
    rw[hA] at d3 ⊢
    have htk:x.gives.xs.take (k+1)=x.gives.xs.take k++[x.gives.xs[k]]:=List.take_succ_eq_append_getElem hlt
    have hmem:=List.getElem_mem hlt
    have HT:Hid (Xw x.gives.xs[k]=true→(x.gives.xs.take (k+1)).all Xw=true):=by intro h;rw[htk,List.all_append,HR.out];simp[h]
    have HF:Hid (Xw x.gives.xs[k]=false→x.gives.xs.all Xw=false):=by intro h;rw[List.all_eq_false];exact⟨_,hmem,by simp[h]⟩
    have cG:=Xa (V0 x.gives.xs[k] wr)
    clear hc htk hA HX2 HR hmem
    generalize x.gives.xs[k]=y at *
    generalize Xw y=f at *
    go_wp2_with fail
    refine cG.out.mono ?_
    rintro e w' ⟨rfl,rfl⟩
    cases f
    ·have HF2:=Xa (HF.out rfl)
     clear HF HT
     go_wp2_with fail
     go_ret
     exact⟨by rw[HE2.out,HF2.out];rfl,hB2⟩
    ·have HT2:=Xa (HT.out rfl)
     clear HF HT
     go_wp2_with fail
     go_roundw
     case rel=>exact⟨k+1,by omega,by go_num,by first|rfl|trivial,HT2⟩
     case measure=>simp[intOf];omega
   ·have HF:Hid (x.gives.xs.all Xw=true):=by
     have h:=HR.out
     rw[List.take_of_length_le (by omega)] at h
     exact h
    clear HR
    go_wp2_with fail
    go_ret
    exact⟨by rw[HE2.out,HF.out];rfl,hB2⟩
 ·have HE2:Hid (Yt g.cats.xs x=false):=by
   show _=_
   rw[HE.out]
   by_cases h1:1≤x.gives.xs.length
   ·have h2:¬x.gives.xs.length≤4:=fun h=>hl ⟨h1,h⟩
    rw[decide_eq_false h2];simp
   ·rw[decide_eq_false h1];simp
  clear HE
  by_cases h1:1≤x.gives.xs.length
  ·have g1:¬((x.gives.xs.length:Int)<1):=by omega
   have g2:(4:Int)<(x.gives.xs.length:Int):=by omega
   clear hl
   go_wp2_with fail
   go_ret
   exact⟨by rw[HE2.out];rfl,hB2⟩
  ·have g1:(x.gives.xs.length:Int)<1:=by omega
   clear hl
   go_wp2_with fail
   go_ret
   exact⟨by rw[HE2.out];rfl,hB2⟩
end Go.Proofs.YthojaplnimoacaaGreatDoor
