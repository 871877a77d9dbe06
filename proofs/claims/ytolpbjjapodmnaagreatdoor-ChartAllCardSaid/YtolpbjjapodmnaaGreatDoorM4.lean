/- Texts of this claim, one after the other: RangeN, RangeW, RangeX, Grm0, Term2, Term3, R26a, R26b, GrmJ. -/
import Derived.Test.YtolpbjjapodmnaaGreatDoorM1
import Derived.Test.YtolpbjjapodmnaaGreatDoorM2
import Derived.Test.YtolpbjjapodmnaaGreatDoorM3
import Derived.BigQuiet
/- A range over a function whose rounds do not panic: the iterator's contract, the caller's law (which tells that the loop's own blocks are not the caller's). Plain theorems about the machine's steps. -/
namespace Go.Han
open Go.RowKit
variable {P:Program}
def IterN {α:Type} (P:Program) (g:Nat) (lb:Array Value) (encs:α→Array Value) (R M:Nat→Prop) (xs:List α) (w0:World):Prop :=
 ∀(l B0:Nat) (J Jx:(Nat→Prop)→List α→World→Prop) (own₀:Nat→Prop) (W:World),
  (∀k,R k→k<B0∧W.heap[k]? = w0.heap[k]?)→(∀k,own₀ k→¬R k)→B0≤W.heap.size→(∀k,own₀ k→k<W.heap.size) →
  Zn B0 M J→Zn B0 M Jx →
  (∀own pre x W1,J own pre W1→pre++[x] <+: xs→(∀k,own k→¬R k)→(∀k,own k→k<W1.heap.size)→YieldAt Fence.wide 0 P l (encs x) W1 (Tq J Jx (fun _ _=>False) own (pre++[x]) W1)) →
  J own₀ [] W →
  Calls P g (#[.func (.yield l) #[] #[]]++lb) W (Xek J Jx (fun _ _=>False) xs none)
theorem IterC.n {α:Type} {g:Nat} {lb:Array Value} {encs:α→Array Value} {R M:Nat→Prop} {xs:List α} {w0:World} (h:IterC P g lb encs R M xs none w0):IterN P g lb encs R M xs w0 :=
 fun l B0 J Jx own₀ W=>h l B0 J Jx (fun _ _=>False) own₀ W
def ItInv {α:Type} (w0:World) (B0:Nat) (R:Nat→Prop) (J:(Nat→Prop)→List α→World→Prop) (ys:List α) (wr:World):Prop :=
 ∃own,J own ys wr∧(∀j,R j→wr.heap[j]? = w0.heap[j]?)∧(∀j,own j→¬R j)∧(∀j,own j→j<wr.heap.size)∧B0≤wr.heap.size
def Xo3 (w0:World) (R:Nat→Prop):Prop:=∀j,R j→j<w0.heap.size
theorem Xem {w0 W:World} {R:Nat→Prop} (ha:Xo3 w0 R) (h:∀j,R j→W.heap[j]? = w0.heap[j]?) {j:Nat} (hj:R j):j<W.heap.size:=by
 rcases Nat.lt_or_ge j W.heap.size with h1|h1
 ·exact h1
 ·have h2:=h j hj
  rw[Array.getElem?_eq_none h1] at h2
  have:=Array.getElem?_eq_none_iff.1 h2.symm
  have:=ha j hj
  omega
theorem ItInv.ext {α:Type} {w0:World} {B0:Nat} {R M:Nat→Prop} {J:(Nat→Prop)→List α→World→Prop} {ys:List α} {wr W:World} (h:ItInv w0 B0 R J ys wr) (hJ:Zn B0 M J) (ha:Xo3 w0 R) (hb:Below wr.heap.size wr W):ItInv w0 B0 R J ys W:=by
 obtain⟨own,hj,hR,hd,hl,hB⟩:=h
 exact⟨own,hJ own ys wr W hj (IterStep.of_below hb),fun j hjR=>(hb.block j (Xem ha hR hjR)).trans (hR j hjR),hd,fun j hj=>Nat.lt_of_lt_of_le (hl j hj) hb.size,Nat.le_trans hB hb.size⟩
theorem ItInv.body {α:Type} {w0:World} {B0:Nat} {R own own':Nat→Prop} {J:(Nat→Prop)→List α→World→Prop} {ys:List α} {W1 W3:World} (hj:J own' ys W3) (hbs:BodyStep own own' W1 W3) (ha:Xo3 w0 R)
  (hR:∀j,R j→W1.heap[j]? = w0.heap[j]?) (hd:∀j,own j→¬R j) (hB:B0≤W1.heap.size):ItInv w0 B0 R J ys W3:=by
 refine⟨own',hj,fun j hjR=>(hbs.block j (Xem ha hR hjR) (fun h=>hd j h hjR)).trans (hR j hjR),fun j hjo hjR=>?_,hbs.live,Nat.le_trans hB hbs.size⟩
 rcases hbs.owns j hjo with h|h
 ·exact hd j h hjR
 ·have:=Xem ha hR hjR;omega
section
variable {f:FuncId} {Q:Exit→Act→World→Prop} {a:Act} {w:World}
end
theorem Xgb {fn:Func} {tmps:Array Value} {R:Ending→World→Prop} {W:World} {v:Value} (hres:(results fn tmps).run P W = .ok v W) (hR:R (.returned v) W) :
  LeavesInM Fence.wide 0 P fn tmps R [] .returning W:=⟨v,hres,hR⟩
end Go.Han
/- A range over a function that yields what lies in its own memory: the iterator's contract, the caller's law. Plain theorems about the machine's steps. Conditions: none. -/
namespace Go.Han
open Go.RowKit
variable {P:Program}
structure OneStep (l:Nat) (W W':World):Prop where
 os:W'.os=W.os
 tape:W'.tape=W.tape
 output:W'.output=W.output
 size:W'.heap.size=W.heap.size
 block:∀k,k≠l→W'.heap[k]? = W.heap[k]?
theorem OneStep.iter {l B0:Nat} {M own:Nat→Prop} {W W':World} (h:OneStep l W W') (hl:B0≤l) (hn:¬own l):IterStep B0 M own W W' :=
 ⟨h.os,h.tape,h.output,by rw[h.size];exact Nat.le_refl _,fun k _ ho=>h.block k (by rintro rfl;rcases ho with ho|ho;omega;exact hn ho)⟩
end Go.Han
/- A range over a calm function: between two rounds it only lays new blocks, and no round stops it. The iterator's contract, the caller's law. Plain theorems about the machine's steps. Conditions: none. -/
namespace Go.Han
open Go.RowKit
variable {P:Program}
def Xl9 (o:Obj):Prop:=∀cs t fr,o ≠ .cells cs t fr
def KeepsX (W W':World):Prop:=∀(k:Nat) (o:Obj),W.heap[k]? = some o→Xl9 o→W'.heap[k]? = some o
theorem KeepsX.refl (W:World):KeepsX W W:=fun _ _ h _=>h
theorem KeepsX.trans {A B C:World} (h:KeepsX A B) (k:KeepsX B C):KeepsX A C:=fun j o ho hn=>k j o (h j o ho hn) hn
theorem KeepsX.below {W W':World} (h:Below W.heap.size W W'):KeepsX W W':=fun k _ ho _=>(h.block k (Array.getElem?_eq_some_iff.1 ho).1).trans ho
theorem KeepsX.grown {W W':World} {row:Option Nat} (h:W.grownBy W' row) (hr:∀g,row=some g→∃cs t fr,W.heap[g]? = some (.cells cs t fr)):KeepsX W W':=fun k o ho hn =>
 (h.block k (Array.getElem?_eq_some_iff.1 ho).1 (by
  intro e
  obtain⟨cs,t,fr,hc⟩:=hr k e.symm
  rw[hc] at ho
  exact hn cs t fr (Option.some.inj ho).symm)).trans ho
theorem KeepsX.setCell {W:World} {b t:Nat} {cs:Array Value} {fr:Nat×Nat} (h:W.heap[b]? = some (.cells cs t fr)) (j:Nat) (v:Value):KeepsX W (W.setCell ⟨b,j,none⟩ v):=fun k o ho hn =>
 (Below.heap_setCell _ _ _ _ (by
  rintro rfl
  have:=h.symm.trans ho
  exact hn cs t fr (Option.some.inj this).symm)).trans ho
theorem OneStep.put (W:World) (l:Nat) (o:Obj):OneStep l W (W.putObj l o):=⟨rfl,rfl,rfl,by simp,fun _ hk=>World.putObj_heap_other hk⟩
end Go.Han
namespace Go.Proofs.YtolpbjjapodmnaaGreatDoor
open Go.RowKit Go.Han
set_option maxRecDepth 100000
structure SlS.lies {α:Type} (f:α→List Value) (w:World) (s:SlS α):Prop where
 rd:Rd w s.addr (s.xs.flatMap f)
 cap:s.xs.length≤s.cap
 max:s.cap≤9223372036854775807
 nil:s.addr=none→s.xs=[]
theorem SlS.lies.ext {α:Type} {f:α→List Value} {w w':World} {s:SlS α} (h:s.lies f w) (hb:Below w.heap.size w w'):s.lies f w':=⟨h.rd.ext hb,h.cap,h.max,h.nil⟩
theorem SlS.lies.at_ {α:Type} {f:α→List Value} {sz:Nat} (hf:∀x,(f x).length=sz) (h0:0<sz) {w:World} {s:SlS α} (h:s.lies f w) {k:Nat} (hk:k<s.xs.length):∃b off,s.addr=some ⟨b,off,none⟩∧b<w.heap.size ∧
  ∀(i:Nat) (hi:i<s.xs.length) (W:World),Below w.heap.size w W→∀(j:Nat) (u:Value),(f s.xs[i])[j]? = some u→W.cell? ⟨b,off+i*sz+j,none⟩=some u:=by
 obtain⟨b,off,he,hb,_⟩:=h.rd.elem hf h0 hk
 refine⟨b,off,he,hb,fun i hi W hW j u hu=>?_⟩
 obtain⟨b',off',he',_,hc⟩:=h.rd.elem hf h0 hi
 rw[he] at he'
 cases he'
 exact(hW.cell (p:=⟨b,off+i*sz+j,none⟩) hb).trans (hc j u hu)
theorem PartG.size_cells (x:PartG):x.cells.length=3:=rfl
theorem GiveG.size_cells (x:GiveG):x.cells.length=2:=rfl
theorem EntryG.size_cells (x:EntryG):x.cells.length=5:=rfl
theorem RuleG.size_cells (x:RuleG):x.cells.length=5:=rfl
def EntryG.lies (w:World) (x:EntryG):Prop:=x.gives.lies w
def RuleG.lies (w:World) (x:RuleG):Prop:=x.parts.lies PartG.cells w∧x.gives.lies GiveG.cells w
structure Gram.lies (w:World) (g:Gram):Prop where
 cats:g.cats.lies w
 entries:g.entries.lies EntryG.cells w
 entry:∀x∈g.entries.xs,x.lies w
 rules:g.rules.lies RuleG.cells w
 rule:∀x∈g.rules.xs,x.lies w
theorem EntryG.lies.ext {w w':World} {x:EntryG} (h:x.lies w) (hb:Below w.heap.size w w'):x.lies w':=StrS.lies.ext h hb
theorem RuleG.lies.ext {w w':World} {x:RuleG} (h:x.lies w) (hb:Below w.heap.size w w'):x.lies w':=⟨h.1.ext hb,h.2.ext hb⟩
theorem Gram.lies.ext {w w':World} {g:Gram} (h:g.lies w) (hb:Below w.heap.size w w'):g.lies w':=⟨h.cats.ext hb,h.entries.ext hb,fun x hx=>(h.entry x hx).ext hb,h.rules.ext hb,fun x hx=>(h.rule x hx).ext hb⟩
end Go.Proofs.YtolpbjjapodmnaaGreatDoor
namespace Go.Proofs.YtolpbjjapodmnaaGreatDoor
open Go.RowKit Go.Han
attribute [local irreducible] wpStill wpQuiet
set_option maxRecDepth 100000
theorem Xik {c k:Int} (h:Xei c k) (hp:Zu c=true):k=2∨k=3∨k=5:=by
 unfold Zu at hp
 rcases h with ⟨_,h⟩|⟨_,_,h⟩|⟨_,_,_,h⟩|⟨h1,h2,h3,_⟩
 ·exact .inl h
 ·exact .inr (.inl h)
 ·exact .inr (.inr h)
 ·rw[h1,h2,decide_eq_false h3] at hp;cases hp
theorem Xm4 {c k:Int} (h:Xei c k) (hp:Zu c=false):k=0∨k=1∨k=4:=by
 unfold Zu at hp
 rcases h with ⟨h,_⟩|⟨_,h,_⟩|⟨_,_,h,_⟩|⟨_,_,_,h⟩
 ·rw[h] at hp;cases hp
 ·rw[h] at hp;simp at hp
 ·rw[h] at hp;simp at hp
 ·exact h
theorem Xf6 {c k:Int} (h:Xei c k) (hp:Yd c=true):k=2:=by
 rcases h with ⟨_,h⟩|⟨h1,_,h⟩|⟨h1,_,_,h⟩|⟨h1,_,_,_⟩
 ·exact h
 all_goals rw[hp] at h1;cases h1
theorem Xhp {c k:Int} (h:Xei c k) (hp:Yd c=false):k=0∨k=1∨k=3∨k=4∨k=5:=by
 rcases h with ⟨h1,h⟩|⟨_,_,h⟩|⟨_,_,_,h⟩|⟨_,_,_,h⟩
 ·rw[hp] at h1;cases h1
 all_goals omega
def Xhk (Q:Int→Prop) (w:World) (e:Ending) (w':World):Prop:=∃k,e = .returned (.int .i64 k)∧Q k∧w=w'
theorem Xkf (c:Int) (w:World) (h:Zu c=true):Calls Tryz.prog 242 #[.int .u8 c] w (Xhk (fun k=>k=2∨k=3∨k=5) w) :=
 (Xap c w).mono fun _ _ ⟨k,h1,h2,h3⟩=>⟨k,h1,Xik h2 h,h3⟩
theorem Xpq (c:Int) (w:World) (h:Zu c=false):Calls Tryz.prog 242 #[.int .u8 c] w (Xhk (fun k=>k=0∨k=1∨k=4) w) :=
 (Xap c w).mono fun _ _ ⟨k,h1,h2,h3⟩=>⟨k,h1,Xm4 h2 h,h3⟩
theorem Xhq (c:Int) (w:World) (h:Yd c=true):Calls Tryz.prog 242 #[.int .u8 c] w (Xhk (fun k=>k=2) w) :=
 (Xap c w).mono fun _ _ ⟨k,h1,h2,h3⟩=>⟨k,h1,Xf6 h2 h,h3⟩
theorem Xil (c:Int) (w:World) (h:Yd c=false):Calls Tryz.prog 242 #[.int .u8 c] w (Xhk (fun k=>k=0∨k=1∨k=3∨k=4∨k=5) w) :=
 (Xap c w).mono fun _ _ ⟨k,h1,h2,h3⟩=>⟨k,h1,Xhp h2 h,h3⟩
theorem Zp {s:ByteArray} (h:0<s.size):s.toList.isEmpty=false:=by
 rw[ByteArray.toList_eq]
 cases hl:s.data.toList with
 | nil=>rw[Lib.size_eq,hl] at h;simp at h
 | cons=>rfl
theorem Zq {s:ByteArray} (h:¬0<s.size):s.toList.isEmpty=true:=by
 rw[ByteArray.toList_eq]
 cases hl:s.data.toList with
 | nil=>rfl
 | cons=>rw[Lib.size_eq,hl] at h;simp at h
set_option maxHeartbeats 1000000 in
theorem Xqh (s:ByteArray) (w:World):Calls Tryz.prog 200 #[.string s] w fun e w'=>e = .returned (.bool (Vk s))∧w=w':=by
 by_cases h0:0<s.size
 ·have g0':(0:Int)<s.size:=by omega
  have g3:=Zp h0
  by_cases h1:s.size≤32
  ·have g1:¬(32:Int)<s.size:=by omega
   cases h2:Yd s[0].toNat
   ·have H:Hid (Vk s=false):=Xfi s h0 h2
    have CL:=Xa (fun w=>Xil s[0].toNat w h2)
    clear h2
    go_enter Tryz.func200,Tryz.ntmps200
    go_wp2_with fail
    refine(CL.out _).mono ?_
    rintro e w' ⟨k,rfl,hk,rfl⟩
    rcases hk with rfl|rfl|rfl|rfl|rfl
    all_goals
     go_wp2_with fail
     go_ret
     exact⟨by rw[H.out];rfl,rfl⟩
   ·have H:Hid (Vk s=s.data.toList.all (fun c=>Zu c.toNat)):=Xi6 s h0 h1 h2
    have CL:=Xa (fun w=>Xhq s[0].toNat w h2)
    clear h2
    go_enter Tryz.func200,Tryz.ntmps200
    go_wp2_with fail
    refine(CL.out _).mono ?_
    rintro e w' ⟨k,rfl,rfl,rfl⟩
    go_wp2_with fail
    go_loop [20] (fun i=>∃k:Nat,k≤s.size∧i = .int .i64 k∧Hid ((s.data.toList.take k).all (fun c=>Zu c.toNat)=true)) (fun i=>s.size-(intOf i).toNat)
    case atStart=>exact⟨0,Nat.zero_le _,rfl,rfl⟩
    case round =>
     obtain⟨k,hk,rfl,HR⟩:=hrel
     by_cases hlt:k<s.size
     ·have Hs:=Xa (Xa0 (f:=fun c=>Zu c.toNat) s k hlt)
      have Hf:=Xa (fun h=>Xgn (f:=fun c=>Zu c.toNat) s k hlt h)
      cases hp:Zu s[k].toNat
      ·have HF:=Xa (Hf.out hp)
       have CP:=Xa (fun w=>Xpq s[k].toNat w hp)
       clear hp Hs Hf
       go_wp2_with fail
       refine(CP.out _).mono ?_
       rintro e w' ⟨q,rfl,hq,rfl⟩
       rcases hq with rfl|rfl|rfl
       all_goals
        go_wp2_with fail
        go_ret
        exact⟨by rw[H.out,HF.out];rfl,rfl⟩
      ·have HF:Hid ((s.data.toList.take (k+1)).all (fun c=>Zu c.toNat)=true):=by show _=_;rw[Hs.out,HR.out,hp];rfl
       have CP:=Xa (fun w=>Xkf s[k].toNat w hp)
       clear hp Hs Hf
       go_wp2_with fail
       refine(CP.out _).mono ?_
       rintro e w' ⟨q,rfl,hq,rfl⟩
       rcases hq with rfl|rfl|rfl
       all_goals
        go_wp2_with fail
        go_round
        case rel=>exact⟨k+1,by omega,by go_num,HF⟩
        case measure=>simp[intOf];omega
     ·have HF:Hid (s.data.toList.all (fun c=>Zu c.toNat)=true):=by
       show _=_
       have h:=HR.out
       rw[List.take_of_length_le (by have:=Lib.size_eq s;omega)] at h
       exact h
      clear HR
      go_wp2_with fail
      go_ret
      exact⟨by rw[H.out,HF.out];rfl,rfl⟩
  ·have g1:(32:Int)<s.size:=by omega
   have H:=Xa (Xg2 s h1)
   clear h1
   go_enter Tryz.func200,Tryz.ntmps200
   go_wp2_with fail
   go_ret
   exact⟨by rw[H.out];rfl,rfl⟩
 ·have H:=Xa (Xfj s h0)
  have g3:=Zq h0
  clear h0
  go_enter Tryz.func200,Tryz.ntmps200
  go_wp2_with fail
  go_ret
  exact⟨by rw[H.out];rfl,rfl⟩
theorem Xqx (xs:List ByteArray) (k:Nat) (h:k<xs.length):(strs xs)[k]? = some (.string xs[k]):=by simp[strs,h]
theorem StrS.at_ {w:World} {s:StrS} (h:s.lies w) {k:Nat} (hk:k<s.xs.length):∃b off,s.addr=some ⟨b,off,none⟩∧b<w.heap.size∧∀(j:Nat) (hj:j<s.xs.length),w.cell? ⟨b,off+j,none⟩=some (.string s.xs[j]):=by
 obtain⟨b,off,h1,h2,h3⟩:=h.rd.at_ (k:=k) (by simpa[strs] using hk)
 exact⟨b,off,h1,h2,fun j hj=>h3 j _ (Xqx _ _ hj)⟩
theorem Xcm {x y:ByteArray} (h:x.toList=y.toList):x=y:=by rw[ByteArray.toList_eq,ByteArray.toList_eq] at h;exact ByteArray.ext (Array.toList_inj.1 h)
theorem Xd6 (s t:StrS) (w:World) (hs:s.lies w) (ht:t.lies w):Calls Tryz.prog 31 #[s.val,t.val] w fun e w'=>e = .returned (.bool (decide (s.xs=t.xs)))∧Below w.heap.size w w':=by
 obtain⟨A,c,l⟩:=s
 obtain⟨B,d,l'⟩:=t
 have hm:l.length≤9223372036854775807:=Nat.le_trans hs.cap hs.max
 have hat:=Xa (fun k hk=>StrS.at_ hs (k:=k) hk)
 have hat':=Xa (fun k hk=>StrS.at_ ht (k:=k) hk)
 show Calls _ _ #[.slice A l.length c,.slice B l'.length d] w fun e w'=>e = .returned (.bool (decide (l=l')))∧_
 clear hs ht
 by_cases hl:l.length=l'.length
 ·have hne:((l.length:Int) != (l'.length:Int))=false:=by simp[hl]
  have Hl:=Xa hl
  clear hl
  go_enter Tryz.func31,Tryz.ntmps31
  go_wp2_with fail
  go_loopw [5] (fun i wr=>∃k:Nat,k≤l.length∧i = .int .i64 k∧Below w.heap.size w wr∧Hid (l.take k=l'.take k)) (fun i _=>l.length-(intOf i).toNat)
  case atStart=>exact⟨0,Nat.zero_le _,rfl,Below.refl _ _,rfl⟩
  case round =>
   obtain⟨k,hk,rfl,hB,HR⟩:=hrel
   by_cases hlt:k<l.length
   ·have hlt':k<l'.length:=by have:=Hl.out;omega
    obtain⟨b,off,he,hb,hc⟩:=hat.out k hlt
    obtain⟨b',off',he',hb',hc'⟩:=hat'.out k hlt'
    change A=_ at he
    change B=_ at he'
    change ∀(j:Nat) (hj:j<l.length),w.cell? ⟨b,off+j,none⟩=some (.string l[j]) at hc
    change ∀(j:Nat) (hj:j<l'.length),w.cell? ⟨b',off'+j,none⟩=some (.string l'[j]) at hc'
    subst he he'
    have h1:=(hB.cell (p:=⟨b,off+k,none⟩) hb).trans (hc k hlt)
    have h2:=(hB.cell (p:=⟨b',off'+k,none⟩) hb').trans (hc' k hlt')
    have htk:l.take (k+1)=l.take k++[l[k]]:=List.take_succ_eq_append_getElem hlt
    have htk':l'.take (k+1)=l'.take k++[l'[k]]:=List.take_succ_eq_append_getElem hlt'
    have Htk:=Xa htk
    have Htk':=Xa htk'
    have hf:Hid (l=l'→l[k]=l'[k]):=by rintro rfl;rfl
    clear hc hc' htk htk'
    generalize l[k]=x at *
    generalize l'[k]=y at *
    by_cases hxy:x=y
    ·subst hxy
     have g1:(x.toList != x.toList)=false:=by simp
     have g2:(x.toList == x.toList)=true:=by simp
     go_wp2_with fail
     go_still (by kernel_rfl)
     go_wp2
     go_roundw
     case rel=>exact⟨k+1,by omega,by go_num,hB.drew,by show _=_;rw[Htk.out,Htk'.out,HR.out]⟩
     case measure=>simp[intOf];omega
    ·have HF:Hid (decide (l=l')=false):=decide_eq_false (fun h=>hxy (hf.out h))
     have hxl:¬x.toList=y.toList:=fun h=>hxy (by rw[ByteArray.toList_eq,ByteArray.toList_eq] at h;cases x with|mk a=>cases y with|mk b=>cases a;cases b;simp at h;rw[h])
     have g1:(x.toList != y.toList)=true:=by simpa using hxl
     have g2:(x.toList == y.toList)=false:=by simpa using hxl
     clear hxy hxl
     go_wp2_with fail
     go_still (by kernel_rfl)
     go_wp2
     go_ret
     exact⟨by rw[HF.out];rfl,hB.drew⟩
   ·have HF:Hid (decide (l=l')=true):=by
     refine decide_eq_true ?_
     obtain rfl:k=l.length:=by omega
     have h:=HR.out
     rw[List.take_length,List.take_of_length_le (by have:=Hl.out;omega)] at h
     exact h
    clear HR
    go_wp2_with fail
    go_ret
    exact⟨by rw[HF.out];rfl,hB⟩
 ·have hne:((l.length:Int) != (l'.length:Int))=true:=by simp;omega
  have HF:Hid (decide (l=l')=false):=decide_eq_false (fun h=>hl (by rw[h]))
  clear hl
  go_enter Tryz.func31,Tryz.ntmps31
  go_wp2_with fail
  go_ret
  exact⟨by rw[HF.out];rfl,Below.refl _ _⟩
theorem Xag (s t:StrS) (w:World) (hs:s.lies w) (ht:t.lies w):Calls Tryz.prog 31 #[.slice s.addr s.xs.length s.cap,.slice t.addr t.xs.length t.cap] w fun e w'=>e = .returned (.bool (decide (s.xs=t.xs)))∧Below w.heap.size w w':=Xd6 s t w hs ht
theorem Xc1 {s:ByteArray}:∀ {l:List ByteArray} {k:Nat} (hk:k<l.length),s∉l.take k→l[k]=s→idxF s l=k
 | [],k,hk,_,_=>by simp at hk
 | x :: l,0,_,_,h=>by
  have h:x=s:=h
  unfold idxF
  rw[if_pos h];rfl
 | x :: l,k+1,hk,hn,h=>by
  rw[List.take_succ_cons,List.mem_cons,not_or] at hn
  have ih:=Xc1 (l:=l) (k:=k) (by simpa using hk) hn.2 (by simpa using h)
  unfold idxF
  rw[if_neg (fun e=>hn.1 e.symm),ih,if_neg (by omega)]
  omega
theorem Xgz {s:ByteArray} {l:List ByteArray} (h:s∉l):idxF s l = -1:=by
 have h1:=Vo s l
 have h2:=Xed s l
 have h3:¬0≤idxF s l:=fun h'=>h (h1.1 h')
 omega
set_option maxHeartbeats 1000000 in
theorem Zb (l:StrS) (s:ByteArray) (w:World) (hl:l.lies w):Calls Tryz.prog 32 #[.slice l.addr l.xs.length l.cap,.string s] w fun e w'=>e = .returned (.int .i64 (idxF s l.xs))∧w=w':=by
 have hat:=Xa (fun k hk=>StrS.at_ hl (k:=k) hk)
 have hm:l.xs.length≤9223372036854775807:=Nat.le_trans hl.cap hl.max
 obtain⟨A,c,xs⟩:=l
 simp only at *
 clear hl
 go_enter Tryz.func32,Tryz.ntmps32
 go_wp2_with fail
 go_loopw [5] (fun i wr=>∃k:Nat,k≤xs.length∧i = .int .i64 k∧wr=w∧Hid (s∉xs.take k)) (fun i _=>xs.length-(intOf i).toNat)
 case atStart=>exact⟨0,Nat.zero_le _,rfl,rfl,by show ¬_;simp⟩
 case round =>
  obtain⟨k,hk,rfl,rfl,HR⟩:=hrel
  by_cases hlt:k<xs.length
  ·obtain⟨b,off,he,hb,hc⟩:=hat.out k hlt
   have he:A=some ⟨b,off,none⟩:=he
   subst he
   have d0:wr.cell? ⟨b,off+k,none⟩=some (.string xs[k]):=hc k hlt
   have Hh:=Xa (fun h=>Xc1 (s:=s) hlt HR.out h)
   have HN:Hid (xs[k]≠s→s∉xs.take (k+1)):=by
    intro hne hmem
    rw[List.take_succ_eq_append_getElem hlt,List.mem_append,List.mem_singleton] at hmem
    rcases hmem with h|h
    ·exact HR.out h
    ·exact hne h.symm
   clear hc hat
   generalize xs[k]=x at *
   by_cases hx:x=s
   ·have HF:=Xa (Hh.out hx)
    have g2:(x.toList == s.toList)=true:=by rw[hx];simp
    clear hx Hh HN
    go_wp2_with fail
    go_ret
    exact⟨by rw[HF.out];rfl,rfl⟩
   ·have HF:=Xa (HN.out hx)
    have g2:(x.toList == s.toList)=false:=by simpa using fun h=>hx (Xcm h)
    clear hx Hh HN
    go_wp2_with fail
    go_roundw
    case rel=>exact⟨k+1,by omega,by go_num,trivial,HF⟩
    case measure=>simp[intOf];omega
  ·have HF:Hid (idxF s xs = -1):=Xgz (by
    have h:=HR.out
    rw[List.take_of_length_le (by omega)] at h
    exact h)
   clear HR
   go_wp2_with fail
   go_ret
   exact⟨by rw[HF.out];rfl,rfl⟩
theorem Xrl (s:ByteArray):(kwords.any fun y=>decide (y=s))=kwords.any (fun y=>s.toList == y.toList):=by
 congr 1
 funext y
 by_cases h:y=s
 ·subst h;simp
 ·have:¬s.toList=y.toList:=fun e=>h (Xcm e).symm
  simp[h,this]
theorem Xl4 (s:ByteArray) (w:World):Calls Tryz.prog 286 #[.string s] w fun e w'=>e = .returned (.bool (kwords.any fun y=>decide (y=s)))∧w=w':=by
 have HK:Hid ((kwords.any fun y=>decide (y=s))=(s.toList == [103,114,97,109,109,97,114] || (s.toList == [99,97,116,101,103,111,114,121] || (s.toList == [115,116,97,114,116] || (s.toList == [119,111,114,100] || (s.toList == [105,115] || (s.toList == [103,105,118,101,115] || (s.toList == [99,111,115,116] || (s.toList == [114,117,108,101] || false))))))))):=by
  show _=_
  have e:kwords.map (fun y=>y.toList)=[[103,114,97,109,109,97,114],[99,97,116,101,103,111,114,121],[115,116,97,114,116],[119,111,114,100],[105,115],[103,105,118,101,115],[99,111,115,116],[114,117,108,101]]:=by kernel_rfl
  have h:(kwords.any fun y=>s.toList == y.toList)=(kwords.map (fun y=>y.toList)).any (fun l=>s.toList == l):=by rw[List.any_map];rfl
  rw[Xrl,h,e]
  rfl
 rw[HK.out]
 clear HK
 go_enter Tryz.func286,Tryz.ntmps286
 go_wp2
 all_goals try (exfalso;simp_all;done)
 all_goals go_ret
 all_goals (refine⟨?_,rfl⟩;simp[*])
theorem V0 (s:ByteArray) (w:World):Calls Tryz.prog 258 #[.string s] w fun e w'=>e = .returned (.bool (Xw s))∧w=w':=by
 have HE:Hid (Xw s=(Vk s && !(kwords.any fun y=>decide (y=s)))):=rfl
 have cN:=Xa (Xn4 s w)
 have cW:=Xa (Xl4 s w)
 generalize Vk s=b1 at *
 generalize (kwords.any fun y=>decide (y=s))=b2 at *
 go_enter Tryz.func258,Tryz.ntmps258
 go_wp2_with fail
 refine cN.out.mono ?_
 rintro e w' ⟨rfl,rfl⟩
 cases b1
 ·go_wp2_with fail
  go_ret
  exact⟨by rw[HE.out];rfl,rfl⟩
 ·go_wp2_with fail
  refine cW.out.mono ?_
  rintro e w' ⟨rfl,rfl⟩
  go_wp2_with fail
  go_ret
  exact⟨by rw[HE.out];simp,rfl⟩
theorem Xe0 (n:Int) (w:World):Calls Tryz.prog 287 #[.int .i64 n] w fun e w'=>e = .returned (.bool (Vn n))∧w=w':=by
 go_enter Tryz.func287,Tryz.ntmps287
 go_wp2
 all_goals go_ret
 ·simp[Vn, *]
 ·have:¬0≤n:=by omega
  simp[Vn, *]
theorem T9 (g:Gram) (s:ByteArray) (w:World) (hg:g.cats.lies w):Calls Tryz.prog 259 #[.agg #[.string g.name,.slice g.cats.addr g.cats.xs.length g.cats.cap,.string g.start,.int .i64 g.startNo,.slice g.entries.addr g.entries.xs.length g.entries.cap,.slice g.rules.addr g.rules.xs.length g.rules.cap],.string s] w fun e w'=>e = .returned (.bool (catB g.cats.xs s))∧Below w.heap.size w w':=by
 obtain⟨W1,hW1⟩:∃W1,w.alloc (.cells #[.string g.name,.slice g.cats.addr g.cats.xs.length g.cats.cap,.string g.start,.int .i64 g.startNo,.slice g.entries.addr g.entries.xs.length g.entries.cap,.slice g.rules.addr g.rules.xs.length g.rules.cap] 26)=W1:=⟨_,rfl⟩
 have hB1:Below w.heap.size w W1:=by subst hW1;exact Xe (Below.refl _ _) _
 have hk:W1.heap[w.heap.size]? = some (.cells #[.string g.name,.slice g.cats.addr g.cats.xs.length g.cats.cap,.string g.start,.int .i64 g.startNo,.slice g.entries.addr g.entries.xs.length g.entries.cap,.slice g.rules.addr g.rules.xs.length g.rules.cap] 26 (0,0)):=by subst hW1;exact World.alloc_heap_new _ _
 have c1:=gblk hk 1
 have cI:=Xa (Zb g.cats s W1 (hg.ext hB1))
 have HE:Hid (catB g.cats.xs s=decide (0≤idxF s g.cats.xs)):=rfl
 have HW1:=Xa hW1
 clear hg hk hW1
 go_enter Tryz.func259,Tryz.ntmps259
 go_wp2_with fail
 rw[HW1.out]
 refine cI.out.mono ?_
 rintro e w' ⟨rfl,rfl⟩
 generalize idxF s g.cats.xs=n at *
 have h3:(n≥0)=(0≤n):=rfl
 go_wp2_with fail
 go_ret
 exact⟨by rw[HE.out];rfl,hB1⟩
theorem Xjg (g:Gram) (x:PartG) (w:World) (hg:g.cats.lies w):Calls Tryz.prog 288 #[.agg #[.string g.name,.slice g.cats.addr g.cats.xs.length g.cats.cap,.string g.start,.int .i64 g.startNo,.slice g.entries.addr g.entries.xs.length g.entries.cap,.slice g.rules.addr g.rules.xs.length g.rules.cap],.agg #[.string x.cat,.int .i64 x.no,.string x.text]] w fun e w'=>e = .returned (.bool (Yj g.cats.xs x))∧Below w.heap.size w w':=by
 obtain⟨W1,hW1⟩:∃W1,(w.alloc (.cells #[.string g.name,.slice g.cats.addr g.cats.xs.length g.cats.cap,.string g.start,.int .i64 g.startNo,.slice g.entries.addr g.entries.xs.length g.entries.cap,.slice g.rules.addr g.rules.xs.length g.rules.cap] 26)).alloc (.cells #[.string x.cat,.int .i64 x.no,.string x.text] 81)=W1:=⟨_,rfl⟩
 have hB1:Below w.heap.size w W1:=by subst hW1;exact Xe (Xe (Below.refl _ _) _) _
 have hk:W1.heap[w.heap.size]? = some (.cells #[.string g.name,.slice g.cats.addr g.cats.xs.length g.cats.cap,.string g.start,.int .i64 g.startNo,.slice g.entries.addr g.entries.xs.length g.entries.cap,.slice g.rules.addr g.rules.xs.length g.rules.cap] 26 (0,0)):=by subst hW1;exact(Below.heap_alloc _ _ _ (by simp)).trans (World.alloc_heap_new _ _)
 have hk2:W1.heap[w.heap.size+1]? = some (.cells #[.string x.cat,.int .i64 x.no,.string x.text] 81 (0,0)):=by subst hW1;have:=World.alloc_heap_new (w.alloc (.cells #[.string g.name,.slice g.cats.addr g.cats.xs.length g.cats.cap,.string g.start,.int .i64 g.startNo,.slice g.entries.addr g.entries.xs.length g.entries.cap,.slice g.rules.addr g.rules.xs.length g.rules.cap] 26)) (.cells #[.string x.cat,.int .i64 x.no,.string x.text] 81);rwa [World.size_alloc] at this
 have cC:=Xa (T9 g x.cat W1 (hg.ext hB1))
 have cF:=Xa (V0 x.text W1)
 have HE:Hid (Yj g.cats.xs x=if x.text.size=0 then catB g.cats.xs x.cat else decide (x.cat.size=0) && Xw x.text):=rfl
 obtain⟨a0,a1,a2,a3,a4,a5⟩:=gb6 hk
 obtain⟨b0,b1,b2⟩:=gb3 hk2
 generalize catB g.cats.xs x.cat=f1 at *
 generalize Xw x.text=f2 at *
 clear hg hk hk2
 by_cases h0:x.text.size=0
 ·have n0:=Zq (s:=x.text) (by omega)
  have HE2:Hid (Yj g.cats.xs x=f1):=by show _=_;rw[HE.out,if_pos h0]
  clear HE cF h0
  go_enter Tryz.func288,Tryz.ntmps288
  go_wp2_with fail
  refine cC.out.mono ?_
  rintro e w2 ⟨rfl,hb2⟩
  go_wp2_with fail
  go_ret
  exact⟨by rw[HE2.out];rfl,Xb hB1 hb2⟩
 ·have n0:=Zp (s:=x.text) (by omega)
  by_cases h1:x.cat.size=0
  ·have n1:=Zq (s:=x.cat) (by omega)
   have HE2:Hid (Yj g.cats.xs x=f2):=by show _=_;rw[HE.out,if_neg h0,decide_eq_true h1];rfl
   clear HE cC h0 h1
   go_enter Tryz.func288,Tryz.ntmps288
   go_wp2_with fail
   refine cF.out.mono ?_
   rintro e w2 ⟨rfl,rfl⟩
   go_wp2_with fail
   go_ret
   exact⟨by rw[HE2.out];rfl,hB1⟩
  ·have n1:=Zp (s:=x.cat) (by omega)
   have HE2:Hid (Yj g.cats.xs x=false):=by show _=_;rw[HE.out,if_neg h0,decide_eq_false h1];rfl
   clear HE cC cF h0 h1
   go_enter Tryz.func288,Tryz.ntmps288
   go_wp2_with fail
   go_ret
   exact⟨by rw[HE2.out];rfl,hB1⟩
set_option maxHeartbeats 1000000 in
theorem Xku (x:RuleG) (y:GiveG) (w:World) (hx:x.lies w):Calls Tryz.prog 289 #[.agg #[.string x.cat,.int .i64 x.no,.slice x.parts.addr x.parts.xs.length x.parts.cap,.slice x.gives.addr x.gives.xs.length x.gives.cap,.int .i64 x.cost],.agg #[.int .i64 y.part,.string y.text]] w fun e w'=>e = .returned (.bool (Zs x.parts.xs y))∧Below w.heap.size w w':=by
 obtain⟨W1,hW1⟩:∃W1,(w.alloc (.cells #[.string x.cat,.int .i64 x.no,.slice x.parts.addr x.parts.xs.length x.parts.cap,.slice x.gives.addr x.gives.xs.length x.gives.cap,.int .i64 x.cost] 79)).alloc (.cells #[.int .i64 y.part,.string y.text] 176)=W1:=⟨_,rfl⟩
 have hB1:Below w.heap.size w W1:=by subst hW1;exact Xe (Xe (Below.refl _ _) _) _
 have hk:W1.heap[w.heap.size]? = some (.cells #[.string x.cat,.int .i64 x.no,.slice x.parts.addr x.parts.xs.length x.parts.cap,.slice x.gives.addr x.gives.xs.length x.gives.cap,.int .i64 x.cost] 79 (0,0)):=by subst hW1;exact(Below.heap_alloc _ _ _ (by simp)).trans (World.alloc_heap_new _ _)
 have hk2:W1.heap[w.heap.size+1]? = some (.cells #[.int .i64 y.part,.string y.text] 176 (0,0)):=by subst hW1;have:=World.alloc_heap_new (w.alloc (.cells #[.string x.cat,.int .i64 x.no,.slice x.parts.addr x.parts.xs.length x.parts.cap,.slice x.gives.addr x.gives.xs.length x.gives.cap,.int .i64 x.cost] 79)) (.cells #[.int .i64 y.part,.string y.text] 176);rwa [World.size_alloc] at this
 have HX:=Xa (hx.ext hB1)
 have hm:x.parts.xs.length≤9223372036854775807:=Nat.le_trans hx.1.cap hx.1.max
 have cF:=Xa (V0 y.text W1)
 have HE:Hid (Zs x.parts.xs y=if y.text.size=0 then Th x.parts.xs y.part else decide (y.part=0) && Xw y.text):=rfl
 obtain⟨a0,a1,a2,a3,a4⟩:=gb5 hk
 obtain⟨b0,b1⟩:=gb2 hk2
 clear hx hk hk2
 by_cases h0:y.text.size=0
 ·have n0:=Zq (s:=y.text) (by omega)
  have HE2:Hid (Zs x.parts.xs y=Th x.parts.xs y.part):=by show _=_;rw[HE.out,if_pos h0]
  clear HE cF h0
  by_cases hp:0≤y.part∧y.part<x.parts.xs.length
  ·obtain⟨p,hp1⟩:∃p:Nat,y.part=(p:Int):=⟨y.part.toNat,by omega⟩
   have hpl:p<x.parts.xs.length:=by omega
   obtain⟨b,off,hA,hb,hc⟩:=HX.out.1.at_ PartG.size_cells (by omega) hpl
   have d0:W1.cell? ⟨b,off+p*3,none⟩=some (.string x.parts.xs[p].cat):=hc p hpl W1 (Below.refl _ _) 0 _ rfl
   have d1:W1.cell? ⟨b,off+p*3+1,none⟩=some (.int .i64 x.parts.xs[p].no):=hc p hpl W1 (Below.refl _ _) 1 _ rfl
   have d2:W1.cell? ⟨b,off+p*3+2,none⟩=some (.string x.parts.xs[p].text):=hc p hpl W1 (Below.refl _ _) 2 _ rfl
   have HE3:Hid (Zs x.parts.xs y=decide (x.parts.xs[p].text.size=0)):=by
    show _=_
    rw[HE2.out]
    unfold Th
    rw[hp1,Int.toNat_natCast,List.getElem?_eq_getElem hpl]
    simp
   have hcast:(p:Int)<(x.parts.xs.length:Int):=by omega
   rw[hA] at a2
   rw[hp1] at b0
   clear hc HE2 hp HX hA
   generalize x.parts.xs[p]=q at *
   obtain⟨yp,yt⟩:=y
   have hp1:yp=(p:Int):=hp1
   subst hp1
   dsimp only at *
   by_cases hq:q.text.size=0
   ·have n1:=Zq (s:=q.text) (by omega)
    have HE4:Hid (Zs x.parts.xs ⟨(p:Int),yt⟩=true):=by show _=_;rw[HE3.out,decide_eq_true hq]
    clear HE3 hq
    go_enter Tryz.func289,Tryz.ntmps289
    go_wp2_with fail
    go_ret
    exact⟨by rw[HE4.out];rfl,hB1⟩
   ·have n1:=Zp (s:=q.text) (by omega)
    have HE4:Hid (Zs x.parts.xs ⟨(p:Int),yt⟩=false):=by show _=_;rw[HE3.out,decide_eq_false hq]
    clear HE3 hq
    go_enter Tryz.func289,Tryz.ntmps289
    go_wp2_with fail
    go_ret
    exact⟨by rw[HE4.out];rfl,hB1⟩
  ·have HE3:Hid (Zs x.parts.xs y=false):=by
    show _=_
    rw[HE2.out]
    unfold Th
    by_cases h1:0≤y.part
    ·rw[List.getElem?_eq_none (by omega)];simp
    ·rw[decide_eq_false h1];rfl
   clear HE2 HX
   by_cases h1:0≤y.part
   ·have h2:¬y.part<(x.parts.xs.length:Int):=fun h=>hp ⟨h1,h⟩
    clear hp
    go_enter Tryz.func289,Tryz.ntmps289
    go_wp2_with fail
    go_ret
    exact⟨by rw[HE3.out];rfl,hB1⟩
   ·have h2:y.part<0:=by omega
    clear hp
    go_enter Tryz.func289,Tryz.ntmps289
    go_wp2_with fail
    go_ret
    exact⟨by rw[HE3.out];rfl,hB1⟩
 ·have n0:=Zp (s:=y.text) (by omega)
  by_cases h1:y.part=0
  ·have g1:(y.part == 0)=true:=by simp[h1]
   have HE2:Hid (Zs x.parts.xs y=Xw y.text):=by show _=_;rw[HE.out,if_neg h0,decide_eq_true h1];rfl
   generalize Xw y.text=f2 at *
   clear HE h0 h1 HX
   go_enter Tryz.func289,Tryz.ntmps289
   go_wp2_with fail
   refine cF.out.mono ?_
   rintro e w2 ⟨rfl,rfl⟩
   go_wp2_with fail
   go_ret
   exact⟨by rw[HE2.out];rfl,hB1⟩
  ·have g1:(y.part == 0)=false:=by simpa using h1
   have HE2:Hid (Zs x.parts.xs y=false):=by show _=_;rw[HE.out,if_neg h0,decide_eq_false h1];rfl
   clear HE cF h0 h1 HX
   go_enter Tryz.func289,Tryz.ntmps289
   go_wp2_with fail
   go_ret
   exact⟨by rw[HE2.out];rfl,hB1⟩
end Go.Proofs.YtolpbjjapodmnaaGreatDoor
namespace Go.Proofs.YtolpbjjapodmnaaGreatDoor
open Go.RowKit Go.Han
set_option maxRecDepth 100000
/-! ### Gives -/
def Ui (n:Nat) (y:GiveG):Bool:=if y.text.size=0 then decide (0≤y.part) && decide (y.part<n) else decide (y.part=0) && Xw y.text
def Q7 (gives:List GiveG):Nat→List PartG→Bool
 | _,[]=>true
 | k,p :: l=>(decide (Ya gives k=1) == decide (p.text.size=0)) && decide (Ya gives k≤1) && Q7 gives (k+1) l
theorem Qh (gives:List GiveG):∀(k:Nat) (l:List PartG),Q7 gives k l=true↔∀(j:Nat) (p:PartG),l[j]? = some p→(Ya gives (k+j)=1↔p.text.size=0)∧Ya gives (k+j)≤1
 | k,[]=>by simp[Q7]
 | k,p :: l=>by
  unfold Q7
  rw[Bool.and_eq_true,Bool.and_eq_true,Qh gives (k+1) l]
  constructor
  ·rintro⟨⟨h1,h2⟩,h3⟩ j q hq
   cases j with
   | zero =>
    simp at hq;subst hq
    simp only[beq_iff_eq,decide_eq_decide,decide_eq_true_eq] at h1 h2
    exact⟨h1,h2⟩
   | succ j =>
    have:=h3 j q (by simpa using hq)
    rw[show k+1+j=k+(j+1) by omega] at this
    exact this
  ·intro h
   have h0:=h 0 p rfl
   rw[Nat.add_zero] at h0
   refine⟨⟨?_,?_⟩,fun j q hq=>?_⟩
   ·simp only[beq_iff_eq,decide_eq_decide];exact h0.1
   ·simpa using h0.2
   ·have:=h (j+1) q (by simpa using hq)
    rw[show k+(j+1)=k+1+j by omega] at this
    exact this
theorem Xbl (gives:List GiveG):∀(k:Nat) (l:List PartG),Tn gives k l=true↔∀(j:Nat) (p:PartG),l[j]? = some p→p.text.size=0→Ya gives (k+j)=1
 | k,[]=>by simp[Tn]
 | k,p :: l=>by
  unfold Tn
  rw[Bool.and_eq_true,Xbl gives (k+1) l]
  constructor
  ·rintro⟨h1,h3⟩ j q hq h0
   cases j with
   | zero =>
    simp at hq;subst hq
    simp[h0] at h1
    simpa using h1
   | succ j =>
    have:=h3 j q (by simpa using hq) h0
    rw[show k+1+j=k+(j+1) by omega] at this
    exact this
  ·intro h
   have h0:=h 0 p rfl
   rw[Nat.add_zero] at h0
   refine⟨?_,fun j q hq hq0=>?_⟩
   ·by_cases hp:p.text.size=0
    ·simp[hp,h0 hp]
    ·simp[hp]
   ·have:=h (j+1) q (by simpa using hq) hq0
    rw[show k+(j+1)=k+1+j by omega] at this
    exact this
theorem Xnf {gives:List GiveG} {k:Nat} {y:GiveG} (hy:y∈gives) (h1:y.text.size=0) (h2:y.part=(k:Int)):0<Ya gives k:=by
 unfold Ya
 rw[List.countP_pos_iff]
 exact⟨y,hy,by simp[h1,h2]⟩
theorem Xkv (gives:List GiveG) (parts:List PartG):(gives.all (Zs parts) && Tn gives 0 parts)=(gives.all (Ui parts.length) && Q7 gives 0 parts):=by
 rw[Bool.eq_iff_iff,Bool.and_eq_true,Bool.and_eq_true,Xbl,Qh,List.all_eq_true,List.all_eq_true]
 simp only[Nat.zero_add]
 constructor
 ·rintro⟨h1,h2⟩
  have hw:∀y∈gives,Ui parts.length y=true:=by
   intro y hy
   have:=h1 y hy
   unfold Zs at this
   unfold Ui
   split
   ·rename_i h0
    rw[if_pos h0] at this
    unfold Th at this
    simp only[Bool.and_eq_true,decide_eq_true_eq] at this
    obtain⟨ha,hb⟩:=this
    split at hb
    ·rename_i p hp
     have:=(List.getElem?_eq_some_iff.1 hp).1
     simp only[Bool.and_eq_true,decide_eq_true_eq]
     omega
    ·cases hb
   ·rename_i h0
    rw[if_neg h0] at this
    exact this
  refine⟨hw,fun j p hp=>?_⟩
  by_cases h0:p.text.size=0
  ·have:=h2 j p hp h0
   exact⟨⟨fun _=>h0,fun _=>this⟩,by omega⟩
  ·have hz:Ya gives j=0:=by
    unfold Ya
    rw[List.countP_eq_zero]
    intro y hy hc
    simp only[Bool.and_eq_true,decide_eq_true_eq] at hc
    have:=h1 y hy
    unfold Zs at this
    rw[if_pos hc.1] at this
    unfold Th at this
    simp only[Bool.and_eq_true,decide_eq_true_eq] at this
    obtain⟨ha,hb⟩:=this
    rw[hc.2,Int.toNat_natCast,hp] at hb
    simp[h0] at hb
   exact⟨⟨fun h=>by omega,fun h=>absurd h h0⟩,by omega⟩
 ·rintro⟨h1,h2⟩
  refine⟨fun y hy=>?_,fun j p hp h0=>(h2 j p hp).1.2 h0⟩
  have:=h1 y hy
  unfold Ui at this
  unfold Zs
  split
  ·rename_i h0
   rw[if_pos h0] at this
   simp only[Bool.and_eq_true,decide_eq_true_eq] at this
   unfold Th
   obtain⟨p,hp⟩:∃p,parts[y.part.toNat]? = some p:=⟨_,List.getElem?_eq_getElem (by omega)⟩
   rw[hp]
   simp only[Bool.and_eq_true,decide_eq_true_eq]
   refine⟨this.1,?_⟩
   have h3:=h2 _ p hp
   have h4:=Xnf (k:=y.part.toNat) hy h0 (by omega)
   exact h3.1.1 (by omega)
  ·rename_i h0
   rw[if_neg h0] at this
   exact this
theorem Xbm (l:List GiveG) (y:GiveG) (k:Nat):Ya (l++[y]) k=Ya l k+(if y.text.size=0∧y.part=(k:Int) then 1 else 0):=by
 unfold Ya
 rw[List.countP_append]
 congr 1
 by_cases h:y.text.size=0∧y.part=(k:Int)
 ·rw[if_pos h,List.countP_cons,List.countP_nil,if_pos (by rw[decide_eq_true h.1,decide_eq_true h.2];rfl)]
 ·rw[if_neg h]
  rw[List.countP_eq_zero]
  intro z hz hc
  rw[List.mem_singleton] at hz
  subst hz
  simp only[Bool.and_eq_true,decide_eq_true_eq] at hc
  exact h hc
theorem Xe8 (l:List GiveG) (k:Nat):Ya l k≤l.length:=List.countP_le_length
end Go.Proofs.YtolpbjjapodmnaaGreatDoor
