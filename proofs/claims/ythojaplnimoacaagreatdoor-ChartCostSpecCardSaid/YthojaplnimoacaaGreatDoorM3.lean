/- Texts of this claim, one after the other: Term2, Term3, Gen, Term4, Term5, GrmP, Grm0. -/
import Derived.Test.YthojaplnimoacaaGreatDoorM2
namespace Go.Proofs.YthojaplnimoacaaGreatDoor
open Go.RowKit Go.Han
attribute [local irreducible] wpStill wpQuiet
set_option maxRecDepth 100000
theorem Xik {c k:Int} (h:Xei c k) (hp:Zu c=true):k=2∨k=3∨k=5:=by
 unfold Zu at hp
 rcases h with ⟨_,h⟩|⟨_,_,h⟩|⟨_,_,_,h⟩|⟨h1,h2,h3,_⟩
 ·exact .inl h
 ·exact .inr (.inl h)
 ·exact .inr (.inr h)
 ·rw[h1,h2,decide_eq_false h3] at hp;cases hp
theorem Xm4 {c k:Int} (h:Xei c k) (hp:Zu c=false):k=0∨k=1∨k=4:=by
 unfold Zu at hp
 rcases h with ⟨h,_⟩|⟨_,h,_⟩|⟨_,_,h,_⟩|⟨_,_,_,h⟩
 ·rw[h] at hp;cases hp
 ·rw[h] at hp;simp at hp
 ·rw[h] at hp;simp at hp
 ·exact h
theorem Xf6 {c k:Int} (h:Xei c k) (hp:Yd c=true):k=2:=by
 rcases h with ⟨_,h⟩|⟨h1,_,h⟩|⟨h1,_,_,h⟩|⟨h1,_,_,_⟩
 ·exact h
 all_goals rw[hp] at h1;cases h1
theorem Xhp {c k:Int} (h:Xei c k) (hp:Yd c=false):k=0∨k=1∨k=3∨k=4∨k=5:=by
 rcases h with ⟨h1,h⟩|⟨_,_,h⟩|⟨_,_,_,h⟩|⟨_,_,_,h⟩
 ·rw[hp] at h1;cases h1
 all_goals omega
def Xhk (Q:Int→Prop) (w:World) (e:Ending) (w':World):Prop:=∃k,e = .returned (.int .i64 k)∧Q k∧w=w'
theorem Xkf (c:Int) (w:World) (h:Zu c=true):Calls Tryz.prog 180 #[.int .u8 c] w (Xhk (fun k=>k=2∨k=3∨k=5) w) :=
 (Xap c w).mono fun _ _ ⟨k,h1,h2,h3⟩=>⟨k,h1,Xik h2 h,h3⟩
theorem Xpq (c:Int) (w:World) (h:Zu c=false):Calls Tryz.prog 180 #[.int .u8 c] w (Xhk (fun k=>k=0∨k=1∨k=4) w) :=
 (Xap c w).mono fun _ _ ⟨k,h1,h2,h3⟩=>⟨k,h1,Xm4 h2 h,h3⟩
theorem Xhq (c:Int) (w:World) (h:Yd c=true):Calls Tryz.prog 180 #[.int .u8 c] w (Xhk (fun k=>k=2) w) :=
 (Xap c w).mono fun _ _ ⟨k,h1,h2,h3⟩=>⟨k,h1,Xf6 h2 h,h3⟩
theorem Xil (c:Int) (w:World) (h:Yd c=false):Calls Tryz.prog 180 #[.int .u8 c] w (Xhk (fun k=>k=0∨k=1∨k=3∨k=4∨k=5) w) :=
 (Xap c w).mono fun _ _ ⟨k,h1,h2,h3⟩=>⟨k,h1,Xhp h2 h,h3⟩
theorem Zp {s:ByteArray} (h:0<s.size):s.toList.isEmpty=false:=by
 rw[ByteArray.toList_eq]
 cases hl:s.data.toList with
 | nil=>rw[Lib.size_eq,hl] at h;simp at h
 | cons=>rfl
theorem Zq {s:ByteArray} (h:¬0<s.size):s.toList.isEmpty=true:=by
 rw[ByteArray.toList_eq]
 cases hl:s.data.toList with
 | nil=>rfl
 | cons=>rw[Lib.size_eq,hl] at h;simp at h
set_option maxHeartbeats 1000000 in
theorem Xqh (s:ByteArray) (w:World):Calls Tryz.prog 141 #[.string s] w fun e w'=>e = .returned (.bool (Vk s))∧w=w':=by
 by_cases h0:0<s.size
 ·have g0':(0:Int)<s.size:=by omega
  have g3:=Zp h0
  by_cases h1:s.size≤32
  ·have g1:¬(32:Int)<s.size:=by omega
   cases h2:Yd s[0].toNat
   ·have H:Hid (Vk s=false):=Xfi s h0 h2
    have CL:=Xa (fun w=>Xil s[0].toNat w h2)
    clear h2
    go_enter Tryz.func141,Tryz.ntmps141
    go_wp2_with fail
    refine(CL.out _).mono ?_
    rintro e w' ⟨k,rfl,hk,rfl⟩
    rcases hk with rfl|rfl|rfl|rfl|rfl
    all_goals
     go_wp2_with fail
     go_ret
     exact⟨by rw[H.out];rfl,rfl⟩
   ·have H:Hid (Vk s=s.data.toList.all (fun c=>Zu c.toNat)):=Xi6 s h0 h1 h2
    have CL:=Xa (fun w=>Xhq s[0].toNat w h2)
    clear h2
    go_enter Tryz.func141,Tryz.ntmps141
    go_wp2_with fail
    refine(CL.out _).mono ?_
    rintro e w' ⟨k,rfl,rfl,rfl⟩
    go_wp2_with fail
    go_loop [20] (fun i=>∃k:Nat,k≤s.size∧i = .int .i64 k∧Hid ((s.data.toList.take k).all (fun c=>Zu c.toNat)=true)) (fun i=>s.size-(intOf i).toNat)
    case atStart=>exact⟨0,Nat.zero_le _,rfl,rfl⟩
    case round =>
     obtain⟨k,hk,rfl,HR⟩:=hrel
     by_cases hlt:k<s.size
     ·have Hs:=Xa (Xa0 (f:=fun c=>Zu c.toNat) s k hlt)
      have Hf:=Xa (fun h=>Xgn (f:=fun c=>Zu c.toNat) s k hlt h)
      cases hp:Zu s[k].toNat
      ·have HF:=Xa (Hf.out hp)
       have CP:=Xa (fun w=>Xpq s[k].toNat w hp)
       clear hp Hs Hf
       go_wp2_with fail
       refine(CP.out _).mono ?_
       rintro e w' ⟨q,rfl,hq,rfl⟩
       rcases hq with rfl|rfl|rfl
       all_goals
        go_wp2_with fail
        go_ret
        exact⟨by rw[H.out,HF.out];rfl,rfl⟩
      ·have HF:Hid ((s.data.toList.take (k+1)).all (fun c=>Zu c.toNat)=true):=by show _=_;rw[Hs.out,HR.out,hp];rfl
       have CP:=Xa (fun w=>Xkf s[k].toNat w hp)
       clear hp Hs Hf
       go_wp2_with fail
       refine(CP.out _).mono ?_
       rintro e w' ⟨q,rfl,hq,rfl⟩
       rcases hq with rfl|rfl|rfl
       all_goals
        go_wp2_with fail
        go_round
        case rel=>exact⟨k+1,by omega,by go_num,HF⟩
        case measure=>simp[intOf];omega
     ·have HF:Hid (s.data.toList.all (fun c=>Zu c.toNat)=true):=by
       show _=_
       have h:=HR.out
       rw[List.take_of_length_le (by have:=Lib.size_eq s;omega)] at h
       exact h
      clear HR
      go_wp2_with fail
      go_ret
      exact⟨by rw[H.out,HF.out];rfl,rfl⟩
  ·have g1:(32:Int)<s.size:=by omega
   have H:=Xa (Xg2 s h1)
   clear h1
   go_enter Tryz.func141,Tryz.ntmps141
   go_wp2_with fail
   go_ret
   exact⟨by rw[H.out];rfl,rfl⟩
 ·have H:=Xa (Xfj s h0)
  have g3:=Zq h0
  clear h0
  go_enter Tryz.func141,Tryz.ntmps141
  go_wp2_with fail
  go_ret
  exact⟨by rw[H.out];rfl,rfl⟩
theorem Xqx (xs:List ByteArray) (k:Nat) (h:k<xs.length):(strs xs)[k]? = some (.string xs[k]):=by simp[strs,h]
theorem StrS.at_ {w:World} {s:StrS} (h:s.lies w) {k:Nat} (hk:k<s.xs.length):∃b off,s.addr=some ⟨b,off,none⟩∧b<w.heap.size∧∀(j:Nat) (hj:j<s.xs.length),w.cell? ⟨b,off+j,none⟩=some (.string s.xs[j]):=by
 obtain⟨b,off,h1,h2,h3⟩:=h.rd.at_ (k:=k) (by simpa[strs] using hk)
 exact⟨b,off,h1,h2,fun j hj=>h3 j _ (Xqx _ _ hj)⟩
end Go.Proofs.YthojaplnimoacaaGreatDoor
/- Small lemmas: blocks, new slices, rows that grow. No program in sight. -/
namespace Go.Han
open Go.RowKit
theorem gblk {w:World} {b t:Nat} {cs:Array Value} {fr:Nat×Nat} (h:w.heap[b]? = some (.cells cs t fr)) (j:Nat):w.cell? ⟨b,j,none⟩=cs[j]? := by
 simp[World.cell?,h]
theorem X0 (w:World) (o:Obj) (n:Nat) (h:n=w.heap.size):(w.alloc o).heap[n]? = some o:=by
 subst h;exact World.alloc_heap_new _ _
theorem Yw {w:World} {b t:Nat} {cs:Array Value} {fr:Nat×Nat} {xs:List Value} (h:w.heap[b]? = some (.cells cs t fr)) (hx:cs.toList=xs):Rd w (some ⟨b,0,none⟩) xs:=by
 refine .inr ⟨b,0,rfl,Xc h,fun j u hu=>?_⟩
 rw[Nat.zero_add,gblk h]
 rw[← hx] at hu
 simpa using hu
theorem Xbk (w:World) (cs:List Value) (t:Nat):∀(j:Nat) (u:Value),cs[j]? = some u→(w.alloc (.cells cs.toArray t)).cell? ((⟨w.heap.size,0,none⟩:Addr).add j)=some u:=by
 intro j u hu
 rw[show (⟨w.heap.size,0,none⟩:Addr).add j=⟨w.heap.size,j,none⟩ from by unfold Addr.add;split<;>simp_all,gblk (X0 _ _ _ rfl)]
 simpa using hu
theorem Qc {w w':World} (h:Below w.heap.size w w') (row:Option Nat):w.grownBy w' row:=⟨h.os,h.tape,h.output,h.size,fun i hi _=>h.block i hi⟩
theorem Xdk {w w':World} (h:Below w.heap.size w w') (n:Nat):Below w.heap.size w (w'.drewN n):=⟨h.os,h.tape,h.output,h.size,h.block⟩
end Go.Han
namespace Go.Proofs.YthojaplnimoacaaGreatDoor
open Go.RowKit Go.Han
attribute [local irreducible] wpStill wpQuiet
set_option maxRecDepth 100000
def tflat (l:List Term):List Value:=l.flatMap Term.cells
structure TermsAt (w:World) (A:Option Addr) (l:List Term):Prop where
 rd:Rd w A (tflat l)
 lie:∀x∈l,x.lies w
theorem TermsAt.ext {w w':World} {A:Option Addr} {l:List Term} (h:TermsAt w A l) (hb:Below w.heap.size w w'):TermsAt w' A l:=⟨h.rd.ext hb,fun x hx=>(h.lie x hx).ext hb⟩
theorem TermsAt.nil (w:World) (A:Option Addr):TermsAt w A []:=⟨Rd.nil _ _,fun x hx=>by cases hx⟩
theorem TermsAt.at_ {w:World} {A:Option Addr} {l:List Term} (h:TermsAt w A l) {k:Nat} (hk:k<l.length):∃b off,A=some ⟨b,off,none⟩∧b<w.heap.size ∧
  (∀(i:Nat) (hi:i<l.length) (W:World),Below w.heap.size w W→W.cell? ⟨b,off+i*8,none⟩=some (.int .i64 l[i].no)∧W.cell? ⟨b,off+i*8+1,none⟩=some (.int .i64 l[i].at_)∧W.cell? ⟨b,off+i*8+2,none⟩=some (.int .i64 l[i].known)∧W.cell? ⟨b,off+i*8+3,none⟩=some (.int .i64 l[i].lang) ∧
   W.cell? ⟨b,off+i*8+4,none⟩=some (.slice l[i].src.addr l[i].src.xs.length l[i].src.cap)∧W.cell? ⟨b,off+i*8+5,none⟩=some (.slice l[i].tgt.addr l[i].tgt.xs.length l[i].tgt.cap)∧W.cell? ⟨b,off+i*8+6,none⟩=some (.string l[i].cat)∧W.cell? ⟨b,off+i*8+7,none⟩=some (.bool l[i].gone)):=by
 obtain⟨b,off,he,hb,_⟩:=h.rd.elem Term.size_cells (by omega) hk
 refine⟨b,off,he,hb,fun i hi W hW=>?_⟩
 obtain⟨b',off',he',_,hc⟩:=h.rd.elem Term.size_cells (by omega) hi
 rw[he] at he'
 cases he'
 have c0:=(hW.cell (p:=⟨b,off+i*8+0,none⟩) hb).trans (hc 0 _ rfl)
 simp only[Nat.add_zero] at c0
 exact⟨c0,(hW.cell (p:=⟨b,off+i*8+1,none⟩) hb).trans (hc 1 _ rfl),(hW.cell (p:=⟨b,off+i*8+2,none⟩) hb).trans (hc 2 _ rfl),(hW.cell (p:=⟨b,off+i*8+3,none⟩) hb).trans (hc 3 _ rfl),(hW.cell (p:=⟨b,off+i*8+4,none⟩) hb).trans (hc 4 _ rfl),(hW.cell (p:=⟨b,off+i*8+5,none⟩) hb).trans (hc 5 _ rfl),(hW.cell (p:=⟨b,off+i*8+6,none⟩) hb).trans (hc 6 _ rfl),(hW.cell (p:=⟨b,off+i*8+7,none⟩) hb).trans (hc 7 _ rfl)⟩
end Go.Proofs.YthojaplnimoacaaGreatDoor
namespace Go.Proofs.YthojaplnimoacaaGreatDoor
open Go.RowKit Go.Han
set_option maxRecDepth 100000
/-! ### chains of categories -/
section
variable {α:Type}
def PathN (E:α→α→Prop):Nat→α→Prop
 | 0,_=>True
 | n+1,x=>∃y,E x y∧PathN E n y
inductive Leads (E:α→α→Prop):α→α→Prop
 | one {x y}:E x y→Leads E x y
 | more {x y z}:E x y→Leads E y z→Leads E x z
theorem Leads.snoc {E:α→α→Prop} {x y z:α} (h:Leads E x y) (e:E y z):Leads E x z:=by
 induction h with
 | one h=>exact .more h (.one e)
 | more h _ ih=>exact .more h (ih e)
theorem Leads.trans {E:α→α→Prop} {x y z:α} (h:Leads E x y) (k:Leads E y z):Leads E x z:=by
 induction h with
 | one h=>exact .more h k
 | more h _ ih=>exact .more h (ih k)
def Xo6 (E:α→α→Prop):Prop:=∃x,Leads E x x
def Xb3 (E:α→α→Prop) (x:α):Prop:=∃y,(x=y∨Leads E x y)∧Leads E y y
theorem Xbb {E:α→α→Prop} {x:α} (h:Xb3 E x):∃y,E x y∧Xb3 E y:=by
 obtain⟨y,hxy,hy⟩:=h
 have hl:Leads E x y:=by
  rcases hxy with rfl|h
  ·exact hy
  ·exact h
 cases hl with
 | one e=>exact⟨y,e,y,.inl rfl,hy⟩
 | more e h=>exact⟨_,e,y,.inr h,hy⟩
theorem Xdh [DecidableEq α] {E:α→α→Prop} (l:List α) (n:Nat):∀(seen:List α) (x:α),(∀y z,E y z→z∈l)→l.length≤n+seen.length→(∀s∈seen,s∈l)→seen.Nodup→(∀s∈seen,Leads E s x)→x∈l→PathN E n x→Xo6 E:=by
 induction n with
 | zero =>
  intro seen x hl hn hs hd hr hx _
  have hm:x∈seen:=by
   rcases Classical.em (x∈seen) with h|h
   ·exact h
   ·exfalso
    have h1:(x :: seen).Nodup:=List.nodup_cons.2 ⟨h,hd⟩
    have h2:(x :: seen) ⊆ l:=by
     intro s hs'
     rcases List.mem_cons.1 hs' with rfl|h'
     ·exact hx
     ·exact hs s h'
    have h3:=h1.length_le_of_subset h2
    simp at h3
    omega
  exact⟨x,hr x hm⟩
 | succ n ih =>
  intro seen x hl hn hs hd hr hx hp
  obtain⟨y,e,hp⟩:=hp
  rcases Classical.em (x∈seen) with h|h
  ·exact⟨x,hr x h⟩
  ·refine ih (x :: seen) y hl (by simp;omega) ?_ (List.nodup_cons.2 ⟨h,hd⟩) ?_ (hl _ _ e) hp
   ·intro s hs'
    rcases List.mem_cons.1 hs' with rfl|h'
    ·exact hx
    ·exact hs s h'
   ·intro s hs'
    rcases List.mem_cons.1 hs' with rfl|h'
    ·exact .one e
    ·exact(hr s h').snoc e
end
/-! ### grammars as they lie -/
structure SlS (α:Type) where
 addr:Option Addr
 cap:Nat
 xs:List α
def SlS.val {α:Type} (s:SlS α):Value:=.slice s.addr s.xs.length s.cap
structure PartG where
 cat:ByteArray
 no:Int
 text:ByteArray
structure GiveG where
 part:Int
 text:ByteArray
structure EntryG where
 text:ByteArray
 cat:ByteArray
 no:Int
 gives:StrS
 cost:Int
structure RuleG where
 cat:ByteArray
 no:Int
 parts:SlS PartG
 gives:SlS GiveG
 cost:Int
structure Gram where
 name:ByteArray
 cats:StrS
 start:ByteArray
 startNo:Int
 entries:SlS EntryG
 rules:SlS RuleG
def PartG.cells (x:PartG):List Value:=[.string x.cat,.int .i64 x.no,.string x.text]
def GiveG.cells (x:GiveG):List Value:=[.int .i64 x.part,.string x.text]
def EntryG.cells (x:EntryG):List Value:=[.string x.text,.string x.cat,.int .i64 x.no,.slice x.gives.addr x.gives.xs.length x.gives.cap,.int .i64 x.cost]
def RuleG.cells (x:RuleG):List Value:=[.string x.cat,.int .i64 x.no,.slice x.parts.addr x.parts.xs.length x.parts.cap,.slice x.gives.addr x.gives.xs.length x.gives.cap,.int .i64 x.cost]
def Gram.cells (x:Gram):List Value:=[.string x.name,.slice x.cats.addr x.cats.xs.length x.cats.cap,.string x.start,.int .i64 x.startNo,.slice x.entries.addr x.entries.xs.length x.entries.cap,.slice x.rules.addr x.rules.xs.length x.rules.cap]
/-! ### what is right -/
def kwords : List ByteArray := ["grammar".toUTF8, "category".toUTF8, "start".toUTF8, "word".toUTF8, "is".toUTF8, "gives".toUTF8, "cost".toUTF8, "rule".toUTF8]
def Xw (s:ByteArray):Bool:=Vk s && !kwords.any (fun y=>decide (y=s))
def idxF (s:ByteArray):List ByteArray→Int
 | [] => -1
 | x :: l=>if x=s then 0 else if idxF s l = -1 then -1 else idxF s l+1
def catB (cats:List ByteArray) (s:ByteArray):Bool:=decide (0≤idxF s cats)
def Vn (n:Int):Bool:=decide (0≤n) && decide (n≤1000)
def Yt (cats:List ByteArray) (x:EntryG):Bool:=Xw x.text && catB cats x.cat && (decide (1≤x.gives.xs.length) && decide (x.gives.xs.length≤4)) && x.gives.xs.all Xw && Vn x.cost
def Yj (cats:List ByteArray) (p:PartG):Bool:=if p.text.size=0 then catB cats p.cat else decide (p.cat.size=0) && Xw p.text
def Th (parts:List PartG) (n:Int):Bool:=decide (0≤n) && (match parts[n.toNat]? with|some p=>decide (p.text.size=0)|none=>false)
def Zs (parts:List PartG) (y:GiveG):Bool:=if y.text.size=0 then Th parts y.part else decide (y.part=0) && Xw y.text
def Ya (gives:List GiveG) (n:Nat):Nat:=gives.countP (fun y=>decide (y.text.size=0) && decide (y.part=(n:Int)))
def Tn (gives:List GiveG):Nat→List PartG→Bool
 | _,[]=>true
 | k,p :: l=>(decide (p.text.size≠0) || decide (Ya gives k=1)) && Tn gives (k+1) l
def Yh (cats:List ByteArray) (x:RuleG):Bool :=
 catB cats x.cat && (decide (1≤x.parts.xs.length) && decide (x.parts.xs.length≤4)) && (decide (1≤x.gives.xs.length) && decide (x.gives.xs.length≤8)) && Vn x.cost &&
  x.parts.xs.all (Yj cats) && x.gives.xs.all (Zs x.parts.xs) && Tn x.gives.xs 0 x.parts.xs
def Xz (g:Gram):Bool :=
 Xw g.name && decide (1≤g.cats.xs.length) && catB g.cats.xs g.start && g.cats.xs.all Xw && decide g.cats.xs.Nodup && g.entries.xs.all (Yt g.cats.xs) && g.rules.xs.all (Yh g.cats.xs)
def Z2 (a b:ByteArray) (x:RuleG):Bool:=match x.parts.xs with|[p]=>decide (x.cat=a) && decide (p.text.size=0) && decide (p.cat=b)|_=>false
def Y2 (rs:List RuleG) (a b:ByteArray):Prop:=∃x∈rs,Z2 a b x=true
def Xaa (rs:List RuleG):Nat→ByteArray→Bool
 | 0,_=>true
 | n+1,a=>rs.any (fun x=>match x.parts.xs with|[p]=>decide (x.cat=a) && decide (p.text.size=0) && Xaa rs n p.cat|_=>false)
def Vm (g:Gram):Bool:=g.cats.xs.any (fun c=>Xaa g.rules.xs g.cats.xs.length c)
def noP (cats:List ByteArray) (p:PartG):Int:=if p.text.size=0 then idxF p.cat cats else 0
def Zm (g:Gram):Bool :=
 decide (g.startNo=idxF g.start g.cats.xs) && g.entries.xs.all (fun x=>decide (x.no=idxF x.cat g.cats.xs)) &&
  g.rules.xs.all (fun x=>decide (x.no=idxF x.cat g.cats.xs) && x.parts.xs.all (fun p=>decide (p.no=noP g.cats.xs p)))
def bigB (g:Gram):Bool:=decide (32<g.cats.xs.length) || decide (512<g.entries.xs.length) || decide (128<g.rules.xs.length)
def Ys (g:Gram):Int:=if bigB g then 2 else if !Xz g then 260 else if Vm g then 261 else if Zm g then 0 else 260
theorem Xdb (rs:List RuleG) (n:Nat):∀a,Xaa rs n a=true↔PathN (Y2 rs) n a:=by
 induction n with
 | zero=>intro a;simp[Xaa,PathN]
 | succ n ih =>
  intro a
  unfold Xaa PathN
  rw[List.any_eq_true]
  constructor
  ·rintro⟨x,hx,h⟩
   split at h
   ·rename_i p hp
    simp only[Bool.and_eq_true,decide_eq_true_eq] at h
    refine⟨p.cat,⟨x,hx,?_⟩,(ih _).1 h.2⟩
    unfold Z2
    rw[hp];simp[h.1]
   ·cases h
  ·rintro⟨b,⟨x,hx,h⟩,hp⟩
   refine⟨x,hx,?_⟩
   unfold Z2 at h
   split at h
   ·rename_i p hp'
    simp only[Bool.and_eq_true,decide_eq_true_eq] at h
    simp only[Bool.and_eq_true,decide_eq_true_eq]
    exact⟨h.1,(ih _).2 (by rw[h.2];exact hp)⟩
   ·cases h
theorem PathN.of_toCircle {α:Type} {E:α→α→Prop} (n:Nat):∀ {x:α},Xb3 E x→PathN E n x:=by
 induction n with
 | zero=>intro x _;trivial
 | succ n ih =>
  intro x h
  obtain⟨y,e,hy⟩:=Xbb h
  exact⟨y,e,ih hy⟩
theorem Xgt (g:Gram) (h:∀x∈g.rules.xs,∀p,x.parts.xs=[p]→p.text.size=0→p.cat∈g.cats.xs) (hc:∀x∈g.rules.xs,x.cat∈g.cats.xs):Vm g=true↔Xo6 (Y2 g.rules.xs):=by
 unfold Vm
 rw[List.any_eq_true]
 constructor
 ·rintro⟨c,hc',hp⟩
  refine Xdh g.cats.xs g.cats.xs.length [] c ?_ (by simp) (by simp) List.nodup_nil (by simp) hc' ((Xdb _ _ _).1 hp)
  rintro y z ⟨x,hx,hz⟩
  unfold Z2 at hz
  split at hz
  ·rename_i p hp'
   simp only[Bool.and_eq_true,decide_eq_true_eq] at hz
   rw[← hz.2]
   exact h x hx p hp' hz.1.2
  ·cases hz
 ·rintro⟨x,hx⟩
  have hxc:x∈g.cats.xs:=by
   have:∃y,Y2 g.rules.xs x y:=by cases hx with
    | one e=>exact⟨_,e⟩
    | more e _=>exact⟨_,e⟩
   obtain⟨y,r,hr,e⟩:=this
   unfold Z2 at e
   split at e
   ·simp only[Bool.and_eq_true,decide_eq_true_eq] at e
    rw[← e.1.1];exact hc r hr
   ·cases e
  exact⟨x,hxc,(Xdb _ _ _).2 (PathN.of_toCircle _ ⟨x,.inl rfl,hx⟩)⟩
/-! ### indices -/
theorem Xed (s:ByteArray):∀l, -1≤idxF s l
 | []=>by simp[idxF]
 | x :: l=>by
  have:=Xed s l
  unfold idxF
  split
  ·omega
  ·split<;>omega
theorem Xee (s:ByteArray):∀l,idxF s l<l.length
 | []=>by simp[idxF]
 | x :: l=>by
  have:=Xee s l
  unfold idxF
  rw[List.length_cons]
  split
  ·omega
  ·split<;>omega
theorem Vo (s:ByteArray):∀l,0≤idxF s l↔s∈l
 | []=>by simp[idxF]
 | x :: l=>by
  have h:=Vo s l
  have h2:=Xed s l
  unfold idxF
  rw[List.mem_cons]
  split
  ·rename_i e;simp[e]
  ·rename_i e
   have:¬s=x:=fun e'=>e e'.symm
   split
   ·constructor
    ·omega
    ·rintro(h'|h');exact absurd h' this;have:=h.2 h';omega
   ·constructor
    ·intro;right;apply h.1;omega
    ·intro;omega
theorem Xfb (s:ByteArray):∀(l:List ByteArray) (k:Nat),idxF s l=k→l[k]? = some s
 | [],k=>by simp[idxF]
 | x :: l,k=>by
  unfold idxF
  split
  ·rename_i e;intro h;obtain rfl:k=0:=by omega
   simp[e]
  ·split
   ·omega
   ·intro h
    have:=Xfb s l (k-1) (by omega)
    obtain⟨j,rfl⟩:∃j,k=j+1:=⟨k-1,by omega⟩
    simpa using this
theorem Ts (cats:List ByteArray) (s:ByteArray):catB cats s=true↔s∈cats:=by unfold catB;rw[decide_eq_true_eq,Vo]
structure SlS.lies {α:Type} (f:α→List Value) (w:World) (s:SlS α):Prop where
 rd:Rd w s.addr (s.xs.flatMap f)
 cap:s.xs.length≤s.cap
 max:s.cap≤9223372036854775807
 nil:s.addr=none→s.xs=[]
theorem SlS.lies.ext {α:Type} {f:α→List Value} {w w':World} {s:SlS α} (h:s.lies f w) (hb:Below w.heap.size w w'):s.lies f w':=⟨h.rd.ext hb,h.cap,h.max,h.nil⟩
theorem SlS.lies.at_ {α:Type} {f:α→List Value} {sz:Nat} (hf:∀x,(f x).length=sz) (h0:0<sz) {w:World} {s:SlS α} (h:s.lies f w) {k:Nat} (hk:k<s.xs.length):∃b off,s.addr=some ⟨b,off,none⟩∧b<w.heap.size ∧
  ∀(i:Nat) (hi:i<s.xs.length) (W:World),Below w.heap.size w W→∀(j:Nat) (u:Value),(f s.xs[i])[j]? = some u→W.cell? ⟨b,off+i*sz+j,none⟩=some u:=by
 obtain⟨b,off,he,hb,_⟩:=h.rd.elem hf h0 hk
 refine⟨b,off,he,hb,fun i hi W hW j u hu=>?_⟩
 obtain⟨b',off',he',_,hc⟩:=h.rd.elem hf h0 hi
 rw[he] at he'
 cases he'
 exact(hW.cell (p:=⟨b,off+i*sz+j,none⟩) hb).trans (hc j u hu)
theorem PartG.size_cells (x:PartG):x.cells.length=3:=rfl
theorem GiveG.size_cells (x:GiveG):x.cells.length=2:=rfl
theorem EntryG.size_cells (x:EntryG):x.cells.length=5:=rfl
theorem RuleG.size_cells (x:RuleG):x.cells.length=5:=rfl
def EntryG.lies (w:World) (x:EntryG):Prop:=x.gives.lies w
def RuleG.lies (w:World) (x:RuleG):Prop:=x.parts.lies PartG.cells w∧x.gives.lies GiveG.cells w
structure Gram.lies (w:World) (g:Gram):Prop where
 cats:g.cats.lies w
 entries:g.entries.lies EntryG.cells w
 entry:∀x∈g.entries.xs,x.lies w
 rules:g.rules.lies RuleG.cells w
 rule:∀x∈g.rules.xs,x.lies w
theorem EntryG.lies.ext {w w':World} {x:EntryG} (h:x.lies w) (hb:Below w.heap.size w w'):x.lies w':=StrS.lies.ext h hb
theorem RuleG.lies.ext {w w':World} {x:RuleG} (h:x.lies w) (hb:Below w.heap.size w w'):x.lies w':=⟨h.1.ext hb,h.2.ext hb⟩
theorem Gram.lies.ext {w w':World} {g:Gram} (h:g.lies w) (hb:Below w.heap.size w w'):g.lies w':=⟨h.cats.ext hb,h.entries.ext hb,fun x hx=>(h.entry x hx).ext hb,h.rules.ext hb,fun x hx=>(h.rule x hx).ext hb⟩
end Go.Proofs.YthojaplnimoacaaGreatDoor
