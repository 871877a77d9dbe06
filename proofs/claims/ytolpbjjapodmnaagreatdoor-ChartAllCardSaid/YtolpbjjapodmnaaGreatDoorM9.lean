/- Texts of this claim, one after the other: Term6, StandP, FindA, TagP, GrmN, GrmQ, TagA, Term6b, Term7. -/
import Derived.Test.YtolpbjjapodmnaaGreatDoorM8
import Derived.Test.YtolpbjjapodmnaaGreatDoorM3
import Derived.Test.YtolpbjjapodmnaaGreatDoorM7
import Derived.Test.YtolpbjjapodmnaaGreatDoorM2
import Derived.Test.YtolpbjjapodmnaaGreatDoorM4
import Derived.Lib.Join
import Derived.Laws.CopyOwn
import Derived.Lib.SliceRun
import Derived.RangeFuncBox
import Derived.Maps.AppendAt
namespace Go.Proofs.YtolpbjjapodmnaaGreatDoor
open Go.RowKit Go.Han
attribute [local irreducible] wpStill wpQuiet
set_option maxRecDepth 100000
end Go.Proofs.YtolpbjjapodmnaaGreatDoor
namespace Go.Proofs.YtolpbjjapodmnaaGreatDoor
open Go.RowKit Go.Han
/-! ### line feeds -/
/-! ### joining with line feeds -/
/-! ### keys -/
/-! ### the last terms -/
end Go.Proofs.YtolpbjjapodmnaaGreatDoor
namespace Go.Proofs.YtolpbjjapodmnaaGreatDoor
open Go.RowKit Go.Han
attribute [local irreducible] wpStill wpQuiet
set_option maxRecDepth 100000
def StrS.sub (s:StrS) (i n:Nat):StrS:=⟨if s.cap=i then s.addr else s.addr.map (·.add (i*1)),s.cap-i,(s.xs.drop i).take n⟩
end Go.Proofs.YtolpbjjapodmnaaGreatDoor
namespace Go.Proofs.YtolpbjjapodmnaaGreatDoor
open Go.RowKit Go.Han
set_option maxRecDepth 100000
structure ItemC where
 cat:Int
 frm:Int
 unt:Int
 cost:Int
 tgt:List ByteArray
 term:Int
 deriving DecidableEq
def ItemG.c (x:ItemG):ItemC:=⟨x.cat,x.frm,x.unt,x.cost,x.tgt.xs,x.term⟩
/-! ### joined with spaces -/
/-! ### the map of the terms by their words -/
end Go.Proofs.YtolpbjjapodmnaaGreatDoor
namespace Go.Proofs.YtolpbjjapodmnaaGreatDoor
open Go.RowKit Go.Han
attribute [local irreducible] wpStill wpQuiet
set_option maxRecDepth 100000
def T4 {α:Type} (f:α→List Value) (E sz:Nat) (l:List α) (w:World) (e:Ending) (w':World):Prop:=∃v',e = .returned v'∧OwnL f E sz w' w.heap.size v' l∧Below w.heap.size w w'
set_option maxHeartbeats 1000000 in
theorem Xkg (A:Option Addr) (c:Nat) (l:List EntryG) (w:World) (hr:Rd w A (l.flatMap EntryG.cells)) (hA:A=none→l=[]) (hm:l.length≤1000000) :
  Calls Tryz.prog 194 #[.slice A l.length c] w (T4 EntryG.cells 60 5 l w):=by
 obtain⟨i0,z,hi0,hz0,hzs,hs0,hb0⟩:=Xas Xix
 have hfl:(l.flatMap EntryG.cells).length=l.length*5:=Z7 EntryG.cells 5 EntryG.size_cells l
 have hone:∀u∈l.flatMap EntryG.cells,u.oneCell'=true:=by
  intro u hu
  obtain⟨x,_,hx⟩:=List.mem_flatMap.1 hu
  exact Xmg x u hx
 have q22:∀(w:World) (a:Option Addr) (n c n' c':Nat),(binOp .eql 23 (.slice a n c) (.slice none n' c')).run Tryz.prog w = .ok (.bool a.isNone) w:=fun w a n c n' c'=>Lib.run_eql_slice_nil w _ _ a n c n' c' Tryz.underlying23
 cases A with
 | none =>
  have hl:=hA rfl
  subst hl
  go_enter Tryz.func194,Tryz.ntmps194
  go_wp2
  go_ret
  exact⟨_,rfl,OwnL.nil _ _ _ _ _,Below.refl _ _⟩
 | some a =>
  have hcs:∀(j:Nat) (u:Value),(l.flatMap EntryG.cells)[j]? = some u→w.cell? (a.add j)=some u:=by
   intro j u hu
   rcases hr with h|⟨b,off,he,_,hc⟩
   ·rw[h] at hu;cases hu
   ·cases he
    rw[show (⟨b,off,none⟩:Addr).add j=⟨b,off+j,none⟩ from by unfold Addr.add;split<;>simp_all]
    exact hc j u hu
  have Hcs:=Xa hcs
  clear hcs hr hA
  go_enter Tryz.func194,Tryz.ntmps194
  go_wp2_with (at_builtin;refine wpList_append_own _ rfl _ _ 23 rfl w.heap.size 60 i0 z 5 72 Tryz.underlying23 hi0 hz0 hs0 hb0 hzs (by decide) _ _ _ rfl (World.ownsRow_made w #[] 0 (Nat.le_refl _) (Nat.zero_le _) rfl) a l.length c (l.flatMap EntryG.cells) rfl hfl (fun j u hu=>Lib.cell?_alloc_some _ (Hcs.out j u hu)) hone (by unfold maxLen;omega) (by omega) (by simp) ?_)
  intro v' w1 hown hgrow hnil
  go_wp2
  go_ret
  refine⟨v',rfl,by simpa[OwnL] using hown,?_⟩
  exact((Below.refl _ w).alloc (Nat.le_refl _) _).grown hgrow (by simp) (by intro k hk;simp[Value.ownBlock] at hk;omega)
set_option maxHeartbeats 1000000 in
theorem Xki (A:Option Addr) (c:Nat) (l:List RuleG) (w:World) (hr:Rd w A (l.flatMap RuleG.cells)) (hA:A=none→l=[]) (hm:l.length≤1000000) :
  Calls Tryz.prog 195 #[.slice A l.length c] w (T4 RuleG.cells 79 5 l w):=by
 obtain⟨i0,z,hi0,hz0,hzs,hs0,hb0⟩:=Xas Xi0
 have hfl:(l.flatMap RuleG.cells).length=l.length*5:=Z7 RuleG.cells 5 RuleG.size_cells l
 have hone:∀u∈l.flatMap RuleG.cells,u.oneCell'=true:=by
  intro u hu
  obtain⟨x,_,hx⟩:=List.mem_flatMap.1 hu
  exact Xmp x u hx
 have q22:∀(w:World) (a:Option Addr) (n c n' c':Nat),(binOp .eql 24 (.slice a n c) (.slice none n' c')).run Tryz.prog w = .ok (.bool a.isNone) w:=fun w a n c n' c'=>Lib.run_eql_slice_nil w _ _ a n c n' c' Tryz.underlying24
 cases A with
 | none =>
  have hl:=hA rfl
  subst hl
  go_enter Tryz.func195,Tryz.ntmps195
  go_wp2
  go_ret
  exact⟨_,rfl,OwnL.nil _ _ _ _ _,Below.refl _ _⟩
 | some a =>
  have hcs:∀(j:Nat) (u:Value),(l.flatMap RuleG.cells)[j]? = some u→w.cell? (a.add j)=some u:=by
   intro j u hu
   rcases hr with h|⟨b,off,he,_,hc⟩
   ·rw[h] at hu;cases hu
   ·cases he
    rw[show (⟨b,off,none⟩:Addr).add j=⟨b,off+j,none⟩ from by unfold Addr.add;split<;>simp_all]
    exact hc j u hu
  have Hcs:=Xa hcs
  clear hcs hr hA
  go_enter Tryz.func195,Tryz.ntmps195
  go_wp2_with (at_builtin;refine wpList_append_own _ rfl _ _ 24 rfl w.heap.size 79 i0 z 5 80 Tryz.underlying24 hi0 hz0 hs0 hb0 hzs (by decide) _ _ _ rfl (World.ownsRow_made w #[] 0 (Nat.le_refl _) (Nat.zero_le _) rfl) a l.length c (l.flatMap RuleG.cells) rfl hfl (fun j u hu=>Lib.cell?_alloc_some _ (Hcs.out j u hu)) hone (by unfold maxLen;omega) (by omega) (by simp) ?_)
  intro v' w1 hown hgrow hnil
  go_wp2
  go_ret
  refine⟨v',rfl,by simpa[OwnL] using hown,?_⟩
  exact((Below.refl _ w).alloc (Nat.le_refl _) _).grown hgrow (by simp) (by intro k hk;simp[Value.ownBlock] at hk;omega)
set_option maxHeartbeats 1000000 in
theorem Xkh (A:Option Addr) (c:Nat) (l:List PartG) (w:World) (hr:Rd w A (l.flatMap PartG.cells)) (hA:A=none→l=[]) (hm:l.length≤1000000) :
  Calls Tryz.prog 196 #[.slice A l.length c] w (T4 PartG.cells 81 3 l w):=by
 obtain⟨i0,z,hi0,hz0,hzs,hs0,hb0⟩:=Xas Xiz
 have hfl:(l.flatMap PartG.cells).length=l.length*3:=Z7 PartG.cells 3 PartG.size_cells l
 have hone:∀u∈l.flatMap PartG.cells,u.oneCell'=true:=by
  intro u hu
  obtain⟨x,_,hx⟩:=List.mem_flatMap.1 hu
  exact Xmn x u hx
 have q22:∀(w:World) (a:Option Addr) (n c n' c':Nat),(binOp .eql 76 (.slice a n c) (.slice none n' c')).run Tryz.prog w = .ok (.bool a.isNone) w:=fun w a n c n' c'=>Lib.run_eql_slice_nil w _ _ a n c n' c' Tryz.underlying76
 cases A with
 | none =>
  have hl:=hA rfl
  subst hl
  go_enter Tryz.func196,Tryz.ntmps196
  go_wp2
  go_ret
  exact⟨_,rfl,OwnL.nil _ _ _ _ _,Below.refl _ _⟩
 | some a =>
  have hcs:∀(j:Nat) (u:Value),(l.flatMap PartG.cells)[j]? = some u→w.cell? (a.add j)=some u:=by
   intro j u hu
   rcases hr with h|⟨b,off,he,_,hc⟩
   ·rw[h] at hu;cases hu
   ·cases he
    rw[show (⟨b,off,none⟩:Addr).add j=⟨b,off+j,none⟩ from by unfold Addr.add;split<;>simp_all]
    exact hc j u hu
  have Hcs:=Xa hcs
  clear hcs hr hA
  go_enter Tryz.func196,Tryz.ntmps196
  go_wp2_with (at_builtin;refine wpList_append_own _ rfl _ _ 76 rfl w.heap.size 81 i0 z 3 40 Tryz.underlying76 hi0 hz0 hs0 hb0 hzs (by decide) _ _ _ rfl (World.ownsRow_made w #[] 0 (Nat.le_refl _) (Nat.zero_le _) rfl) a l.length c (l.flatMap PartG.cells) rfl hfl (fun j u hu=>Lib.cell?_alloc_some _ (Hcs.out j u hu)) hone (by unfold maxLen;omega) (by omega) (by simp) ?_)
  intro v' w1 hown hgrow hnil
  go_wp2
  go_ret
  refine⟨v',rfl,by simpa[OwnL] using hown,?_⟩
  exact((Below.refl _ w).alloc (Nat.le_refl _) _).grown hgrow (by simp) (by intro k hk;simp[Value.ownBlock] at hk;omega)
end Go.Proofs.YtolpbjjapodmnaaGreatDoor
namespace Go.Proofs.YtolpbjjapodmnaaGreatDoor
open Go.RowKit Go.Han
set_option maxRecDepth 100000
theorem Xqk {w:World} {base e size n g j:Nat} {v:Value} {xs:List Value} (h:w.ownsRow base e size v n xs) (hg:v.ownBlock=some g) (u:Value):(w.setCell ⟨g,j,none⟩ u).ownsRow base e size v n (xs.set j u):=by
 rcases h.2 with ⟨rfl,_⟩|⟨g',cap,cur,rfl,hb,hc,hn,hm,hs,ht⟩
 ·cases hg
 ·obtain rfl:g'=g:=by simpa[Value.ownBlock] using hg
  refine⟨by simp[h.1],.inr ⟨g',cap,cur.setIfInBounds j u,rfl,hb,heap_setCell_same _ _ _ _ _ _ hc,hn,hm,by simp[hs],?_⟩⟩
  rw[Array.toList_setIfInBounds,List.take_set,ht]
theorem Xeg {α:Type} {f:α→List Value} {E sz:Nat} (hf:∀x,(f x).length=sz) {w:World} {base:Nat} {g n c:Nat} {P S:List α} {x x':α} {k j:Nat} {u:Value} (h:OwnL f E sz w base (.slice (some ⟨g,0,none⟩) n c) (P++x :: S)) (hP:P.length=k) (hj:j<sz) (hx:(f x).set j u=f x') :
  OwnL f E sz (w.setCell ⟨g,k*sz+j,none⟩ u) base (.slice (some ⟨g,0,none⟩) n c) (P++x' :: S):=by
 have h2:=Xqk (j:=k*sz+j) h rfl u
 unfold OwnL
 have hl:(P++x' :: S).length=(P++x :: S).length:=by simp
 have hfl:(P.flatMap f).length=k*sz:=by rw[Z7 f sz hf,hP]
 have he:((P++x :: S).flatMap f).set (k*sz+j) u=(P++x' :: S).flatMap f:=by
  rw[List.flatMap_append,List.flatMap_append,List.flatMap_cons,List.flatMap_cons,List.set_append,if_neg (by omega),hfl,Nat.add_sub_cancel_left,List.set_append,if_pos (by rw[hf];exact hj),hx]
 rw[hl,← he]
 exact h2
theorem Xde {α:Type} {f:α→List Value} {E sz:Nat} (hf:∀x,(f x).length=sz) {w:World} {base:Nat} {A:Option Addr} {n c:Nat} {P S:List α} {x:α} {k:Nat} (h:OwnL f E sz w base (.slice A n c) (P++x :: S)) (hP:P.length=k) :
  ∃g cur,A=some ⟨g,0,none⟩∧base≤g∧w.heap[g]? = some (.cells cur E (0,0))∧∀(j:Nat) (u:Value),(f x)[j]? = some u→w.cell? ⟨g,k*sz+j,none⟩=some u:=by
 have hk:k<(P++x :: S).length:=by simp;omega
 rcases h.2 with ⟨h1,h2⟩|⟨g,cap,cur,hv,hb,hk',_,_,_,h4⟩
 ·omega
 ·cases hv
  refine⟨g,cur,rfl,hb,hk',fun j u hu=>?_⟩
  have hjl:j<sz:=by have:=(List.getElem?_eq_some_iff.1 hu).1;rw[hf] at this;exact this
  have hfl:(P.flatMap f).length=k*sz:=by rw[Z7 f sz hf,hP]
  have h5:((P++x :: S).flatMap f)[k*sz+j]? = some u:=by
   rw[List.flatMap_append,List.getElem?_append_right (by omega),hfl,Nat.add_sub_cancel_left,List.flatMap_cons,List.getElem?_append_left (by rw[hf];exact hjl)]
   exact hu
  rw[← h4,List.getElem?_take] at h5
  split at h5
  ·simp[World.cell?,hk'];simpa using h5
  ·cases h5
theorem OwnL.kind {α:Type} {f:α→List Value} {E sz:Nat} {w:World} {base:Nat} {v:Value} {l:List α} (h:OwnL f E sz w base v l) {g:Nat} (hg:v.ownBlock=some g):∃cur,w.heap[g]? = some (.cells cur E (0,0)):=by
 rcases h.2 with ⟨rfl,_⟩|⟨g',cap,cur,rfl,_,hk,_⟩
 ·cases hg
 ·cases hg;exact⟨cur,hk⟩
theorem Xaw {α β:Type} {f:α→List Value} {f':β→List Value} {E E' sz sz':Nat} {w:World} {base base':Nat} {v v':Value} {l:List α} {l':List β} (h:OwnL f E sz w base v l) (h':OwnL f' E' sz' w base' v' l') (hE:E≠E') {g g':Nat} (hg:v.ownBlock=some g) (hg':v'.ownBlock=some g'):g≠g':=by
 rintro rfl
 obtain⟨c1,h1⟩:=OwnL.kind h hg
 obtain⟨c2,h2⟩:=OwnL.kind h' hg'
 rw[h1] at h2
 cases h2
 exact hE rfl
end Go.Proofs.YtolpbjjapodmnaaGreatDoor
namespace Go.Proofs.YtolpbjjapodmnaaGreatDoor
open Go.RowKit Go.Han
attribute [local irreducible] wpStill wpQuiet
attribute [local go_sem] Oper.semAt_some
set_option maxRecDepth 100000
def FarI (B:Nat) (V:World) (t:StrS):Prop:=t.lies V∧(t.xs=[]∨∀p,t.addr=some p→(p.block<B∨∃cs,V.heap[p.block]? = some (.cells cs 9 (0,0))))
theorem Xmo {V V':World} {A:Option Addr} {xs:List Value} (h:Rd V A xs) (hs:V.heap.size≤V'.heap.size) (hb:∀a,A=some a→V'.heap[a.block]? = V.heap[a.block]?):Rd V' A xs:=by
 rcases h with h|⟨b,off,rfl,hlt,hc⟩
 ·exact .inl h
 ·exact .inr ⟨b,off,rfl,Nat.lt_of_lt_of_le hlt hs,fun j u hu=>(World.cell?_of_block (w:=V) (a:=⟨b,off+j,none⟩) (hb ⟨b,off,none⟩ rfl)).trans (hc j u hu)⟩
theorem FarI.same {B:Nat} {V V':World} {t:StrS} (h:FarI B V t) (hs:V.heap.size≤V'.heap.size) (hb:∀k,(k<B∨∃cs,V.heap[k]? = some (.cells cs 9 (0,0)))→V'.heap[k]? = V.heap[k]?):FarI B V' t :=
 ⟨⟨(h.2.elim (fun e => .inl (by rw[e];rfl)) fun h2=>Xmo h.1.rd hs fun a ha=>hb _ (h2 a ha)),h.1.cap,h.1.max,h.1.nil⟩,h.2.imp id fun h2 p hp=>(h2 p hp).imp id fun ⟨cs,hc⟩=>⟨cs,(hb _ (.inr ⟨cs,hc⟩)).trans hc⟩⟩
theorem FarI.ext {B:Nat} {V V':World} {t:StrS} (h:FarI B V t) (hB:B≤V.heap.size) (hb:Below V.heap.size V V'):FarI B V' t :=
 h.same hb.size fun k hk=>hb.block k (by rcases hk with h|⟨cs,h⟩;omega;exact Xc h)
theorem FarI.grown {B:Nat} {V V':World} {t:StrS} {v:Value} {L:List ItemG} (h:FarI B V t) (ho:OwnL ItemG.cells 53 6 V B v L) (hB:B≤V.heap.size) (hg:V.grownBy V' v.ownBlock):FarI B V' t :=
 h.same hg.size fun k hk=>hg.block k (by rcases hk with h|⟨cs,h⟩;omega;exact Xc h) (fun e=>by
  rcases hk with h|⟨cs,h⟩
  ·have:=(ho.lt k e.symm).1;omega
  ·obtain⟨cur,hc⟩:=OwnL.kind ho e.symm
   rw[h] at hc
   cases hc)
theorem FarI.box {B:Nat} {V:World} {t:StrS} {b T:Nat} {cs:Array Value} {fr:Nat×Nat} (h:FarI B V t) (hb:V.heap[b]? = some (.cells cs T fr)) (hT:T≠9) (hB:B≤b) (j:Nat) (v:Value):FarI B (V.setCell ⟨b,j,none⟩ v) t :=
 h.same (by simp[World.setCell]) fun k hk=>Below.heap_setCell _ _ _ _ (by
  rintro rfl
  rcases hk with h|⟨cs',h⟩
  ·omega
  ·have h':=hb.symm.trans h
   simp only[Option.some.injEq,Obj.cells.injEq] at h'
   exact hT h'.2.1)
theorem FarI.one {B:Nat} {V V':World} {t:StrS} {l:Nat} {o:Obj} (h:FarI B V t) (hl:B≤l) (ho:V.heap[l]? = some o) (hn:Xl9 o) (hs:OneStep l V V'):FarI B V' t :=
 h.same (by rw[hs.size];exact Nat.le_refl _) fun k hk=>hs.block k (by
  rintro rfl
  rcases hk with h|⟨cs,h⟩
  ·omega
  ·rw[h] at ho;exact hn _ _ _ (Option.some.inj ho).symm)
theorem FarI.low {V:World} {t:StrS} {w:World} (hw:t.lies w) (hb:∀k,k<w.heap.size→V.heap[k]? = w.heap[k]?) (hs:w.heap.size≤V.heap.size):FarI w.heap.size V t:=by
 rcases hw.rd with h|⟨b,off,he,hlt,hc⟩
 ·exact⟨⟨.inl h,hw.cap,hw.max,hw.nil⟩,.inl (by simpa[strs] using h)⟩
 ·have ha:∀p,t.addr=some p→p.block<w.heap.size:=fun p hp=>by rw[he] at hp;cases hp;exact hlt
  exact⟨⟨Xmo hw.rd hs (fun a h=>hb _ (ha a h)),hw.cap,hw.max,hw.nil⟩,.inr fun p hp => .inl (ha p hp)⟩
end Go.Proofs.YtolpbjjapodmnaaGreatDoor
/- The reference of the glossary: which terms count, which are later, about the same, equal. -/
namespace Go.Proofs.YtolpbjjapodmnaaGreatDoor
open Go.RowKit Go.Han
attribute [local irreducible] wpStill wpQuiet
set_option maxRecDepth 100000
end Go.Proofs.YtolpbjjapodmnaaGreatDoor
namespace Go.Proofs.YtolpbjjapodmnaaGreatDoor
open Go.RowKit Go.Han
attribute [local irreducible] wpStill wpQuiet
set_option maxRecDepth 100000
end Go.Proofs.YtolpbjjapodmnaaGreatDoor
