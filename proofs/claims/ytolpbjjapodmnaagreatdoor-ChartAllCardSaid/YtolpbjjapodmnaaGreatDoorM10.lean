/- Texts of this claim, one after the other: Map, Stand, KeyT, Stand2, Term8, FindB, MapD, TagB, Chw3, ChaS. -/
import Derived.Test.YtolpbjjapodmnaaGreatDoorM9
import Derived.Test.YtolpbjjapodmnaaGreatDoorM1
import Derived.Test.YtolpbjjapodmnaaGreatDoorShelf2
import Derived.Test.YtolpbjjapodmnaaGreatDoorM3
import Derived.Maps.RangeWalk
import Derived.Deep.RegionWith
import Derived.DeepKeys4
import Derived.Maps.OwnSet
import Derived.StringKeys
import Derived.Stop.RegionWithIn
import Derived.Sort.QuietTacIn
import Derived.Deep.Draws
/- Maps as functions: what a map of the call's own holds at each key; ranging over one. No program in sight. -/
namespace Go.Han
open Go.Maps (Keyed)
section
variable {α β:Type} {P:Program} {k:TypeId}
structure X2 (P:Program) (k:TypeId) (α:Type) where
 val:α→Value
 lit:α→Lit
 good:α→Prop
 of:∀x,good x→keyOf P k (val x)=some (lit x)
 inv:∀v l,keyOf P k v=some l→∃x,good x∧v=val x∧l=lit x
 inj:∀x y,good x→good y→lit x=lit y→x=y
structure ElemShape (β:Type) where
 val:β→Value
 inj:∀x y,val x=val y→x=y
noncomputable def ElemShape.read (E:ElemShape β) (v:Value):Option (DataW β×List MemPlace) :=
 open Classical in if h:∃c,v=E.val c then some (.held (Classical.choose h),[]) else none
theorem ElemShape.read_val (E:ElemShape β) (c:β):E.read (E.val c)=some (.held c,[]):=by
 unfold ElemShape.read
 have h:∃c',E.val c=E.val c':=⟨c,rfl⟩
 rw[dif_pos h,E.inj _ _ (Classical.choose_spec h).symm]
theorem ElemShape.read_inv (E:ElemShape β) {v:Value} {y:DataW β×List MemPlace} (h:E.read v=some y):∃c,v=E.val c∧y=(.held c,[]):=by
 unfold ElemShape.read at h
 split at h
 ·rename_i hc
  cases h
  exact⟨Classical.choose hc,Classical.choose_spec hc,rfl⟩
 ·cases h
def HoldsAt (S:X2 P k α) (D:DataW β) (f:α→Option β):Prop :=
 ∀x,S.good x→(f x=none→Maps.has D (S.lit x)=false)∧∀c,f x=some c→Maps.has D (S.lit x)=true∧∀z,D.atKey (S.lit x) z = .held c
def MapF (w:World) (S:X2 P k α) (E:ElemShape β) (b n:Nat) (f:α→Option β):Prop :=
 ∃D:DataW β,w.ownsMap P k E.read b n D∧HoldsAt S D f
theorem MapF.lt {w:World} {S:X2 P k α} {E:ElemShape β} {b n:Nat} {f:α→Option β} (h:MapF w S E b n f):b<w.heap.size:=let ⟨_,h1,_⟩:=h;h1.lt
theorem MapF.made (w:World) (S:X2 P k α) (E:ElemShape β):MapF (w.alloc (.map #[] 0)) S E w.heap.size 0 (fun _=>none) :=
 ⟨.map [],World.ownsMap_made w P k E.read,fun x _=>⟨fun _=>rfl,fun c h=>by cases h⟩⟩
theorem MapF.mono {w:World} {S:X2 P k α} {E:ElemShape β} {b n n':Nat} {f:α→Option β} (h:MapF w S E b n f) (hn:n≤n'):MapF w S E b n' f :=
 let ⟨D,h1,h2⟩:=h;⟨D,h1.mono hn,h2⟩
theorem MapF.of_block {w w':World} {S:X2 P k α} {E:ElemShape β} {b n:Nat} {f:α→Option β} (h:MapF w S E b n f) (hb:w'.heap[b]? = w.heap[b]?):MapF w' S E b n f:=by
 obtain⟨D,⟨es,clock,h1,h2⟩,h3⟩:=h
 exact⟨D,⟨es,clock,hb.trans h1,h2⟩,h3⟩
theorem MapF.congr {w:World} {S:X2 P k α} {E:ElemShape β} {b n:Nat} {f g:α→Option β} (h:MapF w S E b n f) (e:∀x,S.good x→g x=f x):MapF w S E b n g:=by
 obtain⟨D,h1,h2⟩:=h
 exact⟨D,h1,fun x hx=>by rw[e x hx];exact h2 x hx⟩
theorem HoldsAt.put [DecidableEq α] {S:X2 P k α} (K:Keyed P k) {D:DataW β} {f:α→Option β} (h:HoldsAt S D f) (hD:Maps.IsMap D) {x:α} (hx:S.good x) (c:β) :
  HoldsAt S (D.put (S.lit x) (.held c)) (fun y=>if y=x then some c else f y):=by
 intro y hy
 have hk:WideAt.IsKeyLit (S.lit x):=K.key (S.of x hx)
 by_cases e:y=x
 ·subst e
  exact⟨fun h=>by simp at h,fun c' h=>by
   simp at h;subst h
   exact⟨Maps.has_put_same hD hk _,fun z=>Maps.atKey_put_same hD hk _ z⟩⟩
 ·have hne:S.lit y≠S.lit x:=fun h'=>e (S.inj y x hy hx h')
  obtain⟨h1,h2⟩:=h y hy
  exact⟨fun h'=>by rw[Maps.has_put_other hne];exact h1 (by simpa[e] using h'),fun c' h'=>by
   have:=h2 c' (by simpa[e] using h')
   exact⟨by rw[Maps.has_put_other hne];exact this.1,fun z=>by rw[Maps.atKey_put_other hne];exact this.2 z⟩⟩
section
variable (w:World) {ops:Array Oper} {rest:List Oper} {o:Oper} {a:Act} {Q:Exit→Act→World→Prop}
theorem Tf [DecidableEq α] (hg:o.guard=none) (m x v:Operand) (t:TypeId) (hop:o.op=Op.mapUpdate t m x v) (e:TypeId) (K:Keyed P k) (ht:P.underlying t=some (.map k e)) (S:X2 P k α) (E:ElemShape β) (b n:Nat) (f:α→Option β)
  (hm:a.eval m = .map (some b)) (hown:MapF w S E b n f) (hn:n<maxLen) (key:α) (c:β) (hx:a.eval x=S.val key) (hv:a.eval v=E.val c) (hgood:S.good key)
  (hK:∀w',MapF w' S E b (n+1) (fun y=>if y=key then some c else f y)→w.grownBy w' (some b)→w'.heap.size=w.heap.size→wpList P ops Q rest (a.put o.dst undef) w') :
  wpList P ops Q (o :: rest) a w:=by
 obtain⟨D,h1,h2⟩:=hown
 refine wpList_plain hg fun K' hK'=>?_
 obtain⟨w',hrun,r1,r2⟩:=h1.store K ht hn (S.of key hgood) (E.read_val c)
 have hsz:w'.heap.size=w.heap.size:=by
  obtain⟨es,clock,es',clock',hb,rfl⟩:=r2
  simp[ChangeMaps.setBlock]
 unfold Oper.wp
 simp[execOp,hop,hm,hx,hv,hrun,Result.andThen]
 exact hK' _ _ (hK w' ⟨_,r1,h2.put K h1.isMap hgood c⟩ r2.grown hsz)
theorem MapF.store [DecidableEq α] {t e:TypeId} (K:Keyed P k) (ht:P.underlying t=some (.map k e)) {S:X2 P k α} {E:ElemShape β} {b n:Nat} {f:α→Option β} (hown:MapF w S E b n f) (hn:n<maxLen) (key:α) (c:β) (hgood:S.good key) :
  ∃w',(Instr.mapUpdate t (.map (some b)) (S.val key) (E.val c)).run P w = .ok () w'∧MapF w' S E b (n+1) (fun y=>if y=key then some c else f y)∧w.grownBy w' (some b)∧w'.heap.size=w.heap.size:=by
 obtain⟨D,h1,h2⟩:=hown
 obtain⟨w',hrun,r1,r2⟩:=h1.store K ht hn (S.of key hgood) (E.read_val c)
 refine⟨w',hrun,⟨_,r1,h2.put K h1.isMap hgood c⟩,r2.grown,?_⟩
 obtain⟨es,clock,es',clock',hb,rfl⟩:=r2
 simp[ChangeMaps.setBlock]
theorem Uv {t e:TypeId} (K:Keyed P k) (ht:P.underlying t=some (.map k e)) (S:X2 P k α) (E:ElemShape β) (z0:β) {b n:Nat} {f:α→Option β} (hz:(zeroValue e).run P w = .ok (E.val z0) w) (hown:MapF w S E b n f) (key:α) (hgood:S.good key) :
  (Instr.lookup t (.map (some b)) (S.val key) true).run P w = .ok (.tuple #[E.val ((f key).getD z0),.bool (f key).isSome]) w:=by
 obtain⟨D,h1,h2⟩:=hown
 obtain⟨v,ps,hrun,hv⟩:=h1.look_ok K ht hz (E.read_val z0) (S.of key hgood)
 obtain⟨g1,g2⟩:=h2 key hgood
 obtain⟨c,rfl,hc⟩:=E.read_inv hv
 simp only[Prod.mk.injEq] at hc
 cases hf:f key with
 | none =>
  have:=g1 hf
  rw[Maps.atKey_of_not_has this] at hc
  cases hc.1
  rw[this] at hrun
  exact hrun
 | some c' =>
  obtain⟨g3,g4⟩:=g2 c' hf
  rw[g4] at hc
  cases hc.1
  rw[g3] at hrun
  exact hrun
/-! ### ranging -/
def RangeF (w:World) (S:X2 P k α) (E:ElemShape β) (b r n:Nat) (f:α→Option β) (left:α→Bool) (cnt:Nat):Prop :=
 ∃(D:DataW β) (lf:Lit→Bool),w.ranges P k E.read b r n D lf cnt∧HoldsAt S D f∧(∀x,S.good x→left x=lf (S.lit x))∧∀l,lf l=true→∃x,S.good x∧l=S.lit x
end
theorem RangeF.kept {w w':World} {S:X2 P k α} {E:ElemShape β} {b r n cnt:Nat} {f:α→Option β} {left:α→Bool} {row:Option Nat} (h:RangeF w S E b r n f left cnt) (hg:w.grownBy w' row) (hb:some b≠row) (hr:some r≠row):RangeF w' S E b r n f left cnt :=
 let ⟨D,lf,h1,h2⟩:=h;⟨D,lf,h1.kept hg hb hr,h2⟩
theorem RangeF.owns {w:World} {S:X2 P k α} {E:ElemShape β} {b r n cnt:Nat} {f:α→Option β} {left:α→Bool} (h:RangeF w S E b r n f left cnt):MapF w S E b n f :=
 let ⟨D,_,h1,h2,_⟩:=h;⟨D,h1.owns,h2⟩
theorem RangeF.left_eq {w:World} {S:X2 P k α} {E:ElemShape β} {b r n cnt:Nat} {f:α→Option β} {left:α→Bool} (h:RangeF w S E b r n f left cnt):w.rangeLeft b r=cnt :=
 let ⟨_,_,h1,_⟩:=h;h1.left_eq
theorem RangeF.lt {w:World} {S:X2 P k α} {E:ElemShape β} {b r n cnt:Nat} {f:α→Option β} {left:α→Bool} (h:RangeF w S E b r n f left cnt):r<w.heap.size :=
 let ⟨_,_,h1,_⟩:=h;h1.lt
section
variable (w:World) {ops:Array Oper} {rest:List Oper} {o:Oper} {a:Act} {Q:Exit→Act→World→Prop}
theorem Xf1 (hg:o.guard=none) (m:Operand) (t:TypeId) (hop:o.op=Op.range t m) (e:TypeId) (K:Keyed P k) (ht:P.underlying t=some (.map k e)) (S:X2 P k α) (E:ElemShape β) (b n:Nat) (f:α→Option β)
  (hm:a.eval m = .map (some b)) (hown:MapF w S E b n f)
  (hK:∀w' cnt,RangeF w' S E b w.heap.size n f (fun x=>(f x).isSome) cnt→w.grownBy w' none→w'.heap.size=w.heap.size+1→wpList P ops Q rest (a.put o.dst (.pointer (some ⟨w.heap.size,0,none⟩))) w') :
  wpList P ops Q (o :: rest) a w:=by
 obtain⟨D,h1,h2⟩:=hown
 obtain⟨es,hes,hpw,hkl⟩:=h1.entries K
 refine wpList_range_own w hg m t hop k e K ht E.read b n D hm h1 fun w' hr hgr hs=>hK w' _ ⟨D,Maps.has D,hr,h2,fun x hx=>?_,fun l hl=>?_⟩ hgr hs
 ·obtain⟨g1,g2⟩:=h2 x hx
  show (f x).isSome=_
  cases hf:f x with
  | none=>exact(g1 hf).symm
  | some c=>exact((g2 c hf).1).symm
 ·obtain⟨es',clock,_,F,_,hD⟩:=h1
  subst hD
  obtain⟨p,hp,hpk⟩:=List.any_eq_true.1 hl
  obtain⟨y,hy,rfl⟩:=List.mem_map.1 (mem_sorted.1 hp)
  obtain⟨z,hz⟩:=F.reads y hy
  have hk':=WideElems.rd_key hz
  have e1:(WideElems.rg P k E.read y).1=z.1:=by rw[WideElems.rg_of hz]
  obtain⟨x,hx,_,hl'⟩:=S.inv _ _ hk'
  exact⟨x,hx,by rw[← hl',← e1];exact(WideAt.sameKey_eq hpk).symm⟩
theorem Xgf [DecidableEq α] (hg:o.guard=none) (it:Operand) (hop:o.op=Op.next it false) (K:Keyed P k) (S:X2 P k α) (E:ElemShape β) (b r n:Nat) (f:α→Option β) (left:α→Bool) (cnt:Nat) (kv:α→Value) (cv:β→Value) (hkv:∀x,S.val x=kv x) (hcv:∀c,E.val c=cv c)
  (hit:a.eval it = .pointer (some ⟨r,0,none⟩)) (h:RangeF w S E b r n f left cnt)
  (hDone:(∀x,S.good x→left x=false)→wpList P ops Q rest (a.put o.dst (.tuple #[.bool false])) w)
  (hMore:∀(x:α) (c:β) (w':World) (cnt':Nat),S.good x→left x=true→f x=some c→RangeF w' S E b r n f (fun y=>left y && !decide (y=x)) cnt'→cnt'<cnt →
   w.grownBy w' (some r)→w'.heap.size=w.heap.size→(Instr.entry (.pointer (some ⟨r,0,none⟩))).run P w' = .ok (.tuple #[kv x,cv c]) w'→wpList P ops Q rest (a.put o.dst (.tuple #[.bool true,kv x,cv c])) w') :
  wpList P ops Q (o :: rest) a w:=by
 obtain⟨D,lf,h1,h2,h3,h4⟩:=h
 refine wpList_next_ranges w hg it hop k K E.read S.val E.val (fun key kl hk=>by obtain⟨x,_,hx,_⟩:=S.inv key kl hk;exact⟨x,hx⟩) (fun v y hv=>by obtain⟨c,hc,_⟩:=E.read_inv hv;exact⟨c,hc⟩) b r n D lf cnt hit h1
  (fun _ hl=>hDone fun x hx=>by rw[h3 x hx,hl]) ?_
 intro x' c kl y w' cnt' hkey hlk hv hat hrg hlt hgr hsz hen
 obtain⟨x,hx,hxv,hxl⟩:=S.inv _ _ hkey
 subst hxl
 obtain⟨c',hc',hy⟩:=E.read_inv hv
 obtain rfl:c=c':=E.inj _ _ hc'
 subst hy
 rw[hxv,hkv,hcv] at hen
 rw[hxv,hkv,hcv]
 have hfx:f x=some c:=by
  obtain⟨g1,g2⟩:=h2 x hx
  cases hf:f x with
  | none =>
   have:=g1 hf
   have h0:=hat .nil
   rw[Maps.atKey_of_not_has this] at h0
   cases h0
  | some c2 =>
   have h0:=(g2 c2 hf).2 .nil
   rw[hat] at h0
   cases h0
   rfl
 refine hMore x c w' cnt' hx (by rw[h3 x hx];exact hlk) hfx ⟨D,_,hrg,h2,fun y hy=>?_,fun l hl=>?_⟩ hlt hgr hsz hen
 ·show (left y && !decide (y=x))=(lf (S.lit y) && !(S.lit y).sameKey (S.lit x))
  rw[h3 y hy]
  by_cases e:y=x
  ·subst e
   rw[WideAt.sameKey_self (K.key (S.of y hy))];simp
  ·rw[Maps.sameKey_ne (fun h'=>e (S.inj y x hy hx h'))];simp[e]
 ·refine h4 l ?_
  cases hl':lf l
  ·simp[hl'] at hl
  ·rfl
end
def Xp2 {q:IntKind} (hk:P.underlying k=some (.int q)):X2 P k Int where
 val:=.int q
 lit:=.int q
 good x:=(Lit.int q x).wf=true
 of x hx:=by simp[keyOf,mapKey,hk,hx]
 inv v l h:=by
  obtain⟨x,h1,h2,h3⟩:=Maps.keyOf_int_inv hk h
  exact⟨x,h3,h1,h2⟩
 inj x y _ _ h:=by cases h;rfl
end
end Go.Han
namespace Go.Proofs.YtolpbjjapodmnaaGreatDoor
open Go.RowKit Go.Han
attribute [local irreducible] wpStill wpQuiet
set_option maxRecDepth 100000
end Go.Proofs.YtolpbjjapodmnaaGreatDoor
namespace Go.Proofs.YtolpbjjapodmnaaGreatDoor
open Go.RowKit Go.Han
set_option maxRecDepth 100000
structure TermV where
 no:Int
 at_:Int
 known:Int
 lang:Int
 sA:Option Addr
 sn:Nat
 sc:Nat
 tA:Option Addr
 tn:Nat
 tc:Nat
 cat:ByteArray
 gone:Bool
def TermV.val (x:TermV):Value:=.agg #[.int .i64 x.no,.int .i64 x.at_,.int .i64 x.known,.int .i64 x.lang,.slice x.sA x.sn x.sc,.slice x.tA x.tn x.tc,.string x.cat,.bool x.gone]
end Go.Proofs.YtolpbjjapodmnaaGreatDoor
namespace Go.Proofs.YtolpbjjapodmnaaGreatDoor
open Go.RowKit Go.Han
attribute [local irreducible] wpStill wpQuiet
set_option maxRecDepth 100000
end Go.Proofs.YtolpbjjapodmnaaGreatDoor
/- Maps as functions: struck keys, a look-up without ok, how many entries there are, keys that are strings. Conditions: none; plain facts about the machine's steps. No program in sight. -/
namespace Go.Han
open Go.RowKit
section
variable {α β:Type} {P:Program} {k:TypeId} {w:World}
theorem HoldsAt.del [DecidableEq α] {S:X2 P k α} {D:DataW β} {f:α→Option β} (h:HoldsAt S D f) {x:α} (hx:S.good x):HoldsAt S (D.del (S.lit x)) (fun y=>if y=x then none else f y):=by
 intro y hy
 by_cases e:y=x
 ·subst e
  exact⟨fun _=>Maps.has_del_same,fun c h=>by simp at h⟩
 ·have hne:S.lit y≠S.lit x:=fun h'=>e (S.inj y x hy hx h')
  obtain⟨h1,h2⟩:=h y hy
  exact⟨fun h'=>by rw[Maps.has_del_other hne];exact h1 (by simpa[e] using h'),fun c h'=>by
   have:=h2 c (by simpa[e] using h')
   exact⟨by rw[Maps.has_del_other hne];exact this.1,fun z=>by rw[Maps.atKey_del_other hne];exact this.2 z⟩⟩
theorem Xd7 [DecidableEq α] {ops:Array Oper} {rest:List Oper} {o:Oper} {a:Act} {Q:Exit→Act→World→Prop} (hg:o.guard=none) (m x:Operand) (t:TypeId) (hop:o.op=Op.call {callee:=Callee.builtin Builtin.delete,args:=#[m,x],argTypes:=#[t,k]})
  (e:TypeId) (K:Maps.Keyed P k) (ht:P.underlying t=some (.map k e)) (S:X2 P k α) (E:ElemShape β) (b r n:Nat) (f:α→Option β) (left:α→Bool) (cnt:Nat)
  (hm:a.eval m = .map (some b)) (h:RangeF w S E b r n f left cnt) (key:α) (hx:a.eval x=S.val key) (hgood:S.good key)
  (hK:∀w' cnt',RangeF w' S E b r n (fun y=>if y=key then none else f y) (fun y=>left y && !decide (y=key)) cnt'→cnt'≤cnt→w.mapTurned w' b→wpList P ops Q rest (a.put o.dst (.tuple #[])) w') :
  wpList P ops Q (o :: rest) a w:=by
 obtain⟨D,lf,h1,h2,h3,h4⟩:=h
 refine wpList_delete_ranges w hg m x t k hop e K ht E.read b r n D lf cnt hm h1 _ _ hx (S.of key hgood) fun w' cnt' r1 r2 r3=>?_
 refine hK w' cnt' ⟨_,_,r1,h2.del hgood,fun y hy=>?_,fun l hl=>?_⟩ r2 r3
 ·show (left y && !decide (y=key))=(lf (S.lit y) && !(S.lit y).sameKey (S.lit key))
  rw[h3 y hy]
  by_cases e:y=key
  ·subst e
   rw[WideAt.sameKey_self (K.key (S.of y hy))];simp
  ·rw[Maps.sameKey_ne (fun h'=>e (S.inj y key hy hgood h'))];simp[e]
 ·refine h4 l ?_
  cases hl':lf l
  ·simp[hl'] at hl
  ·rfl
theorem Xfq {t e:TypeId} (K:Maps.Keyed P k) (ht:P.underlying t=some (.map k e)) (S:X2 P k α) (E:ElemShape β) (z0:β) {b n:Nat} {f:α→Option β} (hz:(zeroValue e).run P w = .ok (E.val z0) w) (hown:MapF w S E b n f) (key:α) (hgood:S.good key) :
  (Instr.lookup t (.map (some b)) (S.val key) false).run P w = .ok (E.val ((f key).getD z0)) w:=by
 obtain⟨D,h1,h2⟩:=hown
 obtain⟨v,ps,hrun,hv⟩:=h1.lookup K ht hz (E.read_val z0) (S.of key hgood)
 obtain⟨g1,g2⟩:=h2 key hgood
 obtain⟨c,rfl,hc⟩:=E.read_inv hv
 simp only[Prod.mk.injEq] at hc
 cases hf:f key with
 | none =>
  have:=g1 hf
  rw[Maps.atKey_of_not_has this] at hc
  cases hc.1
  exact hrun
 | some c' =>
  obtain⟨g3,g4⟩:=g2 c' hf
  rw[g4] at hc
  cases hc.1
  exact hrun
theorem MapF.size {S:X2 P k α} {E:ElemShape β} {b n:Nat} {f:α→Option β} (h:MapF w S E b n f) (K:Maps.Keyed P k) (u:List α) (hu:u.Nodup) (hg:∀x∈u,S.good x) (hm:∀x,S.good x→((f x).isSome↔x∈u)) {t e:TypeId} (ht:P.underlying t=some (.map k e)) (ty:TypeId) :
  (Builtin.len_ #[t] ty #[.map (some b)]).run P w = .ok (.int .i64 u.length) w:=by
 obtain⟨D,h1,h2⟩:=h
 rw[h1.len ht ty]
 obtain⟨es,hD,hpw⟩:=h1.tidy K
 have hkeys:∀p∈es,∃x,S.good x∧p.1=S.lit x:=by
  obtain⟨es',clock,_,F,_,hD'⟩:=h1
  intro p hp
  rw[hD'] at hD
  have e:es=_:=(DataW.map.inj hD).symm
  rw[e] at hp
  obtain⟨y,hy,rfl⟩:=List.mem_map.1 (mem_sorted.1 hp)
  obtain⟨z,hz⟩:=F.reads y hy
  have hk':=WideElems.rd_key hz
  have e1:(WideElems.rg P k E.read y).1=z.1:=by rw[WideElems.rg_of hz]
  obtain⟨x,hx,_,hl'⟩:=S.inv _ _ hk'
  exact⟨x,hx,by rw[← hl',← e1]⟩
 subst hD
 have hhas:∀x,S.good x→(Maps.has (.map es:DataW β) (S.lit x)=true↔x∈u):=by
  intro x hx
  rw[← hm x hx]
  obtain⟨g1,g2⟩:=h2 x hx
  cases hf:f x with
  | none=>simp[g1 hf]
  | some c=>simp[(g2 c hf).1]
 have n1:(es.map (·.1)).Nodup:=by rw[List.nodup_iff_pairwise_ne,List.pairwise_map];exact hpw
 have n2:(u.map S.lit).Nodup:=by
  rw[List.nodup_iff_pairwise_ne,List.pairwise_map]
  refine(List.Pairwise.and_mem.1 (List.nodup_iff_pairwise_ne.1 hu)).imp fun {a b} ⟨ha,hb,hne⟩ e=>hne (S.inj a b (hg a ha) (hg b hb) e)
 have s1:es.map (·.1) ⊆ u.map S.lit:=by
  intro l hl
  obtain⟨p,hp,rfl⟩:=List.mem_map.1 hl
  obtain⟨x,hx,e⟩:=hkeys p hp
  refine List.mem_map.2 ⟨x,(hhas x hx).1 ?_,e.symm⟩
  rw[Maps.has_eq]
  refine List.any_eq_true.2 ⟨p,hp,?_⟩
  rw[e]
  exact WideAt.sameKey_self (K.key (S.of x hx))
 have s2:u.map S.lit ⊆ es.map (·.1):=by
  intro l hl
  obtain⟨x,hx,rfl⟩:=List.mem_map.1 hl
  have:=(hhas x (hg x hx)).2 hx
  rw[Maps.has_eq] at this
  obtain⟨p,hp,e⟩:=List.any_eq_true.1 this
  exact List.mem_map.2 ⟨p,hp,WideAt.sameKey_eq e⟩
 have l1:=n1.length_le_of_subset s1
 have l2:=n2.length_le_of_subset s2
 rw[List.length_map] at l1 l2
 rw[List.length_map] at l1 l2
 rw[Maps.size_eq]
 congr 2
 omega
end
def Xqw {P:Program} {k:TypeId} (hk:P.underlying k=some .string):X2 P k ByteArray where
 val:=.string
 lit s:=.string s.data.toList
 good s:=s.size≤maxLen
 of x hx:=Go.WideMaps.keyOf_string_mk hk hx
 inv v l h:=by
  rw[Go.keyOf_string hk] at h
  cases v<;>simp[mapKey,hk] at h
  exact⟨_,h.1,rfl,h.2.symm⟩
 inj x y _ _ h:=by
  injection h with h
  exact WideShapes.bytes_inj h
end Go.Han
namespace Go.Proofs.YtolpbjjapodmnaaGreatDoor
open Go.RowKit Go.Han
attribute [local irreducible] wpStill wpQuiet
attribute [local go_sem] Oper.semAt_some
set_option maxRecDepth 100000
structure TagG where
 g:Gram
 m:Nat
 ws:StrS
def overW (w V:World):World:={V with os:=w.os,tape:=w.tape,output:=w.output}
theorem Xle {w V:World} (hs:w.heap.size≤V.heap.size) (hk:∀k,k<w.heap.size→V.heap[k]? = w.heap[k]?):Below w.heap.size w (overW w V):=⟨rfl,rfl,rfl,hs,hk⟩
theorem Xnz {w V:World} {s:StrS} (h:s.lies (overW w V)):s.lies V:=⟨h.rd,h.cap,h.max,h.nil⟩
structure TagD (w V:World) (T:TagG):Prop where
 size:w.heap.size≤V.heap.size
 low:∀k,k<w.heap.size→V.heap[k]? = w.heap[k]?
 g:T.g.lies w
 ws:T.ws.lies w
theorem TagD.ext {w V V':World} {T:TagG} (h:TagD w V T) (hb:Below V.heap.size V V'):TagD w V' T:=⟨Nat.le_trans h.size hb.size,fun k hk=>(hb.block k (Nat.lt_of_lt_of_le hk h.size)).trans (h.low k hk),h.g,h.ws⟩
theorem TagD.cats {w V:World} {T:TagG} (h:TagD w V T):T.g.cats.lies V:=Xnz (h.g.cats.ext (Xle h.size h.low))
theorem TagD.far {w V:World} {T:TagG} (h:TagD w V T) {s:StrS} (hs:s.lies w):FarI w.heap.size V s:=FarI.low hs h.low h.size
end Go.Proofs.YtolpbjjapodmnaaGreatDoor
namespace Go.Proofs.YtolpbjjapodmnaaGreatDoor
open Go.RowKit Go.Han
attribute [local irreducible] wpStill wpQuiet
set_option maxRecDepth 100000
def KidP (w:World) (b:Nat):Prop:=∃cs fr,w.heap[b]? = some (.cells cs 37 fr)
def TreeW (X:Nat→Prop) (w:World) (t:TreeV) (x:TreeG):Prop:=TreeAt w (fun b=>KidP w b∧¬X b) t [.int .i64 x.rule,.int .i64 x.item,.int .i64 x.frm,.int .i64 x.unt,.slice x.kids.addr x.kids.len x.kids.cap]
theorem TreeW.keep {X X':Nat→Prop} {w w':World} {t:TreeV} {x:TreeG} (h:TreeW X w t x) (hk:∀b,KidP w b→¬X b→w'.heap[b]? = w.heap[b]?) (hs:w.heap.size≤w'.heap.size) (hX:∀b,KidP w b→¬X b→¬X' b):TreeW X' w' t x :=
 TreeAt.keep (fun b ⟨h1,h2⟩ _=>hk b h1 h2) hs (fun b ⟨⟨cs,fr,hb⟩,hn⟩=>⟨⟨cs,fr,(hk b ⟨cs,fr,hb⟩ hn).trans hb⟩,hX b ⟨cs,fr,hb⟩ hn⟩) h
theorem TreeW.ext {X:Nat→Prop} {w w':World} {t:TreeV} {x:TreeG} (h:TreeW X w t x) (hb:Below w.heap.size w w'):TreeW X w' t x:=h.keep (fun b ⟨_,_,hk⟩ _=>hb.block b (Xc hk)) hb.size fun _ _ h=>h
theorem TreeW.only {X:Nat→Prop} {w w':World} {M:Nat→Prop} {t:TreeV} {x:TreeG} (h:TreeW X w t x) (ho:Only M w w') (hM:∀b,M b→¬(KidP w b∧¬X b)):TreeW X w' t x :=
 h.keep (fun b hk hn=>ho.block b (by obtain⟨cs,fr,hk⟩:=hk;exact Xc hk) fun hm=>hM b hm ⟨hk,hn⟩) ho.size fun _ _ h=>h
def FoundG.tree (f:FoundG):TreeG:=⟨f.rule,f.item,f.frm,f.unt,f.kids⟩
def Qr:TreeG:=⟨0,0,0,0,⟨none,0,0⟩⟩
structure FoundOk (X:Nat→Prop) (w:World) (f:FoundG) (d:Fd TreeV):Prop where
 many:f.many=(d.many:Nat)
 best:match d.best with
  | none=>f.ok=false∧f.cost=0∧f.tree=Qr
  | some (c,t)=>f.ok=true∧f.cost=c∧TreeW X w t f.tree
theorem FoundOk.keep {X X':Nat→Prop} {w w':World} {f:FoundG} {d:Fd TreeV} (h:FoundOk X w f d) (hk:∀t x,TreeW X w t x→TreeW X' w' t x):FoundOk X' w' f d:=by
 refine⟨h.many,?_⟩
 have hb:=h.best
 cases hd:d.best with
 | none=>rw[hd] at hb;exact hb
 | some y =>
  obtain⟨c,t⟩:=y
  rw[hd] at hb
  exact⟨hb.1,hb.2.1,hk t _ hb.2.2⟩
theorem FoundOk.zero (X:Nat→Prop) (w:World):FoundOk X w ⟨false,0,0,0,0,0,⟨none,0,0⟩,0⟩ (Fd.of bigN ([]:List Dv)):=⟨rfl,rfl,rfl,rfl⟩
theorem FoundOk.take {X X':Nat→Prop} {w w':World} {f:FoundG} {d:Fd TreeV} (h:FoundOk X w f d) (hk:∀t x,TreeW X w t x→TreeW X' w' t x) {cost:Int} {m:Nat} {t:TreeV} {x:TreeG} (ht:TreeW X' w' t x) :
  FoundOk X' w' (Xdy f cost (m:Int) x) (Fd.add bigN d ⟨m,some (cost,t)⟩):=by
 have hm:min (f.many+(m:Int)) 1099511627777=((capN bigN (d.many+m):Nat):Int):=by
  rw[h.many,Xif]
  rfl
 have hb:=h.best
 unfold Xdy Fd.add
 rw[hm]
 cases hd:d.best with
 | none =>
  rw[hd] at hb
  rw[if_pos (.inl hb.1)]
  exact⟨rfl,rfl,rfl,ht⟩
 | some y =>
  obtain⟨c,t'⟩:=y
  rw[hd] at hb
  obtain⟨h1,h2,h3⟩:=hb
  by_cases hc:cost<f.cost
  ·rw[if_pos (.inr hc)]
   refine⟨rfl,?_⟩
   rw[Xt,if_pos (by rw[← h2];exact hc)]
   exact⟨rfl,rfl,ht⟩
  ·rw[if_neg (by rintro(h|h);rw[h1] at h;cases h;exact hc h)]
   refine⟨rfl,?_⟩
   rw[Xt,if_neg (by rw[← h2];exact hc)]
   exact⟨h1,h2,hk _ _ h3⟩
theorem Xnx (X:Nat→Prop) (w:World) (j:Nat) (i k:Int):TreeW X w (Zt j i k) ⟨-1,j,i,k,⟨none,0,0⟩⟩:=by
 unfold TreeW Zt TreeAt
 exact⟨none,0,[],rfl,Nat.le_refl _,by omega,fun _=>rfl,fun h=>by simp at h,.inl rfl,rfl⟩
theorem Xqb (bi bx:Nat) (j i k c:Int) (w:World) (hi:w.heap[bi]? = some (.cells #[.int .i64 j] 3 (0,0))) (hx:w.heap[bx]? = some (.cells #[.int .i64 c,.int .i64 i,.int .i64 k] 119 (0,0))) :
  Calls Tryz.prog 179 #[.pointer (some ⟨bi,0,none⟩),.pointer (some ⟨bx,0,none⟩)] w fun e w'=>e = .returned (.agg #[.int .i64 (-1),.int .i64 j,.int .i64 i,.int .i64 k,.slice none 0 0])∧Below w.heap.size w w':=by
 have a0:=Xj hi
 obtain⟨b0,b1,b2⟩:=gb3 hx
 have hli:=Xc hi
 have hlx:=Xc hx
 have hni:bi≠w.heap.size:=by omega
 have hnx:bx≠w.heap.size:=by omega
 have hB:Below w.heap.size w (w.alloc (.cells #[.int .i64 (-1),.int .i64 j,.int .i64 i,.int .i64 k,.slice none 0 0] 37)):=Xe (Below.refl _ _) _
 clear hi hx
 go_enter Tryz.func179,Tryz.ntmps179
 go_wp2_with fail
 exact bodyPost_ret (v:=.agg #[.int .i64 (-1),.int .i64 j,.int .i64 i,.int .i64 k,.slice none 0 0]) (by simp[results,Tryz.results179,go_sem]) rfl ⟨rfl,hB⟩
end Go.Proofs.YtolpbjjapodmnaaGreatDoor
namespace Go.Proofs.YtolpbjjapodmnaaGreatDoor
open Go.RowKit Go.Han
set_option maxRecDepth 100000
/-! ### by the ways to lay the parts -/
def X9 (st:Int→ByteArray→Bool):List PartG→Nat→Nat→List (List Nat)
 | [],i,k=>if i=k then [[]] else []
 | p :: ps,i,k =>
  if k<i+(ps.length+1) then []
  else if p.text.size≠0 then (if st i p.text=true then X9 st ps (i+1) k else [])
  else (List.range' (i+1) (k-ps.length-i)).flatMap fun m=>(X9 st ps m k).map (m :: ·)
def Yr (A:Int→Nat→Nat→List Dv):List PartG→Nat→List Nat→List Dk
 | [],_,_=>[(0,[])]
 | p :: ps,i,es =>
  if p.text.size≠0 then Yr A ps (i+1) es
  else match es with
   | m :: es'=>Y7 List.cons (A p.no i m) (Yr A ps m es')
   | []=>[]
def SameM {α:Type} (l k:List (Int×α)):Prop:=l.length=k.length∧Xv l=Xv k
theorem SameM.refl {α:Type} (l:List (Int×α)):SameM l l:=⟨rfl,rfl⟩
theorem SameM.trans {α:Type} {a b c:List (Int×α)} (h:SameM a b) (k:SameM b c):SameM a c:=⟨h.1.trans k.1,h.2.trans k.2⟩
theorem SameM.symm {α:Type} {a b:List (Int×α)} (h:SameM a b):SameM b a:=⟨h.1.symm,h.2.symm⟩
theorem SameM.append {α:Type} {a b c d:List (Int×α)} (h:SameM a b) (k:SameM c d):SameM (a++c) (b++d):=⟨by simp[h.1,k.1],by rw[Zl,Zl,h.2,k.2]⟩
theorem SameM.prod {α β γ:Type} (f:α→β→γ) (a:List (Int×α)) {b c:List (Int×β)} (h:SameM b c):SameM (Y7 f a b) (Y7 f a c):=⟨by rw[Zh,Zh,h.1],by rw[Vi,Vi,h.2]⟩
theorem SameM.flatMap {α β:Type} {f g:β→List (Int×α)}:∀ {l:List β},(∀x∈l,SameM (f x) (g x))→SameM (l.flatMap f) (l.flatMap g)
 | [],_ => .refl _
 | x :: l,h=>by
  rw[List.flatMap_cons,List.flatMap_cons]
  exact(h x (List.mem_cons_self ..)).append (SameM.flatMap fun y hy=>h y (List.mem_cons_of_mem _ hy))
theorem SameM.map {α β:Type} (g:Int×α→Int×β) (c:Int) (hg:∀a,(g a).1=c+a.1) {a b:List (Int×α)} (h:SameM a b):SameM (a.map g) (b.map g):=⟨by simp[h.1],by rw[Qa g c hg,Qa g c hg,h.2]⟩
theorem Qu {α β γ δ:Type} (f:α→β→γ) (a:List (Int×α)) (B:δ→List (Int×β)):∀l:List δ,SameM (l.flatMap fun e=>Y7 f a (B e)) (Y7 f a (l.flatMap B))
 | []=>by
  rw[List.flatMap_nil,List.flatMap_nil]
  have:Y7 f a ([]:List (Int×β))=[]:=List.flatMap_eq_nil_iff.2 (fun _ _=>rfl)
  rw[this];exact .refl _
 | e :: l=>by
  rw[List.flatMap_cons,List.flatMap_cons]
  refine((SameM.refl _).append (Qu f a B l)).trans ⟨?_,?_⟩
  ·rw[List.length_append,Zh,Zh,Zh,List.length_append,Nat.mul_add]
  ·rw[Zl,Vi,Vi,Vi,Zl,Xf8]
theorem Xc6 (st:Int→ByteArray→Bool) (A:Int→Nat→Nat→List Dv):∀(ps:List PartG) (i k:Nat),SameM ((X9 st ps i k).flatMap (Yr A ps i)) (Ye st A ps i k)
 | [],i,k=>by
  unfold X9 Ye
  split
  ·exact .refl _
  ·exact .refl _
 | p :: ps,i,k=>by
  by_cases hk:k<i+(ps.length+1)
  ·rw[Vf st A (p :: ps) i k (by rw[List.length_cons];omega)]
   unfold X9
   rw[if_pos hk];exact .refl _
  unfold X9 Ye
  rw[if_neg hk]
  by_cases hp:p.text.size≠0
  ·rw[if_pos hp,if_pos hp]
   have e:∀es,Yr A (p :: ps) i es=Yr A ps (i+1) es:=fun es=>by simp only[Yr];rw[if_pos hp]
   by_cases hs:st i p.text=true
   ·rw[if_pos hs,if_pos ⟨by omega,hs⟩]
    have:=Xc6 st A ps (i+1) k
    rw[show (X9 st ps (i+1) k).flatMap (Yr A (p :: ps) i)=(X9 st ps (i+1) k).flatMap (Yr A ps (i+1)) from by congr 1;funext es;exact e es]
    exact this
   ·rw[if_neg hs,if_neg (fun h=>hs h.2)];exact .refl _
  ·rw[if_neg hp,if_neg hp]
   have e:∀m es,Yr A (p :: ps) i (m :: es)=Y7 List.cons (A p.no i m) (Yr A ps m es):=fun m es=>by simp only[Yr];rw[if_neg hp]
   have h1:SameM (((List.range' (i+1) (k-ps.length-i)).flatMap fun m=>(X9 st ps m k).map (m :: ·)).flatMap (Yr A (p :: ps) i)) ((List.range' (i+1) (k-ps.length-i)).flatMap fun m=>Y7 List.cons (A p.no i m) (Ye st A ps m k)):=by
    rw[List.flatMap_assoc]
    refine SameM.flatMap fun m _=>?_
    rw[List.flatMap_map]
    simp only[e]
    exact(Qu List.cons (A p.no i m) (Yr A ps m) (X9 st ps m k)).trans (SameM.prod _ _ (Xc6 st A ps m k))
   refine h1.trans ?_
   have h2:List.range' (i+1) (k-i)=List.range' (i+1) (k-ps.length-i)++List.range' (k-ps.length+1) ps.length:=by
    rw[show k-ps.length+1=(i+1)+(k-ps.length-i) by omega]
    rw[List.range'_append_1];congr 1;omega
   rw[h2,List.flatMap_append]
   rw[show (List.range' (k-ps.length+1) ps.length).flatMap (fun m=>Y7 List.cons (A p.no i m) (Ye st A ps m k))=[] from List.flatMap_eq_nil_iff.2 fun m hm=>by
    rw[List.mem_range'_1] at hm
    rw[Vf st A ps m k (by omega)]
    exact List.flatMap_eq_nil_iff.2 (fun _ _=>rfl)]
   rw[List.append_nil];exact .refl _
end Go.Proofs.YtolpbjjapodmnaaGreatDoor
