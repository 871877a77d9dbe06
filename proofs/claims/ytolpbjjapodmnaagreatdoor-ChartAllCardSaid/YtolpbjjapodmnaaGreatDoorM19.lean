/- Texts of this claim, one after the other: R29l, R29m, TraP. -/
import Derived.Test.YtolpbjjapodmnaaGreatDoorM18
import Derived.Test.YtolpbjjapodmnaaGreatDoorM3
namespace Go.Proofs.YtolpbjjapodmnaaGreatDoor
open Go.RowKit Go.Han
attribute [local irreducible] wpStill wpQuiet
set_option maxRecDepth 100000
theorem PaR.ext {X:Nat→Prop} {W V V':World} {b:Nat} {f:FoundG} {L:List Dv} (h:PaR X W b f L V) (hb:Below V.heap.size V V'):PaR X W b f L V' :=
 ⟨⟨hb.os.trans h.only.os,hb.tape.trans h.only.tape,hb.output.trans h.only.output,Nat.le_trans h.only.size hb.size,fun j hj hn=>(hb.block j (Nat.lt_of_lt_of_le hj h.only.size)).trans (h.only.block j hj hn)⟩,Xh hb h.box,h.ok.keep fun _ _ ht=>ht.ext hb⟩
theorem PaR.put {X:Nat→Prop} {W V V':World} {b b':Nat} {f:FoundG} {L:List Dv} (h:PaR X W b f L V) (ho:Only (fun j=>j=b') V V') (hb:W.heap.size≤b') (hne:b<W.heap.size) (hk:¬KidP V b'):PaR X W b f L V' :=
 ⟨⟨ho.os.trans h.only.os,ho.tape.trans h.only.tape,ho.output.trans h.only.output,Nat.le_trans h.only.size ho.size,fun j hj hn=>(ho.block j (Nat.lt_of_lt_of_le hj h.only.size) (by show j≠b';omega)).trans (h.only.block j hj hn)⟩,(ho.block b (Nat.lt_of_lt_of_le hne h.only.size) (by show b≠b';omega)).trans h.box,h.ok.keep fun _ _ ht=>ht.only ho fun j hj hx=>hk (by rw[← show j=b' from hj];exact hx.1)⟩
theorem FoundOk.skip {X X':Nat→Prop} {w w':World} {f:FoundG} {d:Fd TreeV} (h:FoundOk X w f d) (hk:∀t x,TreeW X w t x→TreeW X' w' t x) {cost:Int} {m:Nat} {t:TreeV} (hn:¬(f.ok=false∨cost<f.cost)) :
  FoundOk X' w' ⟨f.ok,f.cost,f.rule,f.item,f.frm,f.unt,f.kids,((capN bigN (d.many+m):Nat):Int)⟩ (Fd.add bigN d ⟨m,some (cost,t)⟩):=by
 have hb:=h.best
 unfold Fd.add
 cases hd:d.best with
 | none =>
  rw[hd] at hb
  exact absurd (.inl hb.1) hn
 | some y =>
  obtain⟨c,t'⟩:=y
  rw[hd] at hb
  obtain⟨h1,h2,h3⟩:=hb
  refine⟨rfl,?_⟩
  rw[Xt,if_neg (by rw[← h2];exact fun h=>hn (.inr h))]
  exact⟨h1,h2,hk _ _ h3⟩
theorem Xs9 {P:Program} {w w':World} {ops:Array Oper} {rest:List Oper} {o:Oper} {a:Act} {Q:Exit→Act→World→Prop} (hgd:o.guard=none) (s x:Operand) (t:TypeId)
  (ho:o.op = .call {callee:=.builtin .append,args:=#[s,x],argTypes:=#[t,t]}) {v u v':Value} (hs:a.eval s=v) (hx:a.eval x=u) (hrun:(Builtin.append_ #[t,t] o.type #[v,u]).run P w = .ok v' w') (h:wpList P ops Q rest (a.put o.dst v') w') :
  wpList P ops Q (o :: rest) a w:=by
 refine wpList_plain hgd fun K hK=>?_
 unfold Oper.wp execOp
 simp only[ho,resolve,invoke,builtin,Sem.run_bind,Sem.run_pure,Result.andThen_ok,List.map_toArray,List.map_cons,List.map_nil,hs,hx,hrun]
 exact hK _ _ h
theorem Xt8 {c i k:Int} {l:List ItemG} {j:Nat} (hj:j<l.length):Xq c i k 0 (l.take (j+1))=Xq c i k 0 (l.take j)++(if l[j].cat=c∧l[j].frm=i∧l[j].unt=k then [(l[j].cost,Zt j i k)] else []):=by
 rw[show l.take (j+1)=l.take j++[l[j]] from List.take_succ_eq_append_getElem hj,Xds,List.length_take,Nat.min_eq_left (by omega),Nat.zero_add]
theorem Xug {st:Int→ByteArray→Bool} {A:Int→Nat→Nat→List Dv} {c:Int} {i k:Nat} {rs:List RuleG} {j:Nat} (hj:j<rs.length) (hn:rs[j].no=c):X4 st A c i k 0 (rs.take (j+1))=X4 st A c i k 0 (rs.take j)++Xac st A j rs[j] i k:=by
 have hl:(rs.take j).length=j:=by rw[List.length_take];omega
 rw[show rs.take (j+1)=rs.take j++[rs[j]] from List.take_succ_eq_append_getElem hj,Xad,if_pos hn,hl,Nat.zero_add]
theorem Xub {X:Nat→Prop} {w:World} {ks:List TreeV} {x:TreeG} {r j i k:Int} (h:TreeW X w (.node 0 0 0 0 ks) x):TreeW X w (.node r j i k ks) ⟨r,j,i,k,x.kids⟩:=by
 unfold TreeW TreeAt at h ⊢
 obtain⟨A,cap,css,e,h1⟩:=h
 injection e with _ e
 injection e with _ e
 injection e with _ e
 injection e with _ e
 exact⟨A,cap,css,by rw[e],h1⟩
end Go.Proofs.YtolpbjjapodmnaaGreatDoor
namespace Go.Proofs.YtolpbjjapodmnaaGreatDoor
open Go.RowKit Go.Han
set_option maxRecDepth 100000
/-! ### increasing lists of numbers -/
structure TgP where
 text:ByteArray
 deps:List Int
 term:Int
deriving DecidableEq
def putI (n:Int):List Int→List Int
 | []=>[n]
 | x :: l=>if x<n then x :: putI n l else if x=n then x :: l else n :: x :: l
def putsI (a l:List Int):List Int:=l.foldl (fun a n=>putI n a) a
def IncI (l:List Int):Prop:=l.Pairwise (· < ·)
/-! ### translations -/
def TgP.more (l:List Int) (x:TgP):TgP:=⟨x.text,putsI x.deps l,x.term⟩
end Go.Proofs.YtolpbjjapodmnaaGreatDoor
