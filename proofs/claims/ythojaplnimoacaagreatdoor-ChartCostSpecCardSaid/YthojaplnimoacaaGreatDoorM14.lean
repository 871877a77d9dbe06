/- Texts of this claim, one after the other: StillIn, TakeC, TagU, Chw1, Tree, Grid, Chw2, Chw3, ChaS, ChaW. -/
import Derived.Test.YthojaplnimoacaaGreatDoorM6
import Derived.Test.YthojaplnimoacaaGreatDoorM13
import Derived.Test.YthojaplnimoacaaGreatDoorM10
import Derived.Test.YthojaplnimoacaaGreatDoorM3
import Derived.Test.YthojaplnimoacaaGreatDoorM2
import Derived.Test.YthojaplnimoacaaGreatDoorM9
import Derived.StillTail
import Derived.StillTailTactics
import Derived.StillTactics
import Derived.Deep.Draws
/- Inside the wide fence: a region that only reads, up to a call at its end. Plain theorems about the machine's steps. Conditions: none. -/
namespace Go.Han
open Go.RowKit
section
variable {P:Program} {ops:Array Oper} {md:Region.Mode} {w:World}
theorem Xh8 {o:Oper} {a:Act} {n:Nat} {K:Act→Prop} {K':Act→World→Prop} {Q':Exit→Act→World→Prop} (h:∀a,K a→K' a w) (hh:o.still P a w K):o.wpIn Fence.wide n P a w K' Q':=by
 unfold Oper.still at hh
 unfold Oper.wpIn
 refine⟨fun f _=>trivial,?_⟩
 rw[show Fence.wide.round=none from rfl,Oper.semAt_none]
 generalize (execOp a.eval o).run P w=r at *
 cases r with
 | ok x w' =>
  cases x<;>simp only[Oper.stillUpon] at hh<;>simp only[Oper.uponIn]
  case enter f args =>
   obtain⟨rfl,v,hc,hn⟩:=hh
   refine⟨(fun h=>by cases h),callsIn_wide.2 (hc.mono fun e w'' ⟨he,hw⟩=>?_)⟩
   subst he;subst hw;exact h _ hn
  all_goals (obtain⟨rfl,h2⟩:=hh;exact h _ h2)
 | halt x w'=>simp only[Oper.stillUpon] at hh
theorem Xj3 {n i:Nat} {a:Act} {K:Act→Prop} {K':Act→World→Prop} {Q':Exit→Act→World→Prop} (h:∀a,K a→K' a w) (hh:stOp P ops w i K a):wpOpIn Fence.wide n P ops Q' i K' a w:=by
 unfold stOp at hh
 unfold wpOpIn
 split
 ·rename_i ho;simp only[ho] at hh;exact h _ hh
 ·rename_i o ho
  simp only[ho] at hh
  split
  ·rename_i hw;simp only[hw,if_true] at hh;exact Xh8 h hh
  ·rename_i hw;simp only[hw] at hh;exact⟨fun _ _=>trivial,h _ hh⟩
theorem Xd0 {n m g:Nat} {L:Array Bool→Act→Prop} {Q':Exit→Act→World→Prop} (hL:∀listed a,L listed a→wpAnyIn Fence.wide m P md ops Q' g listed a w) :
  ∀(f:Nat) (listed:Array Bool) (a:Act),wpAnyL P md ops w n L f listed a→wpAnyIn Fence.wide m P md ops Q' (f+g) listed a w
 | 0,listed,a,h=>by rw[Nat.zero_add];exact hL _ _ h
 | f+1,listed,a,h=>by
  rw[show f+1+g=(f+g)+1 by omega]
  exact⟨fun h0=>absurd h0 h.1,fun i hi=>Xj3 (fun a' h'=>Xd0 hL f _ a' h') (h.2 i hi).2⟩
theorem Xfz {m:Nat} {Q':Exit→Act→World→Prop}:∀(l:List Oper) (k:Nat) (listed:Array Bool) (a:Act) (w:World),(∀j,l[j]? = ops[k+j]?) →
  Region.seqB md ops l.length k listed=true→wpListIn Fence.wide m P ops Q' l a w→wpAnyIn Fence.wide m P md ops Q' l.length listed a w
 | [],_,_,_,_,_,hB,h=>⟨by simpa[Region.seqB] using hB,h⟩
 | o :: l,k,listed,a,w,hl,hB,h=>by
  have h0:ops[k]? = some o:=by simpa using (hl 0).symm
  simp only[List.length_cons,Region.seqB,Bool.and_eq_true,decide_eq_true_eq] at hB
  refine⟨fun h1=>(by rw[hB.1] at h1;cases h1),fun i hi=>?_⟩
  rw[hB.1] at hi
  have hik:i=k:=by simpa using hi
  subst hik
  have hw:wpOpIn Fence.wide m P ops Q' i (wpListIn Fence.wide m P ops Q' l) a w:=by unfold wpOpIn;simp only[h0];exact h
  exact wpOpIn_mono (fun a' w' h'=>Xfz l (i+1) _ a' w' (fun j=>by have:=hl (j+1);simpa[Nat.add_assoc,Nat.add_comm 1 j] using this) hB.2 h') hw
theorem Qv {id m:Nat} {Q:Exit→Act→World→Prop} {a:Act} {w:World} {l:List Oper} (n:Nat) (hm:P.follows .mixedOrders=true) (hB:Region.lexTailB .any l.toArray n=true)
  (h:wpStill P l.toArray w.drew (fun a'=>wpListIn Fence.wide m P l.toArray Q (l.drop n) a' w.drew) (l.take n) a):(Code.region id l.toArray true).wpIn Fence.wide m P Q a w:=by
 simp only[Region.lexTailB,Bool.and_eq_true,decide_eq_true_eq] at hB
 obtain⟨⟨⟨⟨hsel,hn⟩,hs⟩,hc⟩,hlex⟩:=hB
 have hn':n<l.length:=by simpa using hn
 have htl:(l.take n).length=n:=by simp;omega
 have hdl:(l.drop n).length=l.toArray.size-n:=by simp
 have inv0:HeadInv .any l.toArray n (Array.replicate l.toArray.size false) :=
  ⟨by simp,fun j oj _ hl=>(by rw[getD_replicate_false] at hl;cases hl),fun t _ ht=>getD_in (by simpa using ht) (getD_replicate_false _ _)⟩
 have H:=wpAnyL_lex (md:=.any) (g:=l.toArray.size-n) hsel hs hc hn (l.take n) 0 _ a (fun j hj=>by
  have hj':j<n:=by rw[htl] at hj;exact hj
  simp[hj']) (by simpa using htl) inv0 (by rw[htl];exact hlex) h
 refine wpIn_region_any hm ?_
 have:=Xd0 (m:=m) (Q':=Q) (g:=l.toArray.size-n) (fun listed a' hL=>by
  have:=Xfz (m:=m) (md:=.any) (Q':=Q) (l.drop n) n listed a' w.drew (fun j=>by simp[List.getElem?_drop]) (by rw[hdl];exact hL.1) hL.2
  rwa [hdl] at this) _ _ _ H
 rw[htl,show n+(l.toArray.size-n)=l.toArray.size by omega] at this
 exact this
end
end Go.Han
/- Inside the wide fence: the orders of a drawn region, with a class of worlds that no operation leaves: what reads the same in all of them may be taken first. Plain theorems about the machine's steps. Conditions: none. -/
namespace Go.Han
open Go.RowKit
section
variable {P:Program} {ops:Array Oper} {C:World→Prop} {Q:Exit→Act→World→Prop} {m:Nat}
def wpAnyC (m:Nat) (P:Program) (ops:Array Oper) (C:World→Prop) (Q:Exit→Act→World→Prop):Nat→Array Bool→Act→World→Prop
 | 0,listed,a,w=>C w∧Region.ready .any ops listed=[]∧Q .normal a w
 | f+1,listed,a,w=>C w∧(Region.ready .any ops listed=[]→Q .normal a w)∧∀i∈Region.ready .any ops listed,wpOpIn Fence.wide m P ops Q i (wpAnyC m P ops C Q f (listed.setIfInBounds i true)) a w
theorem wpAnyC.any:∀ {f:Nat} {listed:Array Bool} {a:Act} {w:World},wpAnyC m P ops C Q f listed a w→wpAnyIn Fence.wide m P .any ops Q f listed a w
 | 0,_,_,_,h=>h.2
 | _+1,_,_,_,h=>⟨h.2.1,fun i hi=>wpOpIn_mono (fun _ _ h'=>h'.any) (h.2.2 i hi)⟩
def SameC (P:Program) (ops:Array Oper) (C:World→Prop) (o:Oper) (v:Value) (a:Act):Prop :=
 (Region.wanted o (yielded ops a.tmps)=true∧∀w,C w→(execOp a.eval o).run P w = .ok (.value v) w)∨(Region.wanted o (yielded ops a.tmps)=false∧v=undef)
theorem SameC.step {i:Nat} {o:Oper} {v:Value} {a:Act} {w:World} {K:Act→World→Prop} (hi:ops[i]? = some o) (hy:SameC P ops C o v a) (hC:C w) (h:K (a.put o.dst v) w):wpOpIn Fence.wide m P ops Q i K a w:=by
 unfold wpOpIn
 rw[hi]
 show if _ then _ else _
 rcases hy with ⟨hw,hv⟩|⟨hw,rfl⟩
 ·rw[if_pos hw]
  refine⟨fun _ _=>trivial,?_⟩
  rw[show Fence.wide.round=none from rfl,Oper.semAt_none,hv w hC]
  exact h
 ·rw[if_neg (by rw[hw];decide)]
  exact⟨fun _ _=>trivial,h⟩
theorem SameC.swap {j:Nat} {oi oj:Oper} {v:Value} {K:Act→World→Prop} {a:Act} {w:World} (hj:ops[j]? = some oj) (hap:oi.apart ops oj=true)
  (hsi:∀cs b,oi.op ≠ .select cs b) (hsj:∀cs b,oj.op ≠ .select cs b) (hQ:∀c a w,Q (.panic c) (a.put oi.dst v) w→Q (.panic c) a w)
  (hy:SameC P ops C oi v a) (h:wpOpIn Fence.wide m P ops Q j K (a.put oi.dst v) w) :
  wpOpIn Fence.wide m P ops Q j (fun a' w'=>SameC P ops C oi v a'∧K (a'.put oi.dst v) w') a w:=by
 obtain⟨p1,p2,p3⟩:=Oper.apart_spec hap
 have kp:∀ {b:Act},SameC P ops C oi v b→∀u,SameC P ops C oi v (b.put oj.dst u):=fun {b} hb u=>by
  unfold SameC
  rw[execOp_put oi hsi b oj.dst u p3,wanted_put oi b oj.dst u p3]
  exact hb
 have pc:∀(b:Act) u,(b.put oj.dst u).put oi.dst v=(b.put oi.dst v).put oj.dst u:=fun b u=>(Act.put_comm b v u p2).symm
 unfold wpOpIn at h ⊢
 rw[hj] at h ⊢
 replace h:if _ then _ else _:=h
 show if _ then _ else _
 rw[wanted_put oj a oi.dst v p1] at h
 by_cases hw:Region.wanted oj (yielded ops a.tmps)=true
 ·rw[if_pos hw] at h ⊢
  refine⟨fun _ _=>trivial,?_⟩
  have h2:=h.2
  rw[show Fence.wide.round=none from rfl,Oper.semAt_none,execOp_put oj hsj a oi.dst v p1] at h2
  rw[show Fence.wide.round=none from rfl,Oper.semAt_none]
  revert h2
  generalize (execOp a.eval oj).run P w=r
  intro h2
  match r,h2 with
  | .ok (.value u) w',h2=>exact⟨kp hy u,(pc a u) ▸ h2⟩
  | .ok .skip w',h2=>exact⟨kp hy _,(pc a undef) ▸ h2⟩
  | .ok (.defer d) w',h2 =>
   refine⟨kp (b:={a with defers:=d :: a.defers}) hy _,?_⟩
   rw[pc,← Act.put_defers]
   exact h2
  | .ok (.enter f args) w',h2 =>
   refine⟨h2.1,CallsIn.mono h2.2 fun e w'' he=>?_⟩
   match e,he with
   | .returned u,he=>exact⟨kp hy u,(pc a u) ▸ he⟩
   | .panicked c,he=>exact hQ _ _ _ he
   | .outgrown,he=>exact he
  | .ok (.row row args) w',h2=>exact⟨h2.1,RowsIn.mono h2.2 fun u w'' he=>⟨kp hy u,(pc a u) ▸ he⟩⟩
  | .ok (.round l f tmps assign body) w',h2 =>
   refine⟨h2.1,RoundIn.mono h2.2 fun e w'' he=>?_⟩
   match e,he with
   | .returned u,he=>exact⟨kp hy u,(pc a u) ▸ he⟩
   | .panicked c,he=>exact hQ _ _ _ he
   | .outgrown,he=>exact he
  | .halt (.panic u) w',h2=>exact hQ _ _ _ h2
 ·rw[if_neg hw] at h ⊢
  exact⟨fun _ _=>trivial,kp hy _,(pc a undef) ▸ h.2⟩
theorem Xfy {listed:Array Bool} {i:Nat} (h:i∈Region.ready .any ops listed):listed.getD i false=false:=by
 have h0:=(mem_ready.1 h).1
 exact getD_both h0
theorem Xco {i:Nat} {oi:Oper} {v:Value} (hi:ops[i]? = some oi) (hsel:∀(j:Nat) (o:Oper) cs b,ops[j]? = some o→o.op ≠ .select cs b) (hQ:∀c a w,Q (.panic c) (a.put oi.dst v) w→Q (.panic c) a w) :
  ∀(f:Nat) (listed:Array Bool) (a:Act) (w:World),
   (∀j oj,ops[j]? = some oj→j≠i→listed.getD j true=false→(∀e∈oj.after,Region.binds .any e=true→e.on≠i)→oi.apart ops oj=true) →
   i∈Region.ready .any ops listed→SameC P ops C oi v a→wpAnyC m P ops C Q f (listed.setIfInBounds i true) (a.put oi.dst v) w→wpAnyC m P ops C Q (f+1) listed a w
 | 0,listed,a,w,_,hr,hy,H=>by
  refine⟨H.1,fun h=>absurd hr (by rw[h];simp),fun j hj=>?_⟩
  by_cases e:j=i
  ·rw[e];exact hy.step hi H.1 H
  ·have:=ready_mono hj e
   rw[H.2.1] at this
   cases this
 | f+1,listed,a,w,hfree,hr,hy,H=>by
  refine⟨H.1,fun h=>absurd hr (by rw[h];simp),fun j hj=>?_⟩
  by_cases e:j=i
  ·rw[e];exact hy.step hi H.1 H
  ·obtain⟨hun,oj,hoj,hall⟩:=mem_ready.1 hj
   have hno:∀x∈oj.after,Region.binds .any x=true→x.on≠i:=fun x hx hb he=>by
    have h1:=hall x hx hb
    rw[he,Xfy hr] at h1
    cases h1
   have h2:=SameC.swap hoj (hfree j oj hoj e hun hno) (fun cs b=>hsel i oi cs b hi) (fun cs b=>hsel j oj cs b hoj) hQ hy (H.2.2 j (ready_mono hj e))
   refine wpOpIn_mono (fun a' w' h3=>Xco hi hsel hQ f (listed.setIfInBounds j true) a' w' (fun k ok hk hki hunk hnok=>?_) (ready_mono hr (Ne.symm e)) h3.1 ?_) h2
   ·refine hfree k ok hk hki ?_ hnok
    by_cases hjk:j=k
    ·rw[← hjk];exact hun
    ·rw[getD_set_ne true hjk] at hunk;exact hunk
   ·rw[Array.setIfInBounds_comm _ _ e]
    exact h3.2
theorem Xj5 {i:Nat} {oi:Oper} {v:Value} {f:Nat} {listed:Array Bool} {a:Act} {w:World} (hi:ops[i]? = some oi) (hs:Region.noSelect ops=true) (hf:Region.free .any ops listed i=true)
  (hr:(Region.ready .any ops listed).contains i=true) (hQ:∀c a w,Q (.panic c) (a.put oi.dst v) w→Q (.panic c) a w) (hw:Region.wanted oi (yielded ops a.tmps)=true) (hy:∀w,C w→(execOp a.eval oi).run P w = .ok (.value v) w)
  (h:wpAnyC m P ops C Q f (listed.setIfInBounds i true) (a.put oi.dst v) w):wpAnyC m P ops C Q (f+1) listed a w :=
 Xco hi (Region.noSelect_spec hs) hQ f listed a w (Region.free_spec hi hf) (by simpa using hr) (.inl ⟨hw,hy⟩) h
def takeB (ops:Array Oper) (listed:Array Bool) (i:Nat) (tmps:Array Value):Bool:=match ops[i]? with
 | some o=>Region.noSelect ops && Region.free .any ops listed i && (Region.ready .any ops listed).contains i && Region.wanted o (yielded ops tmps)
 | none=>false
theorem Xd {i:Nat} {oi:Oper} {v:Value} {f:Nat} {listed:Array Bool} {a:Act} {w:World} (hi:ops[i]? = some oi) (hb:takeB ops listed i a.tmps=true) (hQ:∀c a w,Q (.panic c) (a.put oi.dst v) w→Q (.panic c) a w) (hy:∀w,C w→(execOp a.eval oi).run P w = .ok (.value v) w)
  (h:wpAnyC m P ops C Q f (listed.setIfInBounds i true) (a.put oi.dst v) w):wpAnyC m P ops C Q (f+1) listed a w:=by
 unfold takeB at hb
 rw[hi] at hb
 simp only[Bool.and_eq_true] at hb
 obtain⟨⟨⟨h1,h2⟩,h3⟩,h4⟩:=hb
 exact Xj5 hi h1 h2 h3 hQ h4 hy h
def AllC (m:Nat) (P:Program) (ops:Array Oper) (C:World→Prop) (Q:Exit→Act→World→Prop) (f:Nat) (listed:Array Bool) (a:Act) (w:World) (rs:List Nat):Prop :=
 ∀i∈rs,wpOpIn Fence.wide m P ops Q i (wpAnyC m P ops C Q f (listed.setIfInBounds i true)) a w
theorem AllC.nil {f:Nat} {listed:Array Bool} {a:Act} {w:World}:AllC m P ops C Q f listed a w []:=fun _ h=>by cases h
theorem AllC.cons {f:Nat} {listed:Array Bool} {a:Act} {w:World} {i:Nat} {o:Oper} {rs:List Nat} (ho:ops[i]? = some o)
  (h:∀K':Act→World→Prop,(∀a w,wpAnyC m P ops C Q f (listed.setIfInBounds i true) a w→K' a w)→if Region.wanted o (yielded ops a.tmps)=true then Oper.wpIn Fence.wide m P o a w K' Q else (∀f,o.about P w a.eval=some f→Fence.wide.fn f)∧K' (a.put o.dst undef) w)
  (hs:AllC m P ops C Q f listed a w rs):AllC m P ops C Q f listed a w (i :: rs):=fun j hj=>by
 rcases List.mem_cons.1 hj with rfl|hj
 ·exact wpOpIn_step ho h
 ·exact hs j hj
theorem Xs {rs:List Nat} {f:Nat} {listed:Array Bool} {a:Act} {w:World} (hC:C w) (hr:Region.ready .any ops listed=rs) (hne:rs≠[]) (h:AllC m P ops C Q f listed a w rs):wpAnyC m P ops C Q (f+1) listed a w :=
 ⟨hC,fun h0=>absurd (hr ▸ h0) hne,hr ▸ h⟩
theorem Xg {i:Nat} {o:Oper} {f:Nat} {listed:Array Bool} {a:Act} {w:World} (hC:C w) (hr:Region.ready .any ops listed=[i]) (ho:ops[i]? = some o)
  (h:∀K':Act→World→Prop,(∀a w,wpAnyC m P ops C Q f (listed.setIfInBounds i true) a w→K' a w)→if Region.wanted o (yielded ops a.tmps)=true then Oper.wpIn Fence.wide m P o a w K' Q else (∀f,o.about P w a.eval=some f→Fence.wide.fn f)∧K' (a.put o.dst undef) w):wpAnyC m P ops C Q (f+1) listed a w :=
 Xs hC hr (by simp) (AllC.cons ho h AllC.nil)
theorem Xl {listed:Array Bool} {a:Act} {w:World} (hC:C w) (hr:Region.ready .any ops listed=[]) (h:Q .normal a w):∀f,wpAnyC m P ops C Q f listed a w
 | 0=>⟨hC,hr,h⟩
 | _+1=>⟨hC,fun _=>h,by rw[hr];simp⟩
theorem Xo {id:Nat} {a:Act} {w:World} (C:World→Prop) (hm:P.follows .mixedOrders=true) (h:wpAnyC m P ops C Q ops.size (Array.replicate ops.size false) a w.drew):(Code.region id ops true).wpIn Fence.wide m P Q a w :=
 wpIn_region_any hm h.any
end
end Go.Han
namespace Go.Proofs.YthojaplnimoacaaGreatDoor
open Go.RowKit Go.Han
attribute [local irreducible] wpStill wpQuiet
attribute [local go_sem] Oper.semAt_some
set_option maxRecDepth 100000
end Go.Proofs.YthojaplnimoacaaGreatDoor
namespace Go.Proofs.YthojaplnimoacaaGreatDoor
open Go.RowKit Go.Han
attribute [local irreducible] wpStill wpQuiet
set_option maxRecDepth 100000
theorem Xhg {a b:Nat} (ha:0<a) (h:bigN / a<b):Zj bigN a b=bigN+1:=by unfold Zj;rw[if_pos ⟨ha,h⟩]
theorem Xax {a b:Nat} (h:¬(0<a∧bigN / a<b)):Zj bigN a b=a*b:=by unfold Zj;rw[if_neg h]
theorem Xfw {a b:Nat} (h:¬(0<a∧bigN / a<b)):a*b≤bigN:=by
 rcases Nat.eq_zero_or_pos a with rfl|ha
 ·rw[Nat.zero_mul];exact Nat.zero_le _
 ·have h1:b≤bigN / a:=Nat.le_of_not_lt fun h2=>h ⟨ha,h2⟩
  have h2:=Nat.mul_le_mul_left a h1
  exact Nat.le_trans h2 (Nat.mul_div_le _ _)
theorem Xep:(bigN:Int)+1<9223372036854775807:=by decide
theorem Xef (a:Nat):(1099511627776:Int).tdiv (a:Int)=(bigN:Int) / (a:Int):=rfl
theorem Xi5 {a b:Nat} (h:a*b≤bigN):IntKind.i64.wrap ((a:Int)*(b:Int))=((a*b:Nat):Int):=by
 have h1:=Xep
 have h2:((a*b:Nat):Int)≤(bigN:Int):=by exact_mod_cast h
 have h3:(0:Int)≤((a*b:Nat):Int):=Int.natCast_nonneg _
 have e:(a:Int)*(b:Int)=((a*b:Nat):Int):=(Int.natCast_mul a b).symm
 rw[e]
 generalize ((a*b:Nat):Int)=x at *
 generalize (bigN:Int)=y at *
 rw[IntWalk.i64_in _ (by omega)]
theorem Xci (a:Nat):IntKind.i64.wrap ((bigN:Int) / (a:Int))=((bigN / a:Nat):Int):=by
 have h1:=Xep
 have h2:((bigN / a:Nat):Int)≤(bigN:Int):=by exact_mod_cast Nat.div_le_self bigN a
 have h3:(0:Int)≤((bigN / a:Nat):Int):=Int.natCast_nonneg _
 have e:(bigN:Int) / (a:Int)=((bigN / a:Nat):Int):=(Int.natCast_ediv bigN a).symm
 rw[e]
 generalize ((bigN / a:Nat):Int)=x at *
 generalize (bigN:Int)=y at *
 rw[IntWalk.i64_in _ (by omega)]
theorem Xom (a b:Nat) (w:World):Calls Tryz.prog 149 #[.int .i64 (a:Int),.int .i64 (b:Int)] w fun e w'=>e = .returned (.int .i64 (Zj bigN a b:Nat))∧w=w':=by
 rcases Nat.eq_zero_or_pos a with rfl|ha
 ·have HE:Hid (Zj bigN 0 b=0):=by show _=_;rw[Xax (by omega),Nat.zero_mul]
  go_enter Tryz.func149,Tryz.ntmps149
  go_wp2_with fail
  go_ret
  exact⟨by rw[HE.out];simp,rfl⟩
 ·have g1:decide ((0:Int)<(a:Int))=true:=decide_eq_true (by omega)
  have g0:0<a:=ha
  by_cases h:bigN / a<b
  ·have HE:=Xa (Xhg ha h)
   have g2:decide (bigN / a<b)=true:=decide_eq_true h
   have hq:=Xef a
   have hw:=Xci a
   have ha2:(a:Int)≠0:=by omega
   generalize bigN / a=q at *
   generalize (bigN:Int)=y at *
   go_enter Tryz.func149,Tryz.ntmps149
   go_wp2_with fail
   go_ret
   exact⟨by rw[HE.out];rfl,rfl⟩
  ·have HE:=Xa (Xax (a:=a) (b:=b) fun h2=>h h2.2)
   have g2:decide (bigN / a<b)=false:=decide_eq_false h
   have hq:=Xef a
   have hw:=Xci a
   have hm:=Xi5 (Xfw (a:=a) (b:=b) fun h2=>h h2.2)
   have ha2:(a:Int)≠0:=by omega
   generalize bigN / a=q at *
   generalize (bigN:Int)=y at *
   go_enter Tryz.func149,Tryz.ntmps149
   go_wp2_with fail
   go_ret
   exact⟨by rw[HE.out];first|rfl|(simp;done),rfl⟩
theorem Xif (a:Nat):((capN bigN a:Nat):Int)=min (a:Int) 1099511627777:=by unfold capN bigN;omega
theorem Xjy (a b:Nat) (w:World):Calls Tryz.prog 184 #[.int .i64 (a:Int),.int .i64 (b:Int)] w fun e w'=>e = .returned (.int .i64 (Zj bigN a b:Nat))∧w=w':=by
 rcases Nat.eq_zero_or_pos a with rfl|ha
 ·have HE:Hid (Zj bigN 0 b=0):=by show _=_;rw[Xax (by omega),Nat.zero_mul]
  go_enter Tryz.func184,Tryz.ntmps184
  go_wp2_with fail
  go_ret
  exact⟨by rw[HE.out];simp,rfl⟩
 ·have g1:decide ((0:Int)<(a:Int))=true:=decide_eq_true (by omega)
  have g0:0<a:=ha
  by_cases h:bigN / a<b
  ·have HE:=Xa (Xhg ha h)
   have g2:decide (bigN / a<b)=true:=decide_eq_true h
   have hq:=Xef a
   have hw:=Xci a
   have ha2:(a:Int)≠0:=by omega
   generalize bigN / a=q at *
   generalize (bigN:Int)=y at *
   go_enter Tryz.func184,Tryz.ntmps184
   go_wp2_with fail
   go_ret
   exact⟨by rw[HE.out];rfl,rfl⟩
  ·have HE:=Xa (Xax (a:=a) (b:=b) fun h2=>h h2.2)
   have g2:decide (bigN / a<b)=false:=decide_eq_false h
   have hq:=Xef a
   have hw:=Xci a
   have hm:=Xi5 (Xfw (a:=a) (b:=b) fun h2=>h h2.2)
   have ha2:(a:Int)≠0:=by omega
   generalize bigN / a=q at *
   generalize (bigN:Int)=y at *
   go_enter Tryz.func184,Tryz.ntmps184
   go_wp2_with fail
   go_ret
   exact⟨by rw[HE.out];first|rfl|(simp;done),rfl⟩
theorem few29N_any (a:Nat) (w:World):Calls Tryz.prog 151 #[.int .i64 (a:Int)] w fun e w'=>e = .returned (.int .i64 (capN bigN a:Nat))∧w=w':=by
 have HE:=Xa (Xif a)
 go_enter Tryz.func151,Tryz.ntmps151
 go_wp2_with fail
 go_ret
 exact⟨by rw[HE.out];rfl,rfl⟩
end Go.Proofs.YthojaplnimoacaaGreatDoor
namespace Go.Proofs.YthojaplnimoacaaGreatDoor
open Go.RowKit Go.Han
set_option maxRecDepth 100000
def InP (P:Nat→Prop) (A:Option Addr) (n:Nat):Prop:=0<n→∃b off,A=some ⟨b,off,none⟩∧P b
mutual
def TreeAt (w:World) (P:Nat→Prop):TreeV→List Value→Prop
 | .node r j i k l,cs=>∃A cap css,cs=[.int .i64 r,.int .i64 j,.int .i64 i,.int .i64 k,.slice A l.length cap]∧l.length≤cap∧cap≤9223372036854775807∧(A=none→l=[])∧InP P A l.length∧Rd w A css.flatten∧KidsAt w P l css
def KidsAt (w:World) (P:Nat→Prop):List TreeV→List (List Value)→Prop
 | [],css=>css=[]
 | t :: l,css=>∃cs css',css=cs :: css'∧TreeAt w P t cs∧KidsAt w P l css'
end
theorem Xrq {w w':World} {P:Nat→Prop} (hk:∀b,P b→b<w.heap.size→w'.heap[b]? = w.heap[b]?) (hs:w.heap.size≤w'.heap.size) {A:Option Addr} {n:Nat} {xs:List Value} (hP:InP P A n) (h0:n=0→xs=[]) (h:Rd w A xs):Rd w' A xs:=by
 rcases h with h|⟨b,off,rfl,hb,hc⟩
 ·exact .inl h
 ·rcases Nat.eq_zero_or_pos n with hn|hn
  ·exact .inl (h0 hn)
  ·obtain⟨b',off',e,hp⟩:=hP hn
   cases e
   exact .inr ⟨b,off,rfl,Nat.lt_of_lt_of_le hb hs,fun j u hu=>(World.cell?_of_block (w:=w) (hk b hp hb)).trans (hc j u hu)⟩
theorem Xbo {w:World} {P:Nat→Prop}:∀ {l:List TreeV} {css:List (List Value)},KidsAt w P l css→css.length=l.length
 | [],css,h=>by unfold KidsAt at h;rw[h];rfl
 | t :: l,css,h=>by
  unfold KidsAt at h
  obtain⟨cs,css',rfl,_,h⟩:=h
  rw[List.length_cons,List.length_cons,Xbo h]
theorem Xbv {w:World} {P:Nat→Prop} {t:TreeV} {cs:List Value} (h:TreeAt w P t cs):cs.length=5:=by
 cases t
 unfold TreeAt at h
 obtain⟨A,cap,css,rfl,_⟩:=h
 rfl
theorem Xit {w:World} {P:Nat→Prop} {l:List TreeV} {css:List (List Value)} (h:KidsAt w P l css) (h0:l.length=0):css.flatten=[]:=by
 have:=Xbo h
 have:css=[]:=List.eq_nil_of_length_eq_zero (by omega)
 rw[this];rfl
mutual
theorem TreeAt.keep {w w':World} {P P':Nat→Prop} (hk:∀b,P b→b<w.heap.size→w'.heap[b]? = w.heap[b]?) (hs:w.heap.size≤w'.heap.size) (hP:∀b,P b→P' b):∀ {t:TreeV} {cs:List Value},TreeAt w P t cs→TreeAt w' P' t cs
 | .node r j i k l,cs,h=>by
  unfold TreeAt at h ⊢
  obtain⟨A,cap,css,h1,h2,h3,h4,h5,h6,h7⟩:=h
  refine⟨A,cap,css,h1,h2,h3,h4,fun hn=>?_,Xrq hk hs h5 (fun h0=>Xit h7 h0) h6,KidsAt.keep hk hs hP h7⟩
  obtain⟨b,off,e,hp⟩:=h5 hn
  exact⟨b,off,e,hP b hp⟩
theorem KidsAt.keep {w w':World} {P P':Nat→Prop} (hk:∀b,P b→b<w.heap.size→w'.heap[b]? = w.heap[b]?) (hs:w.heap.size≤w'.heap.size) (hP:∀b,P b→P' b):∀ {l:List TreeV} {css:List (List Value)},KidsAt w P l css→KidsAt w' P' l css
 | [],css,h=>by unfold KidsAt at h ⊢;exact h
 | t :: l,css,h=>by
  unfold KidsAt at h ⊢
  obtain⟨cs,css',rfl,h1,h2⟩:=h
  exact⟨cs,css',rfl,TreeAt.keep hk hs hP h1,KidsAt.keep hk hs hP h2⟩
end
theorem TreeAt.ext {w w':World} {P:Nat→Prop} {t:TreeV} {cs:List Value} (h:TreeAt w P t cs) (hb:Below w.heap.size w w'):TreeAt w' P t cs:=h.keep (fun b _ hlt=>hb.block b hlt) hb.size fun _ h=>h
theorem KidsAt.snoc {w:World} {P:Nat→Prop} {t:TreeV} {cs:List Value} (ht:TreeAt w P t cs):∀ {l:List TreeV} {css:List (List Value)},KidsAt w P l css→KidsAt w P (l++[t]) (css++[cs])
 | [],css,h=>by
  unfold KidsAt at h
  rw[h]
  exact⟨cs,[],rfl,ht,rfl⟩
 | x :: l,css,h=>by
  unfold KidsAt at h
  obtain⟨c,css',rfl,h1,h2⟩:=h
  exact⟨c,css'++[cs],rfl,h1,KidsAt.snoc ht h2⟩
theorem KidsAt.get {w:World} {P:Nat→Prop}:∀ {l:List TreeV} {css:List (List Value)},KidsAt w P l css→∀(n:Nat) (hn:n<l.length),∃hc:n<css.length,TreeAt w P l[n] css[n]
 | [],css,h,n,hn=>by simp at hn
 | x :: l,css,h,n,hn=>by
  unfold KidsAt at h
  obtain⟨c,css',rfl,h1,h2⟩:=h
  cases n with
  | zero=>exact⟨by simp,h1⟩
  | succ n =>
   obtain⟨hc,h3⟩:=KidsAt.get h2 n (by simpa using hn)
   exact⟨by simpa using hc,h3⟩
theorem Xdu {w:World} {P:Nat→Prop}:∀ {l:List TreeV} {css:List (List Value)},KidsAt w P l css→css.flatten.length=l.length*5
 | [],css,h=>by unfold KidsAt at h;rw[h];rfl
 | x :: l,css,h=>by
  unfold KidsAt at h
  obtain⟨c,css',rfl,h1,h2⟩:=h
  rw[List.flatten_cons,List.length_append,Xbv h1,Xdu h2,List.length_cons];omega
theorem Xe6:∀ {css:List (List Value)} {n:Nat} (hn:n<css.length),(∀c∈css,c.length=5)→∀(j:Nat) (u:Value),css[n][j]? = some u→css.flatten[n*5+j]? = some u
 | [],n,hn,_,_,_,_=>by simp at hn
 | c :: css,0,hn,h5,j,u,hu=>by
  rw[List.flatten_cons,Nat.zero_mul,Nat.zero_add]
  rw[List.getElem?_append_left (by have:=(List.getElem?_eq_some_iff.1 hu).1;simpa using this)]
  simpa using hu
 | c :: css,n+1,hn,h5,j,u,hu=>by
  rw[List.flatten_cons,List.getElem?_append_right (by rw[h5 c (List.mem_cons_self ..)];omega),h5 c (List.mem_cons_self ..)]
  rw[show (n+1)*5+j-5=n*5+j by omega]
  exact Xe6 (by simpa using hn) (fun d hd=>h5 d (List.mem_cons_of_mem _ hd)) j u (by simpa using hu)
theorem Xdt {w:World} {P:Nat→Prop}:∀ {l:List TreeV} {css:List (List Value)},KidsAt w P l css→∀c∈css,c.length=5
 | [],css,h,c,hc=>by unfold KidsAt at h;rw[h] at hc;cases hc
 | x :: l,css,h,c,hc=>by
  unfold KidsAt at h
  obtain⟨c',css',rfl,h1,h2⟩:=h
  rcases List.mem_cons.1 hc with rfl|hc
  ·exact Xbv h1
  ·exact Xdt h2 c hc
theorem Uz {w:World} {P:Nat→Prop} {l:List TreeV} {css:List (List Value)} {A:Option Addr} (hr:Rd w A css.flatten) (h:KidsAt w P l css) {n:Nat} (hn:n<l.length) :
  ∃b off B cap,A=some ⟨b,off,none⟩∧b<w.heap.size∧TreeAt w P l[n] [.int .i64 l[n].rule,.int .i64 l[n].item,.int .i64 l[n].frm,.int .i64 l[n].unt,.slice B l[n].kids.length cap] ∧
   w.cell? ⟨b,off+n*5,none⟩=some (.int .i64 l[n].rule)∧w.cell? ⟨b,off+n*5+1,none⟩=some (.int .i64 l[n].item)∧w.cell? ⟨b,off+n*5+2,none⟩=some (.int .i64 l[n].frm)∧w.cell? ⟨b,off+n*5+3,none⟩=some (.int .i64 l[n].unt)∧w.cell? ⟨b,off+n*5+4,none⟩=some (.slice B l[n].kids.length cap):=by
 obtain⟨hc,ht⟩:=h.get n hn
 have h5:=Xdt h
 have hcs:∃B cap,css[n]=[.int .i64 l[n].rule,.int .i64 l[n].item,.int .i64 l[n].frm,.int .i64 l[n].unt,.slice B l[n].kids.length cap]:=by
  generalize l[n]=t at ht
  cases t
  unfold TreeAt at ht
  obtain⟨B,cap,_,e,_⟩:=ht
  exact⟨B,cap,e⟩
 obtain⟨B,cap,e⟩:=hcs
 rw[e] at ht
 have hne:css.flatten≠[]:=by
  intro h0
  have:=Xdu h
  rw[h0] at this
  simp at this
  omega
 rcases hr with h0|⟨b,off,rfl,hb,hcl⟩
 ·exact absurd h0 hne
 ·have key:∀(j:Nat) (u:Value),css[n][j]? = some u→w.cell? ⟨b,off+n*5+j,none⟩=some u:=fun j u hu=>by
   rw[Nat.add_assoc]
   exact hcl _ u (Xe6 hc h5 j u hu)
  rw[e] at key
  exact⟨b,off,B,cap,rfl,hb,ht,key 0 _ rfl,key 1 _ rfl,key 2 _ rfl,key 3 _ rfl,key 4 _ rfl⟩
end Go.Proofs.YthojaplnimoacaaGreatDoor
/- A table: rows of numbers, each in a block of its own, and a block of their slices. No program in sight. -/
namespace Go.Han
open Go.RowKit
theorem Xr {w:World} {b t:Nat} {cs:Array Value} (h:w.heap[b]? = some (.cells cs t (0,0))) (o:Nat) (u:Value):(w.setCell ⟨b,o,none⟩ u).heap[b]? = some (.cells (cs.setIfInBounds o u) t (0,0)):=by
 simp[World.setCell,Array.getElem?_modify,h]
structure Grid (W:World) (H la lb:Nat) (M:Nat→Prop) (rb:Nat→Nat) (f:Nat→Nat→Nat):Prop where
 hd:∃(cs:Array Value) (T:Nat),W.heap[H]? = some (.cells cs T (0,0))∧cs.size=la+1∧∀i,M i→cs[i]? = some (.slice (some ⟨rb i,0,none⟩) (lb+1) (lb+1))
 row:∀i,M i→∃(cs:Array Value) (T:Nat),W.heap[rb i]? = some (.cells cs T (0,0))∧cs.size=lb+1∧∀k,k≤lb→cs[k]? = some (.int .i64 (f i k:Nat))
 inj:∀i j,M i→M j→rb i=rb j→i=j
 ne:∀i,M i→rb i≠H
namespace Grid
variable {W:World} {H la lb:Nat} {M:Nat→Prop} {rb:Nat→Nat} {f:Nat→Nat→Nat}
def own (H:Nat) (M:Nat→Prop) (rb:Nat→Nat) (k:Nat):Prop:=k=H∨∃i,M i∧k=rb i
theorem lt (h:Grid W H la lb M rb f):H<W.heap.size:=by
 obtain⟨cs,T,h1,_⟩:=h.hd
 exact Xc h1
theorem rlt (h:Grid W H la lb M rb f) {i:Nat} (hi:M i):rb i<W.heap.size:=by
 obtain⟨cs,T,h1,_⟩:=h.row i hi
 exact Xc h1
theorem olt (h:Grid W H la lb M rb f) {k:Nat} (hk:own H M rb k):k<W.heap.size:=by
 rcases hk with rfl|⟨i,hi,rfl⟩
 ·exact h.lt
 ·exact h.rlt hi
theorem of_blocks {W':World} (h:Grid W H la lb M rb f) (hb:∀k,own H M rb k→W'.heap[k]? = W.heap[k]?):Grid W' H la lb M rb f:=by
 refine⟨?_,fun i hi=>?_,h.inj,h.ne⟩
 ·obtain⟨cs,T,h1,h2⟩:=h.hd
  exact⟨cs,T,(hb _ (.inl rfl)).trans h1,h2⟩
 ·obtain⟨cs,T,h1,h2⟩:=h.row i hi
  exact⟨cs,T,(hb _ (.inr ⟨i,hi,rfl⟩)).trans h1,h2⟩
theorem ext {W':World} (h:Grid W H la lb M rb f) (hb:Below W.heap.size W W'):Grid W' H la lb M rb f :=
 h.of_blocks fun k hk=>hb.block k (h.olt hk)
theorem cell (h:Grid W H la lb M rb f) {i k:Nat} (hi:M i) (hk:k≤lb):W.cell? ⟨rb i,k,none⟩=some (.int .i64 (f i k:Nat)):=by
 obtain⟨cs,T,h1,_,h2⟩:=h.row i hi
 rw[gblk h1];exact h2 k hk
theorem free (h:Grid W H la lb M rb f) {i:Nat} (hi:M i) (k:Nat):W.frozen? ⟨rb i,k,none⟩=false:=by
 obtain⟨cs,T,h1,_⟩:=h.row i hi
 exact Xf h1 k
def upd (f:Nat→Nat→Nat) (i k v:Nat):Nat→Nat→Nat:=fun j m=>if j=i∧m=k then v else f j m
theorem Xq1 (f:Nat→Nat→Nat) (i k v:Nat):upd f i k v i k=v:=by unfold upd;rw[if_pos ⟨rfl,rfl⟩]
theorem Xhj {f:Nat→Nat→Nat} {i k v j m:Nat} (h:¬(j=i∧m=k)):upd f i k v j m=f j m:=by unfold upd;rw[if_neg h]
theorem store (h:Grid W H la lb M rb f) {i k:Nat} (hi:M i) (hk:k≤lb) (v:Nat):Grid (W.setCell ⟨rb i,k,none⟩ (.int .i64 (v:Nat))) H la lb M rb (upd f i k v):=by
 refine⟨?_,fun j hj=>?_,h.inj,h.ne⟩
 ·obtain⟨cs,T,h1,h2⟩:=h.hd
  exact⟨cs,T,(Below.heap_setCell _ _ _ _ (Ne.symm (h.ne i hi))).trans h1,h2⟩
 ·obtain⟨cs,T,h1,h2,h3⟩:=h.row j hj
  by_cases hji:j=i
  ·subst hji
   refine⟨_,T,Xr h1 k _,by simpa using h2,fun m hm=>?_⟩
   by_cases hmk:m=k
   ·subst hmk
    rw[Xq1]
    exact Array.getElem?_setIfInBounds_self_of_lt (by omega)
   ·rw[Xhj (by rintro⟨_,h⟩;exact hmk h)]
    rw[Array.getElem?_setIfInBounds_ne (Ne.symm hmk)]
    exact h3 m hm
  ·refine⟨cs,T,(Below.heap_setCell _ _ _ _ (fun e=>hji (h.inj _ _ hj hi e))).trans h1,h2,fun m hm=>?_⟩
   rw[Xhj (by rintro⟨h,_⟩;exact hji h)]
   exact h3 m hm
theorem add (h:Grid W H la lb M rb f) {i r T z:Nat} (hi:i≤la) (hM:¬M i) (hr:W.heap[r]? = some (.cells (Array.replicate (lb+1) (.int .i64 (z:Nat))) T (0,0))) (hnr:∀k,own H M rb k→k≠r) :
  Grid (W.setCell ⟨H,i,none⟩ (.slice (some ⟨r,0,none⟩) (lb+1) (lb+1))) H la lb (fun j=>j=i∨M j) (fun j=>if j=i then r else rb j) (fun j k=>if j=i then z else f j k):=by
 refine⟨?_,?_,?_,?_⟩
 ·obtain⟨cs,T',h1,h2,h3⟩:=h.hd
  refine⟨_,T',Xr h1 i _,by simpa using h2,fun j hj=>?_⟩
  by_cases hji:j=i
  ·subst hji
   rw[if_pos rfl]
   exact Array.getElem?_setIfInBounds_self_of_lt (by omega)
  ·simp only[if_neg hji]
   rw[Array.getElem?_setIfInBounds_ne (Ne.symm hji)]
   exact h3 j (hj.resolve_left hji)
 ·intro j hj
  by_cases hji:j=i
  ·subst hji
   simp only[if_true]
   refine⟨_,T,(Below.heap_setCell _ _ _ _ (fun e=>hnr H (.inl rfl) e.symm)).trans hr,by simp,fun k hk=>?_⟩
   simp[Array.getElem?_replicate];omega
  ·simp only[if_neg hji]
   obtain⟨cs,T',h1,h2⟩:=h.row j (hj.resolve_left hji)
   exact⟨cs,T',(Below.heap_setCell _ _ _ _ (h.ne j (hj.resolve_left hji))).trans h1,h2⟩
 ·intro j k hj hk e
  by_cases hji:j=i<;>by_cases hki:k=i
  ·rw[hji,hki]
  ·subst hji
   simp only[if_true,if_neg hki] at e
   exact absurd e.symm (hnr _ (.inr ⟨k,hk.resolve_left hki,rfl⟩))
  ·subst hki
   simp only[if_true,if_neg hji] at e
   exact absurd e (hnr _ (.inr ⟨j,hj.resolve_left hji,rfl⟩))
  ·simp only[if_neg hji,if_neg hki] at e
   exact h.inj j k (hj.resolve_left hji) (hk.resolve_left hki) e
 ·intro j hj
  by_cases hji:j=i
  ·subst hji
   simp only[if_true]
   exact fun e=>hnr H (.inl rfl) e.symm
  ·simp only[if_neg hji]
   exact h.ne j (hj.resolve_left hji)
end Grid
end Go.Han
namespace Go.Proofs.YthojaplnimoacaaGreatDoor
open Go.RowKit Go.Han
attribute [local irreducible] wpStill wpQuiet
set_option maxRecDepth 100000
structure KidS where
 addr:Option Addr
 len:Nat
 cap:Nat
structure FoundG where
 ok:Bool
 cost:Int
 rule:Int
 item:Int
 frm:Int
 unt:Int
 kids:KidS
 many:Int
structure TreeG where
 rule:Int
 item:Int
 frm:Int
 unt:Int
 kids:KidS
def Xdy (f:FoundG) (cost:Int) (many:Int) (t:TreeG):FoundG :=
 if f.ok=false∨cost<f.cost then ⟨true,cost,t.rule,t.item,t.frm,t.unt,t.kids,min (f.many+many) 1099511627777⟩ else ⟨f.ok,f.cost,f.rule,f.item,f.frm,f.unt,f.kids,min (f.many+many) 1099511627777⟩
def Xb2 (fb:Nat) (f':FoundG) (w:World) (e:Ending) (w':World):Prop :=
 e = .returned (.tuple #[])∧w'.heap[fb]? = some (.cells #[.bool f'.ok,.int .i64 f'.cost,.int .i64 f'.rule,.int .i64 f'.item,.int .i64 f'.frm,.int .i64 f'.unt,.slice f'.kids.addr f'.kids.len f'.kids.cap,.int .i64 f'.many] 86 (0,0))∧Only (fun j=>j=fb) w w'
theorem Xne {V:World} {fb:Nat} {f:FoundG} (h:V.heap[fb]? = some (.cells #[.bool f.ok,.int .i64 f.cost,.int .i64 f.rule,.int .i64 f.item,.int .i64 f.frm,.int .i64 f.unt,.slice f.kids.addr f.kids.len f.kids.cap,.int .i64 f.many] 86 (0,0))) (cost:Int) (t:TreeG) :
  (((((((V.setCell ⟨fb,0,none⟩ (.bool true)).setCell ⟨fb,1,none⟩ (.int .i64 cost)).setCell ⟨fb,2,none⟩ (.int .i64 t.rule)).setCell ⟨fb,3,none⟩ (.int .i64 t.item)).setCell ⟨fb,4,none⟩ (.int .i64 t.frm)).setCell ⟨fb,5,none⟩ (.int .i64 t.unt)).setCell ⟨fb,6,none⟩ (.slice t.kids.addr t.kids.len t.kids.cap)).heap[fb]? =
   some (.cells #[.bool true,.int .i64 cost,.int .i64 t.rule,.int .i64 t.item,.int .i64 t.frm,.int .i64 t.unt,.slice t.kids.addr t.kids.len t.kids.cap,.int .i64 f.many] 86 (0,0)):=by
 have h0:(V.setCell ⟨fb,0,none⟩ (.bool true)).heap[fb]? = some (.cells #[.bool true,.int .i64 f.cost,.int .i64 f.rule,.int .i64 f.item,.int .i64 f.frm,.int .i64 f.unt,.slice f.kids.addr f.kids.len f.kids.cap,.int .i64 f.many] 86 (0,0)):=Xr h 0 _
 have h1:((V.setCell ⟨fb,0,none⟩ (.bool true)).setCell ⟨fb,1,none⟩ (.int .i64 cost)).heap[fb]? = some (.cells #[.bool true,.int .i64 cost,.int .i64 f.rule,.int .i64 f.item,.int .i64 f.frm,.int .i64 f.unt,.slice f.kids.addr f.kids.len f.kids.cap,.int .i64 f.many] 86 (0,0)):=Xr h0 1 _
 have h2:(((V.setCell ⟨fb,0,none⟩ (.bool true)).setCell ⟨fb,1,none⟩ (.int .i64 cost)).setCell ⟨fb,2,none⟩ (.int .i64 t.rule)).heap[fb]? = some (.cells #[.bool true,.int .i64 cost,.int .i64 t.rule,.int .i64 f.item,.int .i64 f.frm,.int .i64 f.unt,.slice f.kids.addr f.kids.len f.kids.cap,.int .i64 f.many] 86 (0,0)):=Xr h1 2 _
 have h3:((((V.setCell ⟨fb,0,none⟩ (.bool true)).setCell ⟨fb,1,none⟩ (.int .i64 cost)).setCell ⟨fb,2,none⟩ (.int .i64 t.rule)).setCell ⟨fb,3,none⟩ (.int .i64 t.item)).heap[fb]? = some (.cells #[.bool true,.int .i64 cost,.int .i64 t.rule,.int .i64 t.item,.int .i64 f.frm,.int .i64 f.unt,.slice f.kids.addr f.kids.len f.kids.cap,.int .i64 f.many] 86 (0,0)):=Xr h2 3 _
 have h4:(((((V.setCell ⟨fb,0,none⟩ (.bool true)).setCell ⟨fb,1,none⟩ (.int .i64 cost)).setCell ⟨fb,2,none⟩ (.int .i64 t.rule)).setCell ⟨fb,3,none⟩ (.int .i64 t.item)).setCell ⟨fb,4,none⟩ (.int .i64 t.frm)).heap[fb]? = some (.cells #[.bool true,.int .i64 cost,.int .i64 t.rule,.int .i64 t.item,.int .i64 t.frm,.int .i64 f.unt,.slice f.kids.addr f.kids.len f.kids.cap,.int .i64 f.many] 86 (0,0)):=Xr h3 4 _
 have h5:((((((V.setCell ⟨fb,0,none⟩ (.bool true)).setCell ⟨fb,1,none⟩ (.int .i64 cost)).setCell ⟨fb,2,none⟩ (.int .i64 t.rule)).setCell ⟨fb,3,none⟩ (.int .i64 t.item)).setCell ⟨fb,4,none⟩ (.int .i64 t.frm)).setCell ⟨fb,5,none⟩ (.int .i64 t.unt)).heap[fb]? = some (.cells #[.bool true,.int .i64 cost,.int .i64 t.rule,.int .i64 t.item,.int .i64 t.frm,.int .i64 t.unt,.slice f.kids.addr f.kids.len f.kids.cap,.int .i64 f.many] 86 (0,0)):=Xr h4 5 _
 have h6:(((((((V.setCell ⟨fb,0,none⟩ (.bool true)).setCell ⟨fb,1,none⟩ (.int .i64 cost)).setCell ⟨fb,2,none⟩ (.int .i64 t.rule)).setCell ⟨fb,3,none⟩ (.int .i64 t.item)).setCell ⟨fb,4,none⟩ (.int .i64 t.frm)).setCell ⟨fb,5,none⟩ (.int .i64 t.unt)).setCell ⟨fb,6,none⟩ (.slice t.kids.addr t.kids.len t.kids.cap)).heap[fb]? = some (.cells #[.bool true,.int .i64 cost,.int .i64 t.rule,.int .i64 t.item,.int .i64 t.frm,.int .i64 t.unt,.slice t.kids.addr t.kids.len t.kids.cap,.int .i64 f.many] 86 (0,0)):=Xr h5 6 _
 exact h6
set_option maxHeartbeats 2000000 in
theorem Xjx (fb:Nat) (f:FoundG) (cost many:Int) (g:Nat) (lb:Array Value) (t:TreeG) (w:World) (hf:w.heap[fb]? = some (.cells #[.bool f.ok,.int .i64 f.cost,.int .i64 f.rule,.int .i64 f.item,.int .i64 f.frm,.int .i64 f.unt,.slice f.kids.addr f.kids.len f.kids.cap,.int .i64 f.many] 86 (0,0))) (eg:∀args w,(callFunc g args).run Tryz.prog w = .ok (.enter g args) w)
  (hg:∀W,Only (fun j=>j=fb) w W→Calls Tryz.prog g lb W fun e w'=>e = .returned (.agg #[.int .i64 t.rule,.int .i64 t.item,.int .i64 t.frm,.int .i64 t.unt,.slice t.kids.addr t.kids.len t.kids.cap])∧Below W.heap.size W w')
  (h1:IntKind.i64.wrap (f.many+many)=f.many+many) :
  Calls Tryz.prog 146 #[.pointer (some ⟨fb,0,none⟩),.int .i64 cost,.int .i64 many,.func (.func g) #[] lb] w (Xb2 fb (Xdy f cost many t) w):=by
 have hlt:=Xc hf
 have Hf:=Xa hf
 have a0:=gblk hf 0
 have a1:=gblk hf 1
 have a2:=gblk hf 2
 have a3:=gblk hf 3
 have a4:=gblk hf 4
 have a5:=gblk hf 5
 have a6:=gblk hf 6
 have a7:=gblk hf 7
 have hz:=Xf hf 7
 obtain⟨m',hm'⟩:∃m',min (f.many+many) 1099511627777=m':=⟨_,rfl⟩
 have hO:Only (fun j=>j=fb) w (w.setCell ⟨fb,7,none⟩ (.int .i64 m')):=Only.setCell (M:=fun j=>j=fb) (Only.refl _ _) (p:=⟨fb,7,none⟩) (.inl rfl) _
 have hfm:(w.setCell ⟨fb,7,none⟩ (.int .i64 m')).heap[fb]? = some (.cells #[.bool f.ok,.int .i64 f.cost,.int .i64 f.rule,.int .i64 f.item,.int .i64 f.frm,.int .i64 f.unt,.slice f.kids.addr f.kids.len f.kids.cap,.int .i64 m'] 86 (0,0)):=Xr hf 7 _
 have HT:Hid (Xdy f cost many t=if f.ok=false∨cost<f.cost then ⟨true,cost,t.rule,t.item,t.frm,t.unt,t.kids,m'⟩ else ⟨f.ok,f.cost,f.rule,f.item,f.frm,f.unt,f.kids,m'⟩):=by rw[← hm'];rfl
 have Hfm:=Xa hfm
 have HO:=Xa hO
 have Hg:=Xa (hg _ hO)
 have fin:∀V,Below (w.setCell ⟨fb,7,none⟩ (.int .i64 m')).heap.size (w.setCell ⟨fb,7,none⟩ (.int .i64 m')) V→V.heap[fb]? = some (.cells #[.bool f.ok,.int .i64 f.cost,.int .i64 f.rule,.int .i64 f.item,.int .i64 f.frm,.int .i64 f.unt,.slice f.kids.addr f.kids.len f.kids.cap,.int .i64 m'] 86 (0,0)):=fun V hV=>Xh hV hfm
 have Hfin:=Xa fin
 clear hg hf hfm hO fin
 obtain⟨W1,hW1⟩:∃W1,w.setCell ⟨fb,7,none⟩ (.int .i64 m')=W1:=⟨_,rfl⟩
 rw[hW1] at Hfm HO Hg Hfin
 have hfm:=Hfm.out
 have b0:=gblk hfm 0
 have b1:=gblk hfm 1
 have b2:=gblk hfm 2
 have b3:=gblk hfm 3
 have b4:=gblk hfm 4
 have b5:=gblk hfm 5
 have b6:=gblk hfm 6
 have b7:=gblk hfm 7
 have go:(f.ok=false∨cost<f.cost)→∀V,Below W1.heap.size W1 V→Xb2 fb (Xdy f cost many t) w (.returned (.tuple #[])) (((((((V.setCell ⟨fb,0,none⟩ (.bool true)).setCell ⟨fb,1,none⟩ (.int .i64 cost)).setCell ⟨fb,2,none⟩ (.int .i64 t.rule)).setCell ⟨fb,3,none⟩ (.int .i64 t.item)).setCell ⟨fb,4,none⟩ (.int .i64 t.frm)).setCell ⟨fb,5,none⟩ (.int .i64 t.unt)).setCell ⟨fb,6,none⟩ (.slice t.kids.addr t.kids.len t.kids.cap)):=fun hc V hV=>by
  rw[HT.out,if_pos hc]
  exact⟨rfl,Xne (f:=⟨f.ok,f.cost,f.rule,f.item,f.frm,f.unt,f.kids,m'⟩) (Hfin.out V hV) cost t,(((((((HO.out.ext hV).setCell (p:=⟨fb,0,none⟩) (.inl rfl) _).setCell (p:=⟨fb,1,none⟩) (.inl rfl) _).setCell (p:=⟨fb,2,none⟩) (.inl rfl) _).setCell (p:=⟨fb,3,none⟩) (.inl rfl) _).setCell (p:=⟨fb,4,none⟩) (.inl rfl) _).setCell (p:=⟨fb,5,none⟩) (.inl rfl) _).setCell (p:=⟨fb,6,none⟩) (.inl rfl) _⟩
 have Go:=Xa go
 clear go hfm
 cases hok:f.ok
 ·have hc:=Xa (Go.out (.inl hok))
  rw[hok] at a0 b0 Hfin
  clear Go hok
  go_enter Tryz.func146,Tryz.ntmps146
  go_wp2_with fail
  refine Hg.out.mono ?_
  rintro e V ⟨rfl,hV⟩
  have hfV:=Hfin.out V hV
  have c0:=gblk hfV 0
  have c1:=gblk hfV 1
  have c2:=gblk hfV 2
  have c3:=gblk hfV 3
  have c4:=gblk hfV 4
  have c5:=gblk hfV 5
  have c6:=gblk hfV 6
  have c7:=gblk hfV 7
  have hltV:=Xc hfV
  have hzV:=fun i=>Xf hfV i
  have hfin:=Xa (hc.out V hV)
  clear hfV Hg Hfin hc hV
  go_wp2_with fail
  exact bodyPost_ret (results_none rfl _ _ _) rfl hfin.out
 ·rw[hok] at a0 b0 Hfin
  by_cases hlc:cost<f.cost
  ·have hc:=Xa (Go.out (.inr hlc))
   have g1:decide (cost<f.cost)=true:=decide_eq_true hlc
   clear Go hok hlc
   go_enter Tryz.func146,Tryz.ntmps146
   go_wp2_with fail
   refine Hg.out.mono ?_
   rintro e V ⟨rfl,hV⟩
   have hfV:=Hfin.out V hV
   have c0:=gblk hfV 0
   have c1:=gblk hfV 1
   have c2:=gblk hfV 2
   have c3:=gblk hfV 3
   have c4:=gblk hfV 4
   have c5:=gblk hfV 5
   have c6:=gblk hfV 6
   have c7:=gblk hfV 7
   have hltV:=Xc hfV
   have hzV:=fun i=>Xf hfV i
   have hfin:=Xa (hc.out V hV)
   clear hfV Hg Hfin hc hV
   go_wp2_with fail
   exact bodyPost_ret (results_none rfl _ _ _) rfl hfin.out
  ·have g1:decide (cost<f.cost)=false:=decide_eq_false hlc
   have hfin:Xb2 fb (Xdy f cost many t) w (.returned (.tuple #[])) W1:=by
    rw[HT.out,if_neg (by rw[hok];rintro(h|h);cases h;exact hlc h)]
    exact⟨rfl,Hfm.out,HO.out⟩
   have HF:=Xa hfin
   clear Go hok hlc hfin
   go_enter Tryz.func146,Tryz.ntmps146
   go_wp2_with fail
   exact bodyPost_ret (results_none rfl _ _ _) rfl HF.out
def KidP (w:World) (b:Nat):Prop:=∃cs fr,w.heap[b]? = some (.cells cs 32 fr)
def TreeW (X:Nat→Prop) (w:World) (t:TreeV) (x:TreeG):Prop:=TreeAt w (fun b=>KidP w b∧¬X b) t [.int .i64 x.rule,.int .i64 x.item,.int .i64 x.frm,.int .i64 x.unt,.slice x.kids.addr x.kids.len x.kids.cap]
theorem TreeW.keep {X X':Nat→Prop} {w w':World} {t:TreeV} {x:TreeG} (h:TreeW X w t x) (hk:∀b,KidP w b→¬X b→w'.heap[b]? = w.heap[b]?) (hs:w.heap.size≤w'.heap.size) (hX:∀b,KidP w b→¬X b→¬X' b):TreeW X' w' t x :=
 TreeAt.keep (fun b ⟨h1,h2⟩ _=>hk b h1 h2) hs (fun b ⟨⟨cs,fr,hb⟩,hn⟩=>⟨⟨cs,fr,(hk b ⟨cs,fr,hb⟩ hn).trans hb⟩,hX b ⟨cs,fr,hb⟩ hn⟩) h
theorem TreeW.ext {X:Nat→Prop} {w w':World} {t:TreeV} {x:TreeG} (h:TreeW X w t x) (hb:Below w.heap.size w w'):TreeW X w' t x:=h.keep (fun b ⟨_,_,hk⟩ _=>hb.block b (Xc hk)) hb.size fun _ _ h=>h
theorem TreeW.only {X:Nat→Prop} {w w':World} {M:Nat→Prop} {t:TreeV} {x:TreeG} (h:TreeW X w t x) (ho:Only M w w') (hM:∀b,M b→¬(KidP w b∧¬X b)):TreeW X w' t x :=
 h.keep (fun b hk hn=>ho.block b (by obtain⟨cs,fr,hk⟩:=hk;exact Xc hk) fun hm=>hM b hm ⟨hk,hn⟩) ho.size fun _ _ h=>h
def FoundG.tree (f:FoundG):TreeG:=⟨f.rule,f.item,f.frm,f.unt,f.kids⟩
def Qr:TreeG:=⟨0,0,0,0,⟨none,0,0⟩⟩
structure FoundOk (X:Nat→Prop) (w:World) (f:FoundG) (d:Fd TreeV):Prop where
 many:f.many=(d.many:Nat)
 best:match d.best with
  | none=>f.ok=false∧f.cost=0∧f.tree=Qr
  | some (c,t)=>f.ok=true∧f.cost=c∧TreeW X w t f.tree
theorem FoundOk.keep {X X':Nat→Prop} {w w':World} {f:FoundG} {d:Fd TreeV} (h:FoundOk X w f d) (hk:∀t x,TreeW X w t x→TreeW X' w' t x):FoundOk X' w' f d:=by
 refine⟨h.many,?_⟩
 have hb:=h.best
 cases hd:d.best with
 | none=>rw[hd] at hb;exact hb
 | some y =>
  obtain⟨c,t⟩:=y
  rw[hd] at hb
  exact⟨hb.1,hb.2.1,hk t _ hb.2.2⟩
theorem FoundOk.zero (X:Nat→Prop) (w:World):FoundOk X w ⟨false,0,0,0,0,0,⟨none,0,0⟩,0⟩ (Fd.of bigN ([]:List Dv)):=⟨rfl,rfl,rfl,rfl⟩
theorem FoundOk.take {X X':Nat→Prop} {w w':World} {f:FoundG} {d:Fd TreeV} (h:FoundOk X w f d) (hk:∀t x,TreeW X w t x→TreeW X' w' t x) {cost:Int} {m:Nat} {t:TreeV} {x:TreeG} (ht:TreeW X' w' t x) :
  FoundOk X' w' (Xdy f cost (m:Int) x) (Fd.add bigN d ⟨m,some (cost,t)⟩):=by
 have hm:min (f.many+(m:Int)) 1099511627777=((capN bigN (d.many+m):Nat):Int):=by
  rw[h.many,Xif]
  rfl
 have hb:=h.best
 unfold Xdy Fd.add
 rw[hm]
 cases hd:d.best with
 | none =>
  rw[hd] at hb
  rw[if_pos (.inl hb.1)]
  exact⟨rfl,rfl,rfl,ht⟩
 | some y =>
  obtain⟨c,t'⟩:=y
  rw[hd] at hb
  obtain⟨h1,h2,h3⟩:=hb
  by_cases hc:cost<f.cost
  ·rw[if_pos (.inr hc)]
   refine⟨rfl,?_⟩
   rw[Xt,if_pos (by rw[← h2];exact hc)]
   exact⟨rfl,rfl,ht⟩
  ·rw[if_neg (by rintro(h|h);rw[h1] at h;cases h;exact hc h)]
   refine⟨rfl,?_⟩
   rw[Xt,if_neg (by rw[← h2];exact hc)]
   exact⟨h1,h2,hk _ _ h3⟩
theorem Xnx (X:Nat→Prop) (w:World) (j:Nat) (i k:Int):TreeW X w (Zt j i k) ⟨-1,j,i,k,⟨none,0,0⟩⟩:=by
 unfold TreeW Zt TreeAt
 exact⟨none,0,[],rfl,Nat.le_refl _,by omega,fun _=>rfl,fun h=>by simp at h,.inl rfl,rfl⟩
theorem Xqb (bi bx:Nat) (j i k c:Int) (w:World) (hi:w.heap[bi]? = some (.cells #[.int .i64 j] 3 (0,0))) (hx:w.heap[bx]? = some (.cells #[.int .i64 c,.int .i64 i,.int .i64 k] 91 (0,0))) :
  Calls Tryz.prog 147 #[.pointer (some ⟨bi,0,none⟩),.pointer (some ⟨bx,0,none⟩)] w fun e w'=>e = .returned (.agg #[.int .i64 (-1),.int .i64 j,.int .i64 i,.int .i64 k,.slice none 0 0])∧Below w.heap.size w w':=by
 have a0:=Xj hi
 have b0:=gblk hx 0
 have b1:=gblk hx 1
 have b2:=gblk hx 2
 have hli:=Xc hi
 have hlx:=Xc hx
 have hni:bi≠w.heap.size:=by omega
 have hnx:bx≠w.heap.size:=by omega
 have hB:Below w.heap.size w (w.alloc (.cells #[.int .i64 (-1),.int .i64 j,.int .i64 i,.int .i64 k,.slice none 0 0] 32)):=Xe (Below.refl _ _) _
 clear hi hx
 go_enter Tryz.func147,Tryz.ntmps147
 go_wp2_with fail
 exact bodyPost_ret (v:=.agg #[.int .i64 (-1),.int .i64 j,.int .i64 i,.int .i64 k,.slice none 0 0]) (by simp[results,Tryz.results147,go_sem]) rfl ⟨rfl,hB⟩
end Go.Proofs.YthojaplnimoacaaGreatDoor
namespace Go.Proofs.YthojaplnimoacaaGreatDoor
open Go.RowKit Go.Han
set_option maxRecDepth 100000
/-! ### by the ways to lay the parts -/
def X9 (st:Int→ByteArray→Bool):List PartG→Nat→Nat→List (List Nat)
 | [],i,k=>if i=k then [[]] else []
 | p :: ps,i,k =>
  if k<i+(ps.length+1) then []
  else if p.text.size≠0 then (if st i p.text=true then X9 st ps (i+1) k else [])
  else (List.range' (i+1) (k-ps.length-i)).flatMap fun m=>(X9 st ps m k).map (m :: ·)
def Yr (A:Int→Nat→Nat→List Dv):List PartG→Nat→List Nat→List Dk
 | [],_,_=>[(0,[])]
 | p :: ps,i,es =>
  if p.text.size≠0 then Yr A ps (i+1) es
  else match es with
   | m :: es'=>Y7 List.cons (A p.no i m) (Yr A ps m es')
   | []=>[]
def SameM {α:Type} (l k:List (Int×α)):Prop:=l.length=k.length∧Xv l=Xv k
theorem SameM.refl {α:Type} (l:List (Int×α)):SameM l l:=⟨rfl,rfl⟩
theorem SameM.trans {α:Type} {a b c:List (Int×α)} (h:SameM a b) (k:SameM b c):SameM a c:=⟨h.1.trans k.1,h.2.trans k.2⟩
theorem SameM.symm {α:Type} {a b:List (Int×α)} (h:SameM a b):SameM b a:=⟨h.1.symm,h.2.symm⟩
theorem SameM.append {α:Type} {a b c d:List (Int×α)} (h:SameM a b) (k:SameM c d):SameM (a++c) (b++d):=⟨by simp[h.1,k.1],by rw[Zl,Zl,h.2,k.2]⟩
theorem SameM.prod {α β γ:Type} (f:α→β→γ) (a:List (Int×α)) {b c:List (Int×β)} (h:SameM b c):SameM (Y7 f a b) (Y7 f a c):=⟨by rw[Zh,Zh,h.1],by rw[Vi,Vi,h.2]⟩
theorem SameM.flatMap {α β:Type} {f g:β→List (Int×α)}:∀ {l:List β},(∀x∈l,SameM (f x) (g x))→SameM (l.flatMap f) (l.flatMap g)
 | [],_ => .refl _
 | x :: l,h=>by
  rw[List.flatMap_cons,List.flatMap_cons]
  exact(h x (List.mem_cons_self ..)).append (SameM.flatMap fun y hy=>h y (List.mem_cons_of_mem _ hy))
theorem SameM.map {α β:Type} (g:Int×α→Int×β) (c:Int) (hg:∀a,(g a).1=c+a.1) {a b:List (Int×α)} (h:SameM a b):SameM (a.map g) (b.map g):=⟨by simp[h.1],by rw[Qa g c hg,Qa g c hg,h.2]⟩
theorem Qu {α β γ δ:Type} (f:α→β→γ) (a:List (Int×α)) (B:δ→List (Int×β)):∀l:List δ,SameM (l.flatMap fun e=>Y7 f a (B e)) (Y7 f a (l.flatMap B))
 | []=>by
  rw[List.flatMap_nil,List.flatMap_nil]
  have:Y7 f a ([]:List (Int×β))=[]:=List.flatMap_eq_nil_iff.2 (fun _ _=>rfl)
  rw[this];exact .refl _
 | e :: l=>by
  rw[List.flatMap_cons,List.flatMap_cons]
  refine((SameM.refl _).append (Qu f a B l)).trans ⟨?_,?_⟩
  ·rw[List.length_append,Zh,Zh,Zh,List.length_append,Nat.mul_add]
  ·rw[Zl,Vi,Vi,Vi,Zl,Xf8]
theorem Xc6 (st:Int→ByteArray→Bool) (A:Int→Nat→Nat→List Dv):∀(ps:List PartG) (i k:Nat),SameM ((X9 st ps i k).flatMap (Yr A ps i)) (Ye st A ps i k)
 | [],i,k=>by
  unfold X9 Ye
  split
  ·exact .refl _
  ·exact .refl _
 | p :: ps,i,k=>by
  by_cases hk:k<i+(ps.length+1)
  ·rw[Vf st A (p :: ps) i k (by rw[List.length_cons];omega)]
   unfold X9
   rw[if_pos hk];exact .refl _
  unfold X9 Ye
  rw[if_neg hk]
  by_cases hp:p.text.size≠0
  ·rw[if_pos hp,if_pos hp]
   have e:∀es,Yr A (p :: ps) i es=Yr A ps (i+1) es:=fun es=>by simp only[Yr];rw[if_pos hp]
   by_cases hs:st i p.text=true
   ·rw[if_pos hs,if_pos ⟨by omega,hs⟩]
    have:=Xc6 st A ps (i+1) k
    rw[show (X9 st ps (i+1) k).flatMap (Yr A (p :: ps) i)=(X9 st ps (i+1) k).flatMap (Yr A ps (i+1)) from by congr 1;funext es;exact e es]
    exact this
   ·rw[if_neg hs,if_neg (fun h=>hs h.2)];exact .refl _
  ·rw[if_neg hp,if_neg hp]
   have e:∀m es,Yr A (p :: ps) i (m :: es)=Y7 List.cons (A p.no i m) (Yr A ps m es):=fun m es=>by simp only[Yr];rw[if_neg hp]
   have h1:SameM (((List.range' (i+1) (k-ps.length-i)).flatMap fun m=>(X9 st ps m k).map (m :: ·)).flatMap (Yr A (p :: ps) i)) ((List.range' (i+1) (k-ps.length-i)).flatMap fun m=>Y7 List.cons (A p.no i m) (Ye st A ps m k)):=by
    rw[List.flatMap_assoc]
    refine SameM.flatMap fun m _=>?_
    rw[List.flatMap_map]
    simp only[e]
    exact(Qu List.cons (A p.no i m) (Yr A ps m) (X9 st ps m k)).trans (SameM.prod _ _ (Xc6 st A ps m k))
   refine h1.trans ?_
   have h2:List.range' (i+1) (k-i)=List.range' (i+1) (k-ps.length-i)++List.range' (k-ps.length+1) ps.length:=by
    rw[show k-ps.length+1=(i+1)+(k-ps.length-i) by omega]
    rw[List.range'_append_1];congr 1;omega
   rw[h2,List.flatMap_append]
   rw[show (List.range' (k-ps.length+1) ps.length).flatMap (fun m=>Y7 List.cons (A p.no i m) (Ye st A ps m k))=[] from List.flatMap_eq_nil_iff.2 fun m hm=>by
    rw[List.mem_range'_1] at hm
    rw[Vf st A ps m k (by omega)]
    exact List.flatMap_eq_nil_iff.2 (fun _ _=>rfl)]
   rw[List.append_nil];exact .refl _
/-! ### what is found, step by step -/
theorem SameM.of {α:Type} {m:Nat} {a b:List (Int×α)} (h:SameM a b):Fd.of m a=Fd.of m b:=by unfold Fd.of;rw[h.1,h.2]
theorem Xds (c i k:Int) (x:ItemG):∀(j:Nat) (l:List ItemG),Xq c i k j (l++[x])=Xq c i k j l++(if x.cat=c∧x.frm=i∧x.unt=k then [(x.cost,Zt (j+l.length) i k)] else [])
 | j,[]=>by simp[Xq]
 | j,y :: l=>by
  rw[List.cons_append,Xq,Xq,Xds c i k x (j+1) l,List.append_assoc,List.length_cons]
  rw[show j+1+l.length=j+(l.length+1) by omega]
theorem Xad (st:Int→ByteArray→Bool) (A:Int→Nat→Nat→List Dv) (c:Int) (i k:Nat) (r:RuleG):∀(j:Nat) (l:List RuleG),X4 st A c i k j (l++[r])=X4 st A c i k j l++(if r.no=c then Xac st A (j+l.length) r i k else [])
 | j,[]=>by simp[X4]
 | j,y :: l=>by
  rw[List.cons_append,X4,X4,Xad st A c i k r (j+1) l,List.append_assoc,List.length_cons]
  rw[show j+1+l.length=j+(l.length+1) by omega]
def Tk (A:Int→Nat→Nat→List Dv) (j:Nat) (r:RuleG) (i k:Nat) (es:List Nat):List Dv:=(Yr A r.parts.xs i es).map fun x=>(r.cost+x.1,.node j (-1) i k x.2)
theorem Xlm (st:Int→ByteArray→Bool) (A:Int→Nat→Nat→List Dv) (j:Nat) (r:RuleG) (i k:Nat):SameM ((X9 st r.parts.xs i k).flatMap (Tk A j r i k)) (Xac st A j r i k):=by
 have h:=(Xc6 st A r.parts.xs i k).map (fun x=>(r.cost+x.1,TreeV.node j (-1) i k x.2)) r.cost (fun _=>rfl)
 unfold Xac
 rw[List.map_flatMap] at h
 exact h
def MidE (A:Int→Nat→Nat→List Dv) (ps:List PartG) (i:Nat) (es:List Nat) (p at_:Nat) (q:Nat) (C:Int) (kids:List TreeV) (e:Nat):Prop :=
 0<e∧(Yr A ps i es).length=e*(Yr A (ps.drop p) at_ (es.drop q)).length ∧
  Xv (Yr A ps i es)=(Xv (Yr A (ps.drop p) at_ (es.drop q))).map fun x=>(C+x.1,kids++x.2)
theorem Xk6 (A:Int→Nat→Nat→List Dv) (ps:List PartG) (i:Nat) (es:List Nat):MidE A ps i es 0 i 0 0 [] 1:=by
 refine⟨by omega,by simp,?_⟩
 rw[List.drop_zero,List.drop_zero]
 have:(fun x:Dk=>(0+x.1,[]++x.2))=id:=by funext x;simp
 rw[this,Option.map_id,id]
theorem Xlj (A:Int→Nat→Nat→List Dv) {p:PartG} (hp:p.text.size≠0) (ps:List PartG) (i:Nat) (es:List Nat):Yr A (p :: ps) i es=Yr A ps (i+1) es:=by simp only[Yr];rw[if_pos hp]
theorem Xg9 (A:Int→Nat→Nat→List Dv) {p:PartG} (hp:p.text.size=0) (ps:List PartG) (i m:Nat) (es:List Nat):Yr A (p :: ps) i (m :: es)=Y7 List.cons (A p.no i m) (Yr A ps m es):=by simp only[Yr];rw[if_neg (by simpa using hp)]
theorem Xn3 {A:Int→Nat→Nat→List Dv} {ps:List PartG} {i:Nat} {es:List Nat} {p at_ q:Nat} {C:Int} {kids:List TreeV} {e:Nat} (h:MidE A ps i es p at_ q C kids e) (hl:p<ps.length) (ht:ps[p].text.size≠0):MidE A ps i es (p+1) (at_+1) q C kids e:=by
 obtain⟨h0,h1,h2⟩:=h
 rw[List.drop_eq_getElem_cons hl,Xlj A ht] at h1 h2
 exact⟨h0,h1,h2⟩
theorem Xqe {A:Int→Nat→Nat→List Dv} {ps:List PartG} {i:Nat} {es:List Nat} {p at_ q:Nat} {C:Int} {kids:List TreeV} {e:Nat} (h:MidE A ps i es p at_ q C kids e) (hl:p<ps.length) (ht:ps[p].text.size=0) (hq:q<es.length) {c:Int} {t:TreeV} (hA:Xv (A ps[p].no at_ es[q])=some (c,t)) :
  MidE A ps i es (p+1) es[q] (q+1) (C+c) (kids++[t]) (e*(A ps[p].no at_ es[q]).length):=by
 obtain⟨h0,h1,h2⟩:=h
 rw[List.drop_eq_getElem_cons hl,List.drop_eq_getElem_cons hq,Xg9 A ht] at h1 h2
 have hpos:0<(A ps[p].no at_ es[q]).length:=by
  cases hn:A ps[p].no at_ es[q] with
  | nil=>rw[hn] at hA;cases hA
  | cons _ _=>simp
 refine⟨Nat.mul_pos h0 hpos,by rw[h1,Zh,Nat.mul_assoc],?_⟩
 rw[h2,Vi,hA]
 cases Xv (Yr A (ps.drop (p+1)) es[q] (es.drop (q+1))) with
 | none=>rfl
 | some x=>simp[Q2,Int.add_assoc]
theorem Xn2 {A:Int→Nat→Nat→List Dv} {ps:List PartG} {i:Nat} {es:List Nat} {p at_ q:Nat} {C:Int} {kids:List TreeV} {e:Nat} (h:MidE A ps i es p at_ q C kids e) (hl:p<ps.length) (ht:ps[p].text.size=0) (hq:q<es.length) (hA:Xv (A ps[p].no at_ es[q])=none):Yr A ps i es=[]:=by
 obtain⟨h0,h1,h2⟩:=h
 rw[List.drop_eq_getElem_cons hl,List.drop_eq_getElem_cons hq,Xg9 A ht,Zh,Zw hA] at h1
 simpa using h1
theorem Xqf {A:Int→Nat→Nat→List Dv} {ps:List PartG} {i:Nat} {es:List Nat} {at_ q:Nat} {C:Int} {kids:List TreeV} {e:Nat} (h:MidE A ps i es ps.length at_ q C kids e):(Yr A ps i es).length=e∧Xv (Yr A ps i es)=some (C,kids):=by
 obtain⟨h0,h1,h2⟩:=h
 rw[List.drop_length] at h1 h2
 refine⟨by rw[h1];simp[Yr],by rw[h2];simp[Yr,Xv,Yy]⟩
def WayE:List PartG→Nat→Nat→List Nat→Prop
 | [],i,k,es=>i=k∧es=[]
 | p :: ps,i,k,es=>if p.text.size≠0 then i<k∧WayE ps (i+1) k es else ∃m es',es=m :: es'∧i<m∧m+ps.length≤k∧WayE ps m k es'
theorem Xc7 (st:Int→ByteArray→Bool):∀(ps:List PartG) (i k:Nat) (es:List Nat),es∈X9 st ps i k→WayE ps i k es
 | [],i,k,es,h=>by
  unfold X9 at h
  split at h
  ·rename_i e;simp at h;exact⟨e,h⟩
  ·cases h
 | p :: ps,i,k,es,h=>by
  unfold X9 at h
  split at h
  ·cases h
  rename_i hk
  unfold WayE
  split at h
  ·rename_i ht
   rw[if_pos ht]
   split at h
   ·exact⟨by omega,Xc7 st ps _ _ _ h⟩
   ·cases h
  ·rename_i ht
   rw[if_neg ht]
   obtain⟨m,hm,h⟩:=List.mem_flatMap.1 h
   obtain⟨es',h',rfl⟩:=List.mem_map.1 h
   rw[List.mem_range'_1] at hm
   exact⟨m,es',rfl,by omega,by omega,Xc7 st ps _ _ _ h'⟩
theorem Xj2:∀ {ps:List PartG} {i k:Nat} {es:List Nat},WayE ps i k es→i+ps.length≤k
 | [],i,k,es,h=>by have:=h.1;simp;omega
 | p :: ps,i,k,es,h=>by
  unfold WayE at h
  rw[List.length_cons]
  split at h
  ·have:=Xj2 h.2;omega
  ·obtain⟨m,es',_,h1,h2,h3⟩:=h
   omega
theorem Xq5 {ps:List PartG} {i k:Nat} {es:List Nat} (_h:WayE ps i k es):∀(p at_ q:Nat),WayE (ps.drop p) at_ k (es.drop q)→i≤at_→p≤at_-i→∀(hl:p<ps.length),ps[p].text.size=0→∃hq:q<es.length,at_<es[q]∧es[q]≤k∧(es[q]-at_)+ps.length≤(k-i)+1∧WayE (ps.drop (p+1)) es[q] k (es.drop (q+1)):=by
 intro p at_ q hw hi hp hl ht
 rw[List.drop_eq_getElem_cons hl] at hw
 unfold WayE at hw
 rw[if_neg (by simpa using ht)] at hw
 obtain⟨m,es',he,h1,h2,h3⟩:=hw
 have hq:q<es.length:=by
  rcases Nat.lt_or_ge q es.length with h|h
  ·exact h
  ·rw[List.drop_eq_nil_of_le h] at he;cases he
 rw[List.drop_eq_getElem_cons hq] at he
 injection he with e1 e2
 rw[List.length_drop] at h2
 exact⟨hq,by omega,by omega,by omega,by rw[e1,e2];exact h3⟩
end Go.Proofs.YthojaplnimoacaaGreatDoor
