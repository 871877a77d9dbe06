/- Texts of this claim, one after the other: DraK, DraA, DraQ, DraG, TrV, TrX, TrY, DraH, DraI, DraE. -/
import Derived.Test.YtolpbjjapodmnaaGreatDoorM28
import Derived.Test.YtolpbjjapodmnaaGreatDoorM25
import Derived.Test.YtolpbjjapodmnaaGreatDoorM27
import Derived.Test.YtolpbjjapodmnaaGreatDoorM15
import Derived.Test.YtolpbjjapodmnaaGreatDoorM10
import Derived.RecoverIn
namespace Go.Proofs.YtolpbjjapodmnaaGreatDoor
open Go.RowKit Go.Han
set_option maxRecDepth 100000
attribute [local irreducible] wpStill wpQuiet
set_option maxHeartbeats 8000000
theorem Xvz:(Tryz.prog.info? 65).map (fun i=>(i.zero,i.size,i.bytes))=some (some (.slice none 0 0),1,24):=by kernel_rfl
theorem X2h (s:SlS TgG):∀u∈slC s,u.oneCell'=true:=by intro u hu;simp[slC] at hu;subst hu;rfl
def LsAt (B n0:Nat) (G:Nat->Prop) (X:List (List TgP)) (v:Value) (V:World):Prop :=
 V.heap[n0]? = some (.cells #[v] 86 (0,0))/\∃LL,OwnL slC 65 1 V B v LL/\LL.map tgL=X/\∀s∈LL,RowG G V s
def GO (B D:Nat) (M own:Nat->Prop) (b:Nat):Prop:=B<=b/\(own b\/(b<D/\¬M b))
structure LsI (Wc:World) (B n0:Nat) (M:Nat->Prop) (r0:Option Nat) (tr:List ByteArray->List TgP) (ok:List ByteArray->Prop) (X0:List (List TgP)) (own:Nat->Prop) (pre:List (List ByteArray)) (V:World):Prop where
 os:V.os=Wc.os
 tape:V.tape=Wc.tape
 output:V.output=Wc.output
 size:Wc.heap.size<=V.heap.size
 keep:∀b,b<Wc.heap.size->b≠n0->r0≠some b->¬M b->V.heap[b]? = Wc.heap[b]?
 on:own n0
 ok:∀c∈pre,ok c
 ls:∃v,(∀g,v.ownBlock=some g->own g/\(r0=some g\/Wc.heap.size<=g))/\LsAt B n0 (GO B Wc.heap.size M own) (X0++pre.map tr) v V
section
variable {Wc:World} {B n0:Nat} {M:Nat->Prop} {r0:Option Nat} {tr:List ByteArray->List TgP} {ok:List ByteArray->Prop} {X0:List (List TgP)} {own:Nat->Prop} {pre:List (List ByteArray)} {V:World}
theorem LsI.stable:Yp Wc.heap.size M (LsI Wc B n0 M r0 tr ok X0):=by
 rintro own pre V V' h st;obtain⟨v,hv,hb,LL,hr,hx,hg⟩:=h.ls;refine⟨st.os.trans h.os,st.tape.trans h.tape,st.output.trans h.output,Nat.le_trans h.size st.size,fun b h1 h2 h3 h4=>(st.block b (Nat.lt_of_lt_of_le h1 h.size) (.inl ⟨h1,h4⟩)).trans (h.keep b h1 h2 h3 h4),h.on,h.ok,v,hv,(st.block _ (Xd hb) (.inr h.on)).trans hb,LL,hr.block fun g hgv=>st.block g (hr.lt g hgv).2 (.inr (hv g hgv).1),hx,fun s hs=>(hg s hs).over fun b cs t fr hc hG _=>⟨st.block b (Xd hc) hG.2.symm,hG⟩⟩
theorem LsI.loop {V':World} {q:Nat} {Lp:Loop} (h:LsI Wc B n0 M r0 tr ok X0 own pre V) (h1:V'.os=V.os) (h2:V'.tape=V.tape) (h3:V'.output=V.output) (h4:V'.heap.size=V.heap.size) (hl:V.heap[q]? = some (.loop Lp)) (hq:Wc.heap.size<q) (ho:¬own q) (h7:∀j,j≠q->V'.heap[j]? = V.heap[j]?):LsI Wc B n0 M r0 tr ok X0 own pre V':=by
 obtain⟨v,hv,hb,LL,hr,hx,hg⟩:=h.ls;have hc:∀ {b:Nat} {cs:Array Value} {t:TypeId} {fr:Nat×Nat},V.heap[b]? = some (.cells cs t fr)->b≠q:=fun hb e=>by subst e;rw[hl] at hb;cases hb
 refine⟨h1.trans h.os,h2.trans h.tape,h3.trans h.output,by rw[h4];exact h.size,fun b e1 e2 e3 e4=>(h7 b (by omega)).trans (h.keep b e1 e2 e3 e4),h.on,h.ok,v,hv,(h7 _ (hc hb)).trans hb,LL,hr.block fun g hgv=>h7 g fun e=>ho (e ▸ (hv g hgv).1),hx,fun s hs=>(hg s hs).over fun b cs t fr hcb hG _=>⟨h7 b (hc hcb),hG⟩⟩
theorem LsI.push {V2 V3:World} {x:List ByteArray} {s:SlS TgG} {v v':Value} {LL:List (SlS TgG)} (h:LsI Wc B n0 M r0 tr ok X0 own pre V) (hlv:∀k,own k->k<V.heap.size) (hB:B<=Wc.heap.size)
  (hv:∀g,v.ownBlock=some g->own g/\(r0=some g\/Wc.heap.size<=g)) (hb:V.heap[n0]? = some (.cells #[v] 86 (0,0))) (hr:OwnL slC 65 1 V B v LL) (hx:LL.map tgL=X0++pre.map tr) (hg:∀s∈LL,RowG (GO B Wc.heap.size M own) V s)
  (h2:Below V.heap.size V V2) (hs:RowF V.heap.size V2 s) (hsx:tgL s=tr x) (hok:ok x) (hr3:OwnL slC 65 1 V3 B v' (LL++[s])) (hg3:V2.grownBy V3 v.ownBlock) (hat:v'.ownBlock=v.ownBlock\/∃n,v'.ownBlock=some n/\V2.heap.size<=n) :
  ∃own',BodyStep own own' V (V3.setCell ⟨n0,0,none⟩ v')/\LsI Wc B n0 M r0 tr ok X0 own' (pre++[x]) (V3.setCell ⟨n0,0,none⟩ v'):=by
 have hn0:=Xd hb;have hsz:=h.size;have hother:∀k,k≠n0->(V3.setCell ⟨n0,0,none⟩ v').heap[k]? = V3.heap[k]? := fun k hk=>Below.heap_setCell _ _ _ _ hk;have hz:(V3.setCell ⟨n0,0,none⟩ v').heap.size=V3.heap.size:=by simp[World.setCell]
 have hVz:V.heap.size<=V3.heap.size:=Nat.le_trans h2.size hg3.size;have hlow:∀k,k<V.heap.size->v.ownBlock≠some k->V3.heap[k]? = V.heap[k]? := fun k hk hn=>(hg3.block k (Nat.lt_of_lt_of_le hk h2.size) fun e=>hn e.symm).trans (h2.block k hk)
 have hrn:v.ownBlock≠some n0:=fun e=>by
  obtain⟨c,hc⟩:=OwnL.kind hr e;rw[hb] at hc;simp only[Option.some.injEq,Obj.cells.injEq] at hc;exact absurd hc.2.1 (by decide)
 have hrn':v'.ownBlock≠some n0:=fun e=>by
  rcases hat with h1|⟨n,h1,h3⟩
  ·exact hrn (h1 ▸ e)
  ·rw[h1] at e;cases e;have:=h2.size;omega
 have hb3:V3.heap[n0]? = some (.cells #[v] 86 (0,0)):=(hlow n0 hn0 hrn).trans hb
 -- blocks of words and numbers
 have hty:∀ {b:Nat} {cs:Array Value} {t:TypeId} {fr:Nat×Nat},V2.heap[b]? = some (.cells cs t fr)->(t=75\/t=3)->(V3.setCell ⟨n0,0,none⟩ v').heap[b]? = V2.heap[b]? := fun {b cs t fr} hc ht=>by
  have e1:b≠n0:=by
   rintro rfl;rw[(h2.block _ hn0).trans hb] at hc;simp only[Option.some.injEq,Obj.cells.injEq] at hc;rw[<- hc.2.1] at ht;exact absurd ht (by decide)
  refine(hother b e1).trans (hg3.block b (Xd hc) fun e=>?_);obtain⟨cur,hk⟩:=OwnL.kind hr e.symm;rw[Xi h2 hk] at hc;simp only[Option.some.injEq,Obj.cells.injEq] at hc;rw[<- hc.2.1] at ht;exact absurd ht (by decide)
 refine⟨fun k=>own k\/(V.heap.size<=k/\k<V3.heap.size),⟨?_,?_,?_,by rw[hz];exact hVz,fun k hk hn=>?_,fun k hk=>hk.imp id And.left,fun k hk=>?_⟩,?_⟩
 ·exact hg3.os.trans h2.os
 ·exact hg3.tape.trans h2.tape
 ·exact hg3.output.trans h2.output
 ·exact(hother k (by rintro rfl;exact hn h.on)).trans (hlow k hk fun e=>hn (hv k e).1)
 ·rw[hz]
  rcases hk with hk|hk
  ·exact Nat.lt_of_lt_of_le (hlv k hk) hVz
  ·exact hk.2
 ·refine⟨(hg3.os.trans h2.os).trans h.os,(hg3.tape.trans h2.tape).trans h.tape,(hg3.output.trans h2.output).trans h.output,by rw[hz];exact Nat.le_trans hsz hVz,fun b e1 e2 e3 e4=>?_,.inl h.on,fun c hc=>?_,v',fun g hg'=>?_,Xs hb3 0 _,LL++[s],hr3.block fun g hg'=>hother g (by rintro rfl;exact hrn' hg'),?_,fun y hy=>?_⟩
  ·refine(hother b e2).trans ((hlow b (by omega) fun e=>?_).trans (h.keep b e1 e2 e3 e4))
   rcases(hv b e).2 with h1|h1
   ·exact e3 h1
   ·omega
  ·rcases List.mem_append.1 hc with hc|hc
   ·exact h.ok c hc
   ·rw[List.mem_singleton.1 hc];exact hok
  ·rcases hat with h1|⟨n,h1,h3⟩
   ·have:=hv g (h1 ▸ hg')
    exact⟨.inl this.1,this.2⟩
   ·rw[h1] at hg'
    cases hg';have h5:=(hr3.lt g (by rw[h1])).2;have h6:=h2.size;exact⟨.inr ⟨by omega,h5⟩,.inr (by omega)⟩
  ·rw[List.map_append,hx,List.map_append,List.append_assoc]
   show _++(_++[tgL s])=_;rw[hsx];rfl
  ·rcases List.mem_append.1 hy with hy|hy
   ·exact(hg y hy).over fun b cs t fr hc hG ht=>⟨(hty ((h2.block b (Xd hc)).trans hc) ht).trans (h2.block b (Xd hc)),hG.1,hG.2.imp .inl id⟩
   ·rw[List.mem_singleton.1 hy]
    exact hs.over fun b cs t fr hc hG ht=>by
     have h5:=hty hc ht
     have h6:b<V3.heap.size:=by
      have:=Xd hc;have:=hg3.size;omega
     exact⟨h5,by have:V.heap.size<=b:=hG;omega,.inl (.inr ⟨hG,h6⟩)⟩
end
theorem Xel (b:Bool) (k:Int) (w:World) (h:b=true):Calls Tryz.prog 115 #[.bool b,.int .i64 k] w fun e w'=>e = .returned (.tuple #[])/\w=w':=by
 subst h;go_enter Tryz.func115,Tryz.ntmps115
 go_wp2
 go_end0
 exact⟨rfl,rfl⟩
theorem Xby (b:Bool) (k:Int) (w:World) (h:b=false):Calls Tryz.prog 115 #[.bool b,.int .i64 k] w fun e w'=>e = .panicked (Ud k)/\w=w':=by
 subst h;go_enter Tryz.func115,Tryz.ntmps115
 go_wp2
 exact⟨rfl,rfl,rfl⟩
def Xx9 (n:Int) (b:Nat) (w:World) (e:Ending) (u':FrameMode) (w':World):Prop :=
 u' = .panicking [{v:=.iface 33 (.int .i64 n),recovered:=true}]/\e = .returned (.tuple #[])/\w'=w.setCell ⟨b,0,none⟩ (.int .i64 n)
def sumP (m:Nat):Nat->Nat
 | 0=>0
 | j+1=>sumP m j+m ^ j
theorem Xcs (m : Nat) : ∀ {i j : Nat}, i <= j -> sumP m i <= sumP m j := by
  intro i j h
  induction j with
  | zero => obtain rfl : i = 0 := by omega
            exact Nat.le_refl _
  | succ j ih =>
    by_cases e : i = j + 1
    · subst e; exact Nat.le_refl _
    · exact Nat.le_trans (ih (by omega)) (Nat.le_add_right _ _)
theorem Xpv (m j:Nat):m ^ j<=sumP m (j+1):=Nat.le_add_left _ _
section
variable {α:Type}
def Z2 (more:List α) (j:Nat):List (List α):=(List.range j).flatMap (Ue more)
theorem Tm (more:List α) (j:Nat):Z2 more (j+1)=Z2 more j++Ue more j:=by
 unfold Z2;rw[List.range_succ,List.flatMap_append,List.flatMap_cons,List.flatMap_nil,List.append_nil]
theorem Qs (more:List α):∀j,(Z2 more j).length=sumP more.length j
 | 0=>rfl
 | j+1=>by rw[Tm,List.length_append,Qs more j,Tv];rfl
theorem Xn8 (more:List α) (k:Nat):Xe7 more k=Z2 more (k+1):=rfl
end
def Xbq (g:Gram) (l:List Term) (lang t u:Int):List (List ByteArray)->Int
 | []=>0
 | c :: L=>if Xz g l lang c t u≠0 then Xz g l lang c t u else Xbq g l lang t u L
theorem Xbr {g:Gram} {l:List Term} {lang t u:Int}:∀ {L:List (List ByteArray)},Xbq g l lang t u L=0↔∀c∈L,Xz g l lang c t u=0
 | []=>by simp[Xbq]
 | c :: L=>by
  unfold Xbq;split
  ·rename_i h
   simp only[List.mem_cons,forall_eq_or_imp];exact⟨fun e=>absurd e h,fun e=>e.1⟩
  ·rename_i h
   rw[Xbr (L:=L)];simp only[List.mem_cons,forall_eq_or_imp];exact⟨fun e=>⟨by omega,e⟩,fun e=>e.2⟩
def kkN (n:Nat) (k:Int):Nat:=(min k (16-(n:Int))).toNat
def Zk (ws more:List ByteArray) (k:Int):List (List ByteArray):=(Xe7 more (kkN ws.length k)).map fun c=>ws++c
def Qv (more:List ByteArray):Bool:=decide (more.length<=256) && more.all Xq
def Vk (ws more:List ByteArray) (k:Int):Int :=
 if Qv more=false then 330 else if k<0\/3<k then 1 else if 256<sumP more.length (kkN ws.length k+1) then 2 else 0
def X7 (g:Gram) (l:List Term) (lang:Int) (ws more:List ByteArray) (k t u:Int):Int :=
 if Xz g l lang ws t u≠0 then Xz g l lang ws t u else if Vk ws more k≠0 then Vk ws more k else Xbq g l lang t u (Zk ws more k)
def Uy (g:Gram) (l:List Term) (lang:Int) (ws more:List ByteArray) (k t u:Int):Nat :=
 if X7 g l lang ws more k t u≠0 then 0 else (Zk ws more k).length
def Zo (g:Gram) (l:List Term) (lang:Int) (ws more:List ByteArray) (k t u:Int):List TgP :=
 if X7 g l lang ws more k t u≠0 then [] else Yl ((Zk ws more k).map fun c=>(trE g l lang c t u).1)
theorem Xa2 {ws more:List ByteArray} {k:Int} (h:Vk ws more k=0):Qv more=true/\0<=k/\k<=3/\sumP more.length (kkN ws.length k+1)<=256:=by
 unfold Vk at h;split at h
 ·cases h
 split at h
 ·cases h
 split at h
 ·cases h
 rename_i h1 h2 h3;exact⟨by simpa using h1,by omega,by omega,by omega⟩
theorem Tn {g:Gram} {l:List Term} {lang:Int} {ws more:List ByteArray} {k t u:Int} (h:X7 g l lang ws more k t u=0):Xz g l lang ws t u=0/\Vk ws more k=0/\∀c∈Zk ws more k,Xz g l lang c t u=0:=by
 unfold X7 at h;split at h
 ·exact absurd h (by assumption)
 split at h
 ·exact absurd h (by assumption)
 rename_i h1 h2;exact⟨by omega,by omega,Xbr.1 h⟩
theorem Xdj {g:Gram} {l:List Term} {lang:Int} {ws more:List ByteArray} {k t u:Int} (h1:Xz g l lang ws t u=0) (h2:Vk ws more k=0) (h3:∀c∈Zk ws more k,Xz g l lang c t u=0):X7 g l lang ws more k t u=0:=by
 unfold X7;rw[if_neg (by omega),if_neg (by omega)];exact Xbr.2 h3
theorem Ux {g:Gram} {l:List Term} {lang:Int} {ws more:List ByteArray} {k t u:Int} (h:X7 g l lang ws more k t u=0):Zo g l lang ws more k t u=Yl ((Zk ws more k).map fun c=>(trE g l lang c t u).1):=by unfold Zo;rw[if_neg (by omega)]
theorem Xkx {g:Gram} {l:List Term} {lang:Int} {ws more:List ByteArray} {k t u:Int} (h:X7 g l lang ws more k t u=0):Uy g l lang ws more k t u=sumP more.length (kkN ws.length k+1):=by
 unfold Uy Zk;rw[if_neg (by omega),List.length_map,Xn8,Qs]
theorem Xal {ws more:List ByteArray} {k:Int} {c:List ByteArray}:c∈Zk ws more k↔∃d,c=ws++d/\d.length<=kkN ws.length k/\∀w∈d,w∈more:=by
 unfold Zk;rw[List.mem_map];constructor
 ·rintro⟨d,hd,rfl⟩
  obtain⟨h1,h2⟩:=(Xdi more _ d).1 hd;exact⟨d,rfl,h1,h2⟩
 ·rintro⟨d,rfl,h1,h2⟩
  exact⟨d,(Xdi more _ d).2 ⟨h1,h2⟩,rfl⟩
theorem X04 (ws more:List ByteArray) (k:Int):Zk ws more k≠[]:=by
 unfold Zk;intro h;exact Xu5 _ _ (List.map_eq_nil_iff.1 h)
theorem Xs6 (ws more:List ByteArray) (k:Int):ws∈Zk ws more k:=Xal.2 ⟨[],by simp,Nat.zero_le _,by simp⟩
theorem Xq5 {g:Gram} {l:List Term} {lang:Int} {ws more ws' more':List ByteArray} {k k' t u:Int} (h:X7 g l lang ws more k t u=0) (h':X7 g l lang ws' more' k' t u=0) (hs:∀c∈Zk ws' more' k',c∈Zk ws more k):Zo g l lang ws more k t u <+: Zo g l lang ws' more' k' t u:=by
 rw[Ux h,Ux h'];refine Xaq (fun e=>X04 _ _ _ (List.map_eq_nil_iff.1 e)) fun x hx=>?_;obtain⟨c,hc,rfl⟩:=List.mem_map.1 hx;exact List.mem_map.2 ⟨c,hs c hc,rfl⟩
theorem Xy4 {g:Gram} {l:List Term} {lang:Int} {ws more:List ByteArray} {k t u:Int} (h:X7 g l lang ws more k t u=0) {c:List ByteArray} (hc:c∈Zk ws more k):Zo g l lang ws more k t u <+: (trE g l lang c t u).1:=by
 rw[Ux h];exact Xhy (List.mem_map.2 ⟨c,hc,rfl⟩)
theorem Xh6 {g:Gram} {l:List Term} {lang:Int} {ws more more':List ByteArray} {k k' t u:Int} (h:X7 g l lang ws more k t u=0) (h':X7 g l lang ws more' k' t u=0) (hk:k<=k') (hm:∀w∈more,w∈more'):Zo g l lang ws more' k' t u <+: Zo g l lang ws more k t u :=
 Xq5 h' h fun c hc=>by
  obtain⟨d,rfl,d1,d2⟩:=Xal.1 hc;exact Xal.2 ⟨d,rfl,by unfold kkN at d1 ⊢;omega,fun w hw=>hm w (d2 w hw)⟩
theorem Xoc {g:Gram} {l:List Term} {lang:Int} {ws more:List ByteArray} {k t u:Int} (h:X7 g l lang ws more k t u=0):X7 g l lang ws more 0 t u=0/\Uy g l lang ws more 0 t u=1/\Zo g l lang ws more 0 t u=(trE g l lang ws t u).1:=by
 obtain⟨h1,h2,h3⟩:=Tn h;obtain⟨m1,m2,m3,m4⟩:=Xa2 h2;have hn:ws.length<=16:=(Vy h1).2.2.1;have e0:kkN ws.length 0=0:=by unfold kkN;omega
 have ht:Zk ws more 0=[ws]:=by unfold Zk;rw[e0];simp[Xe7,Ue]
 have h':X7 g l lang ws more 0 t u=0:=by
  refine Xdj h1 ?_ fun c hc=>?_
  ·unfold Vk
   rw[if_neg (by rw[m1];simp),if_neg (by omega),if_neg (by rw[e0];simp[sumP])]
  ·rw[ht] at hc;rw[List.mem_singleton.1 hc];exact h1
 exact⟨h',by unfold Uy;rw[if_neg (by omega),ht];rfl,by rw[Ux h',ht];rfl⟩
theorem Xod {g:Gram} {l:List Term} {lang:Int} {ws more more':List ByteArray} {k t u:Int} (h:X7 g l lang ws more k t u=0) (hl:more'.length=more.length) (hm:∀w,w∈more'↔w∈more):X7 g l lang ws more' k t u=0/\Zo g l lang ws more k t u=Zo g l lang ws more' k t u/\Uy g l lang ws more' k t u=sumP more.length (kkN ws.length k+1):=by
 obtain⟨h1,h2,h3⟩:=Tn h;obtain⟨m1,m2,m3,m4⟩:=Xa2 h2
 have hs:∀c,c∈Zk ws more' k↔c∈Zk ws more k:=fun c=>by
  rw[Xal,Xal];constructor
  ·rintro⟨d,rfl,d1,d2⟩;exact⟨d,rfl,d1,fun w hw=>(hm w).1 (d2 w hw)⟩
  ·rintro⟨d,rfl,d1,d2⟩;exact⟨d,rfl,d1,fun w hw=>(hm w).2 (d2 w hw)⟩
 have hw:Qv more'=true:=by
  unfold Qv at m1 ⊢;rw[Bool.and_eq_true,decide_eq_true_eq,List.all_eq_true] at m1 ⊢;exact⟨by omega,fun x hx=>m1.2 x ((hm x).1 hx)⟩
 have h':X7 g l lang ws more' k t u=0:=by
  refine Xdj h1 ?_ fun c hc=>h3 c ((hs c).1 hc);unfold Vk;rw[if_neg (by rw[hw];simp),if_neg (by omega),if_neg (by rw[hl];omega)]
 refine⟨h',?_,by rw[Xkx h',hl]⟩;rw[Ux h,Ux h'];refine Xmr fun x=>?_;rw[List.mem_map,List.mem_map];exact⟨fun ⟨c,a,b⟩=>⟨c,(hs c).2 a,b⟩,fun ⟨c,a,b⟩=>⟨c,(hs c).1 a,b⟩⟩
theorem Xwr (s:ByteArray) (w:World) (hT:Tabs w):Calls Tryz.prog 116 #[.string s] w fun e w'=>e = .returned (.bool (!Xq s))/\Below w.heap.size w w':=by
 go_enter Tryz.func116,Tryz.ntmps116
 go_wp2_with fail
 refine(Xew s w hT).mono ?_;rintro e w1 ⟨rfl,hb1⟩;go_wp2_with fail
 go_ret;exact⟨by simp,hb1⟩
theorem Xsz {g:Gram} {l:List Term} {lang t u:Int} {ws:List ByteArray} (h:Xz g l lang ws t u=0) (i:Int) (h0:0<=i) (h1:i<ws.length):∃x∈Vb g (Yh l lang t u) ws,0<=x.cat/\x.frm=i:=by
 obtain⟨hc,hs,_⟩:=Vy h;have hk:=Qp hs;have hw:=Xex hc (Xai hk.1 lang t u) (Xa6 hk.1 lang t u) ws 0 rfl;obtain⟨n,rfl⟩:∃n:Nat,i=(n:Int):=⟨i.toNat,by omega⟩
 have hn:n<ws.length:=by omega
 have hone:=(hw.2 n ws[n] (Nat.zero_le _) (List.getElem?_eq_getElem hn)).2 (by have:=(Qy hc).start;omega);unfold Xc8 at hone;obtain⟨x,hx,hp⟩:=List.countP_pos_iff.1 hone;rw[Bool.and_eq_true,decide_eq_true_eq] at hp;have hf:=hw.1 x hx;unfold T0 Xfy at hf;simp only[Bool.and_eq_true,decide_eq_true_eq] at hf;refine⟨x,?_,?_,hp.2⟩
 ·unfold Vb
  exact List.mem_append_right _ hx
 ·omega
/-! ### word by word -/
structure Xyd (its:List ItemG) (i:Int) (q:Nat) (b:ItemG):Prop where
 at_:its[q]? = some b
 cat:0<=b.cat
 frm:b.frm=i
 before:∀(k:Nat) (x:ItemG),its[k]? = some x->k<q->0<=x.cat->x.frm=i->x.unt<b.unt
 all:∀(k:Nat) (x:ItemG),its[k]? = some x->0<=x.cat->x.frm=i->x.unt<=b.unt
theorem X19 {its:List ItemG} {i:Int} {b:ItemG} (h:Vq its i=some b):∃q,Xyd its i q b:=by
 have hw:=Xnj its i;rw[h] at hw;obtain⟨pre,post,rfl,b1,b2,b3,b4⟩:=hw
 have hall:∀(k:Nat) (x:ItemG),(pre++b :: post)[k]? = some x->0<=x.cat->x.frm=i->x.unt<=b.unt/\(k<pre.length->x.unt<b.unt):=by
  intro k x hx h1 h2;by_cases hk:k<pre.length
  ·rw[List.getElem?_append_left hk] at hx
   have:=b3 x (List.mem_of_getElem? hx) h1 h2;exact⟨by omega,fun _=>this⟩
  ·rw[List.getElem?_append_right (by omega)] at hx
   refine⟨?_,fun h=>absurd h hk⟩;rcases List.mem_cons.1 (List.mem_of_getElem? hx) with rfl|hx
   ·omega
   ·exact b4 x hx h1 h2
 exact⟨pre.length,by rw[List.getElem?_append_right (Nat.le_refl _),Nat.sub_self];rfl,b1,b2,fun k x hx hk h1 h2=>(hall k x hx h1 h2).2 hk,fun k x hx h1 h2=>(hall k x hx h1 h2).1⟩
structure Xmh (its:List ItemG) (n:Nat):Prop where
 place:∀x∈its,0<=x.frm/\x.frm<x.unt/\x.unt<=n
 there:∀i:Int,0<=i->i<n->∃x∈its,0<=x.cat/\x.frm=i
 some_:∀x∈its,1<=x.tgt.xs.length/\x.tgt.xs.length<=8
theorem Xxx {g:Gram} {l:List Term} {lang t u:Int} {ws:List ByteArray} {its:List ItemG} (h:Xz g l lang ws t u=0) (hm:its.map ItemG.c=Vb g (Yh l lang t u) ws):Xmh its ws.length:=by
 have hr:∀x∈its,Xe1 ws.length g.cats.xs.length x.c:=fun x hx=>Xdt h x.c (by rw[<- hm];exact List.mem_map_of_mem hx);refine⟨fun x hx=>(hr x hx).place,fun i h0 h1=>?_,fun x hx=>?_⟩
 ·obtain⟨x,hx,h1,h2⟩:=Xsz h i h0 h1
  rw[<- hm] at hx;obtain⟨y,hy,rfl⟩:=List.mem_map.1 hx;exact⟨y,hy,h1,h2⟩
 ·have:=(hr x hx).some_
  change 1<=x.tgt.xs.length/\x.tgt.xs.length<=4 at this;omega
structure StepW (its:List ItemG) (n i:Nat) (q:Nat) (b:ItemG) (v:Nat):Prop where
 long:Xyd its i q b
 unt:b.unt=(v:Int)
 lt:i<v
 le:v<=n
 some_:1<=b.tgt.xs.length/\b.tgt.xs.length<=8
 eq:wbwT its n i=Uf b []++wbwT its n v
theorem step_w {its:List ItemG} {n:Nat} (h:Xmh its n) {i:Nat} (hi:i<n):∃q b v,StepW its n i q b v:=by
 obtain⟨b,hb⟩:=Xtb (h.there i (by omega) (by omega));obtain⟨q,hq⟩:=X19 hb;have hm:=List.mem_of_getElem? hq.at_;have hp:=h.place b hm;have hf:=hq.frm;refine⟨q,b,b.unt.toNat,hq,by omega,by omega,by omega,h.some_ b hm,?_⟩;rw[Xl3 (fun x hx=>(h.place x hx).2.1) (by omega) hb,show ((b.unt.toNat:Nat):Int)=b.unt by omega]
/-! ### a word that is replaced -/
theorem can_c (cs:List Ye):(canL cs).map ItemG.c=cs:=by
 unfold canL;rw[List.map_map];exact(List.map_congr_left fun x _=>rfl).trans (List.map_id cs)
theorem X2n {its:List ItemG} {n:Nat} (h:Xmh its n):∀(d i:Nat),n-i<=d->(wbwT its n i).length<=8*d:=by
 intro d
 induction d with
 | zero =>
  intro i hi;rw[Xji its (by omega)];simp
 | succ d ih =>
  intro i hi;by_cases hlt:i<n
  ·obtain⟨q,b,v,hs⟩:=step_w h hlt
   rw[hs.eq,List.length_append];have h1:=ih v (by have:=hs.lt;omega);have h2:(Uf b []).length=b.tgt.xs.length:=(by unfold Uf;rw[List.length_map]);have:=hs.some_;omega
  ·rw[Xji its (by omega)]
   simp
theorem tr_len (g:Gram) (l:List Term) (lang:Int) (ws:List ByteArray) (t u:Int):(trE g l lang ws t u).1.length<=8192:=by
 by_cases h:Xz g l lang ws t u=0
 ·by_cases h0:ws=[]
  ·rw[Xuf h0];simp
  ·have hm:=can_c (Vb g (Yh l lang t u) ws)
   have Ho:=Xzr h h0 hm;have Hru:=Xpn Ho.args.check;rw[Xue h h0 hm];cases hb:Tk g (canL (Vb g (Yh l lang t u) ws)) ws.length with
   | none =>
    rw[Xp3 hb];have h1:=X2n (Xxx h hm) ws.length 0 (by omega);have h2:=(Vy h).2.2.1;show (wbwT _ ws.length 0).length<=_;exact Nat.le_trans h1 (by omega)
   | some y =>
    rw[Xp4 hb];obtain⟨h1,h2⟩:=Xks Ho.args hb;have h3:=Xlz Ho.tgt Hru.2 y.2 h1 [];show (Yj g _ y.2 []).length<=_;omega
 ·rw[Xud h];simp
structure DrB (W:World) (b:Nat) (g:Gram) (A:Option Addr) (cp:Nat) (l:List Term) (lang t u:Int):Prop where
 g:W.heap[b]? = some g.ob
 l:W.heap[b+1]? = some (.cells #[.slice A l.length cp] 43 (0,0))
 lang:W.heap[b+1+1]? = some (.cells #[.int .i64 lang] 3 (0,0))
 at_:W.heap[b+1+1+1]? = some (.cells #[.int .i64 t] 3 (0,0))
 known:W.heap[b+1+1+1+1]? = some (.cells #[.int .i64 u] 3 (0,0))
theorem DrB.keep {W V:World} {b:Nat} {g:Gram} {A:Option Addr} {cp:Nat} {l:List Term} {lang t u:Int} (h:DrB W b g A cp l lang t u) (hk:∀j,b<=j->j<=b+1+1+1+1->V.heap[j]? = W.heap[j]?):DrB V b g A cp l lang t u :=
 ⟨(hk _ (by omega) (by omega)).trans h.g,(hk _ (by omega) (by omega)).trans h.l,(hk _ (by omega) (by omega)).trans h.lang,(hk _ (by omega) (by omega)).trans h.at_,(hk _ (by omega) (by omega)).trans h.known⟩
def Xnp (g:Gram) (l:List Term) (lang:Int) (ws:List ByteArray) (t u:Int) (w:World) (e:Ending) (w':World):Prop :=
 Below w.heap.size w w'/\((Xz g l lang ws t u=0/\∃(A:Option Addr) (c:Nat) (L:List TgG),e = .returned (.slice A L.length c)/\L.map TgG.c=(trE g l lang ws t u).1/\RowF w.heap.size w' ⟨A,c,L⟩)\/(Xz g l lang ws t u≠0/\e = .panicked (Ud (Xz g l lang ws t u))))
theorem Xp2 (b:Nat) (g:Gram) (A:Option Addr) (cp:Nat) (l:List Term) (lang:Int) (s:StrS) (t u:Int) (w:World) (hD:DrB w b g A cp l lang t u) (hT:TabsG w) (hg:g.lies w) (hgs:g.short) (hr:TermsAt w A l) (hm:l.length<=9223372036854775807) (hs:s.lies w) :
  Calls Tryz.prog 114 #[.slice s.addr s.xs.length s.cap,.pointer (some ⟨b,0,none⟩),.pointer (some ⟨b+1,0,none⟩),.pointer (some ⟨b+1+1,0,none⟩),.pointer (some ⟨b+1+1+1,0,none⟩),.pointer (some ⟨b+1+1+1+1,0,none⟩)] w (Xnp g l lang s.xs t u w):=by
 have FT:=Xa (Xcz g A cp l lang s t u w hT hg hgs hr hm hs);have hk:=hD.g;obtain⟨c0,c1,c2,c3,c4,c5⟩:=gb6 hk;have c10:=Xe hD.l;have c11:=Xe hD.lang;have c12:=Xe hD.at_;have c13:=Xe hD.known;clear hD hT hg hgs hr hm hs hk;go_enter Tryz.func114,Tryz.ntmps114
 go_wp2_with fail
 refine FT.out.mono ?_;rintro e w1 ⟨hb1,A9,n9,c9,L,rfl,rfl,hr9,hl9,hf9⟩;have HR:Hid (RowF w.heap.size w1 ⟨A9,c9,L⟩):=Xpj hr9.own (Nat.le_refl _) hf9.nle;have HL:=Xa hl9;have HB:=Xa hb1;obtain⟨E,hE⟩:∃E,Xz g l lang s.xs t u=E:=⟨_,rfl⟩
 obtain⟨wh,hwh⟩:∃z,(trE g l lang s.xs t u).2=z:=⟨_,rfl⟩
 rw[hE,hwh];have HE:=Xa hE;clear hE hwh hr9 hl9 hf9 hb1 FT c0 c1 c2 c3 c4 c5 c10 c11 c12 c13;by_cases h0:E=0
 ·subst h0
  have hn:=Xel true 0 w1 rfl;have HN:=Xa hn;clear hn;go_wp2_with fail
  refine HN.out.mono ?_;rintro e w2 ⟨rfl,rfl⟩;go_wp2_with fail
  go_ret;exact⟨HB.out,.inl ⟨HE.out,A9,c9,L,rfl,HL.out,HR.out⟩⟩
 ·have k1:(E == 0)=false:=by simpa using h0
  have hn:=Xby false E w1 rfl;have HN:=Xa hn;have H0:Hid (Xz g l lang s.xs t u≠0):=by rw[HE.out];exact h0
  clear hn h0;go_wp2_with fail
  refine HN.out.mono ?_;rintro e w2 ⟨rfl,rfl⟩;exact⟨rfl,HB.out,.inr ⟨H0.out,by rw[HE.out]⟩⟩
section
attribute [local go_sem] Oper.semAt_some
theorem Xmm (b:Nat) (w:World) :
  CallsDIn Fence.wide 0 Tryz.prog 113 #[.pointer (some ⟨b,0,none⟩)] .returning w fun e u' w'=>u' = .returning/\e = .returned (.tuple #[])/\w'=w:=by
 refine callsDIn_of_wpSIn Tryz.func113 rfl trivial fun c₀ cs hu=>?_;simp only[Tryz.ntmps113,Zr,Nat.reduceAdd,Nat.reduceSub];apply wpSIn_seq;apply wpSIn_region;simp[wpOpsSIn,go_sem,recoverD,hu,Exit.thenS];refine wpSIn_of_wpIn rfl ?_;gi_wp2
 cases c₀
 simp_all [bodyPostS,results,Tryz.results113]
theorem Xml (b:Nat) (v:Value) (n:Int) (w:World) (h1:w.heap[b]? = some (.cells #[v] 33 (0,0))) :
  CallsDIn Fence.wide 0 Tryz.prog 113 #[.pointer (some ⟨b,0,none⟩)] (.panicking (Ud n)) w (Xx9 n b w):=by
 have c1:=Xe h1;have f1:=Xf h1 0;have hta:∀w,(Instr.typeAssert (.iface 33 (.int .i64 n)) 20 33 true).run Tryz.prog w = .ok (.tuple #[.int .i64 n,.bool true]) w:=fun _=>by kernel_rfl
 unfold Ud;refine callsDIn_of_wpSIn Tryz.func113 rfl trivial fun c₀ cs hu=>?_;simp only[Tryz.ntmps113,Zr,Nat.reduceAdd,Nat.reduceSub];apply wpSIn_seq;apply wpSIn_region;simp[wpOpsSIn,go_sem,recoverD,hu,Exit.thenS];refine wpSIn_of_wpIn rfl ?_;gi_wp2
 exact⟨rfl,_,rfl,_,results_none rfl _ _ _,rfl,rfl,rfl⟩
theorem Xu9 (b1 b2 b3:Nat) (u:FrameMode) (w:World) (h1:w.heap[b1]? = some (.cells #[.int .i64 0] 33 (0,0))) :
  CallsDIn Fence.wide 0 Tryz.prog 112 #[.pointer (some ⟨b1,0,none⟩),.pointer (some ⟨b2,0,none⟩),.pointer (some ⟨b3,0,none⟩)] u w fun e u' w'=>u'=u/\e = .returned (.tuple #[])/\w'=w:=by
 have c1:=Xe h1;refine callsDIn_of_wp (R:=fun e w'=>e = .returned (.tuple #[])/\w'=w) Tryz.func112 rfl trivial ?_;simp only[Tryz.ntmps112,Zr,Nat.reduceAdd,Nat.reduceSub];gi_wp2
 go_end0
 exact⟨rfl,rfl⟩
theorem Xy1 (b1 b2 b3:Nat) (n:Int) (v2 v3:Value) (hn:n≠0) (h23:b3≠b2) (u:FrameMode) (w:World) (h1:w.heap[b1]? = some (.cells #[.int .i64 n] 33 (0,0))) (h2:w.heap[b2]? = some (.cells #[v2] 65 (0,0))) (h3:w.heap[b3]? = some (.cells #[v3] 3 (0,0))) :
  CallsDIn Fence.wide 0 Tryz.prog 112 #[.pointer (some ⟨b1,0,none⟩),.pointer (some ⟨b2,0,none⟩),.pointer (some ⟨b3,0,none⟩)] u w fun e u' w'=>u'=u/\e = .returned (.tuple #[])/\w'=(w.setCell ⟨b2,0,none⟩ (.slice none 0 0)).setCell ⟨b3,0,none⟩ (.int .i64 0):=by
 have c1:=Xe h1;have c2:=Xe h2;have f2:=Xf h2 0;have h4:=(Below.heap_setCell w ⟨b2,0,none⟩ (.slice none 0 0) b3 h23).trans h3;have c3:=Xe h4;have f3:=Xf h4 0;have hn1:(n == 0)=false:=by simpa using hn
 clear hn h4 h1 h2 h3;refine callsDIn_of_wp (R:=fun e w'=>e = .returned (.tuple #[])/\w'=(w.setCell ⟨b2,0,none⟩ (.slice none 0 0)).setCell ⟨b3,0,none⟩ (.int .i64 0)) Tryz.func112 rfl trivial ?_;simp only[Tryz.ntmps112,Zr,Nat.reduceAdd,Nat.reduceSub];gi_wp2
 go_end0
 exact⟨rfl,rfl⟩
def drD (b:Nat):List Deferred :=
  [{target:=.fn (.func 113) #[],args:=#[.pointer (some ⟨b+1+1+1+1+1+1+1,0,none⟩)]},
   {target:=.fn (.func 112) #[.pointer (some ⟨b+1+1+1+1+1+1+1,0,none⟩),.pointer (some ⟨b+1+1+1+1+1,0,none⟩),.pointer (some ⟨b+1+1+1+1+1+1,0,none⟩)],args:=#[]}]
structure DrR (W:World) (b:Nat) (v5 v6 v7:Value):Prop where
 t:W.heap[b+1+1+1+1+1]? = some (.cells #[v5] 65 (0,0))
 n:W.heap[b+1+1+1+1+1+1]? = some (.cells #[v6] 3 (0,0))
 e:W.heap[b+1+1+1+1+1+1+1]? = some (.cells #[v7] 33 (0,0))
def Xy2 (W:World) (b:Nat) (n:Int):World:=((W.setCell ⟨b+1+1+1+1+1+1+1,0,none⟩ (.int .i64 n)).setCell ⟨b+1+1+1+1+1,0,none⟩ (.slice none 0 0)).setCell ⟨b+1+1+1+1+1+1,0,none⟩ (.int .i64 0)
theorem Z5 {w W:World} {b:Nat} {n:Int} (h:Below w.heap.size w W) (hb:w.heap.size<=b):Below w.heap.size w (Xy2 W b n) :=
 ((h.setCell (p:=⟨b+1+1+1+1+1+1+1,0,none⟩) (by show w.heap.size<=b+1+1+1+1+1+1+1;omega) _).setCell (p:=⟨b+1+1+1+1+1,0,none⟩) (by show w.heap.size<=b+1+1+1+1+1;omega) _).setCell (p:=⟨b+1+1+1+1+1+1,0,none⟩) (by show w.heap.size<=b+1+1+1+1+1+1;omega) _
theorem Z6 {tmps:Array Value} {R:Ending->World->Prop} {b:Nat} {n:Int} {W:World} {v5 v6 v7:Value} (h:DrR W b v5 v6 v7) (hn:n≠0)
  (hres:∀W,DrR W b (.slice none 0 0) (.int .i64 0) (.int .i64 n)->(results Tryz.f51 tmps).run Tryz.prog W = .ok (.tuple #[.slice none 0 0,.int .i64 0,.int .i64 n]) W) (hR:R (.returned (.tuple #[.slice none 0 0,.int .i64 0,.int .i64 n])) (Xy2 W b n)) :
  LeavesInM Fence.wide 0 Tryz.prog Tryz.f51 tmps R (drD b) (.panicking (Ud n)) W:=by
 refine⟨by simp,.inr ⟨(fun h=>(by cases h)),.func 113,#[],113,#[.pointer (some ⟨b+1+1+1+1+1+1+1,0,none⟩)],rfl,by simp[go_sem],fun _ _=>trivial,?_⟩⟩;refine(Xml _ _ _ _ h.e).mono ?_;rintro e u' w' ⟨rfl,rfl,rfl⟩;have e3:=Xcr h.e (.int .i64 n);have t3:=(Below.heap_setCell W ⟨b+1+1+1+1+1+1+1,0,none⟩ (.int .i64 n) (b+1+1+1+1+1) (by show b+1+1+1+1+1≠b+1+1+1+1+1+1+1;omega)).trans h.t;have n3:=(Below.heap_setCell W ⟨b+1+1+1+1+1+1+1,0,none⟩ (.int .i64 n) (b+1+1+1+1+1+1) (by show b+1+1+1+1+1+1≠b+1+1+1+1+1+1+1;omega)).trans h.n;refine⟨by simp[settle],.inr ⟨(fun h=>(by cases h)),.func 112,_,112,#[.pointer (some ⟨b+1+1+1+1+1+1+1,0,none⟩),.pointer (some ⟨b+1+1+1+1+1,0,none⟩),.pointer (some ⟨b+1+1+1+1+1+1,0,none⟩)],rfl,by simp[go_sem],fun _ _=>trivial,?_⟩⟩;refine(Xy1 _ _ _ n _ _ hn (by omega) _ _ e3 t3 n3).mono ?_;rintro e u' w' ⟨rfl,rfl,rfl⟩;have t4:=Xcr t3 (.slice none 0 0)
 have hr:DrR (Xy2 W b n) b (.slice none 0 0) (.int .i64 0) (.int .i64 n):=by
  refine⟨(Below.heap_setCell _ _ _ _ (by show b+1+1+1+1+1≠b+1+1+1+1+1+1;omega)).trans t4,Xcr ((Below.heap_setCell _ _ _ _ (by show b+1+1+1+1+1+1≠b+1+1+1+1+1;omega)).trans n3) _,(Below.heap_setCell _ _ _ _ (by show b+1+1+1+1+1+1+1≠b+1+1+1+1+1+1;omega)).trans ((Below.heap_setCell _ _ _ _ (by show b+1+1+1+1+1+1+1≠b+1+1+1+1+1;omega)).trans e3)⟩
 exact⟨_,hres _ hr,hR⟩
theorem Xob {tmps:Array Value} {R:Ending->World->Prop} {b:Nat} {W:World} {v5 v6:Value} (h:DrR W b v5 v6 (.int .i64 0))
  (hres:∀W,DrR W b v5 v6 (.int .i64 0)->(results Tryz.f51 tmps).run Tryz.prog W = .ok (.tuple #[v5,v6,.int .i64 0]) W) (hR:R (.returned (.tuple #[v5,v6,.int .i64 0])) W) :
  LeavesInM Fence.wide 0 Tryz.prog Tryz.f51 tmps R (drD b) .returning W:=by
 refine⟨by simp,.inr ⟨(fun h=>(by cases h)),.func 113,#[],113,#[.pointer (some ⟨b+1+1+1+1+1+1+1,0,none⟩)],rfl,by simp[go_sem],fun _ _=>trivial,?_⟩⟩;refine(Xmm _ _).mono ?_;rintro e u' w' ⟨rfl,rfl,rfl⟩;refine⟨by simp[settle],.inr ⟨(fun h=>(by cases h)),.func 112,_,112,#[.pointer (some ⟨b+1+1+1+1+1+1+1,0,none⟩),.pointer (some ⟨b+1+1+1+1+1,0,none⟩),.pointer (some ⟨b+1+1+1+1+1+1,0,none⟩)],rfl,by simp[go_sem],fun _ _=>trivial,?_⟩⟩;refine(Xu9 _ _ _ _ _ h.e).mono ?_;rintro e u' w' ⟨rfl,rfl,rfl⟩;exact⟨_,hres _ h,hR⟩
theorem Qt {P:Program} {fn:Func} {tmps:Array Value} {R:Ending->World->Prop} {rest:List Deferred} {u:FrameMode} (hu:u ≠ .run):∀(Ds:List Nat) (W:World),(∀D∈Ds,W.heap[D]? = some (.deferred (some [])))->Ds.Nodup ->
  (∀W',W'.os=W.os->W'.tape=W.tape->W'.output=W.output->W'.heap.size=W.heap.size->(∀k,k∉Ds->W'.heap[k]? = W.heap[k]?)->LeavesInM Fence.wide 0 P fn tmps R rest u W')->LeavesInM Fence.wide 0 P fn tmps R (Ds.map colD++rest) u W
 | [],W,_,_,hR=>hR W rfl rfl rfl rfl fun _ _=>rfl
 | D :: Ds,W,hd,hnd,hR=>by
  have hD:=hd D (List.mem_cons_self ..);have hn1:=(List.nodup_cons.1 hnd).1;refine⟨hu,.inl ⟨_,_,rfl,run_takeDeferred hD,Qt hu Ds _ (fun E hE=>?_) (List.nodup_cons.1 hnd).2 fun W' h1 h2 h3 h4 h5=>hR W' (h1.trans rfl) (h2.trans rfl) (h3.trans rfl) (h4.trans (by simp)) fun k hk=>?_⟩⟩
  ·exact(World.putObj_heap_other (by rintro rfl;exact hn1 hE)).trans (hd E (List.mem_cons_of_mem _ hE))
  ·exact(h5 k (fun h=>hk (List.mem_cons_of_mem _ h))).trans (World.putObj_heap_other (by rintro rfl;exact hk (List.mem_cons_self ..)))
def EncS (c:List ByteArray) (vs:Array Value) (W:World):Prop:=∃A cp,vs=#[.slice A c.length cp]/\StrS.lies W ⟨A,cp,c⟩/\∀b off,A=some ⟨b,off,none⟩->0<c.length->∃cs fr,W.heap[b]? = some (.cells cs 9 fr)
def Xid (m N:Nat):Value:=.func (.func 174) #[] #[.pointer (some ⟨N,0,none⟩),.pointer (some ⟨m,0,none⟩),.pointer (some ⟨N+1,0,none⟩)]
structure ContB (W:World) (m N:Nat) (mo:StrS) (n:Nat) (v:Value):Prop where
 more:W.heap[m]? = some (.cells #[.slice mo.addr mo.xs.length mo.cap] 22 (0,0))
 many:W.heap[m+1]? = some (.cells #[.int .i64 n] 3 (0,0))
 box:W.heap[N]? = some (.cells #[v] 22 (0,0))
 frm:W.heap[N+1]? = some (.cells #[Xid m N] 241 (0,0))
def Xhj (mo:StrS) (n:Nat) (ws:List ByteArray) (w:World) (e:Ending) (w':World):Prop :=
 ∃N v,e = .returned (.func (.func 175) #[] #[.pointer (some ⟨N+1,0,none⟩),.pointer (some ⟨w.heap.size+1,0,none⟩)])/\ContB w' w.heap.size N mo n v/\OwnL strD 9 1 w' (w.heap.size+1+1) v ws/\w.heap.size+1+1<=N/\w'.heap.size=N+1+1/\(∀g,v.ownBlock=some g->g<N)/\Below w.heap.size w w'
theorem Xu6 (ws mo:StrS) (n:Nat) (w:World) (hw:ws.lies w) (hl:ws.xs.length<=1000):Calls Tryz.prog 118 #[.slice ws.addr ws.xs.length ws.cap,.slice mo.addr mo.xs.length mo.cap,.int .i64 n] w (Xhj mo n ws.xs w):=by
 have hmf:∀(fn:Fn) (first cap:Array Value) (w:World),(Instr.makeFunc fn first cap).run Tryz.prog w = .ok (.func fn first cap) w:=fun _ _ _ _=>rfl;obtain⟨W2,hW2⟩:∃W2,(w.alloc (.cells #[.slice mo.addr mo.xs.length mo.cap] 22)).alloc (.cells #[.int .i64 (n:Int)] 3)=W2:=⟨_,rfl⟩
 have hz2:W2.heap.size=w.heap.size+1+1:=by rw[<- hW2];simp only[World.size_alloc]
 have hB2:Below w.heap.size w W2:=by rw[<- hW2];exact Xg ba_q _
 have f0:W2.heap[w.heap.size]? = some (.cells #[.slice mo.addr mo.xs.length mo.cap] 22 (0,0)):=by
  rw[<- hW2];exact(Below.heap_alloc _ _ _ (by simp only[World.size_alloc];omega)).trans (World.alloc_heap_new _ _)
 have f1:W2.heap[w.heap.size+1]? = some (.cells #[.int .i64 (n:Int)] 3 (0,0)):=by
  rw[<- hW2];exact Xo _ _ _ (by simp)
 have hC:=Xf7 ws.addr ws.cap ws.xs W2 (by rw[Tb];exact(hw.ext hB2).rd) hw.nil (by omega);have HC:=Xa hC;have HB2:=Xa hB2;have F0:=Xa f0;have F1:=Xa f1;have Hz2:=Xa hz2;clear hC hB2 f0 f1 hw hz2;go_enter Tryz.func118,Tryz.ntmps118
 go_wp2_with fail
 clear hW2;refine HC.out.mono ?_;rintro e w3 ⟨v,rfl,hown,hb3⟩;obtain⟨Av,cv,rfl,_⟩:=hown.form (by decide);obtain⟨W4,hW4⟩:∃W4,(w3.alloc (.cells #[.slice Av ws.xs.length cv] 22)).alloc (.cells #[.nilFunc] 241)=W4:=⟨_,rfl⟩
 have hB4:Below w3.heap.size w3 W4:=by rw[<- hW4];exact Xg ba_q _
 have hz4:W4.heap.size=w3.heap.size+1+1:=by rw[<- hW4];simp only[World.size_alloc]
 have f2:W4.heap[w3.heap.size]? = some (.cells #[.slice Av ws.xs.length cv] 22 (0,0)):=by
  rw[<- hW4];exact(Below.heap_alloc _ _ _ (by simp only[World.size_alloc];omega)).trans (World.alloc_heap_new _ _)
 have f3:W4.heap[w3.heap.size+1]? = some (.cells #[.nilFunc] 241 (0,0)):=by
  rw[<- hW4];exact Xo _ _ _ (by simp)
 have c5:=Xe f3;have z5:=Xf f3 0
 have hst:(store ⟨w3.heap.size+1,0,none⟩ (.func (.func 174) #[] #[.pointer (some ⟨w3.heap.size,0,none⟩),.pointer (some ⟨w.heap.size,0,none⟩),.pointer (some ⟨w3.heap.size+1,0,none⟩)])).run Tryz.prog W4 = .ok () (W4.setCell ⟨w3.heap.size+1,0,none⟩ (Xid w.heap.size w3.heap.size)):=by
  rw[run_store _ _ _ _ _ rfl];rw[c5,z5];rfl
 have hfin:Xhj mo n ws.xs w (.returned (.func (.func 175) #[] #[.pointer (some ⟨w3.heap.size+1,0,none⟩),.pointer (some ⟨w.heap.size+1,0,none⟩)])) (W4.setCell ⟨w3.heap.size+1,0,none⟩ (Xid w.heap.size w3.heap.size)):=by
  have hsz:=hb3.size;rw[Hz2.out] at hsz;have ot:∀ {b:Nat} {o:Obj},W4.heap[b]? = some o->b≠w3.heap.size+1->(W4.setCell ⟨w3.heap.size+1,0,none⟩ (Xid w.heap.size w3.heap.size)).heap[b]? = some o:=fun {b o} h hb=>(Below.heap_setCell _ _ _ _ hb).trans h;have k0:=(hB4.block _ (by omega)).trans ((hb3.block _ (by rw[Hz2.out];omega)).trans F0.out);have k1:=(hB4.block _ (by omega)).trans ((hb3.block _ (by rw[Hz2.out];omega)).trans F1.out);refine⟨w3.heap.size,.slice Av ws.xs.length cv,rfl,⟨ot k0 (by omega),ot k1 (by omega),ot f2 (by omega),Xs f3 0 _⟩,?_,hsz,by simpa[World.setCell] using hz4,fun g hg=>(hown.lt g hg).2,?_⟩
  ·have h1:=(hown.ext hB4).mono (show w.heap.size+1+1<=W2.heap.size from by rw[Hz2.out];exact Nat.le_refl _)
   refine h1.block fun g hg=>Below.heap_setCell _ _ _ _ ?_;have:=(hown.lt g hg).2;show g≠w3.heap.size+1;omega
  ·exact(Xb (Xb HB2.out hb3) hB4).setCell (p:=⟨w3.heap.size+1,0,none⟩) (by show w.heap.size<=w3.heap.size+1;omega) _
 have HF:=Xa hfin;clear hown hb3 hB4 hz4 f2 f3 hfin HC HB2 F0 F1 Hz2;go_wp2_with fail
 go_ret;exact HF.out
/-! ### between two steps -/
structure DrSt (w0:World) (N B0 B1 D:Nat) (R M:Nat->Prop) (J:(Nat->Prop)->List (List ByteArray)->World->Prop) (own:Nat->Prop) (ys:List (List ByteArray)) (cur:List ByteArray) (v:Value) (W:World):Prop where
 j:J own ys W
 keep:∀b,R b->¬M b->W.heap[b]? = w0.heap[b]?
 apart:∀b,own b->¬R b
 live:∀b,own b->b<W.heap.size
 size:B1<=W.heap.size
 box:W.heap[N]? = some (.cells #[v] 22 (0,0))
 row:OwnL strD 9 1 W D v cur
 free:∀g,v.ownBlock=some g->¬own g/\(M g\/B1<=g)
structure Xhk (w0:World) (N B0 B1 D:Nat) (R M:Nat->Prop):Prop where
 mN:M N
 mR:∀b,M b->R b
 rB:∀b,R b->b<B0
 bb:B0<=B1
 size:w0.heap.size<=B1
 db:D<=B1
 old:∀b,R b->b<w0.heap.size
section
variable {w0:World} {N B0 B1 D:Nat} {R M:Nat->Prop} {J:(Nat->Prop)->List (List ByteArray)->World->Prop} {own:Nat->Prop} {ys:List (List ByteArray)} {cur:List ByteArray} {v:Value} {W:World}
theorem DrSt.neN (h:DrSt w0 N B0 B1 D R M J own ys cur v W) {g:Nat} (hg:v.ownBlock=some g):g≠N:=by
 rintro rfl;obtain⟨c,hc⟩:=OwnL.kind h.row hg;rw[h.box] at hc;simp only[Option.some.injEq,Obj.cells.injEq] at hc;exact absurd hc.2.1 (by decide)
theorem DrSt.ext {W':World} (E:Xhk w0 N B0 B1 D R M) (h:DrSt w0 N B0 B1 D R M J own ys cur v W) (hJ:Yp B0 M J) (hb:Below W.heap.size W W'):DrSt w0 N B0 B1 D R M J own ys cur v W' :=
 have hsz:=h.size
 ⟨hJ own ys W W' h.j (IterStep.of_below hb),fun b hR hn=>(hb.block b (by have:=E.rB b hR;have:=E.bb;omega)).trans (h.keep b hR hn),h.apart,fun b ho=>Nat.lt_of_lt_of_le (h.live b ho) hb.size,Nat.le_trans h.size hb.size,(hb.block _ (Xd h.box)).trans h.box,h.row.ext hb,h.free⟩
theorem DrSt.enc (h:DrSt w0 N B0 B1 D R M J own ys cur v W):EncS cur #[v] W:=by
 obtain⟨A,cp,rfl,hr,hn⟩:=h.row.form (by decide);refine⟨A,cp,rfl,⟨by rw[<- Tb];exact hr,?_,?_,hn⟩,fun b off hA h0=>?_⟩
 ·rcases h.row.2 with ⟨h1,h2⟩|⟨g9,c9,c,h1,_,_,h4,h5,_⟩
  ·show cur.length<=cp;omega
  ·injection h1 with _ _ e;subst e;exact h4
 ·rcases h.row.2 with ⟨h1,h2⟩|⟨g9,c9,c,h1,_,_,h4,h5,_⟩
  ·injection h1 with _ _ e;subst e;show 0<=_;omega
  ·injection h1 with _ _ e;subst e;unfold maxLen at h5;exact h5
 ·rcases h.row.2 with ⟨h1,h2⟩|⟨g9,c9,c,h1,_,h3,_⟩
  ·omega
  ·injection h1 with h1 _ _
   rw[hA] at h1;cases h1;exact⟨_,_,h3⟩
theorem DrSt.boxG (E:Xhk w0 N B0 B1 D R M) (h:DrSt w0 N B0 B1 D R M J own ys cur v W) {W1:World} (hg:W.grownBy W1 v.ownBlock) {b:Nat} {o:Obj} (hb:W.heap[b]? = some o) (hR:R b) (hM:¬M b\/b=N):W1.heap[b]? = some o:=by
 refine(hg.block b (Xd hb) fun e=>?_).trans hb;rcases hM with hM|rfl
 ·rcases(h.free b e.symm).2 with h1|h1
  ·exact hM h1
  ·have:=E.rB b hR;have:=E.bb;omega
 ·exact h.neN e.symm rfl
theorem DrSt.push (E:Xhk w0 N B0 B1 D R M) (h:DrSt w0 N B0 B1 D R M J own ys cur v W) (hJ:Yp B0 M J) {W1:World} {v':Value} {x:ByteArray}
  (ho:OwnL strD 9 1 W1 D v' (cur++[x])) (hg:W.grownBy W1 v.ownBlock) (hv:v'.ownBlock=v.ownBlock\/v'.ownBlock=some W.heap.size) :
  DrSt w0 N B0 B1 D R M J own ys (cur++[x]) v' (W1.setCell ⟨N,0,none⟩ v'):=by
 have hRN:=E.mR _ E.mN;have hother:∀k,k≠N->(W1.setCell ⟨N,0,none⟩ v').heap[k]? = W1.heap[k]? := fun k hk=>Below.heap_setCell _ _ _ _ hk;have hz:(W1.setCell ⟨N,0,none⟩ v').heap.size=W1.heap.size:=by simp[World.setCell]
 have hsz:=h.size;have hbb:=E.bb;have hb1:W1.heap[N]? = some (.cells #[v] 22 (0,0)):=h.boxG E hg h.box hRN (.inr rfl);refine⟨hJ own ys W _ h.j ⟨hg.os,hg.tape,hg.output,by rw[hz];exact hg.size,fun k hk hc=>?_⟩,fun b hR hn=>?_,h.apart,fun b hb=>by rw[hz];exact Nat.lt_of_lt_of_le (h.live b hb) hg.size,by rw[hz];exact Nat.le_trans hsz hg.size,Xs hb1 0 _,ho.block fun g hg'=>hother g ?_,fun g hg'=>?_⟩
 ·have hne:k≠N:=by
   rintro rfl;rcases hc with hc|hc
   ·exact hc.2 E.mN
   ·exact h.apart _ hc hRN
  refine(hother k hne).trans (hg.block k hk fun e=>?_);rcases hc with hc|hc
  ·rcases(h.free k e.symm).2 with h1|h1
   ·exact hc.2 h1
   ·omega
  ·exact(h.free k e.symm).1 hc
 ·refine(hother b (by rintro rfl;exact hn E.mN)).trans ((hg.block b (by have:=E.rB b hR;omega) fun e=>?_).trans (h.keep b hR hn))
  rcases(h.free b e.symm).2 with h1|h1
  ·exact hn h1
  ·have:=E.rB b hR;omega
 ·rintro rfl
  obtain⟨c,hc⟩:=OwnL.kind ho hg';rw[hb1] at hc;simp only[Option.some.injEq,Obj.cells.injEq] at hc;exact absurd hc.2.1 (by decide)
 ·rcases hv with e|e
  ·exact h.free g (e ▸ hg')
  ·rw[e] at hg'
   cases hg';exact⟨fun hc=>by have:=h.live _ hc;omega,.inr hsz⟩
theorem DrSt.form {x:ByteArray} (h:DrSt w0 N B0 B1 D R M J own ys (cur++[x]) v W):∃g cp,v = .slice (some ⟨g,0,none⟩) (cur.length+1) cp/\cur.length+1<=cp:=by
 rcases h.row.2 with ⟨h1,h2⟩|⟨g9,c9,c,h1,h2,h3,h4,h5,_⟩
 ·simp at h2
 ·rw[List.length_append] at h1 h4
  exact⟨g9,c9,h1,h4⟩
theorem DrSt.pop {x:ByteArray} {g cp:Nat} (E:Xhk w0 N B0 B1 D R M) (h:DrSt w0 N B0 B1 D R M J own ys (cur++[x]) (.slice (some ⟨g,0,none⟩) (cur.length+1) cp) W) (hJ:Yp B0 M J) :
  DrSt w0 N B0 B1 D R M J own ys cur (.slice (some ⟨g,0,none⟩) cur.length cp) (W.setCell ⟨N,0,none⟩ (.slice (some ⟨g,0,none⟩) cur.length cp)):=by
 have hRN:=E.mR _ E.mN;have hother:∀k,k≠N->(W.setCell ⟨N,0,none⟩ (.slice (some ⟨g,0,none⟩) cur.length cp)).heap[k]? = W.heap[k]? := fun k hk=>Below.heap_setCell _ _ _ _ hk;have hz:(W.setCell ⟨N,0,none⟩ (.slice (some ⟨g,0,none⟩) cur.length cp)).heap.size=W.heap.size:=by simp[World.setCell]
 have hgN:=h.neN (g:=g) rfl;refine⟨hJ own ys W _ h.j ⟨rfl,rfl,rfl,by rw[hz];exact Nat.le_refl _,fun k hk hc=>hother k ?_⟩,fun b hR hn=>(hother b (by rintro rfl;exact hn E.mN)).trans (h.keep b hR hn),h.apart,fun b hb=>by rw[hz];exact h.live b hb,by rw[hz];exact h.size,Xs h.box 0 _,?_,fun g' hg'=>h.free g' hg'⟩
 ·rintro rfl
  rcases hc with hc|hc
  ·exact hc.2 E.mN
  ·exact h.apart _ hc hRN
 ·have ho:OwnL strD 9 1 W D (.slice (some ⟨g,0,none⟩) cur.length cp) cur:=by
   obtain⟨_,h2⟩:=h.row;refine⟨Y0 strD 1 (fun _=>rfl) cur,?_⟩;rcases h2 with ⟨_,h2⟩|⟨g9,c9,c,h1,h2,h3,h4,h5,h6,h7⟩
   ·simp at h2
   ·injection h1 with e1 _ e3
    cases e1;subst e3;refine .inr ⟨g,cp,c,rfl,h2,h3,by rw[List.length_append] at h4;omega,h5,h6,?_⟩;rw[Nat.mul_one];have h8:=congrArg (List.take cur.length) h7;rw[List.take_take,List.length_append,Nat.mul_one,Nat.min_eq_left (by omega),List.flatMap_append] at h8;rw[h8,List.take_left' (by rw[Y0 strD 1 (fun _=>rfl),Nat.mul_one])]
  refine ho.block fun g' hg'=>hother g' ?_;cases hg';exact hgN
theorem DrSt.body {own':Nat->Prop} {W':World} {y:List ByteArray} (E:Xhk w0 N B0 B1 D R M) (h:DrSt w0 N B0 B1 D R M J own ys cur v W) (hb:BodyStep own own' W W') (hj:J own' (ys++[y]) W'):DrSt w0 N B0 B1 D R M J own' (ys++[y]) cur v W':=by
 have hsz:=h.size;have hbb:=E.bb;have hR:∀b,R b->W'.heap[b]? = W.heap[b]? := fun b hr=>hb.block b (by have:=E.rB b hr;omega) fun ho=>h.apart b ho hr;refine⟨hj,fun b hr hn=>(hR b hr).trans (h.keep b hr hn),fun b ho hr=>?_,hb.live,Nat.le_trans hsz hb.size,(hR _ (E.mR _ E.mN)).trans h.box,h.row.block fun g hg=>hb.block g (h.row.lt g hg).2 (h.free g hg).1,fun g hg=>⟨fun ho=>?_,(h.free g hg).2⟩⟩
 ·rcases hb.owns b ho with h1|h1
  ·exact h.apart b h1 hr
  ·have:=E.rB b hr;omega
 ·rcases hb.owns g ho with h1|h1
  ·exact(h.free g hg).1 h1
  ·have:=(h.row.lt g hg).2;omega
end
end
end Go.Proofs.YtolpbjjapodmnaaGreatDoor
