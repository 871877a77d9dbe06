/- Texts of this claim, one after the other: Chwe, R29j. -/
import Derived.Test.YtolpbjjapodmnaaGreatDoorM12
import Derived.Test.YtolpbjjapodmnaaGreatDoorM11
namespace Go.Proofs.YtolpbjjapodmnaaGreatDoor
open Go.RowKit Go.Han
attribute [local irreducible] wpStill wpQuiet
set_option maxRecDepth 100000
theorem Xrf {es:List Nat} {Ad:Option Addr} {n cp:Nat} {V:World} (h:EncW es #[.slice Ad n cp] V) (h0:0<es.length) :
  n=es.length∧∃b off,Ad=some ⟨b,off,none⟩∧(∃cs fr,V.heap[b]? = some (.cells cs 3 fr))∧∀W:World,W.heap[b]? = V.heap[b]? → ∀(q:Nat) (hq:q<es.length),W.cell? ⟨b,off+q,none⟩=some (.int .i64 (es[q]:Nat)):=by
 obtain⟨A',cp',e,hr,hc,hb⟩:=h
 obtain⟨rfl,rfl,rfl⟩:Ad=A'∧n=es.length∧cp=cp':=by simpa using e
 refine⟨rfl,?_⟩
 rcases hr with hn|⟨b,off,h1,h2,h3⟩
 ·have:=Xfc (es.map fun m:Nat=>(m:Int))
  rw[hn] at this
  simp at this
  omega
 ·refine⟨b,off,h1,hb b off h1 h0,fun W hW q hq=>?_⟩
  refine(World.cell?_of_block (w:=V) hW).trans (h3 q _ ?_)
  have hl:∀(l:List Int) (q:Nat) (hq:q<l.length),(l.flatMap intC)[q]? = some (.int .i64 l[q]):=by
   intro l
   induction l with
   | nil=>intro q hq;simp at hq
   | cons x l ih =>
    intro q hq
    cases q with
    | zero=>rfl
    | succ q =>
     have:=ih q (by simpa using hq)
     simpa[intC] using this
  have:=hl (es.map fun m:Nat=>(m:Int)) q (by simpa using hq)
  simpa using this
theorem Xl6:((Tryz.prog.info? 37).bind (fun i=>i.zero)).map (fun z=>z.cells.size)=some 5:=by kernel_rfl
theorem Xfl:∃i z,Tryz.prog.info? 37=some i∧i.zero=some z∧i.size=5∧i.bytes=56∧z.cells.size=5:=by
 have h1:=Xk0
 have h2:=Xl6
 cases h:Tryz.prog.info? 37 with
 | none=>rw[h] at h1;cases h1
 | some i =>
  rw[h] at h1 h2
  cases hz:i.zero with
  | none=>simp[hz] at h2
  | some z =>
   simp[hz] at h1 h2
   exact⟨i,z,rfl,hz,h1.1,h1.2,h2⟩
section
variable {e0:World} {cb kb wb top fb:Nat} {g:Gram} {its:SlS ItemG} {N:Nat} {X:Nat→Prop} {f0:X8→Option FoundG} {c:Int} {i k:Nat}
def XO (X:Nat→Prop) (M B0 B:Nat) (own:Nat→Prop) (b:Nat):Prop:=X b∨b=M∨(B0≤b∧b<B∧¬own b)
theorem WaSt.done {W0:World} {M:Nat} {L:List Dv} {r:Nat→List Nat→List Dv} {j:Nat} {own:Nat→Prop} {pre:List (List Nat)} {es:List Nat} {V W':World} {fd:FoundG} {f':X8→Option FoundG}
  (h:WaSt e0 cb kb wb top fb g its N X f0 c i k W0 M L r j own pre V) (hlive:∀b,own b→b<V.heap.size) (hO:Only (fun b=>b=kb∨b=fb) V W')
  (h1:W'.heap[fb]? = some (.cells #[.bool fd.ok,.int .i64 fd.cost,.int .i64 fd.rule,.int .i64 fd.item,.int .i64 fd.frm,.int .i64 fd.unt,.slice fd.kids.addr fd.kids.len fd.kids.cap,.int .i64 fd.many] 114 (0,0))) (h2:FoundOk (XO X M W0.heap.size V.heap.size own) W' fd (Fd.of bigN (L++(pre++[es]).flatMap (r j)))) (h3:KnownF (XO X M W0.heap.size V.heap.size own) g its.xs N kb f' W') (h4:Grew g (muG g c i k) f0 f') :
  ∃own',BodyStep own own' V W'∧WaSt e0 cb kb wb top fb g its N X f0 c i k W0 M L r j own' (pre++[es]) W':=by
 have hz:=h.size
 have hzz:=hO.size
 have ht:∀t x,TreeW (XO X M W0.heap.size V.heap.size own) W' t x→TreeW (XR X M W0.heap.size (fun b=>own b∨(V.heap.size≤b∧b<W'.heap.size))) W' t x:=fun t x ht=>ht.keep (fun _ _ _=>rfl) (Nat.le_refl _) fun b ⟨cs,fr,hb⟩ hn hx=>by
  have hlt:=Xc hb
  rcases hx with hx|hx|⟨hx,hx2⟩
  ·exact hn (.inl hx)
  ·exact hn (.inr (.inl hx))
  ·refine hn (.inr (.inr ⟨hx,?_,fun ho=>hx2 (.inl ho)⟩))
   rcases Nat.lt_or_ge b V.heap.size with h5|h5
   ·exact h5
   ·exact absurd (.inr ⟨h5,hlt⟩) hx2
 refine⟨fun b=>own b∨(V.heap.size≤b∧b<W'.heap.size),⟨hO.os,hO.tape,hO.output,hzz,fun b hb hn=>hO.block b hb fun hm=>hn ?_,fun b hb=>hb.imp id fun h=>h.1,fun b hb=>?_⟩,⟨hO.os.trans h.os,hO.tape.trans h.tape,hO.output.trans h.output,Nat.le_trans hz hzz,fun b hb e1 e2 e3=>(hO.block b (by omega) fun hm=>by rcases hm with hm|hm;exact e1 hm;exact e2 hm).trans (h.keep b hb e1 e2 e3),.inl h.okb,.inl h.ofb,fd,f',h1,h2.keep ht,h3.keep rfl ht,h4⟩⟩
 ·rcases hm with rfl|rfl
  ·exact h.okb
  ·exact h.ofb
 ·rcases hb with hb|hb
  ·have:=hlive b hb;omega
  ·exact hb.2
structure PaSt (g:Gram) (its:SlS ItemG) (N kb:Nat) (X1:Nat→Prop) (f0:X8→Option FoundG) (mu i k:Nat) (V:World) (bk:Nat) (ps:List PartG) (es:List Nat) (fd:FoundG) (L:List Dv) (p at_ q:Nat) (C:Int) (kids:List TreeV) (ks:List TreeG) (e:Nat) (vk:Value) (f':X8→Option FoundG) (W:World):Prop where
 mid:MidE (derG g its.xs) ps i es p at_ q C kids e
 way:WayE (ps.drop p) at_ k (es.drop q)
 lo:i≤at_∧p≤at_-i∧q≤p
 cost:0≤C∧C≤(q:Int)*1000000
 klen:ks.length≤q
 box:W.heap[bk]? = some (.cells #[vk] 30 (0,0))
 kids:KidsW X1 V.heap.size vk kids ks W
 known:KnownF (fun b=>X1 b∨vk.ownBlock=some b) g its.xs N kb f' W
 grew:Grew g mu f0 f'
 found:FoundOk (fun b=>X1 b∨vk.ownBlock=some b) W fd (Fd.of bigN L)
 only:Only (fun b=>b=kb) V W
theorem KidsW.below {X:Nat→Prop} {base:Nat} {v:Value} {kids:List TreeV} {ks:List TreeG} {W W':World} (h:KidsW X base v kids ks W) (hb:Below W.heap.size W W'):KidsW X base v kids ks W' :=
 h.keep hb.size fun b hx=>hb.block b (by rcases hx with hx|⟨⟨_,_,hx⟩,_⟩;exact(h.own.lt b hx).2;exact Xc hx)
theorem PaSt.ext {X1:Nat→Prop} {mu:Nat} {V:World} {bk:Nat} {ps:List PartG} {es:List Nat} {fd:FoundG} {L:List Dv} {p at_ q:Nat} {C:Int} {kids:List TreeV} {ks:List TreeG} {e:Nat} {vk:Value} {f':X8→Option FoundG} {W W':World} (h:PaSt g its N kb X1 f0 mu i k V bk ps es fd L p at_ q C kids ks e vk f' W) (hb:Below W.heap.size W W'):PaSt g its N kb X1 f0 mu i k V bk ps es fd L p at_ q C kids ks e vk f' W' :=
 ⟨h.mid,h.way,h.lo,h.cost,h.klen,(hb.block _ (Xc h.box)).trans h.box,h.kids.below hb,h.known.ext hb,h.grew,h.found.keep fun _ _ ht=>ht.ext hb,h.only.ext hb⟩
theorem PaSt.find {X1:Nat→Prop} {mu m:Nat} {V:World} {bk:Nat} {ps:List PartG} {es:List Nat} {fd:FoundG} {L:List Dv} {p at_ q:Nat} {C:Int} {kids:List TreeV} {ks:List TreeG} {e:Nat} {vk:Value} {f' f'':X8→Option FoundG} {W W':World} (h:PaSt g its N kb X1 f0 mu i k V bk ps es fd L p at_ q C kids ks e vk f' W)
  (hO:Only (fun b=>b=kb) W W') (hk:KnownF (fun b=>X1 b∨vk.ownBlock=some b) g its.xs N kb f'' W') (hg:Grew g m f' f'') (hm:m≤mu):PaSt g its N kb X1 f0 mu i k V bk ps es fd L p at_ q C kids ks e vk f'' W':=by
 obtain⟨es',c',hkm⟩:=h.known.kmap
 have hn:∀ {b:Nat} {cs:Array Value} {t:TypeId} {fr:Nat×Nat},W.heap[b]? = some (.cells cs t fr)→b≠kb:=by
  rintro b cs t fr hb rfl
  rw[hkm] at hb;cases hb
 have hkeep:∀b,KidP W b→W'.heap[b]? = W.heap[b]? := fun b ⟨cs,fr,hb⟩=>hO.block b (Xc hb) (hn hb)
 exact⟨h.mid,h.way,h.lo,h.cost,h.klen,(hO.block _ (Xc h.box) (hn h.box)).trans h.box,h.kids.keep hO.size fun b hx=>hkeep b (by rcases hx with hx|hx;exact h.kids.own.kid hx;exact hx.1),hk,h.grew.trans (hg.mono hm),h.found.keep fun _ _ ht=>ht.keep (fun b hb _=>hkeep b hb) hO.size fun _ _ h=>h,h.only.trans hO⟩
theorem Xl0 {X1:Nat→Prop} {v v':Value} {W W1:World} (hg:W.grownBy W1 v.ownBlock) (hv:v'.ownBlock=v.ownBlock∨v'.ownBlock=some W.heap.size) {t:TreeV} {x:TreeG} (ht:TreeW (fun b=>X1 b∨v.ownBlock=some b) W t x):TreeW (fun b=>X1 b∨v'.ownBlock=some b) W1 t x :=
 ht.keep (fun b ⟨_,_,hb⟩ hn=>hg.block b (Xc hb) fun e=>hn (.inr e.symm)) hg.size fun b ⟨_,_,hb⟩ hn hx=>by
  rcases hx with hx|hx
  ·exact hn (.inl hx)
  ·rcases hv with e|e
   ·exact hn (.inr (e ▸ hx))
   ·rw[e] at hx
    cases hx
    have:=Xc hb
    omega
theorem Xqz {X1:Nat→Prop} {W:World} {bk:Nat} {v u:Value} (hb:W.heap[bk]? = some (.cells #[v] 30 (0,0))) {t:TreeV} {x:TreeG} (ht:TreeW X1 W t x):TreeW X1 (W.setCell ⟨bk,0,none⟩ u) t x :=
 ht.keep (fun b ⟨cs,fr,hk⟩ _=>Below.heap_setCell _ _ _ _ (by
  intro e
  have e:b=bk:=e
  rw[e,hb] at hk
  have:=Option.some.inj hk
  injection this with _ e2 _
  exact absurd e2 (by decide))) (by simp[World.setCell]) fun _ _ h=>h
theorem PaSt.text {X1:Nat→Prop} {mu:Nat} {V:World} {bk:Nat} {ps:List PartG} {es:List Nat} {fd:FoundG} {L:List Dv} {p at_ q:Nat} {C:Int} {kids:List TreeV} {ks:List TreeG} {e:Nat} {vk:Value} {f':X8→Option FoundG} {W:World} (h:PaSt g its N kb X1 f0 mu i k V bk ps es fd L p at_ q C kids ks e vk f' W) (hl:p<ps.length) (ht:ps[p].text.size≠0):PaSt g its N kb X1 f0 mu i k V bk ps es fd L (p+1) (at_+1) q C kids ks e vk f' W:=by
 refine⟨Xn3 h.mid hl ht,?_,⟨by have:=h.lo;omega,by have:=h.lo;omega,by have:=h.lo;omega⟩,h.cost,h.klen,h.box,h.kids,h.known,h.grew,h.found,h.only⟩
 have hw:=h.way
 rw[List.drop_eq_getElem_cons hl] at hw
 unfold WayE at hw
 rw[if_pos ht] at hw
 exact hw.2
theorem PaSt.cat {X1:Nat→Prop} {mu:Nat} {V:World} {bk:Nat} {ps:List PartG} {es:List Nat} {fd:FoundG} {L:List Dv} {p at_ q:Nat} {C:Int} {kids:List TreeV} {ks:List TreeG} {e:Nat} {vk vk':Value} {f':X8→Option FoundG} {W W1:World} (h:PaSt g its N kb X1 f0 mu i k V bk ps es fd L p at_ q C kids ks e vk f' W) (hbk:V.heap.size≤bk) (hl:p<ps.length) (ht:¬ps[p].text.size≠0) (hq:q<es.length) {cc:Int} {t:TreeV} {x:TreeG}
  (hA:Xv (derG g its.xs ps[p].no at_ es[q])=some (cc,t)) (hcc:0≤cc∧cc≤1000000) (htw:TreeW (fun b=>X1 b∨vk.ownBlock=some b) W t x) (ho:OwnK W1 V.heap.size vk' (ks++[x])) (hg:W.grownBy W1 vk.ownBlock) (hv:vk'.ownBlock=vk.ownBlock∨vk'.ownBlock=some W.heap.size)
  (hway:at_<es[q]∧WayE (ps.drop (p+1)) es[q] k (es.drop (q+1))):PaSt g its N kb X1 f0 mu i k V bk ps es fd L (p+1) es[q] (q+1) (C+cc) (kids++[t]) (ks++[x]) (e*(derG g its.xs ps[p].no at_ es[q]).length) vk' f' (W1.setCell ⟨bk,0,none⟩ vk'):=by
 have hlo:=h.lo
 have hcost:=h.cost
 have hrow:∀b,vk.ownBlock=some b→V.heap.size≤b∧b<W.heap.size:=fun b hb=>h.kids.own.lt b hb
 have hne:∀b,vk.ownBlock=some b→b≠bk:=by
  rintro b hb rfl
  obtain⟨cs,fr,hk⟩:=h.kids.own.kid hb
  rw[h.box] at hk
  have:=Option.some.inj hk
  injection this with _ e2 _
  exact absurd e2 (by decide)
 have hb1:W1.heap[bk]? = some (.cells #[vk] 30 (0,0)):=(hg.block bk (Xc h.box) fun e=>hne bk e.symm rfl).trans h.box
 obtain⟨es',c',hkm⟩:=h.known.kmap
 have hk1:W1.heap[kb]? = W.heap[kb]? := hg.block kb (Xc hkm) fun e=>by
  obtain⟨cs,fr,hk⟩:=h.kids.own.kid e.symm
  rw[hkm] at hk;cases hk
 have hkb:kb≠bk:=by
  rintro rfl
  have hbx:=h.box
  rw[hkm] at hbx;cases hbx
 have htr:∀t x,TreeW (fun b=>X1 b∨vk.ownBlock=some b) W t x→TreeW (fun b=>X1 b∨vk'.ownBlock=some b) (W1.setCell ⟨bk,0,none⟩ vk') t x:=fun t x ht=>Xqz hb1 (Xl0 hg hv ht)
 have hks:=h.kids.snoc htw ho hg hv
 refine⟨Xqe h.mid hl (by omega) hq hA,hway.2,⟨by omega,by omega,by omega⟩,⟨by omega,by push_cast;omega⟩,by have:=h.klen;rw[List.length_append];simp;omega,Xr hb1 0 _,?_,h.known.keep ((Below.heap_setCell _ _ _ _ hkb).trans hk1) htr,h.grew,h.found.keep htr,?_⟩
 ·refine hks.keep (by simp[World.setCell]) fun b hx=>Below.heap_setCell _ _ _ _ ?_
  intro e
  have e:b=bk:=e
  have hkp:KidP W1 b:=by
   rcases hx with hx|hx
   ·exact ho.kid hx
   ·exact hx.1
  obtain⟨cs,fr,hk⟩:=hkp
  rw[e,hb1] at hk
  have:=Option.some.inj hk
  injection this with _ e2 _
  exact absurd e2 (by decide)
 ·have hO:=h.only
  exact⟨hg.os.trans hO.os,hg.tape.trans hO.tape,hg.output.trans hO.output,by have:=hO.size;have:=hg.size;simp[World.setCell];omega,fun b hb hn=>(Below.heap_setCell _ _ _ _ (by show b≠bk;omega)).trans ((hg.block b (by have:=hO.size;omega) fun e=>by have:=(hrow b e.symm).1;omega).trans (hO.block b hb hn))⟩
theorem PaSt.other {X1:Nat→Prop} {mu:Nat} {V:World} {bk bx:Nat} {ps:List PartG} {es:List Nat} {fd:FoundG} {L:List Dv} {p at_ q:Nat} {C:Int} {kids:List TreeV} {ks:List TreeG} {e:Nat} {vk:Value} {f':X8→Option FoundG} {W W':World} (h:PaSt g its N kb X1 f0 mu i k V bk ps es fd L p at_ q C kids ks e vk f' W)
  (hO:Only (fun b=>b=bx) W W') {cs:Array Value} {fr:Nat×Nat} (hx:W.heap[bx]? = some (.cells cs 114 fr)) (hv:V.heap.size≤bx):PaSt g its N kb X1 f0 mu i k V bk ps es fd L p at_ q C kids ks e vk f' W':=by
 obtain⟨es',c',hkm⟩:=h.known.kmap
 have hn:∀ {b:Nat} {o:Obj},W.heap[b]? = some o→(∀cs fr,o ≠ .cells cs 114 fr)→b≠bx:=by
  rintro b o hb ho rfl
  rw[hx] at hb
  exact ho _ _ (Option.some.inj hb).symm
 have hkeep:∀b,KidP W b→W'.heap[b]? = W.heap[b]? := fun b ⟨cs,fr,hb⟩=>hO.block b (Xc hb) (hn hb fun cs fr e=>by injection e with _ e2 _;exact absurd e2 (by decide))
 have ht:∀t x,TreeW (fun b=>X1 b∨vk.ownBlock=some b) W t x→TreeW (fun b=>X1 b∨vk.ownBlock=some b) W' t x:=fun t x ht=>ht.keep (fun b hb _=>hkeep b hb) hO.size fun _ _ h=>h
 have ho:=h.only
 exact⟨h.mid,h.way,h.lo,h.cost,h.klen,(hO.block _ (Xc h.box) (hn h.box fun cs fr e=>by injection e with _ e2 _;exact absurd e2 (by decide))).trans h.box,h.kids.keep hO.size fun b hx=>hkeep b (by rcases hx with hx|hx;exact h.kids.own.kid hx;exact hx.1),
  h.known.keep (hO.block _ (Xc hkm) (hn hkm fun cs fr e=>by cases e)) ht,h.grew,h.found.keep ht,⟨hO.os.trans ho.os,hO.tape.trans ho.tape,hO.output.trans ho.output,Nat.le_trans ho.size hO.size,fun b hb hne=>(hO.block b (by have:=ho.size;omega) (by show b≠bx;omega)).trans (ho.block b hb hne)⟩⟩
def set8 (V:World) (fb:Nat) (y:FoundG):World:=(((((((V.setCell ⟨fb,0,none⟩ (.bool y.ok)).setCell ⟨fb,1,none⟩ (.int .i64 y.cost)).setCell ⟨fb,2,none⟩ (.int .i64 y.rule)).setCell ⟨fb,3,none⟩ (.int .i64 y.item)).setCell ⟨fb,4,none⟩ (.int .i64 y.frm)).setCell ⟨fb,5,none⟩ (.int .i64 y.unt)).setCell ⟨fb,6,none⟩ (.slice y.kids.addr y.kids.len y.kids.cap)).setCell ⟨fb,7,none⟩ (.int .i64 y.many)
theorem Qn {V:World} {fb:Nat} {f:FoundG} (h:V.heap[fb]? = some (.cells #[.bool f.ok,.int .i64 f.cost,.int .i64 f.rule,.int .i64 f.item,.int .i64 f.frm,.int .i64 f.unt,.slice f.kids.addr f.kids.len f.kids.cap,.int .i64 f.many] 114 (0,0))) (y:FoundG):(set8 V fb y).heap[fb]? = some (.cells #[.bool y.ok,.int .i64 y.cost,.int .i64 y.rule,.int .i64 y.item,.int .i64 y.frm,.int .i64 y.unt,.slice y.kids.addr y.kids.len y.kids.cap,.int .i64 y.many] 114 (0,0)):=by
 have h1:(V.setCell ⟨fb,0,none⟩ (.bool y.ok)).heap[fb]? = some (.cells #[.bool y.ok,.int .i64 f.cost,.int .i64 f.rule,.int .i64 f.item,.int .i64 f.frm,.int .i64 f.unt,.slice f.kids.addr f.kids.len f.kids.cap,.int .i64 f.many] 114 (0,0)):=Xr h 0 _
 have h2:((V.setCell ⟨fb,0,none⟩ (.bool y.ok)).setCell ⟨fb,1,none⟩ (.int .i64 y.cost)).heap[fb]? = some (.cells #[.bool y.ok,.int .i64 y.cost,.int .i64 f.rule,.int .i64 f.item,.int .i64 f.frm,.int .i64 f.unt,.slice f.kids.addr f.kids.len f.kids.cap,.int .i64 f.many] 114 (0,0)):=Xr h1 1 _
 have h3:(((V.setCell ⟨fb,0,none⟩ (.bool y.ok)).setCell ⟨fb,1,none⟩ (.int .i64 y.cost)).setCell ⟨fb,2,none⟩ (.int .i64 y.rule)).heap[fb]? = some (.cells #[.bool y.ok,.int .i64 y.cost,.int .i64 y.rule,.int .i64 f.item,.int .i64 f.frm,.int .i64 f.unt,.slice f.kids.addr f.kids.len f.kids.cap,.int .i64 f.many] 114 (0,0)):=Xr h2 2 _
 have h4:((((V.setCell ⟨fb,0,none⟩ (.bool y.ok)).setCell ⟨fb,1,none⟩ (.int .i64 y.cost)).setCell ⟨fb,2,none⟩ (.int .i64 y.rule)).setCell ⟨fb,3,none⟩ (.int .i64 y.item)).heap[fb]? = some (.cells #[.bool y.ok,.int .i64 y.cost,.int .i64 y.rule,.int .i64 y.item,.int .i64 f.frm,.int .i64 f.unt,.slice f.kids.addr f.kids.len f.kids.cap,.int .i64 f.many] 114 (0,0)):=Xr h3 3 _
 have h5:(((((V.setCell ⟨fb,0,none⟩ (.bool y.ok)).setCell ⟨fb,1,none⟩ (.int .i64 y.cost)).setCell ⟨fb,2,none⟩ (.int .i64 y.rule)).setCell ⟨fb,3,none⟩ (.int .i64 y.item)).setCell ⟨fb,4,none⟩ (.int .i64 y.frm)).heap[fb]? = some (.cells #[.bool y.ok,.int .i64 y.cost,.int .i64 y.rule,.int .i64 y.item,.int .i64 y.frm,.int .i64 f.unt,.slice f.kids.addr f.kids.len f.kids.cap,.int .i64 f.many] 114 (0,0)):=Xr h4 4 _
 have h6:((((((V.setCell ⟨fb,0,none⟩ (.bool y.ok)).setCell ⟨fb,1,none⟩ (.int .i64 y.cost)).setCell ⟨fb,2,none⟩ (.int .i64 y.rule)).setCell ⟨fb,3,none⟩ (.int .i64 y.item)).setCell ⟨fb,4,none⟩ (.int .i64 y.frm)).setCell ⟨fb,5,none⟩ (.int .i64 y.unt)).heap[fb]? = some (.cells #[.bool y.ok,.int .i64 y.cost,.int .i64 y.rule,.int .i64 y.item,.int .i64 y.frm,.int .i64 y.unt,.slice f.kids.addr f.kids.len f.kids.cap,.int .i64 f.many] 114 (0,0)):=Xr h5 5 _
 have h7:(((((((V.setCell ⟨fb,0,none⟩ (.bool y.ok)).setCell ⟨fb,1,none⟩ (.int .i64 y.cost)).setCell ⟨fb,2,none⟩ (.int .i64 y.rule)).setCell ⟨fb,3,none⟩ (.int .i64 y.item)).setCell ⟨fb,4,none⟩ (.int .i64 y.frm)).setCell ⟨fb,5,none⟩ (.int .i64 y.unt)).setCell ⟨fb,6,none⟩ (.slice y.kids.addr y.kids.len y.kids.cap)).heap[fb]? = some (.cells #[.bool y.ok,.int .i64 y.cost,.int .i64 y.rule,.int .i64 y.item,.int .i64 y.frm,.int .i64 y.unt,.slice y.kids.addr y.kids.len y.kids.cap,.int .i64 f.many] 114 (0,0)):=Xr h6 6 _
 have h8:((((((((V.setCell ⟨fb,0,none⟩ (.bool y.ok)).setCell ⟨fb,1,none⟩ (.int .i64 y.cost)).setCell ⟨fb,2,none⟩ (.int .i64 y.rule)).setCell ⟨fb,3,none⟩ (.int .i64 y.item)).setCell ⟨fb,4,none⟩ (.int .i64 y.frm)).setCell ⟨fb,5,none⟩ (.int .i64 y.unt)).setCell ⟨fb,6,none⟩ (.slice y.kids.addr y.kids.len y.kids.cap)).setCell ⟨fb,7,none⟩ (.int .i64 y.many)).heap[fb]? = some (.cells #[.bool y.ok,.int .i64 y.cost,.int .i64 y.rule,.int .i64 y.item,.int .i64 y.frm,.int .i64 y.unt,.slice y.kids.addr y.kids.len y.kids.cap,.int .i64 y.many] 114 (0,0)):=Xr h7 7 _
 exact h8
theorem Ud (V:World) (fb:Nat) (y:FoundG):Only (fun b=>b=fb) V (set8 V fb y):=by
 unfold set8
 have st:∀(U:World) (n:Nat) (u:Value),Only (fun b=>b=fb) V U→Only (fun b=>b=fb) V (U.setCell ⟨fb,n,none⟩ u):=fun U n u h=>Only.setCell (M:=fun j=>j=fb) h (p:=⟨fb,n,none⟩) (.inl rfl) u
 exact st _ _ _ (st _ _ _ (st _ _ _ (st _ _ _ (st _ _ _ (st _ _ _ (st _ _ _ (st _ _ _ (Only.refl _ V))))))))
end
end Go.Proofs.YtolpbjjapodmnaaGreatDoor
namespace Go.Proofs.YtolpbjjapodmnaaGreatDoor
open Go.RowKit Go.Han
set_option maxRecDepth 100000
def kidT (x:Dk):Dv:=(x.1,.node 0 0 0 0 x.2)
theorem Xtf (l:List Dk):Xv (l.map kidT)=(Xv l).map kidT:=by
 induction l with
 | nil=>rfl
 | cons x l ih =>
  rw[List.map_cons,Yo,Yo,ih]
  cases Xv l with
  | none=>rfl
  | some y =>
   show Yy (some (kidT x)) (some (kidT y))=Option.map kidT (Yy (some x) (some y))
   rw[Xt,Xt]
   by_cases h:y.1<x.1
   ·rw[if_pos h,if_pos (show (kidT y).1<(kidT x).1 from h)];rfl
   ·rw[if_neg h,if_neg (show ¬(kidT y).1<(kidT x).1 from h)];rfl
def PartOk (X:Nat→Prop) (w:World) (f:FoundG) (l:List Dk):Prop:=(l=[]∧f.ok=false)∨(l≠[]∧FoundOk X w f (Fd.of bigN (l.map kidT)))
theorem PartOk.keep {X X':Nat→Prop} {w w':World} {f:FoundG} {l:List Dk} (h:PartOk X w f l) (hk:∀t x,TreeW X w t x→TreeW X' w' t x):PartOk X' w' f l:=by
 rcases h with h|⟨h1,h2⟩
 ·exact .inl h
 ·exact .inr ⟨h1,h2.keep hk⟩
theorem FoundOk.some_ {X:Nat→Prop} {w:World} {f:FoundG} {l:List Dv} (h:FoundOk X w f (Fd.of bigN l)) (ho:f.ok=true):∃c t,Xv l=some (c,t)∧f.cost=c∧TreeW X w t f.tree∧f.many=(capN bigN l.length:Nat):=by
 have hb:=h.best
 unfold Fd.of at hb
 cases hl:Xv l with
 | none=>rw[hl] at hb;rw[hb.1] at ho;cases ho
 | some y =>
  obtain⟨c,t⟩:=y
  rw[hl] at hb
  exact⟨c,t,rfl,hb.2.1,hb.2.2,h.many⟩
theorem FoundOk.none_ {X:Nat→Prop} {w:World} {f:FoundG} {l:List Dv} (h:FoundOk X w f (Fd.of bigN l)) (ho:f.ok=false):l=[]:=by
 have hb:=h.best
 unfold Fd.of at hb
 cases hl:Xv l with
 | none=>exact Zw hl
 | some y =>
  obtain⟨c,t⟩:=y
  rw[hl] at hb
  rw[hb.1] at ho;cases ho
theorem PartOk.some_ {X:Nat→Prop} {w:World} {f:FoundG} {l:List Dk} (h:PartOk X w f l) (ho:f.ok=true):∃c ks,Xv l=some (c,ks)∧f.cost=c∧TreeW X w (.node 0 0 0 0 ks) f.tree∧f.many=(capN bigN l.length:Nat):=by
 rcases h with ⟨_,h⟩|⟨_,h⟩
 ·rw[h] at ho;cases ho
 ·obtain⟨c,t,h1,h2,h3,h4⟩:=h.some_ ho
  rw[Xtf] at h1
  cases hl:Xv l with
  | none=>rw[hl] at h1;cases h1
  | some y =>
   obtain⟨c',ks⟩:=y
   rw[hl] at h1
   cases h1
   exact⟨_,_,rfl,h2,h3,by rw[h4,List.length_map]⟩
theorem PartOk.none_ {X:Nat→Prop} {w:World} {f:FoundG} {l:List Dk} (h:PartOk X w f l) (ho:f.ok=false):l=[]:=by
 rcases h with ⟨h,_⟩|⟨_,h⟩
 ·exact h
 ·have:=h.none_ ho
  simpa using this
theorem FoundOk.part {X:Nat→Prop} {w:World} {f:FoundG} {l:List Dk} (h:FoundOk X w f (Fd.of bigN (l.map kidT))):PartOk X w f l:=by
 by_cases hl:l=[]
 ·subst hl
  refine .inl ⟨rfl,?_⟩
  have hb:=h.best
  exact hb.1
 ·exact .inr ⟨hl,h⟩
def Xsz (st:Int→ByteArray→Bool) (A:Int→Nat→Nat→List Dv) (no:Int) (ps:List PartG) (i k m:Nat):List Dk :=
 (List.range' (i+1) m).flatMap fun e=>Y7 List.cons (A no i e) (Ye st A ps e k)
theorem Xs5 (st:Int→ByteArray→Bool) (A:Int→Nat→Nat→List Dv) (no:Int) (ps:List PartG) (i k m:Nat):Xsz st A no ps i k (m+1)=Xsz st A no ps i k m++Y7 List.cons (A no i (i+1+m)) (Ye st A ps (i+1+m) k):=by
 unfold Xsz
 rw[List.range'_concat,List.flatMap_append]
 simp
theorem Xt6 {st:Int→ByteArray→Bool} {A:Int→Nat→Nat→List Dv} {p:PartG} {ps:List PartG} {i k:Nat} (hp:p.text.size=0):Ye st A (p :: ps) i k=Xsz st A p.no ps i k (k-i):=by
 conv=>lhs;unfold Ye
 rw[if_neg (by omega)]
 rfl
mutual
theorem Xt5 {w:World} {P:Nat→Prop}:∀ {t:TreeV} {cs:List Value},TreeAt w P t cs→∀u∈cs,u.oneCell'=true
 | .node r j i k l,cs,h=>by
  unfold TreeAt at h
  obtain⟨A,cap,css,rfl,_⟩:=h
  intro u hu
  simp at hu
  rcases hu with rfl|rfl|rfl|rfl|rfl<;>rfl
theorem Xtg {w:World} {P:Nat→Prop}:∀ {l:List TreeV} {css:List (List Value)},KidsAt w P l css→∀u∈css.flatten,u.oneCell'=true
 | [],css,h=>by unfold KidsAt at h;subst h;intro u hu;simp at hu
 | t :: l,css,h=>by
  unfold KidsAt at h
  obtain⟨cs,css',rfl,h1,h2⟩:=h
  intro u hu
  rw[List.flatten_cons] at hu
  rcases List.mem_append.1 hu with hu|hu
  ·exact Xt5 h1 u hu
  ·exact Xtg h2 u hu
end
theorem Xt9 {X:Nat→Prop} {w V:World} {b:Nat} {t:TreeV} {x y:TreeG} {ks:List TreeV} (hV:Below w.heap.size w V) (hX:∀j,X j→j<w.heap.size) (hb:w.heap.size≤b) (hk:V.heap[b]? = some (.cells #[.int .i64 x.rule,.int .i64 x.item,.int .i64 x.frm,.int .i64 x.unt,.slice x.kids.addr x.kids.len x.kids.cap] 37 (0,0))) (ht:TreeW X w t x) (hy:TreeW X w (.node 0 0 0 0 ks) y) (hf:ks.length≤100000) :
  ∃A n c V',(Builtin.append_ #[30,30] 30 #[.slice (some ⟨b,0,none⟩) 1 1,.slice y.kids.addr y.kids.len y.kids.cap]).run Tryz.prog V = .ok (.slice A n c) V'∧Below w.heap.size w V'∧TreeW X V' (.node 0 0 0 0 (t :: ks)) ⟨0,0,0,0,⟨A,n,c⟩⟩:=by
 unfold TreeW TreeAt at hy
 obtain⟨A0,cap0,css,he,h2,h3,h4,h5,h6,h7⟩:=hy
 have hlen:=Xdu h7
 have hone:=Xtg h7
 injection he with _ he
 injection he with _ he
 injection he with _ he
 injection he with _ he
 injection he with he _
 injection he with e1 e2 e3
 subst e1 e3
 rw[e2]
 obtain⟨i0,z0,hi0,hz0,hz1,hz2,hzs⟩:=Xfl
 have hown:OwnK V w.heap.size (.slice (some ⟨b,0,none⟩) 1 1) [x]:=by
  unfold OwnK OwnL
  refine⟨rfl,.inr ⟨b,1,_,rfl,hb,hk,Nat.le_refl _,by decide,rfl,rfl⟩⟩
 have hr:Rd V y.kids.addr css.flatten:=h6.ext hV
 obtain⟨v',V',hrun,ho,hg,hat⟩:=Xa8 (P:=Tryz.prog) (w:=V) w.heap.size 30 30 37 i0 z0 5 56 Tryz.underlying30 hi0 hz0 hz1 hz2 hzs (by decide) (.slice (some ⟨b,0,none⟩) 1 1) 1 ([x].flatMap TreeG.cells) hown y.kids.addr ks.length y.kids.cap css.flatten hlen hr hone (by unfold maxLen;omega) (by omega) hV.size
 have hB':Below w.heap.size w V':=Xgp hV hown (Nat.le_refl _) hg
 obtain⟨A,c,rfl,hr2,hb2⟩:∃A c,v' = .slice A (1+ks.length) c∧Rd V' A (x.cells++css.flatten)∧(1+ks.length≤c∧c≤9223372036854775807∧∃b' ,A=some ⟨b',0,none⟩∧w.heap.size≤b'∧KidP V' b'):=by
  have hno:=ho.2
  rcases hno with ⟨h8,h9⟩|⟨g9,c9,cur,rfl,h10,h11,h12,h13,h14,h15⟩
  ·exfalso
   simp at h9
  ·refine⟨some ⟨g9,0,none⟩,c9,rfl,.inr ⟨g9,0,rfl,Xc h11,fun j u hu=>?_⟩,h12,by unfold maxLen at h13;omega,g9,rfl,h10,⟨_,_,h11⟩⟩
   have hfl:[x].flatMap TreeG.cells=x.cells:=by simp
   rw[hfl] at h15
   rw[Nat.zero_add,gblk h11]
   rw[← h15,List.getElem?_take] at hu
   split at hu
   ·simpa using hu
   ·cases hu
 refine⟨A,1+ks.length,c,V',hrun,hB',?_⟩
 unfold TreeW TreeAt
 obtain⟨hc1,hc2,b',hA,hb',hkb⟩:=hb2
 have keep:∀j,(KidP w j∧¬X j)→KidP V' j∧¬X j:=fun j ⟨⟨cs,fr,h⟩,hn⟩=>⟨⟨cs,fr,Xh hB' h⟩,hn⟩
 refine⟨A,c,x.cells :: css,by rw[List.length_cons,Nat.add_comm],by rw[List.length_cons];omega,hc2,(fun h=>by rw[hA] at h;cases h),fun _=>⟨b',0,hA,hkb,fun hx=>by have:=hX b' hx;omega⟩,by rw[List.flatten_cons];exact hr2,?_⟩
 unfold KidsAt
 exact⟨x.cells,css,rfl,TreeAt.keep (fun j hj hlt=>hB'.block j hlt) hB'.size keep ht,KidsAt.keep (fun j hj hlt=>hB'.block j hlt) hB'.size keep h7⟩
/-! ### a table that holds nothing but derivations -/
def SoundA (g:Gram) (items:List ItemG) (n:Nat) (A:Int→Nat→Nat→List Dv):Prop:=∀(d:Int) (u v:Nat),0≤d→d<g.cats.xs.length→u<v→v≤n→∀x∈A d u v,x∈derG g items d u v
theorem Xs3 {st:Int→ByteArray→Bool} {A B:Int→Nat→Nat→List Dv} {n:Nat}:∀(ps:List PartG) (i k:Nat) (x:Dk),(∀p∈ps,p.text.size=0→∀u v,u<v→v≤n→∀y∈A p.no u v,y∈B p.no u v)→k≤n→x∈Ye st A ps i k→x∈Ye st B ps i k
 | [],i,k,x,_,_,h=>by unfold Ye at h ⊢;exact h
 | p :: ps,i,k,x,hA,hk,h=>by
  by_cases hp:p.text.size≠0
  ·obtain⟨h1,h2,h3⟩:=(V8 hp).1 h
   exact(V8 hp).2 ⟨h1,h2,Xs3 ps (i+1) k x (fun q hq=>hA q (List.mem_cons_of_mem _ hq)) hk h3⟩
  ·obtain⟨m,h1,h2,a,ha,b,hb,rfl⟩:=(U1 (by simpa using hp)).1 h
   exact(U1 (by simpa using hp)).2 ⟨m,h1,h2,a,hA p (List.mem_cons_self ..) (by simpa using hp) i m (by omega) (by omega) a ha,b,Xs3 ps m k b (fun q hq=>hA q (List.mem_cons_of_mem _ hq)) hk hb,rfl⟩
theorem Xt4 {g:Gram} (hg:Yu g) {items:List ItemG} {n:Nat} {A:Int→Nat→Nat→List Dv} (hA:SoundA g items n A) {c:Int} {i k:Nat} (hk:k≤n):∀x∈Xq c i k 0 items++X4 (Xm items) A c i k 0 g.rules.xs,x∈derG g items c i k:=by
 intro x hx
 rw[Xec hg]
 rcases List.mem_append.1 hx with h|h
 ·exact List.mem_append_left _ h
 ·refine List.mem_append_right _ ?_
  obtain⟨j,r,h1,h2,h⟩:=Zi.1 h
  obtain⟨y,hy,rfl⟩:=Z1.1 h
  refine Zi.2 ⟨j,r,h1,h2,Z1.2 ⟨y,Xs3 (n:=n) r.parts.xs i k y (fun p hp ht u v huv hv z hz=>?_) hk hy,rfl⟩⟩
  have hr:=List.mem_of_getElem? h1
  have hn:=hg.part r hr p hp ht
  have hlt:=Xee p.cat g.cats.xs
  rw[← hn.1] at hlt
  exact hA p.no u v hn.2 hlt huv hv z hz
theorem SoundA.put {g:Gram} (hg:Yu g) {items:List ItemG} {n:Nat} {A:Int→Nat→Nat→List Dv} (hA:SoundA g items n A) {c:Int} {i k:Nat} (hk:k≤n):SoundA g items n (putA A c i k (Xq c i k 0 items++X4 (Xm items) A c i k 0 g.rules.xs)):=by
 intro d u v h0 h1 h2 h3 x hx
 unfold putA at hx
 split at hx
 ·rename_i h
  obtain⟨rfl,rfl,rfl⟩:=h
  exact Xt4 hg hA hk x hx
 ·exact hA d u v h0 h1 h2 h3 x hx
end Go.Proofs.YtolpbjjapodmnaaGreatDoor
