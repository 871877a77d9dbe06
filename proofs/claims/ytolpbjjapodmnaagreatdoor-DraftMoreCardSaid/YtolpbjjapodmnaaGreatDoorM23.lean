/- Texts of this claim, one after the other: Chwe. -/
import Derived.Test.YtolpbjjapodmnaaGreatDoorM22
namespace Go.Proofs.YtolpbjjapodmnaaGreatDoor
open Go.RowKit Go.Han
set_option maxRecDepth 100000
attribute [local irreducible] wpStill wpQuiet
set_option maxHeartbeats 8000000
theorem X1r {es:List Nat} {Ad:Option Addr} {n cp:Nat} {V:World} (h:EncW es #[.slice Ad n cp] V) (h0:0<es.length) :
  n=es.length/\∃b off,Ad=some ⟨b,off,none⟩/\(∃cs fr,V.heap[b]? = some (.cells cs 3 fr))/\∀W:World,W.heap[b]? = V.heap[b]? -> ∀(q:Nat) (hq:q<es.length),W.cell? ⟨b,off+q,none⟩=some (.int .i64 (es[q]:Nat)):=by
 obtain⟨A',cp',e,hr,hc,hb⟩:=h;obtain⟨rfl,rfl,rfl⟩:Ad=A'/\n=es.length/\cp=cp':=by simpa using e
 refine⟨rfl,?_⟩;rcases hr with hn|⟨b,off,h1,h2,h3⟩
 ·have:=Vj (es.map fun m:Nat=>(m:Int))
  rw[hn] at this;simp at this;omega
 ·refine⟨b,off,h1,hb b off h1 h0,fun W hW q hq=>?_⟩
  refine(World.cell?_of_block (w:=V) hW).trans (h3 q _ ?_)
  have hl:∀(l:List Int) (q:Nat) (hq:q<l.length),(l.flatMap intC)[q]? = some (.int .i64 l[q]):=by
   intro l
   induction l with
   | nil=>intro q hq;simp at hq
   | cons x l ih =>
    intro q hq;cases q with
    | zero=>rfl
    | succ q =>
     have:=ih q (by simpa using hq)
     simpa[intC] using this
  have:=hl (es.map fun m:Nat=>(m:Int)) q (by simpa using hq)
  simpa using this
theorem Xte:((Tryz.prog.info? 37).bind (fun i=>i.zero)).map (fun z=>z.cells.size)=some 5:=by kernel_rfl
theorem Xsd:∃i z,Tryz.prog.info? 37=some i/\i.zero=some z/\i.size=5/\i.bytes=56/\z.cells.size=5:=by
 have h1:=Xri;have h2:=Xte;cases h:Tryz.prog.info? 37 with
 | none=>rw[h] at h1;cases h1
 | some i =>
  rw[h] at h1 h2;cases hz:i.zero with
  | none=>simp[hz] at h2
  | some z =>
   simp[hz] at h1 h2;exact⟨i,z,rfl,hz,h1.1,h1.2,h2⟩
section
variable {e0:World} {cb kb wb top fb:Nat} {g:Gram} {its:SlS ItemG} {N:Nat} {X:Nat->Prop} {f0:X9->Option FoundG} {c:Int} {i k:Nat}
def XO (X:Nat->Prop) (M B0 B:Nat) (own:Nat->Prop) (b:Nat):Prop:=X b\/b=M\/(B0<=b/\b<B/\¬own b)
theorem WaSt.done {W0:World} {M:Nat} {L:List Dv} {r:Nat->List Nat->List Dv} {j:Nat} {own:Nat->Prop} {pre:List (List Nat)} {es:List Nat} {V W':World} {fd:FoundG} {f':X9->Option FoundG}
  (h:WaSt e0 cb kb wb top fb g its N X f0 c i k W0 M L r j own pre V) (hlive:∀b,own b->b<V.heap.size) (hO:Only (fun b=>b=kb\/b=fb) V W')
  (h1:W'.heap[fb]? = some fd.ob) (h2:FoundOk (XO X M W0.heap.size V.heap.size own) W' fd (Fd.of bigN (L++(pre++[es]).flatMap (r j)))) (h3:KnownF (XO X M W0.heap.size V.heap.size own) g its.xs N kb f' W') (h4:Grew g (muG g c i k) f0 f') :
  ∃own',BodyStep own own' V W'/\WaSt e0 cb kb wb top fb g its N X f0 c i k W0 M L r j own' (pre++[es]) W':=by
 have hz:=h.size;have hzz:=hO.size
 have ht:∀t x,TreeW (XO X M W0.heap.size V.heap.size own) W' t x->TreeW (XR X M W0.heap.size (fun b=>own b\/(V.heap.size<=b/\b<W'.heap.size))) W' t x:=fun t x ht=>ht.keep (fun _ _ _=>rfl) (Nat.le_refl _) fun b ⟨cs,fr,hb⟩ hn hx=>by
  have hlt:=Xd hb;rcases hx with hx|hx|⟨hx,hx2⟩
  ·exact hn (.inl hx)
  ·exact hn (.inr (.inl hx))
  ·refine hn (.inr (.inr ⟨hx,?_,fun ho=>hx2 (.inl ho)⟩))
   rcases Nat.lt_or_ge b V.heap.size with h5|h5
   ·exact h5
   ·exact absurd (.inr ⟨h5,hlt⟩) hx2
 refine⟨fun b=>own b\/(V.heap.size<=b/\b<W'.heap.size),⟨hO.os,hO.tape,hO.output,hzz,fun b hb hn=>hO.block b hb fun hm=>hn ?_,fun b hb=>hb.imp id fun h=>h.1,fun b hb=>?_⟩,⟨hO.os.trans h.os,hO.tape.trans h.tape,hO.output.trans h.output,Nat.le_trans hz hzz,fun b hb e1 e2 e3=>(hO.block b (by omega) fun hm=>by rcases hm with hm|hm;exact e1 hm;exact e2 hm).trans (h.keep b hb e1 e2 e3),.inl h.okb,.inl h.ofb,fd,f',h1,h2.keep ht,h3.keep rfl ht,h4⟩⟩
 ·rcases hm with rfl|rfl
  ·exact h.okb
  ·exact h.ofb
 ·rcases hb with hb|hb
  ·have:=hlive b hb;omega
  ·exact hb.2
structure PaSt (g:Gram) (its:SlS ItemG) (N kb:Nat) (X1:Nat->Prop) (f0:X9->Option FoundG) (mu i k:Nat) (V:World) (bk:Nat) (ps:List PartG) (es:List Nat) (fd:FoundG) (L:List Dv) (p at_ q:Nat) (C:Int) (kids:List TreeV) (ks:List TreeG) (e:Nat) (vk:Value) (f':X9->Option FoundG) (W:World):Prop where
 mid:MidE (derG g its.xs) ps i es p at_ q C kids e
 way:WayE (ps.drop p) at_ k (es.drop q)
 lo:i<=at_/\p<=at_-i/\q<=p
 cost:0<=C/\C<=(q:Int)*1000000
 klen:ks.length<=q
 box:W.heap[bk]? = some (.cells #[vk] 30 (0,0))
 kids:KidsW X1 V.heap.size vk kids ks W
 known:KnownF (fun b=>X1 b\/vk.ownBlock=some b) g its.xs N kb f' W
 grew:Grew g mu f0 f'
 found:FoundOk (fun b=>X1 b\/vk.ownBlock=some b) W fd (Fd.of bigN L)
 only:Only (fun b=>b=kb) V W
theorem KidsW.below {X:Nat->Prop} {base:Nat} {v:Value} {kids:List TreeV} {ks:List TreeG} {W W':World} (h:KidsW X base v kids ks W) (hb:Below W.heap.size W W'):KidsW X base v kids ks W' :=
 h.keep hb.size fun b hx=>hb.block b (by rcases hx with hx|⟨⟨_,_,hx⟩,_⟩;exact(h.own.lt b hx).2;exact Xd hx)
theorem PaSt.ext {X1:Nat->Prop} {mu:Nat} {V:World} {bk:Nat} {ps:List PartG} {es:List Nat} {fd:FoundG} {L:List Dv} {p at_ q:Nat} {C:Int} {kids:List TreeV} {ks:List TreeG} {e:Nat} {vk:Value} {f':X9->Option FoundG} {W W':World} (h:PaSt g its N kb X1 f0 mu i k V bk ps es fd L p at_ q C kids ks e vk f' W) (hb:Below W.heap.size W W'):PaSt g its N kb X1 f0 mu i k V bk ps es fd L p at_ q C kids ks e vk f' W' :=
 ⟨h.mid,h.way,h.lo,h.cost,h.klen,(hb.block _ (Xd h.box)).trans h.box,h.kids.below hb,h.known.ext hb,h.grew,h.found.keep fun _ _ ht=>ht.ext hb,h.only.ext hb⟩
theorem PaSt.find {X1:Nat->Prop} {mu m:Nat} {V:World} {bk:Nat} {ps:List PartG} {es:List Nat} {fd:FoundG} {L:List Dv} {p at_ q:Nat} {C:Int} {kids:List TreeV} {ks:List TreeG} {e:Nat} {vk:Value} {f' f'':X9->Option FoundG} {W W':World} (h:PaSt g its N kb X1 f0 mu i k V bk ps es fd L p at_ q C kids ks e vk f' W)
  (hO:Only (fun b=>b=kb) W W') (hk:KnownF (fun b=>X1 b\/vk.ownBlock=some b) g its.xs N kb f'' W') (hg:Grew g m f' f'') (hm:m<=mu):PaSt g its N kb X1 f0 mu i k V bk ps es fd L p at_ q C kids ks e vk f'' W':=by
 obtain⟨es',c',hkm⟩:=h.known.kmap
 have hn:∀ {b:Nat} {cs:Array Value} {t:TypeId} {fr:Nat×Nat},W.heap[b]? = some (.cells cs t fr)->b≠kb:=by
  rintro b cs t fr hb rfl;rw[hkm] at hb;cases hb
 have hkeep:∀b,KidP W b->W'.heap[b]? = W.heap[b]? := fun b ⟨cs,fr,hb⟩=>hO.block b (Xd hb) (hn hb);exact⟨h.mid,h.way,h.lo,h.cost,h.klen,(hO.block _ (Xd h.box) (hn h.box)).trans h.box,h.kids.keep hO.size fun b hx=>hkeep b (by rcases hx with hx|hx;exact h.kids.own.kid hx;exact hx.1),hk,h.grew.trans (hg.mono hm),h.found.keep fun _ _ ht=>ht.keep (fun b hb _=>hkeep b hb) hO.size fun _ _ h=>h,h.only.trans hO⟩
theorem Xs5 {X1:Nat->Prop} {v v':Value} {W W1:World} (hg:W.grownBy W1 v.ownBlock) (hv:v'.ownBlock=v.ownBlock\/v'.ownBlock=some W.heap.size) {t:TreeV} {x:TreeG} (ht:TreeW (fun b=>X1 b\/v.ownBlock=some b) W t x):TreeW (fun b=>X1 b\/v'.ownBlock=some b) W1 t x :=
 ht.keep (fun b ⟨_,_,hb⟩ hn=>hg.block b (Xd hb) fun e=>hn (.inr e.symm)) hg.size fun b ⟨_,_,hb⟩ hn hx=>by
  rcases hx with hx|hx
  ·exact hn (.inl hx)
  ·rcases hv with e|e
   ·exact hn (.inr (e ▸ hx))
   ·rw[e] at hx
    cases hx;have:=Xd hb;omega
theorem X03 {X1:Nat->Prop} {W:World} {bk:Nat} {v u:Value} (hb:W.heap[bk]? = some (.cells #[v] 30 (0,0))) {t:TreeV} {x:TreeG} (ht:TreeW X1 W t x):TreeW X1 (W.setCell ⟨bk,0,none⟩ u) t x :=
 ht.keep (fun b ⟨cs,fr,hk⟩ _=>Below.heap_setCell _ _ _ _ (by
  intro e;have e:b=bk:=e;rw[e,hb] at hk;have:=Option.some.inj hk;injection this with _ e2 _;exact absurd e2 (by decide))) (by simp[World.setCell]) fun _ _ h=>h
theorem PaSt.text {X1:Nat->Prop} {mu:Nat} {V:World} {bk:Nat} {ps:List PartG} {es:List Nat} {fd:FoundG} {L:List Dv} {p at_ q:Nat} {C:Int} {kids:List TreeV} {ks:List TreeG} {e:Nat} {vk:Value} {f':X9->Option FoundG} {W:World} (h:PaSt g its N kb X1 f0 mu i k V bk ps es fd L p at_ q C kids ks e vk f' W) (hl:p<ps.length) (ht:ps[p].text.size≠0):PaSt g its N kb X1 f0 mu i k V bk ps es fd L (p+1) (at_+1) q C kids ks e vk f' W:=by
 refine⟨Xwh h.mid hl ht,?_,⟨by have:=h.lo;omega,by have:=h.lo;omega,by have:=h.lo;omega⟩,h.cost,h.klen,h.box,h.kids,h.known,h.grew,h.found,h.only⟩;have hw:=h.way;rw[List.drop_eq_getElem_cons hl] at hw;unfold WayE at hw;rw[if_pos ht] at hw;exact hw.2
theorem PaSt.cat {X1:Nat->Prop} {mu:Nat} {V:World} {bk:Nat} {ps:List PartG} {es:List Nat} {fd:FoundG} {L:List Dv} {p at_ q:Nat} {C:Int} {kids:List TreeV} {ks:List TreeG} {e:Nat} {vk vk':Value} {f':X9->Option FoundG} {W W1:World} (h:PaSt g its N kb X1 f0 mu i k V bk ps es fd L p at_ q C kids ks e vk f' W) (hbk:V.heap.size<=bk) (hl:p<ps.length) (ht:¬ps[p].text.size≠0) (hq:q<es.length) {cc:Int} {t:TreeV} {x:TreeG}
  (hA:Yc (derG g its.xs ps[p].no at_ es[q])=some (cc,t)) (hcc:0<=cc/\cc<=1000000) (htw:TreeW (fun b=>X1 b\/vk.ownBlock=some b) W t x) (ho:OwnK W1 V.heap.size vk' (ks++[x])) (hg:W.grownBy W1 vk.ownBlock) (hv:vk'.ownBlock=vk.ownBlock\/vk'.ownBlock=some W.heap.size)
  (hway:at_<es[q]/\WayE (ps.drop (p+1)) es[q] k (es.drop (q+1))):PaSt g its N kb X1 f0 mu i k V bk ps es fd L (p+1) es[q] (q+1) (C+cc) (kids++[t]) (ks++[x]) (e*(derG g its.xs ps[p].no at_ es[q]).length) vk' f' (W1.setCell ⟨bk,0,none⟩ vk'):=by
 have hlo:=h.lo;have hcost:=h.cost;have hrow:∀b,vk.ownBlock=some b->V.heap.size<=b/\b<W.heap.size:=fun b hb=>h.kids.own.lt b hb
 have hne:∀b,vk.ownBlock=some b->b≠bk:=by
  rintro b hb rfl;obtain⟨cs,fr,hk⟩:=h.kids.own.kid hb;rw[h.box] at hk;have:=Option.some.inj hk;injection this with _ e2 _;exact absurd e2 (by decide)
 have hb1:W1.heap[bk]? = some (.cells #[vk] 30 (0,0)):=(hg.block bk (Xd h.box) fun e=>hne bk e.symm rfl).trans h.box;obtain⟨es',c',hkm⟩:=h.known.kmap
 have hk1:W1.heap[kb]? = W.heap[kb]? := hg.block kb (Xd hkm) fun e=>by
  obtain⟨cs,fr,hk⟩:=h.kids.own.kid e.symm;rw[hkm] at hk;cases hk
 have hkb:kb≠bk:=by
  rintro rfl;have hbx:=h.box;rw[hkm] at hbx;cases hbx
 have htr:∀t x,TreeW (fun b=>X1 b\/vk.ownBlock=some b) W t x->TreeW (fun b=>X1 b\/vk'.ownBlock=some b) (W1.setCell ⟨bk,0,none⟩ vk') t x:=fun t x ht=>X03 hb1 (Xs5 hg hv ht);have hks:=h.kids.snoc htw ho hg hv;refine⟨Xz8 h.mid hl (by omega) hq hA,hway.2,⟨by omega,by omega,by omega⟩,⟨by omega,by push_cast;omega⟩,by have:=h.klen;rw[List.length_append];simp;omega,Xs hb1 0 _,?_,h.known.keep ((Below.heap_setCell _ _ _ _ hkb).trans hk1) htr,h.grew,h.found.keep htr,?_⟩
 ·refine hks.keep (by simp[World.setCell]) fun b hx=>Below.heap_setCell _ _ _ _ ?_
  intro e;have e:b=bk:=e
  have hkp:KidP W1 b:=by
   rcases hx with hx|hx
   ·exact ho.kid hx
   ·exact hx.1
  obtain⟨cs,fr,hk⟩:=hkp;rw[e,hb1] at hk;have:=Option.some.inj hk;injection this with _ e2 _;exact absurd e2 (by decide)
 ·have hO:=h.only
  exact⟨hg.os.trans hO.os,hg.tape.trans hO.tape,hg.output.trans hO.output,by have:=hO.size;have:=hg.size;simp[World.setCell];omega,fun b hb hn=>(Below.heap_setCell _ _ _ _ (by show b≠bk;omega)).trans ((hg.block b (by have:=hO.size;omega) fun e=>by have:=(hrow b e.symm).1;omega).trans (hO.block b hb hn))⟩
theorem PaSt.other {X1:Nat->Prop} {mu:Nat} {V:World} {bk bx:Nat} {ps:List PartG} {es:List Nat} {fd:FoundG} {L:List Dv} {p at_ q:Nat} {C:Int} {kids:List TreeV} {ks:List TreeG} {e:Nat} {vk:Value} {f':X9->Option FoundG} {W W':World} (h:PaSt g its N kb X1 f0 mu i k V bk ps es fd L p at_ q C kids ks e vk f' W)
  (hO:Only (fun b=>b=bx) W W') {cs:Array Value} {fr:Nat×Nat} (hx:W.heap[bx]? = some (.cells cs 114 fr)) (hv:V.heap.size<=bx):PaSt g its N kb X1 f0 mu i k V bk ps es fd L p at_ q C kids ks e vk f' W':=by
 obtain⟨es',c',hkm⟩:=h.known.kmap
 have hn:∀ {b:Nat} {o:Obj},W.heap[b]? = some o->(∀cs fr,o ≠ .cells cs 114 fr)->b≠bx:=by
  rintro b o hb ho rfl;rw[hx] at hb;exact ho _ _ (Option.some.inj hb).symm
 have hkeep:∀b,KidP W b->W'.heap[b]? = W.heap[b]? := fun b ⟨cs,fr,hb⟩=>hO.block b (Xd hb) (hn hb fun cs fr e=>by injection e with _ e2 _;exact absurd e2 (by decide));have ht:∀t x,TreeW (fun b=>X1 b\/vk.ownBlock=some b) W t x->TreeW (fun b=>X1 b\/vk.ownBlock=some b) W' t x:=fun t x ht=>ht.keep (fun b hb _=>hkeep b hb) hO.size fun _ _ h=>h;have ho:=h.only
 exact⟨h.mid,h.way,h.lo,h.cost,h.klen,(hO.block _ (Xd h.box) (hn h.box fun cs fr e=>by injection e with _ e2 _;exact absurd e2 (by decide))).trans h.box,h.kids.keep hO.size fun b hx=>hkeep b (by rcases hx with hx|hx;exact h.kids.own.kid hx;exact hx.1),
  h.known.keep (hO.block _ (Xd hkm) (hn hkm fun cs fr e=>by cases e)) ht,h.grew,h.found.keep ht,⟨hO.os.trans ho.os,hO.tape.trans ho.tape,hO.output.trans ho.output,Nat.le_trans ho.size hO.size,fun b hb hne=>(hO.block b (by have:=ho.size;omega) (by show b≠bx;omega)).trans (ho.block b hb hne)⟩⟩
def set8 (V:World) (fb:Nat) (y:FoundG):World:=(((((((V.setCell ⟨fb,0,none⟩ (.bool y.ok)).setCell ⟨fb,1,none⟩ (.int .i64 y.cost)).setCell ⟨fb,2,none⟩ (.int .i64 y.rule)).setCell ⟨fb,3,none⟩ (.int .i64 y.item)).setCell ⟨fb,4,none⟩ (.int .i64 y.frm)).setCell ⟨fb,5,none⟩ (.int .i64 y.unt)).setCell ⟨fb,6,none⟩ (.slice y.kids.addr y.kids.len y.kids.cap)).setCell ⟨fb,7,none⟩ (.int .i64 y.many)
theorem Xer {V:World} {fb:Nat} {f:FoundG} (h:V.heap[fb]? = some f.ob) (y:FoundG):(set8 V fb y).heap[fb]? = some y.ob:=by
 have h1:(V.setCell ⟨fb,0,none⟩ (.bool y.ok)).heap[fb]? = some (.cells #[.bool y.ok,.int .i64 f.cost,.int .i64 f.rule,.int .i64 f.item,.int .i64 f.frm,.int .i64 f.unt,.slice f.kids.addr f.kids.len f.kids.cap,.int .i64 f.many] 114 (0,0)):=Xs h 0 _;have h2:((V.setCell ⟨fb,0,none⟩ (.bool y.ok)).setCell ⟨fb,1,none⟩ (.int .i64 y.cost)).heap[fb]? = some (.cells #[.bool y.ok,.int .i64 y.cost,.int .i64 f.rule,.int .i64 f.item,.int .i64 f.frm,.int .i64 f.unt,.slice f.kids.addr f.kids.len f.kids.cap,.int .i64 f.many] 114 (0,0)):=Xs h1 1 _;have h3:(((V.setCell ⟨fb,0,none⟩ (.bool y.ok)).setCell ⟨fb,1,none⟩ (.int .i64 y.cost)).setCell ⟨fb,2,none⟩ (.int .i64 y.rule)).heap[fb]? = some (.cells #[.bool y.ok,.int .i64 y.cost,.int .i64 y.rule,.int .i64 f.item,.int .i64 f.frm,.int .i64 f.unt,.slice f.kids.addr f.kids.len f.kids.cap,.int .i64 f.many] 114 (0,0)):=Xs h2 2 _;have h4:((((V.setCell ⟨fb,0,none⟩ (.bool y.ok)).setCell ⟨fb,1,none⟩ (.int .i64 y.cost)).setCell ⟨fb,2,none⟩ (.int .i64 y.rule)).setCell ⟨fb,3,none⟩ (.int .i64 y.item)).heap[fb]? = some (.cells #[.bool y.ok,.int .i64 y.cost,.int .i64 y.rule,.int .i64 y.item,.int .i64 f.frm,.int .i64 f.unt,.slice f.kids.addr f.kids.len f.kids.cap,.int .i64 f.many] 114 (0,0)):=Xs h3 3 _;have h5:(((((V.setCell ⟨fb,0,none⟩ (.bool y.ok)).setCell ⟨fb,1,none⟩ (.int .i64 y.cost)).setCell ⟨fb,2,none⟩ (.int .i64 y.rule)).setCell ⟨fb,3,none⟩ (.int .i64 y.item)).setCell ⟨fb,4,none⟩ (.int .i64 y.frm)).heap[fb]? = some (.cells #[.bool y.ok,.int .i64 y.cost,.int .i64 y.rule,.int .i64 y.item,.int .i64 y.frm,.int .i64 f.unt,.slice f.kids.addr f.kids.len f.kids.cap,.int .i64 f.many] 114 (0,0)):=Xs h4 4 _;have h6:((((((V.setCell ⟨fb,0,none⟩ (.bool y.ok)).setCell ⟨fb,1,none⟩ (.int .i64 y.cost)).setCell ⟨fb,2,none⟩ (.int .i64 y.rule)).setCell ⟨fb,3,none⟩ (.int .i64 y.item)).setCell ⟨fb,4,none⟩ (.int .i64 y.frm)).setCell ⟨fb,5,none⟩ (.int .i64 y.unt)).heap[fb]? = some (.cells #[.bool y.ok,.int .i64 y.cost,.int .i64 y.rule,.int .i64 y.item,.int .i64 y.frm,.int .i64 y.unt,.slice f.kids.addr f.kids.len f.kids.cap,.int .i64 f.many] 114 (0,0)):=Xs h5 5 _;have h7:(((((((V.setCell ⟨fb,0,none⟩ (.bool y.ok)).setCell ⟨fb,1,none⟩ (.int .i64 y.cost)).setCell ⟨fb,2,none⟩ (.int .i64 y.rule)).setCell ⟨fb,3,none⟩ (.int .i64 y.item)).setCell ⟨fb,4,none⟩ (.int .i64 y.frm)).setCell ⟨fb,5,none⟩ (.int .i64 y.unt)).setCell ⟨fb,6,none⟩ (.slice y.kids.addr y.kids.len y.kids.cap)).heap[fb]? = some (.cells #[.bool y.ok,.int .i64 y.cost,.int .i64 y.rule,.int .i64 y.item,.int .i64 y.frm,.int .i64 y.unt,.slice y.kids.addr y.kids.len y.kids.cap,.int .i64 f.many] 114 (0,0)):=Xs h6 6 _;have h8:((((((((V.setCell ⟨fb,0,none⟩ (.bool y.ok)).setCell ⟨fb,1,none⟩ (.int .i64 y.cost)).setCell ⟨fb,2,none⟩ (.int .i64 y.rule)).setCell ⟨fb,3,none⟩ (.int .i64 y.item)).setCell ⟨fb,4,none⟩ (.int .i64 y.frm)).setCell ⟨fb,5,none⟩ (.int .i64 y.unt)).setCell ⟨fb,6,none⟩ (.slice y.kids.addr y.kids.len y.kids.cap)).setCell ⟨fb,7,none⟩ (.int .i64 y.many)).heap[fb]? = some y.ob:=Xs h7 7 _;exact h8
theorem Xah (V:World) (fb:Nat) (y:FoundG):Only (fun b=>b=fb) V (set8 V fb y):=by
 unfold set8;have st:∀(U:World) (n:Nat) (u:Value),Only (fun b=>b=fb) V U->Only (fun b=>b=fb) V (U.setCell ⟨fb,n,none⟩ u):=fun U n u h=>Only.setCell (M:=fun j=>j=fb) h (p:=⟨fb,n,none⟩) (.inl rfl) u;exact st _ _ _ (st _ _ _ (st _ _ _ (st _ _ _ (st _ _ _ (st _ _ _ (st _ _ _ (st _ _ _ (Only.refl _ V))))))))
end
end Go.Proofs.YtolpbjjapodmnaaGreatDoor
