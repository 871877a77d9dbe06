/- Texts of this claim, one after the other: Chwd. -/
import Derived.Test.YtolpbjjapodmnaaGreatDoorM23
namespace Go.Proofs.YtolpbjjapodmnaaGreatDoor
open Go.RowKit Go.Han
set_option maxRecDepth 100000
attribute [local irreducible] wpStill wpQuiet
set_option maxHeartbeats 8000000
section
attribute [local go_sem] Oper.semAt_some
def Xkn (X:Nat->Prop) (g:Gram) (items:List ItemG) (N kb fb:Nat) (f0:X9->Option FoundG) (c:Int) (i k:Nat) (W:World) (e:Ending) (W':World):Prop :=
 e = .returned (.tuple #[])/\∃fd f',W'.heap[fb]? = some fd.ob/\FoundOk X W' fd (Fd.of bigN (derG g items c i k))/\KnownF X g items N kb f' W'/\Grew g (muG g c i k) f0 f'/\Only (fun j=>j=kb\/j=fb) W W'
def ruF (cb fb S:Nat) (c:Int) (i k:Nat) (g:Gram) (u:Nat->Value) (j:Nat):Array Value :=
 #[.pointer (some ⟨cb,0,none⟩),.agg #[.int .i64 c,.int .i64 (i:Int),.int .i64 (k:Int)],.pointer (some ⟨fb,0,none⟩),.pointer (some ⟨S,0,none⟩),.pointer (some ⟨S+1,0,none⟩),.pointer (some ⟨S+1+1,0,none⟩),u 6,u 7,u 8,u 9,u 10,u 11,u 12,u 13,u 14,u 15,u 16,.pointer (some ⟨cb,0,none⟩),.pointer (some ⟨cb,0,none⟩),.pointer (some ⟨cb,0,none⟩),.pointer (some ⟨cb,5,none⟩),.slice g.rules.addr g.rules.xs.length g.rules.cap,.int .i64 (g.rules.xs.length:Int),.int .i64 (j:Int),u 24,u 25,u 26,u 27,u 28,u 29,u 30,u 31,u 32,u 33,u 34,u 35,u 36,u 37,u 38,u 39,u 40,u 41,u 42,u 43,u 44,u 45,u 46,u 47,u 48,u 49,u 50,u 51,u 52,u 53,u 54,u 55,u 56,u 57,u 58,u 59,u 60,u 61,u 62,u 63,u 64,u 65,u 66,u 67,u 68,u 69,u 70,u 71,u 72,u 73,u 74,u 75,u 76,u 77,u 78,u 79,u 80,u 81,u 82,u 83,u 84,u 85,u 86,u 87,u 88,u 89,u 90,u 91,u 92,u 93,u 94,u 95,u 96,u 97,u 98]
def RuInv (e0:World) (cb kb wb top fb:Nat) (g:Gram) (its:SlS ItemG) (N:Nat) (X:Nat->Prop) (f0:X9->Option FoundG) (c:Int) (i k S:Nat) (W1:World) (a:Act) (W:World):Prop :=
 ∃(Ds:List Nat) (j:Nat),a={tmps:=ruF cb fb S c i k g (fun n=>a.tmps.getD n undef) j,defers:=Ds.map colD}/\j<=g.rules.xs.length/\RuSt e0 cb kb wb top fb g its N X f0 c i k W1 (X3 c i k 0 its.xs++Yd (Xp its.xs) (derG g its.xs) c i k 0 (g.rules.xs.take j)) W/\Ds.Nodup/\∀D∈Ds,W1.heap.size<=D/\W.heap[D]? = some (.deferred (some []))
theorem Xvd {es:List Nat} {v:Value} {A B:World} {q:Nat} {L:Loop} (h:EncW es #[v] A) (hz:B.heap.size=A.heap.size) (hl:A.heap[q]? = some (.loop L)) (h7:∀j,j≠q->B.heap[j]? = A.heap[j]?):EncW es #[v] B:=by
 obtain⟨Ad,cp,e,hr,hc,hb⟩:=h;rcases Nat.eq_zero_or_pos es.length with h0|h0
 ·have:es=[]:=List.eq_nil_of_length_eq_zero h0
  subst this;exact⟨Ad,cp,e,.inl rfl,hc,fun _ _ _ h=>by simp at h⟩
 ·refine⟨Ad,cp,e,?_,hc,fun b off hA h1=>?_⟩
  ·rcases hr with h|⟨b,off,h1,h2,h3⟩
   ·exact .inl h
   ·obtain⟨cs,fr,hbk⟩:=hb b off h1 h0
    exact .inr ⟨b,off,h1,by omega,fun j u hu=>(World.cell?_of_block (w:=A) (h7 b (by rintro rfl;rw[hl] at hbk;cases hbk))).trans (h3 j u hu)⟩
  ·obtain⟨cs,fr,hbk⟩:=hb b off hA h1
   exact⟨cs,fr,(h7 b (by rintro rfl;rw[hl] at hbk;cases hbk)).trans hbk⟩
theorem WaSt.loop {e0:World} {cb kb wb top fb:Nat} {g:Gram} {its:SlS ItemG} {N:Nat} {X:Nat->Prop} {f0:X9->Option FoundG} {c:Int} {i k:Nat} {W0:World} {M:Nat} {L:List Dv} {r:Nat->List Nat->List Dv} {j:Nat} {own:Nat->Prop} {ys:List (List Nat)} {A B:World} {q:Nat} {Lp:Loop} (h:WaSt e0 cb kb wb top fb g its N X f0 c i k W0 M L r j own ys A)
  (ho:B.os=A.os) (ht:B.tape=A.tape) (hp:B.output=A.output) (hz:B.heap.size=A.heap.size) (hq:W0.heap.size<q) (hl:A.heap[q]? = some (.loop Lp)) (h7:∀j,j≠q->B.heap[j]? = A.heap[j]?):WaSt e0 cb kb wb top fb g its N X f0 c i k W0 M L r j own ys B:=by
 obtain⟨fd,f',h1,h2,h3,h4⟩:=h.found;have htr:∀t x,TreeW (XR X M W0.heap.size own) A t x->TreeW (XR X M W0.heap.size own) B t x:=fun t x ht=>ht.keep (fun b ⟨cs,fr,hb⟩ _=>h7 b (by rintro rfl;rw[hl] at hb;cases hb)) (by omega) fun _ _ h=>h;obtain⟨es,cl,hkm⟩:=h3.kmap;exact⟨ho.trans h.os,ht.trans h.tape,hp.trans h.output,by have:=h.size;omega,fun b hb e1 e2 e3=>(h7 b (by omega)).trans (h.keep b hb e1 e2 e3),h.okb,h.ofb,fd,f',(h7 fb (by rintro rfl;rw[hl] at h1;cases h1)).trans h1,h2.keep htr,h3.keep (h7 kb (by rintro rfl;rw[hl] at hkm;cases hkm)) htr,h4⟩
def waF (cb fb S T bR oR:Nat) (c:Int) (i k:Nat) (g:Gram) (r:RuleG) (fn:Value) (u:Nat->Value) (j:Nat) (v:Value):Array Value :=
 #[.pointer (some ⟨cb,0,none⟩),.agg #[.int .i64 c,.int .i64 (i:Int),.int .i64 (k:Int)],.pointer (some ⟨fb,0,none⟩),.pointer (some ⟨S,0,none⟩),.pointer (some ⟨S+1,0,none⟩),.pointer (some ⟨S+1+1,0,none⟩),.pointer (some ⟨T,0,none⟩),.pointer (some ⟨T+1,0,none⟩),v,u 9,u 10,u 11,u 12,u 13,u 14,u 15,u 16,.pointer (some ⟨cb,0,none⟩),.pointer (some ⟨cb,0,none⟩),.pointer (some ⟨cb,0,none⟩),.pointer (some ⟨cb,5,none⟩),.slice (some ⟨bR,oR,none⟩) g.rules.xs.length g.rules.cap,.int .i64 (g.rules.xs.length:Int),.int .i64 (j:Int),.bool true,.int .i64 (j:Int),.pointer (some ⟨bR,oR+j*5,none⟩),r.vl,.pointer (some ⟨T+1,1,none⟩),.int .i64 r.no,.pointer (some ⟨S+1,0,none⟩),.int .i64 c,.bool false,.pointer (some ⟨cb,0,none⟩),.pointer (some ⟨T+1,2,none⟩),.slice r.parts.addr r.parts.xs.length r.parts.cap,.pointer (some ⟨S+1,1,none⟩),.int .i64 (i:Int),.pointer (some ⟨S+1,2,none⟩),.int .i64 (k:Int),fn,v,u 42,u 43,u 44,u 45,u 46,u 47,u 48,u 49,u 50,u 51,u 52,u 53,u 54,u 55,u 56,u 57,u 58,u 59,u 60,u 61,u 62,u 63,u 64,u 65,u 66,u 67,u 68,u 69,u 70,u 71,u 72,u 73,u 74,u 75,u 76,u 77,u 78,u 79,u 80,u 81,u 82,u 83,u 84,u 85,u 86,u 87,u 88,u 89,u 90,u 91,u 92,u 93,u 94,u 95,u 96,u 97,u 98]
section
variable {e0:World} {cb kb wb top fb:Nat} {g:Gram} {its:SlS ItemG} {N:Nat} {X:Nat->Prop} {f0:X9->Option FoundG} {c:Int} {i k:Nat}
theorem Xcp {M M':Nat->Prop} {a b:World} (h:Only M a b) (hm:∀k,M k->M' k):Only M' a b:=⟨h.os,h.tape,h.output,h.size,fun k hk hn=>h.block k hk fun hx=>hn (hm k hx)⟩
theorem Xo6 {M:Nat->Prop} {a b c:World} (h:Only M a b) (h1:c.os=b.os) (h2:c.tape=b.tape) (h3:c.output=b.output) (h4:b.heap.size<=c.heap.size) (h5:∀k,k<a.heap.size->c.heap[k]? = b.heap[k]?):Only M a c :=
 ⟨h1.trans h.os,h2.trans h.tape,h3.trans h.output,Nat.le_trans h.size h4,fun k hk hn=>(h5 k hk).trans (h.block k hk hn)⟩
theorem RuSt.ext {W1:World} {l:List Dv} {W W':World} (h:RuSt e0 cb kb wb top fb g its N X f0 c i k W1 l W) (hb:Below W.heap.size W W'):RuSt e0 cb kb wb top fb g its N X f0 c i k W1 l W':=by
 obtain⟨fd,f',h1,h2,h3,h4⟩:=h.found;exact⟨h.env.ext hb,⟨fd,f',Xi hb h1,h2.keep fun _ _ ht=>ht.ext hb,h3.ext hb,h4⟩,h.only.ext hb⟩
theorem Xw0 (hg:Y5 g) (hI:Ve N g.cats.xs.length its.xs) (hgl:g.lies e0) (h16:N<=16) (hik:i<k) (hkN:k<=N)
  (hsub:∀(c':Int) (i' k':Nat),0<=c'->c'<g.cats.xs.length->i'<k'->k'<=N->muG g c' i' k'<muG g c i k->Xyb e0 cb kb wb top g its N c' i' k')
  (fd:FoundG) (W:World) (hX:∀b,X b->b<W.heap.size) (hE:ChEnv e0 cb kb wb top g its N W) (hK:KnownF X g its.xs N kb f0 W) (hfb:top<=fb) (hf:W.heap[fb]? = some fd.ob) (hok:FoundOk X W fd (Fd.of bigN (X3 c i k 0 its.xs))) :
  Calls Tryz.prog 127 #[.pointer (some ⟨cb,0,none⟩),.agg #[.int .i64 c,.int .i64 (i:Int),.int .i64 (k:Int)],.pointer (some ⟨fb,0,none⟩)] W (Xkn X g its.xs N kb fb f0 c i k W):=by
 obtain⟨W1,hW1⟩:∃W1,((W.alloc (.cells #[.pointer (some ⟨cb,0,none⟩)] 115)).alloc (.cells #[.int .i64 c,.int .i64 (i:Int),.int .i64 (k:Int)] 119)).alloc (.cells #[.pointer (some ⟨fb,0,none⟩)] 187)=W1:=⟨_,rfl⟩
 have hB1:Below W.heap.size W W1:=by rw[<- hW1];exact Xg (Xg ba_q _) _
 have hz1:W1.heap.size=W.heap.size+3:=by rw[<- hW1];simp
 have hc1:W1.heap[W.heap.size]? = some (.cells #[.pointer (some ⟨cb,0,none⟩)] 115 (0,0)):=by
  rw[<- hW1];refine(Below.heap_alloc _ _ _ (by simp;omega)).trans ((Below.heap_alloc _ _ _ (by simp)).trans (World.alloc_heap_new _ _))
 have hx1:W1.heap[W.heap.size+1]? = some (.cells #[.int .i64 c,.int .i64 (i:Int),.int .i64 (k:Int)] 119 (0,0)):=by
  rw[<- hW1];exact(Below.heap_alloc _ _ _ (by simp)).trans (Xo _ _ _ (by simp))
 have hf1:W1.heap[W.heap.size+2]? = some (.cells #[.pointer (some ⟨fb,0,none⟩)] 187 (0,0)):=by
  rw[<- hW1];exact Xo _ _ _ (by simp)
 have hE1:=hE.ext hB1;have hch:=hE1.chart;have c5:=gblk hch 5;have cc:=Xe hc1
 have h0:RuSt e0 cb kb wb top fb g its N X f0 c i k W1 (X3 c i k 0 its.xs) W1 :=
  ⟨hE1,⟨fd,f0,Xi hB1 hf,hok.keep fun _ _ h=>h.ext hB1,hK.ext hB1,Grew.refl _ _ _⟩,Only.refl _ _⟩
 have HW1:=Xa hW1;have HZ1:=Xa hz1;have HE:=Xa hE;have Hx1:=Xa hx1;have Hf1:=Xa hf1;have Hc1:=Xa hc1;have HB1:=Xa hB1;have H0:=Xa h0;have hS0:=Xa hB1;have hfl:=Xd hf;have Hfl:=Xa hfl;have HX:=Xa hX;have Hsub:=Xa hsub;clear hW1 hz1 hE hx1 hf1 hc1 hB1 h0 hE1 hch hX hsub hf hok hK hfl;refine Z0 Tryz.func127 rfl ?_;simp only[Tryz.ntmps127,Zr,Nat.reduceAdd,Nat.reduceSub];refine Xm fun K1 hK1=>?_;go_wp2_with fail
 rw[HW1.out];refine Xm fun K2 hK2=>?_;go_wp2_with fail
 refine Zl ?_;refine Xl8 (RuInv e0 cb kb wb top fb g its N X f0 c i k W.heap.size W1) (fun a _=>g.rules.xs.length-(intOf (a.tmps.getD 23 undef)).toNat) ?_ (fun a wj hI=>?_)
 ·exact⟨[],0,rfl,Nat.zero_le _,by simpa[Yd] using H0.out,List.nodup_nil,fun D hD=>by cases hD⟩
 obtain⟨Ds,j,ha,hj,hS,hnd,hDs⟩:=hI;generalize (fun n=>a.tmps.getD n undef)=u at ha;subst ha;unfold ruF;have hfbW:=Hfl.out;have hzz:W.heap.size+3<=W1.heap.size:=by have:=HZ1.out;omega
 have hkt:=HE.out.hk;have htW:=HE.out.top;by_cases hlt:j<g.rules.xs.length
 ·obtain⟨bR,oR,hRa,hbR,hRc⟩:=hgl.rules.at_ RuleG.size_cells (by omega) hlt
  have d0:wj.cell? ⟨bR,oR+j*5,none⟩=some (.string g.rules.xs[j].cat):=hRc j hlt wj hS.env.low 0 _ rfl;have d1:wj.cell? ⟨bR,oR+j*5+1,none⟩=some (.int .i64 g.rules.xs[j].no):=hRc j hlt wj hS.env.low 1 _ rfl;have d2:wj.cell? ⟨bR,oR+j*5+2,none⟩=some (.slice g.rules.xs[j].parts.addr g.rules.xs[j].parts.xs.length g.rules.xs[j].parts.cap):=hRc j hlt wj hS.env.low 2 _ rfl;have d3:wj.cell? ⟨bR,oR+j*5+3,none⟩=some (.slice g.rules.xs[j].gives.addr g.rules.xs[j].gives.xs.length g.rules.xs[j].gives.cap):=hRc j hlt wj hS.env.low 3 _ rfl;have d4:wj.cell? ⟨bR,oR+j*5+4,none⟩=some (.int .i64 g.rules.xs[j].cost):=hRc j hlt wj hS.env.low 4 _ rfl;have hrl:=hgl.rule _ (List.getElem_mem hlt);have hgr:=hg.rule _ (List.getElem_mem hlt);have hgp:=hg.part _ (List.getElem_mem hlt);have hskip:=fun h=>Xsn (st:=Xp its.xs) (A:=derG g its.xs) (c:=c) (i:=i) (k:=k) hlt h;have hstep:=fun h=>Xso (st:=Xp its.xs) (A:=derG g its.xs) (c:=c) (i:=i) (k:=k) hlt h (X3 c i k 0 its.xs);have hmu:=fun (p:PartG) hp ht u v h1 h2 h3 h4=>Xrz hg (List.getElem_mem hlt) (p:=p) hp ht (i:=i) (k:=k) (u:=u) (v:=v) h1 h2 h3 h4;have hj128:=Nat.lt_of_lt_of_le hlt hg.fewR;have HRa:=Xa hRa;rw[hRa];generalize g.rules.xs[j]=r at *;have hxw:=(hS.only.block _ (by omega) (by show ¬(W.heap.size+1=kb\/W.heap.size+1=fb);omega)).trans Hx1.out;obtain⟨w8,hw8⟩:∃w8,(wj.alloc (.cells #[.int .i64 (j:Int)] 3)).alloc r.ob=w8:=⟨_,rfl⟩
  have hb8:Below wj.heap.size wj w8:=by rw[<- hw8];exact Xg ba_q _
  have hj8:w8.heap[wj.heap.size]? = some (.cells #[.int .i64 (j:Int)] 3 (0,0)):=by rw[<- hw8];exact(Below.heap_alloc _ _ _ (by simp)).trans (World.alloc_heap_new _ _)
  have hr8:w8.heap[wj.heap.size+1]? = some r.ob:=by rw[<- hw8];exact Xo _ _ _ (by simp)
  have hx8:=Xi hb8 hxw;obtain⟨q0,q1,q2,q3,q4⟩:=gb5 hr8;obtain⟨x0,x1,x2⟩:=gb3 hx8;by_cases hno:r.no=c
  ·have k1:(r.no != c)=false:=by simp[hno]
   have k2:(r.no == c)=true:=(by simp[hno]);have hcw:=(hS.only.block _ (by omega) (by show ¬(W.heap.size=kb\/W.heap.size=fb);omega)).trans Hc1.out;have hfw:=(hS.only.block _ (by omega) (by show ¬(W.heap.size+2=kb\/W.heap.size+2=fb);omega)).trans Hf1.out;have hc8:=Xi hb8 hcw;have hf8:=Xi hb8 hfw;have cc8:=Xe hc8;have HS8:=Xa (hS.ext hb8);have hswr:=hS.only.size;have HD:Hid (∀D∈Ds,W1.heap.size<=D/\w8.heap[D]? = some (.deferred (some []))):=fun D hD=>⟨(hDs D hD).1,(hb8.block _ (Xd (hDs D hD).2)).trans (hDs D hD).2⟩
   have Hj8:=Xa hj8;have Hr8:=Xa hr8;have Hx8:=Xa hx8;have Hc8:=Xa hc8;have Hf8:=Xa hf8;have Hrl:=Xa hrl;have Hgr:=Xa hgr;have Hgp:=Xa hgp;have Hmu:=Xa hmu;have Hst:=Xa (hstep hno);have Hno:=Xa hno;clear hno hskip hstep hmu hgp hgr hrl hRc hRa hS hj8 hr8 hx8 hDs hxw hcw hfw hc8 hf8;refine Xm fun K3 hK3=>?_;go_wp2_with fail
   refine Xm fun K4 hK4=>?_;go_wp2_with fail
   refine Uq ?_;refine Zl ?_;refine Xm fun K5 hK5=>?_;go_wp2_with fail
   refine Xm fun K6 hK6=>?_;go_wp2_with fail
   refine Xm fun K7 hK7=>?_;go_wp2_with fail
   refine(Xz1 cb r.parts.addr r.parts.xs.length r.parts.cap i k w8).mono ?_;intro e w0 hL;have hL0:=hL;obtain⟨rfl,hLB,hends,hLb,hLz⟩:=hL0;go_wp2_with fail
   refine Zl ?_
   have hrr:∀b off,r.parts.addr=some ⟨b,off,none⟩->b<e0.heap.size:=fun b off hA=>by
    rcases Hrl.out.1.rd with h|⟨b',off',h1,h2,_⟩
    ·have:=Hgr.out.2.2.2.2.1
     have h3:=Y0 PartG.cells 3 PartG.size_cells r.parts.xs;rw[h] at h3;simp at h3;omega
    ·rw[hA] at h1
     cases h1;exact h2
   have hs8:=hb8.size;have hsw:=hS0.out.size;have hE8:=HS8.out.env;have hit:=lays2 (fb:=fb) hE8 (Hrl.out.1.rd.ext hE8.low) (fun b off hA=>⟨by have:=hrr b off hA;omega,by have:=hrr b off hA;omega⟩) hL ⟨hfb,by omega⟩ Hgr.out.2.2.2.2.2 (by omega) (by omega);have HL:=Xa hLB;have HLb:=Xa hLb;have Hends:=Xa hends;have HLz:=Xa hLz;have HE8:=Xa hE8;have hMz:w8.heap.size+1+1+1+1<w0.heap.size:=(by omega);clear hL hLB hLb hends hLz hE8
   refine Xxz (xs:=Ya (Xp its.xs) r.parts.xs i k) (M:=fun b=>b=w8.heap.size+1+1+1+1) (R:=LayR w0.heap.size kb fb) (w0:=w0) (Enc:=EncW) Tryz.func127 rfl (enters_of Tryz.func219 (by kernel_rfl) rfl) hit (fun b hb=>⟨hb.1,rfl⟩) (fun x vs V ⟨_,_,h,_⟩=>by rw[h];rfl)
    (WaSt e0 cb kb wb top fb g its N X f0 c i k w0 (w8.heap.size+1+1+1+1) (X3 c i k 0 its.xs++Yd (Xp its.xs) (derG g its.xs) c i k 0 (g.rules.xs.take j)) (fun j es=>Qo (derG g its.xs) j r i k es) j) (fun _ _ _ _=>False) (WaSt.stable (by omega)) (fun _ _ _ _ _ h _=>h)
    (fun b=>b=kb\/b=fb) ?_ ?_
    (fun x a' own pre V=>∃v,EncW x #[v] V/\a'={tmps:=waF cb fb W.heap.size wj.heap.size bR oR c i k g r (.func (.func 219) #[] #[.pointer (some ⟨w8.heap.size+1+1+1+1+1,0,none⟩),.pointer (some ⟨w8.heap.size+1+1,0,none⟩)]) u j v,defers:=[]}/\WaSt e0 cb kb wb top fb g its N X f0 c i k w0 (w8.heap.size+1+1+1+1) (X3 c i k 0 its.xs++Yd (Xp its.xs) (derG g its.xs) c i k 0 (g.rules.xs.take j)) (fun j es=>Qo (derG g its.xs) j r i k es) j own pre V) ?_ ?_ ?_ ?_ ?_
   ·rintro b (rfl|rfl)
    ·exact⟨by omega,fun h=>h.2.1 rfl⟩
    ·exact⟨by omega,fun h=>h.2.2 rfl⟩
   ·have h:=HS8.out
    obtain⟨fd',f',h1,h2,h3,h4⟩:=h.found
    have ht:∀t x,TreeW X w8 t x->TreeW (XR X (w8.heap.size+1+1+1+1) w0.heap.size (fun b=>b=kb\/b=fb)) w0 t x:=fun t x ht=>(ht.ext HLb.out).keep (fun _ _ _=>rfl) (Nat.le_refl _) fun b ⟨cs,fr,hb⟩ hx hxr=>by
     rcases hxr with h|h|h
     ·exact hx h
     ·rw[h,Hends.out] at hb
      have:=Option.some.inj hb;injection this with _ e _;exact absurd e (by decide)
     ·have:=Xd hb;omega
    exact⟨rfl,rfl,rfl,Nat.le_refl _,fun _ _ _ _ _=>rfl,.inl rfl,.inr rfl,fd',f',Xi HLb.out h1,by simpa using h2.keep ht,h3.keep (HLb.out.block _ (by omega)) ht,h4⟩
   ·rintro x a' own pre P Q ⟨v,hv,ha,hw⟩ ⟨q,hq,h1,h2,h3,h4,_,⟨Lp,h6⟩,h7⟩
    exact⟨v,Xvd hv h4 h6 h7,ha,hw.loop h1 h2 h3 h4 hq h6 h7⟩
   ·rintro l own pre x vs V hW hEnc hl1 hl2 ho hpre
    have hlv:∀b,own b->b<V.heap.size:=fun b hb=>(ho b hb).2.1;have hEnc2:=hEnc;obtain⟨Ad,cpe,rfl,_⟩:=hEnc2;refine wpIn_mono (Q:=Exit.then (fun a' W'=>∃own',BodyStep own own' V W'/\∃v,EncW x #[v] W'/\a'={tmps:=waF cb fb W.heap.size wj.heap.size bR oR c i k g r (.func (.func 219) #[] #[.pointer (some ⟨w8.heap.size+1+1+1+1+1,0,none⟩),.pointer (some ⟨w8.heap.size+1+1,0,none⟩)]) u j v,defers:=[]}/\WaSt e0 cb kb wb top fb g its N X f0 c i k w0 (w8.heap.size+1+1+1+1) (X3 c i k 0 its.xs++Yd (Xp its.xs) (derG g its.xs) c i k 0 (g.rules.xs.take j)) (fun j es=>Qo (derG g its.xs) j r i k es) j own' pre W') (fun _ _ _=>False)) ?_ (fun e a w h=>h);have HEn:=Xa hEnc;have HWn:=Xa hW;clear hEnc hW;gi_wp2
    exact⟨own,BodyStep.refl hlv,_,HEn.out,rfl,HWn.out⟩
   ·rintro l own pre x a' V ⟨v,hEnc,rfl,hW⟩ hl1 hl2 ho hpre
    have hlv:∀b,own b->b<V.heap.size:=fun b hb=>(ho b hb).2.1;have hVz:=hW.size;have hkV:kb<V.heap.size:=(by omega);have hst:∀b o,w8.heap[b]? = some o->b≠kb->b≠fb->V.heap[b]? = some o:=fun b o hb e1 e2=>(hW.keep b (by have:=Xd hb;have:=HLb.out.size;omega) e1 e2 (by have:=Xd hb;omega)).trans ((HLb.out.block b (Xd hb)).trans hb);have hxV:=hst _ _ Hx8.out (by omega) (by omega);have hjV:=hst _ _ Hj8.out (by omega) (by omega);have hrV:=hst _ _ Hr8.out (by omega) (by omega);have hcV:=hst _ _ Hc8.out (by omega) (by omega);have hfV:=hst _ _ Hf8.out (by omega) (by omega);have hEV:ChEnv e0 cb kb wb top g its N V:=HE8.out.keep (hW.os.trans HLb.out.os) (hW.tape.trans HLb.out.tape) (hW.output.trans HLb.out.output) (Nat.le_trans HLb.out.size hW.size) (fun b hb hne=>(hW.keep b (by omega) hne (by omega) (by omega)).trans (HLb.out.block b (by omega))) (by obtain⟨fd,f',_,_,h,_⟩:=hW.found;exact h.kmap);obtain⟨fdV,fV,hfdV,hokV,hKV,hGV⟩:=hW.found
    have hxo:∀t y,TreeW (XR X (w8.heap.size+1+1+1+1) w0.heap.size own) V t y->TreeW (XO X (w8.heap.size+1+1+1+1) w0.heap.size V.heap.size own) V t y:=fun t y ht=>ht.keep (fun _ _ _=>rfl) (Nat.le_refl _) fun b _ hn hx=>hn (by
     rcases hx with h|h|h
     ·exact .inl h
     ·exact .inr (.inl h)
     ·exact .inr (.inr ⟨h.1,h.2.2⟩))
    have hwx:=Xfj (Xp its.xs) r.parts.xs i k x (hpre.subset (by simp));obtain⟨bP,oP,hPa,hbP,hPc⟩:=Hrl.out.1.at_ PartG.size_cells (by omega) (k:=0) (by have:=Hgr.out.2.2.2.2.1;omega);obtain⟨Va,hVa⟩:∃Va,V.alloc (.cells #[.slice none 0 0] 30)=Va:=⟨_,rfl⟩
    have hba:=X5 hVa;have hka:=Yg hVa;have hza:Va.heap.size=V.heap.size+1:=by rw[<- hVa];simp
    have hP0:PaSt g its N kb (XO X (w8.heap.size+1+1+1+1) w0.heap.size V.heap.size own) f0 (muG g c i k) i k V V.heap.size r.parts.xs x fdV (X3 c i k 0 its.xs++Yd (Xp its.xs) (derG g its.xs) c i k 0 (g.rules.xs.take j)++pre.flatMap (fun es=>Qo (derG g its.xs) j r i k es)) 0 i 0 0 [] [] 1 (.slice none 0 0) fV Va:=by
     have hno:∀t y,TreeW (XO X (w8.heap.size+1+1+1+1) w0.heap.size V.heap.size own) Va t y->TreeW (fun b=>XO X (w8.heap.size+1+1+1+1) w0.heap.size V.heap.size own b\/(Value.slice none 0 0).ownBlock=some b) Va t y:=fun t y ht=>ht.keep (fun _ _ _=>rfl) (Nat.le_refl _) fun b _ hn hx=>by
      rcases hx with h|h
      ·exact hn h
      ·simp[Value.ownBlock] at h
     have htt:=fun t y ht=>hno t y ((hxo t y ht).ext hba);exact⟨Xry _ _ _ _,by simpa using hwx,⟨Nat.le_refl _,by omega,Nat.le_refl _⟩,⟨by omega,by simp⟩,Nat.zero_le _,hka,KidsW.nil _ _ _,hKV.keep (hba.block _ (by omega)) htt,hGV,hokV.keep htt,.of_below hba⟩
    have HP0:=Xa hP0;have HxV:=Xa hxV;have HjV:=Xa hjV;have HrV:=Xa hrV;have HcV:=Xa hcV;have HfV:=Xa hfV;have HEV:=Xa hEV;have HfdV:=Xa hfdV;have HW:=Xa hW;have HEnc:=Xa hEnc;have Hza:=Xa hza;have Hlv:=Xa hlv;have hrVl:=Xd hrV;have hxVl:=Xd hxV;have hrn:wj.heap.size+1≠V.heap.size:=(by omega);have hxn:W.heap.size+1≠V.heap.size:=(by omega);have m4:=gblk hrV 4;have hrVa:=Xi hba hrV;have hxVa:=Xi hba hxV;obtain⟨z0,z1,z2,z3,z4⟩:=gb5 hrVa;obtain⟨y0,y1,y2⟩:=gb3 hxVa;obtain⟨Ad,cpe,hve,_⟩:=hEnc;obtain rfl:v = .slice Ad x.length cpe:=by simpa using hve
    have hpl4:=Hgr.out.2.2.2.2.2;have Hwx:=Xa hwx;obtain⟨iT,zT,hiT,hzT,hsT,hbT,hcT⟩:=Xsd;clear hve hP0 hxV hjV hrV hcV hfV hEV hfdV hW hza hlv hokV hKV hxo hst ho hka hwx hrVa hxVa;unfold waF;rw[hPa];gi_wp2_with fail
    clear hVa m4 z0 z1 z2 z3 z4 y0 y1 y2
    gi_loopw [9,10,12,13,49] (fun vc vm va vq vp wq=>∃(p at_ q:Nat) (C:Int) (kids:List TreeV) (ks:List TreeG) (e:Nat) (vk:Value) (f':X9->Option FoundG),p<=r.parts.xs.length/\vc = .int .i64 (r.cost+C)/\vm = .int .i64 (capN bigN e:Nat)/\va = .int .i64 (at_:Nat)/\vq = .int .i64 (q:Nat)/\vp = .int .i64 (p:Nat)/\Hid (PaSt g its N kb (XO X (w8.heap.size+1+1+1+1) w0.heap.size V.heap.size own) f0 (muG g c i k) i k V V.heap.size r.parts.xs x fdV (X3 c i k 0 its.xs++Yd (Xp its.xs) (derG g its.xs) c i k 0 (g.rules.xs.take j)++pre.flatMap (fun es=>Qo (derG g its.xs) j r i k es)) p at_ q C kids ks e vk f' wq)) (fun _ _ _ _ vp _=>r.parts.xs.length-(intOf vp).toNat)
    case atStart=>exact⟨0,i,0,0,[],[],1,.slice none 0 0,fV,Nat.zero_le _,by simp,rfl,rfl,rfl,rfl,HP0.out⟩
    case round =>
     obtain⟨p,at_,q,C,kids,ks,e,vk,f',hp,rfl,rfl,rfl,rfl,rfl,hP⟩:=hrel;have hlo:=hP.out.lo;have hco:=hP.out.cost;have hEW:=HEV.out.only hP.out.only (fun b hb => .inl hb) hP.out.known.kmap;have hstV:∀b o,V.heap[b]? = some o->b≠kb->wr.heap[b]? = some o:=fun b o hb e1=>(hP.out.only.block b (Xd hb) e1).trans hb;by_cases hlt2:p<r.parts.xs.length
     ·have hlt3:=hlt2
      have d0:wr.cell? ⟨bP,oP+p*3,none⟩=some (.string r.parts.xs[p].cat):=hPc p hlt2 wr hEW.low 0 _ rfl;have d1:wr.cell? ⟨bP,oP+p*3+1,none⟩=some (.int .i64 r.parts.xs[p].no):=hPc p hlt2 wr hEW.low 1 _ rfl;have d2:wr.cell? ⟨bP,oP+p*3+2,none⟩=some (.string r.parts.xs[p].text):=hPc p hlt2 wr hEW.low 2 _ rfl;have hgpp:=fun h=>Hgp.out _ (List.getElem_mem hlt2) h;have htx:=hP.out.text hlt2;have hwk:=X1c Hwx.out p at_ q hP.out.way hlo.1 hlo.2.1 hlt2;have hmk:=fun h u v h1 h2 h3 h4=>Hmu.out _ (List.getElem_mem hlt2) h u v h1 h2 h3 h4;obtain⟨part,hpart⟩:∃part,r.parts.xs[p]=part:=⟨_,rfl⟩
      by_cases ht:r.parts.xs[p].text.size≠0
      ·have hPt:=htx ht
       rw[hpart] at ht d0 d1 d2;have n1:=Xqs ht;have n2:=Uo (s:=part.text) (by omega);have n3:¬part.text.toList=[]:=(by intro h;rw[h] at n2;cases n2);obtain⟨wb2,hwb2⟩:∃wb2,wr.alloc (.cells #[.string part.cat,.int .i64 part.no,.string part.text] 81)=wb2:=⟨_,rfl⟩
       have hbb2:=X5 hwb2;have hpb2:=Yg hwb2;obtain⟨f0,f1,f2⟩:=gb3 hpb2;have HPt:=Xa (hPt.ext hbb2);have hat9:at_<=1000000:=by have:=Xp8 hP.out.way;omega
       clear hPt htx hwk hmk hgpp hpart hEW hstV hpb2 hbb2;gi_wp2_with fail
       go_roundw
       case rel=>exact⟨p+1,at_+1,q,C,kids,ks,e,vk,f',by omega,rfl,rfl,by go_num,rfl,by go_num,HPt.out⟩
       case measure=>simp[intOf];omega
      ·have ht0:r.parts.xs[p].text.size=0:=by omega
       obtain⟨hq,hlt5,hle5,hlen5,hway5⟩:=hwk ht0;obtain⟨_,bE,offE,hAd,⟨csE,frE,hbE⟩,hce⟩:=X1r HEnc.out (by omega);subst hAd;have hno2:=hgpp ht0;have hnoC:r.parts.xs[p].no<g.cats.xs.length:=(by rw[hno2.1];exact Xcl _ _);have hmu2:=hmk ht0 at_ x[q] hlo.1 hlt5 hle5 hlen5;rw[Hno.out] at hmu2;have hnone:=Xwg hP.out.mid hlt2 ht0 hq;have hroom:=fun (y:Dv) (hy:y∈derG g its.xs r.parts.xs[p].no at_ x[q])=>Xy0 hg hI hy hlt5 (by omega)
       have hkE:bE≠kb:=by
        rintro rfl;obtain⟨es',c',hkm⟩:=HEV.out.kmap;rw[hkm] at hbE;cases hbE
       have hEwr:=hstV _ _ hbE hkE;have hcwr:=hstV _ _ HcV.out (by omega);rw[hpart] at ht d0 d1 d2 hno2 hnoC hmu2 hnone hroom;have n1:=Xqr ht;have n2:=Up (s:=part.text) (by omega);have n3:part.text.toList=[]:=List.isEmpty_iff.1 n2;obtain⟨w12,hw12⟩:∃w12,wr.alloc (.cells #[.string part.cat,.int .i64 part.no,.string part.text] 81)=w12:=⟨_,rfl⟩
       have hb12:=X5 hw12;have hp12:=Yg hw12;have hz12:wr.heap.size<w12.heap.size:=Xd hp12;obtain⟨zp0,zp1,zp2⟩:=gb3 hp12;have hcc12:=Xe (Xi hb12 hcwr);have hE12:=Xi hb12 hEwr;have hce12:=hce w12 (hE12.trans hbE.symm) q hq;have hP12:=fun (U:World) (hU:Below w12.heap.size w12 U)=>hP.out.ext (Xb hb12 hU)
       have hFi:=fun (U:World) (hU:Below w12.heap.size w12 U)=>Hsub.out part.no at_ x[q] hno2.2 hnoC hlt5 (by omega) hmu2 (fun b=>XO X (w8.heap.size+1+1+1+1) w0.heap.size V.heap.size own b\/vk.ownBlock=some b) f' U (fun b hb=>by
        have hz1:=hP.out.only.size;have hz2:=(Xb hb12 hU).size;rcases hb with h|h
        ·rcases h with h|h|h
         ·have:=HX.out b h;omega
         ·omega
         ·have:=h.2.1;omega
        ·have:=(hP.out.kids.own.lt b h).2;omega) (hEW.ext (Xb hb12 hU)) (hP12 U hU).known
       have HFi:=Xa hFi;have HP12:=Xa hP12;have Hmu2:=Xa hmu2;have Hnone:=Xa hnone;have Hroom:=Xa hroom;have Hce:=Xa hce;have HbE:=Xa hbE;have Hpart:=Xa hpart;have Hway5:=Xa hway5;have i1:(0:Int)<=(q:Int):=(by omega);have i2:(q:Int)<(x.length:Int):=(by omega);have hwf:∀f,Fence.wide.fn f=True:=fun f=>by simp[Fence.wide]
       clear hno2 hnone hroom hmk hgpp hpart hstV hp12 hP12 hFi hmu2 hce hbE htx hwk hEwr hcwr hE12 hEW hway5;obtain⟨xq,hxq⟩:∃xq,x[q]=xq:=⟨_,rfl⟩
       rw[hxq] at hce12 HFi Hmu2;have Hxq:=Xa hxq;clear hxq;gi_wp2_with fail
       refine Xdw (fun (y:Nat×FoundG) a=>{a with tmps:=((((((((((a.tmps.setIfInBounds 58 (.pointer (some ⟨cb,0,none⟩))).setIfInBounds 59 (.pointer (some ⟨wr.heap.size,1,none⟩))).setIfInBounds 60 (.int .i64 part.no)).setIfInBounds 61 (.int .i64 (at_:Int))).setIfInBounds 62 (.slice (some ⟨bE,offE,none⟩) x.length cpe)).setIfInBounds 63 (.int .i64 (q:Int))).setIfInBounds 64 (.pointer (some ⟨bE,offE+q,none⟩))).setIfInBounds 65 (.int .i64 (xq:Int))).setIfInBounds 66 (.agg #[.int .i64 part.no,.int .i64 (at_:Int),.int .i64 (xq:Int)])).setIfInBounds 67 (y.2.vl)).setIfInBounds 16 (.pointer (some ⟨y.1,0,none⟩))})
        (fun y v=>Hid (v.heap[y.1]? = some y.2.ob/\FoundOk (fun b=>XO X (w8.heap.size+1+1+1+1) w0.heap.size V.heap.size own b\/vk.ownBlock=some b) v y.2 (Fd.of bigN (derG g its.xs part.no at_ xq))/\V.heap.size<y.1/\∃f2,PaSt g its N kb (XO X (w8.heap.size+1+1+1+1) w0.heap.size V.heap.size own) f0 (muG g c i k) i k V V.heap.size r.parts.xs x fdV (X3 c i k 0 its.xs++Yd (Xp its.xs) (derG g its.xs) c i k 0 (g.rules.xs.take j)++pre.flatMap (fun es=>Qo (derG g its.xs) j r i k es)) p at_ q C kids ks e vk f2 v)) ?_ ?_
       ·refine Vg (fun V'=>V'.cell? ⟨W.heap.size,0,none⟩=some (.pointer (some ⟨cb,0,none⟩))/\V'.cell? ⟨wr.heap.size,1,none⟩=some (.int .i64 part.no)/\V'.cell? ⟨bE,offE+q,none⟩=some (.int .i64 (xq:Int))) (by kernel_rfl) (by kernel_rfl) ?_
        have hC0:=And.intro hcc12 (And.intro zp1 hce12);refine Xc (i:=0) (hy:=fun V hV=>(by obtain⟨r1,r2,r3⟩:=hV;go_simp<;>rfl)) ?_;refine Xc (i:=1) (hy:=fun V hV=>(by obtain⟨r1,r2,r3⟩:=hV;go_simp<;>rfl)) ?_;refine Xc (i:=2) (hy:=fun V hV=>(by obtain⟨r1,r2,r3⟩:=hV;go_simp<;>rfl)) ?_;refine Xc (i:=3) (hy:=fun V hV=>(by obtain⟨r1,r2,r3⟩:=hV;go_simp<;>rfl)) ?_;refine Xc (i:=4) (hy:=fun V hV=>(by obtain⟨r1,r2,r3⟩:=hV;go_simp<;>rfl)) ?_;refine Xc (i:=5) (hy:=fun V hV=>(by obtain⟨r1,r2,r3⟩:=hV;go_simp<;>rfl)) ?_;refine Xc (i:=6) (hy:=fun V hV=>(by obtain⟨r1,r2,r3⟩:=hV;go_simp<;>rfl)) ?_;refine Xc (i:=7) (hy:=fun V hV=>(by obtain⟨r1,r2,r3⟩:=hV;go_simp<;>rfl)) ?_;refine Xc (i:=8) (hy:=fun V hV=>(by obtain⟨r1,r2,r3⟩:=hV;go_simp<;>rfl)) ?_;have hlS:=Ql hcc12;have hlP:=Ql zp1;have hlE:=Ql hce12
        have hCof:∀V':World,(∀b,b<w12.heap.size->b≠kb->V'.heap[b]? = w12.heap[b]?)->(V'.cell? ⟨W.heap.size,0,none⟩=some (.pointer (some ⟨cb,0,none⟩))/\V'.cell? ⟨wr.heap.size,1,none⟩=some (.int .i64 part.no)/\V'.cell? ⟨bE,offE+q,none⟩=some (.int .i64 (xq:Int))):=fun V' h =>
         ⟨(World.cell?_of_block (h _ hlS (by show W.heap.size≠kb;omega))).trans hcc12,(World.cell?_of_block (h _ hlP (by have:=hP.out.only.size;show wr.heap.size≠kb;omega))).trans zp1,(World.cell?_of_block (h _ hlE hkE)).trans hce12⟩
        have HCof:=Xa hCof;clear hCof;refine Xl (rs:=[9,10]) hC0 (by kernel_rfl) (by simp) (AllC.cons rfl (fun K hK=>?_) (AllC.cons rfl (fun K hK=>?_) AllC.nil))
        ·go_simp
         refine⟨rfl,callsIn_wide.2 ((HFi.out _ bd_q).mono ?_)⟩;rintro e9 w9 ⟨fd2,f2,rfl,hok2,hK2,hG2,hO2⟩;refine hK _ _ ?_;clear hK K;have hC9:=HCof.out w9 (fun b hb hn=>hO2.block b hb hn);refine Xh (i:=10) hC9 fun K hK=>?_;go_simp
         refine hK _ _ ?_;clear hK K;have hal:=fun o b (hb:b<w12.heap.size) (hn:b≠kb)=>(Below.heap_alloc w9 o b (Nat.lt_of_lt_of_le hb hO2.size)).trans (hO2.block b hb hn);refine Xh (i:=11) (HCof.out _ (fun b hb hn=>hal _ b hb hn)) fun K hK=>?_;go_simp
         refine hK _ _ ?_;clear hK K;have hBf:Below w9.heap.size w9 (w9.alloc fd2.ob):=ba_q;have hP9:=(HP12.out _ bd_q).find hO2 hK2 hG2 Hmu2.out;refine Xk (HCof.out _ (fun b hb hn=>hal _ b hb hn)) (by kernel_rfl) ?_ _;refine⟨(w9.heap.size,fd2),?_,?_⟩
         ·kernel_rfl
         ·refine Xa ⟨World.alloc_heap_new _ _,hok2.keep (fun _ _ h=>h.ext hBf),?_,f2,hP9.ext hBf⟩
          have h1:=hP.out.only.size;have h3:w12.heap.size<=w9.heap.size:=hO2.size;show V.heap.size<w9.heap.size;clear hC0 hlS hlP hlE hal hBf hP9;omega
        ·go_simp
         refine hK _ _ ?_;clear hK K;have hBz:Below w12.heap.size w12 (w12.alloc (.cells #[.bool false,.int .i64 0,.int .i64 0,.int .i64 0,.int .i64 0,.int .i64 0,.slice none 0 0,.int .i64 0] 114)).drew:=Xr ba_q;have hzz0:(w12.alloc (.cells #[.bool false,.int .i64 0,.int .i64 0,.int .i64 0,.int .i64 0,.int .i64 0,.slice none 0 0,.int .i64 0] 114)).drew.heap[w12.heap.size]? = some (.cells #[.bool false,.int .i64 0,.int .i64 0,.int .i64 0,.int .i64 0,.int .i64 0,.slice none 0 0,.int .i64 0] 114 (0,0)):=World.alloc_heap_new _ _;refine Xh (i:=9) (HCof.out _ (fun b hb _=>hBz.block b hb)) fun K hK=>?_;go_simp
         refine⟨rfl,callsIn_wide.2 ((HFi.out _ hBz).mono ?_)⟩;rintro e9 w9 ⟨fd2,f2,rfl,hok2,hK2,hG2,hO2⟩;refine hK _ _ ?_;clear hK K;have hn12:w12.heap.size≠kb:=by have h1:=hP.out.only.size;have h2:=hb12.size;omega
         have hz9:w9.heap[w12.heap.size]? = some (.cells #[.bool false,.int .i64 0,.int .i64 0,.int .i64 0,.int .i64 0,.int .i64 0,.slice none 0 0,.int .i64 0] 114 (0,0)):=(hO2.block _ (Xd hzz0) hn12).trans hzz0;have hC9:∀b,b<w12.heap.size->b≠kb->w9.heap[b]? = w12.heap[b]? := fun b hb hn=>(hO2.block b (Nat.lt_of_lt_of_le hb hBz.size) hn).trans (hBz.block b hb);have HC9:=Xa hC9;have Hz9:=Xa hz9;obtain⟨zq0,zq1,zq2,zq3,zq4,zq5,zq6,zq7⟩:=gb8 hz9;have hzf:=fun n=>Xf hz9 n;have hzl:=Xd hz9;clear hz9 hC9 hzz0;have hP9:=Xa (((HP12.out _ hBz).find hO2 hK2 hG2 Hmu2.out));have Hok2:=Xa hok2;have HO2:=Xa hO2;clear hok2 hO2 hK2 hG2;refine Xh (i:=11) (HCof.out _ HC9.out) fun K hK=>?_;go_simp
         refine hK _ _ ?_;clear hK K;have hs8:=Xah w9 w12.heap.size fd2;refine Xk (HCof.out _ (fun b hb hn=>(hs8.block b (by have:=HO2.out.size;have:=hBz.size;omega) (by show b≠w12.heap.size;omega)).trans (HC9.out b hb hn))) (by kernel_rfl) ?_ _;refine⟨(w12.heap.size,fd2),?_,?_⟩
         ·kernel_rfl
         ·refine Xa ⟨Xer (f:=⟨false,0,0,0,0,0,⟨none,0,0⟩,0⟩) Hz9.out fd2,Hok2.out.keep (fun _ _ h=>h.only hs8 fun b hb h=>(Zf Hz9.out) (by rw[show b=w12.heap.size from hb] at h;exact h.1)),?_,f2,hP9.out.other hs8 Hz9.out ?_⟩
          ·have h1:=hP.out.only.size
           show V.heap.size<w12.heap.size;clear hC0 hlS hlP hlE;omega
          ·have h1:=hP.out.only.size
           show V.heap.size<=w12.heap.size;clear hC0 hlS hlP hlE;omega
       ·rintro⟨bx,⟨ok2,cost2,ru2,it2,fr2,un2,kd2,my2⟩⟩ v16 H16
        obtain⟨hbx,hok2,hbxl,f2,hP16⟩:=H16.out;rcases Xrb hok2 with ⟨hn2,h2⟩|⟨cc,t,hs2,h2,h3,h4,h5⟩
        ·obtain rfl:ok2=false:=h2
         have zz0:=gblk hbx 0;have hfdw:v16.heap[fb]? = some fdV.ob:=(hP16.only.block _ (Xd HfdV.out) (by show fb≠kb;omega)).trans HfdV.out;have hx1:∀t y,TreeW (fun b=>XO X (w8.heap.size+1+1+1+1) w0.heap.size V.heap.size own b\/vk.ownBlock=some b) v16 t y->TreeW (XO X (w8.heap.size+1+1+1+1) w0.heap.size V.heap.size own) v16 t y:=fun t y ht=>ht.keep (fun _ _ _=>rfl) (Nat.le_refl _) fun b _ hn hx=>hn (.inl hx);have hrn0:Qo (derG g its.xs) j r i k x=[]:=Xsm (Hnone.out (by rw[Hxq.out];exact hn2))
         have hfin:=HW.out.done (es:=x) Hlv.out (Xcp hP16.only fun b hb => .inl hb) hfdw (by
          rw[List.flatMap_append,<- List.append_assoc];have h6:=hP16.found.keep hx1
          simpa[hrn0] using h6) (hP16.known.keep rfl hx1) hP16.grew
         have H9:=Xa hfin;clear hbx hok2 hP16 hn2 hfdw hx1 hrn0 hfin H16;gi_wp2_with fail
         exact H9.out
        ·obtain rfl:ok2=true:=h2
         obtain rfl:cost2=cc:=h3;obtain rfl:my2=((capN bigN (derG g its.xs part.no at_ xq).length:Nat):Int):=h5;have hrm:0<=cost2/\cost2<=1000000:=Hroom.out (cost2,t) (by rw[Hxq.out];exact(Xh7 hs2).1);have hgc:=Hgr.out;have hsum:IntKind.i64.wrap (r.cost+C+cost2)=r.cost+C+cost2:=IntWalk.i64_in _ (by omega);have hkl:=hP16.klen;have hkid:=hP16.kids.own;have hbk16:=hP16.box;have hEn16:v16.heap[bE]? = V.heap[bE]? := hP16.only.block _ (Xd HbE.out) hkE;have hlE16:bE<v16.heap.size:=by have:=Xd HbE.out;have:=hP16.only.size;omega
         obtain⟨Ak,ck,rfl,_⟩:=Y1 hkid;have hVv:=hP16.only.size;obtain⟨w18,hd18⟩:∃w18,v16.drew=w18:=⟨_,rfl⟩
         have hb18:Below v16.heap.size v16 w18:=(by rw[<- hd18];exact bd_q);obtain⟨w19,hw19⟩:∃w19,w18.alloc (.cells #[.int .i64 ru2,.int .i64 it2,.int .i64 fr2,.int .i64 un2,.slice kd2.addr kd2.len kd2.cap] 37)=w19:=⟨_,rfl⟩
         have hb19:=X5 hw19;have hb169:=Xb hb18 hb19;have hP18:=hP16.ext hb18;have hP19:=hP16.ext hb169;have hx18:=Xi hb18 hbx;have hx19:=Xi hb169 hbx;have cbk18:=Xe hP18.box;have cbk19:=Xe hP19.box
         have hnew:∀(j:Nat) (u:Value),[Value.int .i64 ru2,.int .i64 it2,.int .i64 fr2,.int .i64 un2,.slice kd2.addr kd2.len kd2.cap][j]? = some u->w19.cell? ((⟨w18.heap.size,0,none⟩:Addr).add j)=some u:=by
          rw[<- hw19];exact Qa w18 [.int .i64 ru2,.int .i64 it2,.int .i64 fr2,.int .i64 un2,.slice kd2.addr kd2.len kd2.cap] 37
         obtain⟨v',w1,hrun,hown',hgrow,_,hat⟩:=run_append_own_at (P:=Tryz.prog) w19 V.heap.size 30 30 37 iT zT 5 56 Tryz.underlying30 hiT hzT hsT hbT hcT (by decide) (.slice Ak ks.length ck) ks.length (ks.flatMap TreeG.cells) hP19.kids.own ⟨w18.heap.size,0,none⟩ 1 1 [.int .i64 ru2,.int .i64 it2,.int .i64 fr2,.int .i64 un2,.slice kd2.addr kd2.len kd2.cap] rfl hnew (by intro u hu;simp at hu;rcases hu with rfl|rfl|rfl|rfl|rfl<;>rfl) (by unfold maxLen;omega) (by omega) (by have:=hb169.size;omega);obtain⟨g',cap',rfl⟩:=ownsRow_succ hown';have hcT:=fun U=>(Xxd (capN bigN e) (capN bigN (derG g its.xs part.no at_ xq).length) U).mono (R':=fun e9 w9=>e9 = .returned (.int .i64 (capN bigN (e*(derG g its.xs part.no at_ xq).length):Nat))/\w9=U) (by rintro _ _ ⟨rfl,rfl⟩;exact⟨by rw[Xxf],rfl⟩);have HcT:=Xa hcT
         have hne1:∀ {b:Nat} {o:Obj},w19.heap[b]? = some o->(∀cs fr,o ≠ .cells cs 37 fr)->w1.heap[b]? = some o:=fun {b o} hb ho=>(hgrow.block b (Xd hb) fun e=>by
          obtain⟨cs,fr,hk⟩:=hP19.kids.own.kid e.symm;rw[hb] at hk;exact ho _ _ (Option.some.inj hk)).trans hb
         have hx1b:=hne1 hx19 (fun cs fr e=>by injection e with _ e2 _;exact absurd e2 (by decide));have hk1b:=hne1 hP19.box (fun cs fr e=>by injection e with _ e2 _;exact absurd e2 (by decide));have hE1b:w1.heap[bE]? = V.heap[bE]? := (hne1 ((hb169.block _ hlE16).trans (hEn16.trans HbE.out)) (fun cs fr e=>by injection e with _ e2 _;exact absurd e2 (by decide))).trans HbE.out.symm;have cbk1:=Xe hk1b;have fbk1:=Xf hk1b 0;have ce1:=Hce.out w1 hE1b q hq;rw[Hxq.out] at ce1;have hbE1:bE≠V.heap.size:=by have:=Xd HbE.out;omega
         have hbxk:bx≠V.heap.size:=by omega
         have hC:∀U:World,U.heap[bx]? = v16.heap[bx]? -> (U.cell? ⟨bx,1,none⟩=some (.int .i64 cost2)/\U.cell? ⟨bx,2,none⟩=some (.int .i64 ru2)/\U.cell? ⟨bx,3,none⟩=some (.int .i64 it2)/\U.cell? ⟨bx,4,none⟩=some (.int .i64 fr2)/\U.cell? ⟨bx,5,none⟩=some (.int .i64 un2)/\U.cell? ⟨bx,6,none⟩=some (.slice kd2.addr kd2.len kd2.cap)/\U.cell? ⟨bx,7,none⟩=some (.int .i64 ((capN bigN (derG g its.xs part.no at_ xq).length:Nat):Int))):=fun U hU=>by
          have h:=hU.trans hbx;exact⟨gblk h 1,gblk h 2,gblk h 3,gblk h 4,gblk h 5,gblk h 6,gblk h 7⟩
         have HC18:=Xa (hC w18 (hx18.trans hbx.symm));have HC19:=Xa (hC w19 (hx19.trans hbx.symm));have HC1:=Xa (hC w1 (hx1b.trans hbx.symm));have HCf:=Xa (hC (w1.setCell ⟨V.heap.size,0,none⟩ (.slice (some ⟨g',0,none⟩) (ks.length+1) cap')) ((Below.heap_setCell _ _ _ _ hbxk).trans (hx1b.trans hbx.symm)));have zz0:=gblk hbx 0;have hl8:¬r.parts.xs[p].text.size≠0:=(by rw[Hpart.out];exact ht);have hA8:Yc (derG g its.xs r.parts.xs[p].no at_ x[q])=some (cost2,t):=(by rw[Hpart.out,Hxq.out];exact hs2);have hPn:=hP19.cat (Nat.le_refl _) hlt3 hl8 hq hA8 hrm (h4.ext hb169) (x:=⟨ru2,it2,fr2,un2,kd2⟩) (OwnL.snoc (f:=TreeG.cells) ⟨ru2,it2,fr2,un2,kd2⟩ hown') hgrow hat ⟨hlt5,Hway5.out⟩;rw[Hpart.out,Hxq.out] at hPn;have HPn:=Xa hPn;clear hrm hgc hkid hEn16 hcT hP16 hP18 hP19 hs2 h4 hbx hok2 H16 hx18 hx19 hb18 hb19 hb169 hnew hown' hgrow hat hne1 hx1b hk1b hE1b hC hl8 hA8 hPn;gi_wp2_with fail
         apply Xdx (w':=w1.setCell ⟨V.heap.size,0,none⟩ (.slice (some ⟨g',0,none⟩) (ks.length+1) cap'))
         ·refine Vg (fun U=>(U.cell? ⟨bx,1,none⟩=some (.int .i64 cost2)/\U.cell? ⟨bx,2,none⟩=some (.int .i64 ru2)/\U.cell? ⟨bx,3,none⟩=some (.int .i64 it2)/\U.cell? ⟨bx,4,none⟩=some (.int .i64 fr2)/\U.cell? ⟨bx,5,none⟩=some (.int .i64 un2)/\U.cell? ⟨bx,6,none⟩=some (.slice kd2.addr kd2.len kd2.cap)/\U.cell? ⟨bx,7,none⟩=some (.int .i64 ((capN bigN (derG g its.xs part.no at_ xq).length:Nat):Int)))) (by kernel_rfl) (by kernel_rfl) ?_
          rw[hd18];refine Xc (i:=0) (hy:=fun V hV=>(by obtain⟨r1,r2,r3,r4,r5,r6,r7⟩:=hV;go_simp<;>rfl)) ?_;refine Xc (i:=1) (hy:=fun V hV=>(by obtain⟨r1,r2,r3,r4,r5,r6,r7⟩:=hV;go_simp<;>rfl)) ?_;refine Xc (i:=2) (hy:=fun V hV=>(by obtain⟨r1,r2,r3,r4,r5,r6,r7⟩:=hV;go_simp<;>rfl)) ?_;refine Xc (i:=3) (hy:=fun V hV=>(by obtain⟨r1,r2,r3,r4,r5,r6,r7⟩:=hV;go_simp<;>rfl)) ?_;refine Xc (i:=4) (hy:=fun V hV=>(by obtain⟨r1,r2,r3,r4,r5,r6,r7⟩:=hV;go_simp<;>rfl)) ?_;refine Xc (i:=5) (hy:=fun V hV=>(by obtain⟨r1,r2,r3,r4,r5,r6,r7⟩:=hV;go_simp<;>rfl)) ?_;refine Xc (i:=6) (hy:=fun V hV=>(by obtain⟨r1,r2,r3,r4,r5,r6,r7⟩:=hV;go_simp<;>rfl)) ?_;refine Xc (i:=9) (hy:=fun V hV=>(by obtain⟨r1,r2,r3,r4,r5,r6,r7⟩:=hV;go_simp<;>rfl)) ?_;refine Xc (i:=10) (hy:=fun V hV=>(by obtain⟨r1,r2,r3,r4,r5,r6,r7⟩:=hV;go_simp<;>rfl)) ?_;refine Xl (rs:=[7,8,11]) HC18.out (by kernel_rfl) (by simp) (AllC.cons rfl (fun K hK=>?_) (AllC.cons rfl (fun K hK=>?_) (AllC.cons rfl (fun K hK=>?_) AllC.nil)))
          ·go_simp
           refine⟨rfl,callsIn_wide.2 ((HcT.out _).mono ?_)⟩;rintro e9 w9 ⟨rfl,rfl⟩;refine hK _ _ ?_;clear hK K;refine Xl (rs:=[8,11]) HC18.out (by kernel_rfl) (by simp) (AllC.cons rfl (fun K hK=>?_) (AllC.cons rfl (fun K hK=>?_) AllC.nil))
           ·go_simp
            refine hK _ _ ?_;clear hK K;refine Xh (i:=11) HC18.out fun K hK=>?_;go_simp
            refine hK _ _ ?_;clear hK K;refine Xh (i:=12) HC19.out fun K hK=>?_;refine Xt rfl _ _ _ rfl rfl rfl hrun (hK _ _ ?_);clear hK K;refine Xh (i:=13) HC1.out fun K hK=>?_;go_simp
            refine hK _ _ ?_;clear hK K;refine Xh (i:=14) HC1.out fun K hK=>?_;go_simp
            refine hK _ _ ?_;clear hK K;refine Xh (i:=15) HC1.out fun K hK=>?_;go_simp
            refine hK _ _ ?_;clear hK K;refine Xk HCf.out (by kernel_rfl) ⟨rfl,rfl⟩ _
           ·go_simp
            refine hK _ _ ?_;clear hK K;refine Xh (i:=8) HC19.out fun K hK=>?_;go_simp
            refine hK _ _ ?_;clear hK K;refine Xh (i:=12) HC19.out fun K hK=>?_;refine Xt rfl _ _ _ rfl rfl rfl hrun (hK _ _ ?_);clear hK K;refine Xh (i:=13) HC1.out fun K hK=>?_;go_simp
            refine hK _ _ ?_;clear hK K;refine Xh (i:=14) HC1.out fun K hK=>?_;go_simp
            refine hK _ _ ?_;clear hK K;refine Xh (i:=15) HC1.out fun K hK=>?_;go_simp
            refine hK _ _ ?_;clear hK K;refine Xk HCf.out (by kernel_rfl) ⟨rfl,rfl⟩ _
          ·go_simp
           refine hK _ _ ?_;clear hK K;refine Xl (rs:=[7,11]) HC18.out (by kernel_rfl) (by simp) (AllC.cons rfl (fun K hK=>?_) (AllC.cons rfl (fun K hK=>?_) AllC.nil))
           ·go_simp
            refine⟨rfl,callsIn_wide.2 ((HcT.out _).mono ?_)⟩;rintro e9 w9 ⟨rfl,rfl⟩;refine hK _ _ ?_;clear hK K;refine Xh (i:=11) HC18.out fun K hK=>?_;go_simp
            refine hK _ _ ?_;clear hK K;refine Xh (i:=12) HC19.out fun K hK=>?_;refine Xt rfl _ _ _ rfl rfl rfl hrun (hK _ _ ?_);clear hK K;refine Xh (i:=13) HC1.out fun K hK=>?_;go_simp
            refine hK _ _ ?_;clear hK K;refine Xh (i:=14) HC1.out fun K hK=>?_;go_simp
            refine hK _ _ ?_;clear hK K;refine Xh (i:=15) HC1.out fun K hK=>?_;go_simp
            refine hK _ _ ?_;clear hK K;refine Xk HCf.out (by kernel_rfl) ⟨rfl,rfl⟩ _
           ·go_simp
            refine hK _ _ ?_;clear hK K;refine Xh (i:=7) HC19.out fun K hK=>?_;go_simp
            refine⟨rfl,callsIn_wide.2 ((HcT.out _).mono ?_)⟩;rintro e9 w9 ⟨rfl,rfl⟩;refine hK _ _ ?_;clear hK K;refine Xh (i:=12) HC19.out fun K hK=>?_;refine Xt rfl _ _ _ rfl rfl rfl hrun (hK _ _ ?_);clear hK K;refine Xh (i:=13) HC1.out fun K hK=>?_;go_simp
            refine hK _ _ ?_;clear hK K;refine Xh (i:=14) HC1.out fun K hK=>?_;go_simp
            refine hK _ _ ?_;clear hK K;refine Xh (i:=15) HC1.out fun K hK=>?_;go_simp
            refine hK _ _ ?_;clear hK K;refine Xk HCf.out (by kernel_rfl) ⟨rfl,rfl⟩ _
          ·go_simp
           refine hK _ _ ?_;clear hK K;refine Xl (rs:=[7,8]) HC19.out (by kernel_rfl) (by simp) (AllC.cons rfl (fun K hK=>?_) (AllC.cons rfl (fun K hK=>?_) AllC.nil))
           ·go_simp
            refine⟨rfl,callsIn_wide.2 ((HcT.out _).mono ?_)⟩;rintro e9 w9 ⟨rfl,rfl⟩;refine hK _ _ ?_;clear hK K;refine Xh (i:=8) HC19.out fun K hK=>?_;go_simp
            refine hK _ _ ?_;clear hK K;refine Xh (i:=12) HC19.out fun K hK=>?_;refine Xt rfl _ _ _ rfl rfl rfl hrun (hK _ _ ?_);clear hK K;refine Xh (i:=13) HC1.out fun K hK=>?_;go_simp
            refine hK _ _ ?_;clear hK K;refine Xh (i:=14) HC1.out fun K hK=>?_;go_simp
            refine hK _ _ ?_;clear hK K;refine Xh (i:=15) HC1.out fun K hK=>?_;go_simp
            refine hK _ _ ?_;clear hK K;refine Xk HCf.out (by kernel_rfl) ⟨rfl,rfl⟩ _
           ·go_simp
            refine hK _ _ ?_;clear hK K;refine Xh (i:=7) HC19.out fun K hK=>?_;go_simp
            refine⟨rfl,callsIn_wide.2 ((HcT.out _).mono ?_)⟩;rintro e9 w9 ⟨rfl,rfl⟩;refine hK _ _ ?_;clear hK K;refine Xh (i:=12) HC19.out fun K hK=>?_;refine Xt rfl _ _ _ rfl rfl rfl hrun (hK _ _ ?_);clear hK K;refine Xh (i:=13) HC1.out fun K hK=>?_;go_simp
            refine hK _ _ ?_;clear hK K;refine Xh (i:=14) HC1.out fun K hK=>?_;go_simp
            refine hK _ _ ?_;clear hK K;refine Xh (i:=15) HC1.out fun K hK=>?_;go_simp
            refine hK _ _ ?_;clear hK K;refine Xk HCf.out (by kernel_rfl) ⟨rfl,rfl⟩ _
         ·gi_wp2_with fail
          go_roundw
          case rel=>exact⟨p+1,xq,q+1,C+cost2,kids++[t],ks++[TreeG.mk ru2 it2 fr2 un2 kd2],e*(derG g its.xs part.no at_ xq).length,.slice (some ⟨g',0,none⟩) (ks.length+1) cap',f2,by omega,by rw[Int.add_assoc],rfl,rfl,by go_num,by go_num,HPn.out⟩
          case measure=>simp[intOf];omega
     ·obtain rfl:p=r.parts.xs.length:=by omega
      have hend:=Xz9 hP.out.mid;have hfdE:=X0o (j:=j) (r:=r) (i:=i) (k:=k) hend;have he:0<e:=hP.out.mid.1
      have hXO:∀b,XO X (w8.heap.size+1+1+1+1) w0.heap.size V.heap.size own b->b<V.heap.size:=fun b hb=>by
       rcases hb with h|h|h
       ·have:=HX.out b h;omega
       ·omega
       ·exact h.2.1
      obtain⟨A5,cap5,rfl,htree⟩:=hP.out.kids.tree hXO (j:Int) (-1) i k;have hkb9:=hP.out.box;have hx9:=hstV _ _ HxV.out (by omega);have hj9:=hstV _ _ HjV.out (by omega);have hf9:=hstV _ _ HfV.out (by omega);have hfd9:=hstV _ _ HfdV.out (by omega);have hnot:¬KidP wr fb:=Zf hfd9;have hmr:=Xk9 hP.out.found;have hc9:capN bigN e<=1099511627777:=Xts bigN e;have hc0:0<capN bigN e:=(by unfold capN;omega);have cf9:=Xe hf9;have hx1:∀t y,TreeW (fun b=>XO X (w8.heap.size+1+1+1+1) w0.heap.size V.heap.size own b\/(Value.slice A5 kids.length cap5).ownBlock=some b) wr t y->TreeW (XO X (w8.heap.size+1+1+1+1) w0.heap.size V.heap.size own) wr t y:=fun t y ht=>ht.keep (fun _ _ _=>rfl) (Nat.le_refl _) fun b _ hn hx=>hn (.inl hx)
      have cT:=Xp0 fb fdV (r.cost+C) (capN bigN e:Nat) 182 #[.pointer (some ⟨wj.heap.size,0,none⟩),.pointer (some ⟨W.heap.size+1,0,none⟩),.pointer (some ⟨V.heap.size,0,none⟩)] ⟨j, -1,i,k,⟨A5,kids.length,cap5⟩⟩ wr hfd9 (enters_of Tryz.func182 (by kernel_rfl) rfl)
       (fun U hU=>Xkj wj.heap.size (W.heap.size+1) V.heap.size j i k c _ A5 kids.length cap5 U ((hU.block _ (Xd hj9) (by show wj.heap.size≠fb;omega)).trans hj9) ((hU.block _ (Xd hx9) (by show W.heap.size+1≠fb;omega)).trans hx9) ((hU.block _ (Xd hkb9) (by show V.heap.size≠fb;omega)).trans hkb9) rfl) (IntWalk.i64_in _ (by omega))
      have hfin:∀w9,Xd5 fb (Xgu fdV (r.cost+C) (capN bigN e:Nat) ⟨j, -1,i,k,⟨A5,kids.length,cap5⟩⟩) wr (.returned (.tuple #[])) w9->∃own',BodyStep own own' V w9/\WaSt e0 cb kb wb top fb g its N X f0 c i k w0 (w8.heap.size+1+1+1+1) (X3 c i k 0 its.xs++Yd (Xp its.xs) (derG g its.xs) c i k 0 (g.rules.xs.take j)) (fun j es=>Qo (derG g its.xs) j r i k es) j own' (pre++[x]) w9:=by
       rintro w9 ⟨_,h1,h2⟩;have ht9:∀t y,TreeW (XO X (w8.heap.size+1+1+1+1) w0.heap.size V.heap.size own) wr t y->TreeW (XO X (w8.heap.size+1+1+1+1) w0.heap.size V.heap.size own) w9 t y:=fun t y ht=>ht.only h2 fun b hb h=>hnot (by rw[show b=fb from hb] at h;exact h.1);refine HW.out.done Hlv.out ((Xcp hP.out.only fun b hb => .inl hb).trans (Xcp h2 fun b hb => .inr hb)) h1 ?_ (hP.out.known.keep (h2.block _ (by have:=hP.out.only.size;omega) (by show kb≠fb;omega)) fun t y ht=>ht9 t y (hx1 t y ht)) hP.out.grew;have h5:=(hP.out.found.keep hx1).take (m:=capN bigN e) ht9 (cost:=r.cost+C) (ht9 _ _ htree);rw[<- hfdE,<- Fd.of_append] at h5;rw[List.flatMap_append,<- List.append_assoc]
       simpa using h5
      have HF:=Xa hfin;have HT:=Xa cT;obtain⟨m9,hm9⟩:∃m9,capN bigN e=m9:=⟨_,rfl⟩
      rw[hm9] at hc0 hc9 HF HT;rw[hm9];have g9:decide ((0:Int)<(m9:Int))=true:=decide_eq_true (by omega);have hmf:∀(fn:Fn) (first cap:Array Value) (w:World),(Instr.makeFunc fn first cap).run Tryz.prog w = .ok (.func fn first cap) w:=fun _ _ _ _=>rfl;clear hm9 hfin cT hx1 hnot hmr hkb9 hx9 hj9 hf9 hfd9 htree hXO hend hfdE hstV hEW hc9;gi_wp2_with fail
      refine⟨trivial,rfl,(callsIn_wide.2 HT.out).mono ?_⟩;intro e9 w9 h9;have H9:=Xa (HF.out w9 (by obtain⟨rfl,h⟩:=h9;exact⟨rfl,h⟩));obtain⟨rfl,_⟩:=h9;clear HF HT;gi_wp2_with fail
      exact H9.out
   ·rintro D own V hD hown hW hdf
    have hown':=hown;obtain⟨fd',f',h1,h2,h3,h4⟩:=hW.found;rw[Hst.out] at h2;have htr:∀t x,TreeW (XR X (w8.heap.size+1+1+1+1) w0.heap.size own) V t x->TreeW X V t x:=fun t x ht=>ht.keep (fun _ _ _=>rfl) (Nat.le_refl _) fun b _ hn hx=>hn (.inl hx);have hO:Only (fun b=>b=kb\/b=fb) w8 V:=⟨hW.os.trans HLb.out.os,hW.tape.trans HLb.out.tape,hW.output.trans HLb.out.output,Nat.le_trans HLb.out.size hW.size,fun b hb hn=>(hW.keep b (by have:=HLb.out.size;omega) (fun h=>hn (.inl h)) (fun h=>hn (.inr h)) (by omega)).trans (HLb.out.block b hb)⟩
    have hfin:RuSt e0 cb kb wb top fb g its N X f0 c i k W1 (X3 c i k 0 its.xs++Yd (Xp its.xs) (derG g its.xs) c i k 0 (g.rules.xs.take (j+1))) V :=
     ⟨HE8.out.only hO (fun b hb=>by rcases hb with h|h;exact .inl h;exact .inr (by omega)) h3.kmap,⟨fd',f',h1,h2.keep htr,h3.keep rfl htr,h4⟩,HS8.out.only.trans hO⟩
    have HF:=Xa hfin
    have HD2:Hid (∀D'∈D :: Ds,W1.heap.size<=D'/\V.heap[D']? = some (.deferred (some []))):=fun D' hD'=>by
     rcases List.mem_cons.1 hD' with rfl|h
     ·exact⟨by omega,hdf⟩
     ·have hd:=HD.out D' h
      have hlt8:=Xd hd.2;refine⟨hd.1,(hO.block D' hlt8 ?_).trans hd.2⟩;rintro(rfl|rfl)<;>omega
    have hnd2:(D :: Ds).Nodup:=List.nodup_cons.2 ⟨fun h=>by have:=Xd (HD.out D h).2;omega,hnd⟩;have hl1:j+1<=g.rules.xs.length:=hlt;clear hfin h2 h3 h4 htr hO hown hown' hW hdf h1;show wpAt _ _ _ _ _ _;refine Ur ?_;go_wp2_with fail
    refine⟨⟨D :: Ds,j+1,by (unfold ruF;rw[HRa.out];rfl),hl1,HF.out,hnd2,HD2.out⟩,?_⟩;simp[intOf];omega
   ·rintro D own c' pre V _ _ _ h
    exact h.elim
  ·have k1:(r.no != c)=true:=by simp[hno]
   have k2:(r.no == c)=false:=(by simp[hno]);have hsk:=hskip hno
   have hfin:RuSt e0 cb kb wb top fb g its N X f0 c i k W1 (X3 c i k 0 its.xs++Yd (Xp its.xs) (derG g its.xs) c i k 0 (g.rules.xs.take (j+1))) w8:=by
    rw[hsk];exact hS.ext hb8
   have HF:=Xa hfin;have HD:Hid (∀D∈Ds,W1.heap.size<=D/\w8.heap[D]? = some (.deferred (some []))):=fun D hD=>⟨(hDs D hD).1,(hb8.block _ (Xd (hDs D hD).2)).trans (hDs D hD).2⟩
   clear hfin hsk hskip hstep hmu hgp hgr hrl hRc hRa hS hj8 hr8 hx8 hDs hxw;refine Ur ?_;go_wp2_with fail
   refine⟨⟨Ds,j+1,by (unfold ruF;rw[HRa.out];rfl),by omega,HF.out,hnd,HD.out⟩,?_⟩;simp[intOf];omega
 ·obtain rfl:j=g.rules.xs.length:=by omega
  have hE2:=hS.env;obtain⟨fd',f',hf2,hok2,hK2,hG2⟩:=hS.found;rw[List.take_length,<- Xha hg] at hok2;have hkm:=hK2.kmap;have hO:=hS.only
  have hfin:∀W',W'.os=wj.os->W'.tape=wj.tape->W'.output=wj.output->W'.heap.size=wj.heap.size->(∀b,b∉Ds->W'.heap[b]? = wj.heap[b]?)->Xkn X g its.xs N kb fb f0 c i k W (.returned (.tuple #[])) W':=by
   intro W' h1 h2 h3 h4 h5;have hlow:∀b,b<W1.heap.size->W'.heap[b]? = wj.heap[b]? := fun b hb=>h5 b fun hD=>by have:=(hDs b hD).1;omega
   have ht:∀t x,TreeW X wj t x->TreeW X W' t x:=fun t x ht=>ht.keep (fun b ⟨cs,fr,hb⟩ _=>h5 b fun hD=>by rw[(hDs b hD).2] at hb;cases hb) (by omega) fun _ _ h=>h;refine⟨rfl,fd',f',(hlow fb (by omega)).trans hf2,hok2.keep ht,hK2.keep (hlow kb (by omega)) ht,hG2,?_⟩;exact Xo6 ((Only.of_below HB1.out).trans hO) h1 h2 h3 (by omega) fun b hb=>hlow b (by omega)
  have HF:=Xa hfin;have HD:=Xa hDs;clear hS hfin hDs hok2 hK2 hf2 hE2 hO;refine Ur ?_;go_wp2_with fail
  exact Xek rfl Ds wj (fun D hD=>(HD.out D hD).2) hnd HF.out
end
end
end Go.Proofs.YtolpbjjapodmnaaGreatDoor
