/- Texts of this claim, one after the other: DraF, DraL, DraM, DraS, DraT, DraU. -/
import Derived.Test.YtolpbjjapodmnaaGreatDoorM29
namespace Go.Proofs.YtolpbjjapodmnaaGreatDoor
open Go.RowKit Go.Han
set_option maxRecDepth 100000
attribute [local irreducible] wpStill wpQuiet
set_option maxHeartbeats 8000000
section
attribute [local go_sem] Oper.semAt_some
theorem Xpo (A:Option Addr) (cp n k:Nat) (W:World) (h:k<=n) (hc:n<=cp) :
  (Instr.slice 22 (.slice A n cp) none (some (.int .i64 k)) none).run Tryz.prog W = .ok (.slice (subA A cp 0 1) k cp) W:=by
 have e:=run_slice_h (P:=Tryz.prog) (w:=W) 22 A n cp (by rw[Tryz.underlying22];rfl) .i64 (k:Int) (by omega) (by omega);rw[e];have h2:((k:Int)).toNat=k:=by omega
 rw[h2];have h3:(Go.sizeOf (Tryz.prog.elem 22)).run Tryz.prog W = .ok 1 W:=by kernel_rfl
 rw[h3];rfl
theorem Xss (g cp n k:Nat) (W:World) (h:k<=n) (hc:n<=cp) :
  (Instr.slice 22 (.slice (some ⟨g,0,none⟩) n cp) none (some (.int .i64 k)) none).run Tryz.prog W = .ok (.slice (some ⟨g,0,none⟩) k cp) W:=by
 have h1:=Xpo (some ⟨g,0,none⟩) cp n k W h hc
 rwa [show subA (some ⟨g,0,none⟩) cp 0 1=some ⟨g,0,none⟩ from by unfold subA;split<;>simp[Addr.add]] at h1
def FromPost (w0:World) (N B0 B1 D:Nat) (R M:Nat->Prop) (J Jx:(Nat->Prop)->List (List ByteArray)->World->Prop) (Jp:List PanicEntry->World->Prop) (xs ys:List (List ByteArray)) (cur:List ByteArray) (ways:List (List ByteArray)) (e:Ending) (W':World):Prop :=
 (e = .returned (.bool true)/\∃own' v',DrSt w0 N B0 B1 D R M J own' (ys++ways) cur v' W')\/(e = .returned (.bool false)/\∃own' pre,pre <+: xs/\Jx own' pre W')\/(∃ch,e = .panicked ch/\Jp ch W')
theorem FromPost.two {w0:World} {N B0 B1 D:Nat} {R M:Nat->Prop} {J Jx:(Nat->Prop)->List (List ByteArray)->World->Prop} {Jp:List PanicEntry->World->Prop} {xs ys:List (List ByteArray)} {cur:List ByteArray} {ways:List (List ByteArray)} {e:Ending} {W':World} (h:FromPost w0 N B0 B1 D R M J Jx Jp xs ys cur ways e W') :
  (e = .returned (.bool true)/\∃own' v',DrSt w0 N B0 B1 D R M J own' (ys++ways) cur v' W')\/(e = .returned (.bool false)/\∃own' pre,pre <+: xs/\Jx own' pre W')\/(∃ch,e = .panicked ch/\Jp ch W'):=h
def Xc3 (mo:List ByteArray) (n:Nat) (cur:List ByteArray) (d:Nat):List (List ByteArray):=(mo.take d).flatMap fun x=>genL mo n (cur++[x])
theorem Xrc (mo:List ByteArray) (n:Nat) (cur:List ByteArray) {d:Nat} (h:d<mo.length):Xc3 mo n cur (d+1)=Xc3 mo n cur d++genL mo n (cur++[mo[d]]):=by
 unfold Xc3;rw[List.take_succ_eq_append_getElem h,List.flatMap_append,List.flatMap_cons,List.flatMap_nil,List.append_nil]
theorem Xk0 (mo:List ByteArray) (n:Nat) (cur:List ByteArray):Xc3 mo n cur mo.length=genL mo (n+1) cur:=by
 unfold Xc3;rw[List.take_length];rfl
theorem Xvk (mo:List ByteArray) (n:Nat) (cur:List ByteArray) (d:Nat):Xc3 mo n cur d <+: genL mo (n+1) cur:=by
 rw[<- Xk0];unfold Xc3;rw[List.take_length];have e:∀f:ByteArray->List (List ByteArray),mo.flatMap f=(mo.take d).flatMap f++(mo.drop d).flatMap f:=fun f=>by rw[<- List.flatMap_append,List.take_append_drop]
 rw[e];exact List.prefix_append _ _
structure FromUse (w0:World) (m N B0 B1 D:Nat) (R M:Nat->Prop) (J Jx:(Nat->Prop)->List (List ByteArray)->World->Prop) (Jp:List PanicEntry->World->Prop) (l':Nat) (xs:List (List ByteArray)) (mo:StrS) (k:Nat) (v0:Value):Prop where
 env:Xhk w0 N B0 B1 D R M
 b:ContB w0 m N mo k v0
 lie:mo.lies w0
 far:∀b off,mo.addr=some ⟨b,off,none⟩->mo.xs≠[]->R b/\¬M b
 rm:R m/\¬M m
 rf:R (N+1)/\¬M (N+1)
 st:Yp B0 M J
 y:∀own pre x vs W1,J own pre W1->pre++[x] <+: xs->EncS x vs W1->(∀k,own k->¬R k)->(∀k,own k->k<W1.heap.size)->YieldAt Fence.wide 0 Tryz.prog l' vs W1 (V0 J Jx Jp own (pre++[x]) W1)
def T9 (left l' m N:Nat):Array Value:=#[.int .i64 left,.func (.yield l') #[] #[],.pointer (some ⟨N,0,none⟩),.pointer (some ⟨m,0,none⟩),.pointer (some ⟨N+1,0,none⟩)]
section
variable {w0:World} {m N B0 B1 D:Nat} {R M:Nat->Prop} {J Jx:(Nat->Prop)->List (List ByteArray)->World->Prop} {Jp:List PanicEntry->World->Prop} {l':Nat} {xs:List (List ByteArray)} {mo:StrS} {k:Nat} {v0:Value}
theorem FromUse.moAt (U:FromUse w0 m N B0 B1 D R M J Jx Jp l' xs mo k v0) {W:World} (hk:∀b,R b->¬M b->W.heap[b]? = w0.heap[b]?) (hz:w0.heap.size<=W.heap.size):mo.lies W:=by
 refine⟨?_,U.lie.cap,U.lie.max,U.lie.nil⟩;by_cases hx:mo.xs=[]
 ·rw[hx];exact Rd.nil _ _
 rcases U.lie.rd with h0|⟨b,off,he,hlt,hc⟩
 ·exact .inl h0
 ·have hf:=U.far b off he hx
  exact .inr ⟨b,off,he,Nat.lt_of_lt_of_le hlt hz,fun j u hu=>(World.cell?_of_block (w:=w0) (hk b hf.1 hf.2)).trans (hc j u hu)⟩
theorem Xze (U:FromUse w0 m N B0 B1 D R M J Jx Jp l' xs mo k v0) (own:Nat->Prop) (ys:List (List ByteArray)) (cur:List ByteArray) (v:Value) (W:World) (hS:DrSt w0 N B0 B1 D R M J own ys cur v W) (hpre:ys++[cur] <+: xs) :
  Calls Tryz.prog 174 (T9 0 l' m N) W (FromPost w0 N B0 B1 D R M J Jx Jp xs ys cur [cur]):=by
 have ce0:=Xe hS.box;refine(callsIn_wide (n:=0)).1 ?_;unfold T9;refine callsIn_of_wp Tryz.func174 rfl trivial ?_;simp only[Tryz.ntmps174,Zr,Nat.reduceAdd,Nat.reduceSub];obtain⟨fn,tmps,assign,body,hyy,hrd⟩:=U.y own ys cur #[v] W hS.j hpre hS.enc hS.apart hS.live
 have fin:∀e w9,V0 J Jx Jp own (ys++[cur]) W e w9->(e = .returned (.bool true)/\FromPost w0 N B0 B1 D R M J Jx Jp xs ys cur [cur] (.returned (.bool true)) w9)\/(e = .returned (.bool false)/\FromPost w0 N B0 B1 D R M J Jx Jp xs ys cur [cur] (.returned (.bool false)) w9)\/(∃ch,e = .panicked ch/\FromPost w0 N B0 B1 D R M J Jx Jp xs ys cur [cur] (.panicked ch) w9):=by
  rintro e w9 (⟨own',hb,⟨rfl,hj⟩|⟨rfl,hj⟩⟩|⟨ch,rfl,h⟩)
  ·exact .inl ⟨rfl,.inl ⟨rfl,own',v,hS.body U.env hb hj⟩⟩
  ·exact .inr (.inl ⟨rfl,.inr (.inl ⟨rfl,own',_,hpre,hj⟩)⟩)
  ·exact .inr (.inr ⟨ch,rfl,.inr (.inr ⟨ch,rfl,h⟩)⟩)
 have HF:=Xa fin;have HRd:=Xa hrd;clear U hS hrd hpre fin;gi_wp2_with (have hmark:=hyy;refine⟨rfl,HRd.out.mono ?_⟩;intro e w9 h9;rcases HF.out e w9 h9 with ⟨rfl,k9⟩|⟨rfl,k9⟩|⟨ch,rfl,k9⟩<;>have H9:=Xa k9<;>clear k9 h9)
 all_goals first|(go_ret;exact H9.out)|exact⟨rfl,H9.out⟩|trace_state
theorem Xvj (U:FromUse w0 m N B0 B1 D R M J Jx Jp l' xs mo k v0) (n:Nat) (own:Nat->Prop) (ys:List (List ByteArray)) (cur:List ByteArray) (v:Value) (W:World) (hn:cur.length+(n+1)<=1000) (hS:DrSt w0 N B0 B1 D R M J own ys cur v W) (hpre:ys++genL mo.xs (n+1) cur <+: xs)
  (hrec:∀(own:Nat->Prop) (ys:List (List ByteArray)) (x:ByteArray) (v:Value) (V:World),DrSt w0 N B0 B1 D R M J own ys (cur++[x]) v V->ys++genL mo.xs n (cur++[x]) <+: xs->Calls Tryz.prog 174 (T9 n l' m N) V (FromPost w0 N B0 B1 D R M J Jx Jp xs ys (cur++[x]) (genL mo.xs n (cur++[x])))) :
  Calls Tryz.prog 174 (T9 (n+1) l' m N) W (FromPost w0 N B0 B1 D R M J Jx Jp xs ys cur (genL mo.xs (n+1) cur)):=by
 have hk0:=hS.keep;have cm0:=Xe ((hk0 m U.rm.1 U.rm.2).trans U.b.more);have hml:=Nat.le_trans U.lie.cap U.lie.max;have g0:(((n+1:Nat):Int) == 0)=false:=by simp;omega
 have g01:((n:Int)+1 == 0)=false:=by simp;omega
 have HU:=Xa U;have HR:=Xa hrec;have HS:=Xa hS;have Hpre:=Xa hpre;clear U hS hpre hrec hk0;refine(callsIn_wide (n:=0)).1 ?_;unfold T9;rw[show ((n+1:Nat):Int)=(n:Int)+1 from by omega];refine callsIn_of_wp Tryz.func174 rfl trivial ?_;simp only[Tryz.ntmps174,Zr,Nat.reduceAdd,Nat.reduceSub];gi_wp2_with fail
 gi_loopw [17] (fun iv wr=>∃(d:Nat) (own':Nat->Prop) (v':Value),d<=mo.xs.length/\iv = .int .i64 d/\Hid (DrSt w0 N B0 B1 D R M J own' (ys++Xc3 mo.xs n cur d) cur v' wr)) (fun iv _=>mo.xs.length-(intOf iv).toNat)
 case atStart=>exact⟨0,own,v,Nat.zero_le _,rfl,by (show DrSt _ _ _ _ _ _ _ _ _ _ _ _ _);simpa[Xc3] using HS.out⟩
 case round =>
  obtain⟨d,own2,v2,hd,rfl,hS2⟩:=hrel;have cf2:=Xe ((hS2.out.keep (N+1) HU.out.rf.1 HU.out.rf.2).trans HU.out.b.frm);have ce2:=Xe hS2.out.box;unfold Xid at cf2;by_cases hlt:d<mo.xs.length
  ·obtain⟨bm,om,hA,hbm,hcm⟩:=StrS.at_ (HU.out.moAt hS2.out.keep (Nat.le_trans HU.out.env.size hS2.out.size)) (k:=d) hlt
   have cx:=hcm d hlt;have hws:=Xrc mo.xs n cur hlt;have hpr:=(List.prefix_append_right_inj ys).2 (Xvk mo.xs n cur (d+1));have Hpr0:=Xa (hpr.trans Hpre.out);rw[hA];have HA:=Xa hA;clear hcm hA hpr;generalize mo.xs[d]=x at *;have Hws:=Xa hws;have hrow:wr.ownsRow D 9 1 v2 cur.length (cur.flatMap strD):=hS2.out.row;have hDw:D<=wr.heap.size:=Nat.le_trans HU.out.env.db hS2.out.size;have HSa:=Xa (hS2.out.ext HU.out.env HU.out.st (Xg (Below.refl wr.heap.size wr) (.cells #[.string x] 9)));have Hfa:=Xa ((Below.heap_alloc wr (.cells #[.string x] 9) _ (Xd ((hS2.out.keep (N+1) HU.out.rf.1 HU.out.rf.2).trans HU.out.b.frm))).trans ((hS2.out.keep (N+1) HU.out.rf.1 HU.out.rf.2).trans HU.out.b.frm));have hz:(wr.alloc (.cells #[.string x] 9)).heap.size=wr.heap.size+1:=(by simp);obtain⟨i0,hi0,hz0,hz1,hz2⟩:=info_parts Xff;have hN1:N+1≠N:=by omega
   have hpr:(ys++Xc3 mo.xs n cur d)++genL mo.xs n (cur++[x]) <+: xs:=by
    rw[List.append_assoc,<- hws];exact Hpr0.out
   have Hpr:=Xa hpr;have hcl:cur.length<=1000:=(by omega);clear hws hpr Hpr0;gi_wp2_with (first|(gi_at_builtin;refine Za _ rfl _ _ 22 rfl D 9 i0 (.string ⟨#[]⟩) 1 16 Tryz.underlying22 hi0 hz0 hz1 hz2 rfl (by decide) _ _ _ rfl (hrow.alloc _) ⟨wr.heap.size,0,none⟩ 1 1 [.string x] rfl rfl (cell_one_new _ _ _) (by simp[Value.oneCell']) (by unfold maxLen;omega) (by omega) (by simp;omega) ?_;intro v3 w3 hown3 hgrow hat;obtain⟨g3,cap3,rfl⟩:=ownsRow_succ hown3;have hbx3:=HSa.out.boxG HU.out.env hgrow HSa.out.box (HU.out.env.mR _ HU.out.env.mN) (.inr rfl);have hc3:=Xe hbx3;have hf3:=Xf hbx3 0;have hl3:=Xe (HSa.out.boxG HU.out.env hgrow Hfa.out HU.out.rf.1 (.inl HU.out.rf.2));unfold Xid at hl3;have hpush:=HSa.out.push HU.out.env HU.out.st (x:=x) (OwnL.snoc x hown3) hgrow hat;have HC:=Xa (HR.out own2 _ x _ _ hpush Hpr.out);clear hpush hbx3)|(have hmark:=hl3;refine⟨trivial,rfl,(callsIn_wide.2 HC.out).mono ?_⟩;intro e w9 h9;rcases h9.two with ⟨rfl,own5,v5,hS5⟩|⟨rfl,k9⟩|⟨ch,rfl,k9⟩<;>(first|(obtain⟨g5,cp5,rfl,hle5⟩:=hS5.form;have hbx5:=hS5.box;have hc5:=Xe hbx5;have hf5:=Xf hbx5 0;have hup5:=Xss g5 cp5 (cur.length+1) cur.length w9 (by omega) hle5;have H5:=Xa hS5;clear hS5 hbx5 h9)|(have H9:=Xa k9;clear k9 h9))))
   ·try rw[<- HA.out]
    go_roundw
    case rel =>
     refine⟨d+1,own5,.slice (some ⟨g5,0,none⟩) cur.length cp5,by omega,by go_num,?_⟩;have h:=H5.out.pop HU.out.env HU.out.st;rw[List.append_assoc,<- Hws.out] at h;exact h
    case measure=>simp[intOf];omega
   ·go_ret
    exact .inr (.inl ⟨rfl,H9.out⟩)
   ·exact⟨rfl,.inr (.inr ⟨_,rfl,H9.out⟩)⟩
  ·obtain rfl:d=mo.xs.length:=by omega
   rw[Xk0] at hS2;clear HU HR;gi_wp2_with fail
   go_ret;exact .inl ⟨rfl,own2,v2,hS2.out⟩
theorem from1 (U:FromUse w0 m N B0 B1 D R M J Jx Jp l' xs mo k v0):∀(n:Nat) (own:Nat->Prop) (ys:List (List ByteArray)) (cur:List ByteArray) (v:Value) (W:World),cur.length+n<=1000->DrSt w0 N B0 B1 D R M J own ys cur v W->ys++genL mo.xs n cur <+: xs ->
  Calls Tryz.prog 174 (T9 n l' m N) W (FromPost w0 N B0 B1 D R M J Jx Jp xs ys cur (genL mo.xs n cur))
 | 0,own,ys,cur,v,W,_,hS,hpre=>Xze U own ys cur v W hS hpre
 | n+1,own,ys,cur,v,W,hn,hS,hpre=>Xvj U n own ys cur v W hn hS hpre fun own ys x v V hSV hpr=>from1 U n own ys (cur++[x]) v V (by rw[List.length_append];simp;omega) hSV hpr
end
theorem cont2 {w w0:World} {ws mo:StrS} {n:Nat} {e:Ending} (h:Xhj mo n ws.xs w e w0) (hmo:mo.lies w) (hn:ws.xs.length+n<=1000) {R:Nat->Prop} (hR:∀b,R b->b<w0.heap.size) (hRn:∀b,w.heap.size<=b->b<w0.heap.size->R b) (hfar:∀b off,mo.addr=some ⟨b,off,none⟩->mo.xs≠[]->R b) :
  ∃N,e = .returned (.func (.func 175) #[] #[.pointer (some ⟨N+1,0,none⟩),.pointer (some ⟨w.heap.size+1,0,none⟩)])/\∃M:Nat->Prop,(∀b,M b->w.heap.size<=b) /\
  IterZ Tryz.prog 175 #[.pointer (some ⟨N+1,0,none⟩),.pointer (some ⟨w.heap.size+1,0,none⟩)] EncS R M (genL mo.xs n ws.xs) w0:=by
 obtain⟨N,v,rfl,hB,hrow,hN,hz,hv,hb⟩:=h;have hvN:v.ownBlock≠some (w.heap.size+1)/\v.ownBlock≠some w.heap.size:=⟨fun e=>by have:=(hrow.lt _ e).1;omega,fun e=>by have:=(hrow.lt _ e).1;omega⟩
 refine⟨N,rfl,fun b=>b=N\/v.ownBlock=some b,fun b hb=>?_,?_⟩
 ·rcases hb with rfl|hb
  ·omega
  ·have:=(hrow.lt b hb).1;omega
 intro l' B0 J Jx Jp own₀ W hRW hown hB0 hlive hJ hJx hY h0
 have E:Xhk w0 N B0 W.heap.size (w.heap.size+1+1) R (fun b=>b=N\/v.ownBlock=some b):=by
  have hRN:R (N+1):=hRn _ (by omega) (by omega);refine⟨.inl rfl,fun b hb=>?_,fun b hb=>(hRW b hb).1,hB0,?_,?_,hR⟩
  ·rcases hb with rfl|hb
   ·exact hRn _ (by omega) (by omega)
   ·exact hRn _ (by have:=(hrow.lt b hb).1;omega) (by have:=hv b hb;omega)
  ·have:=(hRW _ hRN).1;omega
  ·have:=(hRW _ hRN).1;omega
 have hmf:∀b off,mo.addr=some ⟨b,off,none⟩->¬(b=N\/v.ownBlock=some b)\/mo.xs=[]:=fun b off hA=>by
  rcases hmo.rd with h1|⟨b',off',he,hlt,_⟩
  ·exact .inr (by unfold strs at h1;exact List.map_eq_nil_iff.1 h1)
  ·rw[hA] at he
   cases he;refine .inl fun hb=>?_;rcases hb with rfl|hb
   ·omega
   ·have:=(hrow.lt b hb).1;omega
 have hkeep0:∀b,R b->W.heap[b]? = w0.heap[b]? := fun b hb=>(hRW b hb).2;have hv0:∀g,v.ownBlock=some g->R g:=fun g hg=>hRn _ (by have:=(hrow.lt g hg).1;omega) (by have:=hv g hg;omega);have hzW:w0.heap.size<=W.heap.size:=E.size
 have hS:DrSt w0 N B0 W.heap.size (w.heap.size+1+1) R (fun b=>b=N\/v.ownBlock=some b) J own₀ [] ws.xs v W :=
  ⟨h0,fun b hb _=>hkeep0 b hb,hown,hlive,Nat.le_refl _,(hkeep0 N (hRn _ (by omega) (by omega))).trans hB.box,hrow.block fun g hg=>hkeep0 g (hv0 g hg),fun g hg=>⟨fun ho=>hown g ho (hv0 g hg),.inl (.inr hg)⟩⟩
 have hmR:R w.heap.size/\¬(w.heap.size=N\/v.ownBlock=some w.heap.size):=⟨hRn _ (by omega) (by omega),fun h=>by rcases h with h|h;omega;exact hvN.2 h⟩
 have hfR:R (N+1)/\¬(N+1=N\/v.ownBlock=some (N+1)):=⟨hRn _ (by omega) (by omega),fun h=>by rcases h with h|h;omega;have:=hv _ h;omega⟩
 have hc:Calls Tryz.prog 174 (T9 n l' w.heap.size N) W (FromPost w0 N B0 W.heap.size (w.heap.size+1+1) R (fun b=>b=N\/v.ownBlock=some b) J Jx Jp (genL mo.xs n ws.xs) [] ws.xs (genL mo.xs n ws.xs)):=by
  have U:FromUse w0 w.heap.size N B0 W.heap.size (w.heap.size+1+1) R (fun b=>b=N\/v.ownBlock=some b) J Jx Jp l' (genL mo.xs n ws.xs) mo n v:=⟨E,hB,hmo.ext hb,fun b off hA hx=>⟨hfar b off hA hx,(hmf b off hA).resolve_right hx⟩,hmR,hfR,hJ,hY⟩
  exact from1 U n own₀ [] ws.xs v W hn hS (by simp)
 have hc':Calls Tryz.prog 174 #[.int .i64 (n:Int),.func (.yield l') #[] #[],.pointer (some ⟨N,0,none⟩),.pointer (some ⟨w.heap.size,0,none⟩),.pointer (some ⟨N+1,0,none⟩)] W (FromPost w0 N B0 W.heap.size (w.heap.size+1+1) R (fun b=>b=N\/v.ownBlock=some b) J Jx Jp (genL mo.xs n ws.xs) [] ws.xs (genL mo.xs n ws.xs)):=hc;have cl:=Xe ((hkeep0 _ hfR.1).trans hB.frm);unfold Xid at cl;have cm:=Xe ((hkeep0 (w.heap.size+1) (hRn _ (by omega) (by omega))).trans hB.many);have HC:=Xa hc';clear hc hc' hS hmf E hkeep0 hv0 hJ hJx hY h0 hRW hown hlive hR hRn hfar hB hrow hv hb hvN hmR hfR hz;go_enter Tryz.func175,Tryz.ntmps175
 go_wp2_with fail
 refine HC.out.mono ?_;intro e w9 h9;rcases h9.two with ⟨rfl,own',v',h⟩|⟨rfl,own',pre,h1,h2⟩|⟨ch,rfl,hp⟩
 ·have hj:=h.j
  rw[List.nil_append] at hj;have HJ:=Xa hj;clear hj h h9;go_wp2_with fail
  exact bodyPost_ret (results_none rfl _ _ _) rfl (.inl ⟨rfl,⟨_,rfl⟩,own',HJ.out⟩)
 ·have H2:=Xa h2
  clear h2 h9;go_wp2_with fail
  exact bodyPost_ret (results_none rfl _ _ _) rfl (.inr (.inl ⟨⟨_,rfl⟩,own',pre,h1,H2.out⟩))
 ·have H2:=Xa hp
  clear hp h9;go_wp2_with fail
  exact⟨rfl,.inr (.inr (.inl ⟨ch,rfl,H2.out⟩))⟩
end
def drF (s mo:StrS) (b c8 n0 K:Nat) (u:Nat->Value) (j:Nat):Array Value :=
 #[u 0,u 1,u 2,.slice s.addr s.xs.length s.cap,.slice mo.addr mo.xs.length mo.cap,u 5,u 6,u 7,u 8,u 9,u 10,u 11,u 12,u 13,u 14,u 15,.pointer (some ⟨b+1+1+1+1+1,0,none⟩),.pointer (some ⟨b+1+1+1+1+1+1,0,none⟩),.pointer (some ⟨b+1+1+1+1+1+1+1,0,none⟩),.pointer (some ⟨c8,0,none⟩),u 20,u 21,u 22,.pointer (some ⟨n0,0,none⟩),u 24,u 25,u 26,u 27,u 28,u 29,u 30,u 31,u 32,u 33,u 34,u 35,u 36,u 37,u 38,u 39,u 40,u 41,u 42,u 43,u 44,u 45,u 46,u 47,u 48,u 49,u 50,u 51,u 52,u 53,u 54,u 55,u 56,u 57,u 58,u 59,u 60,u 61,u 62,u 63,u 64,u 65,u 66,u 67,u 68,.int .i64 ((K:Int)+1),.int .i64 (j:Int),u 71,u 72,u 73,u 74,u 75,u 76,u 77,u 78,u 79,u 80,u 81,u 82,u 83,u 84,u 85,u 86,u 87,u 88,u 89]
def drG (s mo:StrS) (b c8 n0 K:Nat) (u:Nat->Value) (j:Nat) (it v:Value):Array Value :=
 #[u 0,u 1,u 2,.slice s.addr s.xs.length s.cap,.slice mo.addr mo.xs.length mo.cap,u 5,u 6,u 7,u 8,u 9,u 10,u 11,u 12,u 13,u 14,u 15,.pointer (some ⟨b+1+1+1+1+1,0,none⟩),.pointer (some ⟨b+1+1+1+1+1+1,0,none⟩),.pointer (some ⟨b+1+1+1+1+1+1+1,0,none⟩),.pointer (some ⟨c8,0,none⟩),u 20,u 21,u 22,.pointer (some ⟨n0,0,none⟩),.int .i64 (j:Int),v,u 26,u 27,u 28,u 29,u 30,u 31,u 32,u 33,u 34,u 35,u 36,u 37,u 38,u 39,u 40,u 41,u 42,u 43,u 44,u 45,u 46,u 47,u 48,u 49,u 50,u 51,u 52,u 53,u 54,u 55,u 56,u 57,u 58,u 59,u 60,u 61,u 62,u 63,u 64,u 65,u 66,u 67,u 68,.int .i64 ((K:Int)+1),.int .i64 (j:Int),.bool true,.int .i64 (j:Int),.slice s.addr s.xs.length s.cap,.slice mo.addr mo.xs.length mo.cap,.int .i64 (j:Int),it,v,u 78,u 79,u 80,u 81,u 82,u 83,u 84,u 85,u 86,u 87,u 88,u 89]
structure LsSt (w W5:World) (n0:Nat) (X:List (List TgP)) (V:World):Prop where
 os:V.os=W5.os
 tape:V.tape=W5.tape
 output:V.output=W5.output
 size:W5.heap.size<=V.heap.size
 keep:∀b,b<W5.heap.size->b≠n0->V.heap[b]? = W5.heap[b]?
 ls:∃v,LsAt W5.heap.size n0 (fun b=>W5.heap.size<=b) X v V
 low:Below w.heap.size w V
theorem Xvc {c:List ByteArray} {v:Value} {A B:World} {q:Nat} {L:Loop} (h:EncS c #[v] A) (hz:B.heap.size=A.heap.size) (hl:A.heap[q]? = some (.loop L)) (h7:∀j,j≠q->B.heap[j]? = A.heap[j]?):EncS c #[v] B:=by
 obtain⟨Ad,cp,e,hs,hb⟩:=h;refine⟨Ad,cp,e,⟨?_,hs.cap,hs.max,hs.nil⟩,fun b off hA h1=>?_⟩
 ·rcases hs.rd with h|⟨b,off,h1,h2,h3⟩
  ·exact .inl h
  ·rcases Nat.eq_zero_or_pos c.length with h0|h0
   ·have:c=[]:=List.eq_nil_of_length_eq_zero h0
    subst this;exact .inl rfl
   ·obtain⟨cs,fr,hbk⟩:=hb b off h1 h0
    exact .inr ⟨b,off,h1,by omega,fun j u hu=>(World.cell?_of_block (w:=A) (h7 b (by rintro rfl;rw[hl] at hbk;cases hbk))).trans (h3 j u hu)⟩
 ·obtain⟨cs,fr,hbk⟩:=hb b off hA h1
  exact⟨cs,fr,(h7 b (by rintro rfl;rw[hl] at hbk;cases hbk)).trans hbk⟩
theorem LsI.done {w W5 wj Wc:World} {n0:Nat} {M:Nat->Prop} {r0:Option Nat} {tr:List ByteArray->List TgP} {ok:List ByteArray->Prop} {X0:List (List TgP)} {own:Nat->Prop} {xs:List (List ByteArray)} {V:World} (h:LsI Wc W5.heap.size n0 M r0 tr ok X0 own xs V) (hS:LsSt w W5 n0 X0 wj) (hb:Below wj.heap.size wj Wc) (hM:∀b,M b->wj.heap.size<=b) (hr:∀g,r0=some g->W5.heap.size<=g) (hw:w.heap.size<=n0) (hw5:w.heap.size<=W5.heap.size):LsSt w W5 n0 (X0++xs.map tr) V:=by
 have hs1:=hS.size;have hs2:=hb.size;have hk:∀b,b<W5.heap.size->b≠n0->V.heap[b]? = W5.heap[b]? := fun b h1 h2=>(h.keep b (by omega) h2 (fun e=>by have:=hr b e;omega) (fun e=>by have:=hM b e;omega)).trans ((hb.block b (by omega)).trans (hS.keep b h1 h2));obtain⟨v,hv,hbx,LL,hro,hx,hg⟩:=h.ls;refine⟨h.os.trans (hb.os.trans hS.os),h.tape.trans (hb.tape.trans hS.tape),h.output.trans (hb.output.trans hS.output),Nat.le_trans hs1 (Nat.le_trans hs2 h.size),hk,⟨v,hbx,LL,hro,hx,fun s hs=>(hg s hs).over fun b _ _ _ _ hG _=>⟨rfl,hG.1⟩⟩,?_⟩;exact⟨h.os.trans (hb.os.trans hS.low.os),h.tape.trans (hb.tape.trans hS.low.tape),h.output.trans (hb.output.trans hS.low.output),Nat.le_trans hS.low.size (Nat.le_trans hs2 h.size),fun b h1=>(h.keep b (by omega) (by omega) (fun e=>by have:=hr b e;omega) (fun e=>by have:=hM b e;omega)).trans ((hb.block b (by omega)).trans (hS.low.block b h1))⟩
def LsP (g:Gram) (l:List Term) (lang t u:Int) (ws more:List ByteArray) (k:Int) (Wc:World) (n0:Nat) (M:Nat->Prop) (r0:Option Nat) (ch:List PanicEntry) (V:World):Prop :=
 ∃n,n≠0/\ch=Ud n/\X7 g l lang ws more k t u=n/\V.os=Wc.os/\V.tape=Wc.tape/\V.output=Wc.output/\Wc.heap.size<=V.heap.size/\∀b,b<Wc.heap.size->b≠n0->r0≠some b->¬M b->V.heap[b]? = Wc.heap[b]?
theorem Xec {α:Type} (more:List α) (j:Nat):∀d,∃R,Z2 more (j+1+d)=Z2 more j++Ue more j++R
 | 0=>⟨[],by rw[Nat.add_zero,Tm,List.append_nil]⟩
 | d+1=>by
  obtain⟨R,hR⟩:=Xec more j d;exact⟨R++Ue more (j+1+d),by rw[<- Nat.add_assoc,Tm,hR,List.append_assoc]⟩
def Y7 (ws more:List ByteArray) (j:Nat):List (List ByteArray):=(Z2 more j).map fun c=>ws++c
theorem Xcb (ws more:List ByteArray) (j:Nat):Y7 ws more (j+1)=Y7 ws more j++genL more j ws:=by
 unfold Y7;rw[Tm,List.map_append,Xef]
theorem Xnd (ws more:List ByteArray) (k:Int):Zk ws more k=Y7 ws more (kkN ws.length k+1):=by
 unfold Zk Y7;rw[Xn8]
theorem Xky {g:Gram} {l:List Term} {lang t u:Int}:∀ {a:List (List ByteArray)} {x:List ByteArray} {b:List (List ByteArray)},(∀c∈a,Xz g l lang c t u=0)->Xz g l lang x t u≠0->Xbq g l lang t u (a++x :: b)=Xz g l lang x t u
 | [],x,b,_,hx=>by rw[List.nil_append,Xbq,if_pos hx]
 | c :: a,x,b,h,hx=>by
  rw[List.cons_append,Xbq,if_neg (by simpa using h c (List.mem_cons_self ..))];exact Xky (fun y hy=>h y (List.mem_cons_of_mem _ hy)) hx
theorem Xy3 {g:Gram} {l:List Term} {lang:Int} {ws more:List ByteArray} {k t u:Int} {j:Nat} {pre:List (List ByteArray)} {x:List ByteArray} (h1:Xz g l lang ws t u=0) (h2:Vk ws more k=0) (hj:j<kkN ws.length k+1) (h0:∀c∈Y7 ws more j,Xz g l lang c t u=0) (hp:pre++[x] <+: genL more j ws) (hpre:∀c∈pre,Xz g l lang c t u=0) (hx:Xz g l lang x t u≠0):X7 g l lang ws more k t u=Xz g l lang x t u:=by
 unfold X7;rw[if_neg (by omega),if_neg (by omega),Xnd];obtain⟨d,hd⟩:∃d,kkN ws.length k+1=j+1+d:=⟨kkN ws.length k-j,by omega⟩
 obtain⟨R,hR⟩:=Xec more j d;obtain⟨T,hT⟩:=hp
 have e:Y7 ws more (j+1+d)=(Y7 ws more j++pre)++x :: (T++R.map fun c=>ws++c):=by
  unfold Y7;rw[hR,List.map_append,List.map_append,<- Xef,<- hT];simp
 rw[hd,e];exact Xky (fun c hc=>(List.mem_append.1 hc).elim (h0 c) (hpre c)) hx
theorem Xvb {g:Gram} {l:List Term} {lang:Int} {ws more:List ByteArray} {k t u:Int} (h1:Xz g l lang ws t u=0) (h2:Vk ws more k=0) (h0:∀c∈Y7 ws more (kkN ws.length k+1),Xz g l lang c t u=0):X7 g l lang ws more k t u=0 :=
 Xdj h1 h2 (by rw[Xnd];exact h0)
theorem Xl0 {ws mo:List ByteArray} (hm:mo.length<=256) {j:Nat} (hj:j<=3):(Y7 ws mo j).length+(genL mo j ws).length<=40000000:=by
 have h1:(Y7 ws mo j).length=(Z2 mo j).length:=by unfold Y7;rw[List.length_map]
 have h2:(genL mo j ws).length=mo.length ^ j:=by rw[Xef,List.length_map,Tv]
 have h0:(Z2 mo 0).length=0:=rfl;have hs:∀j,(Z2 mo (j+1)).length=(Z2 mo j).length+mo.length ^ j:=fun j=>by rw[Tm,List.length_append,Tv]
 have p2:mo.length ^ 2<=256 ^ 2:=Nat.pow_le_pow_left hm 2;have p3:mo.length ^ 3<=256 ^ 3:=Nat.pow_le_pow_left hm 3;have s1:(Z2 mo 1).length=(Z2 mo 0).length+mo.length ^ 0:=hs 0;have s2:(Z2 mo 2).length=(Z2 mo 1).length+mo.length ^ 1:=hs 1;have s3:(Z2 mo 3).length=(Z2 mo 2).length+mo.length ^ 2:=hs 2;have e0:mo.length ^ 0=1:=Nat.pow_zero _;have e1:mo.length ^ 1=mo.length:=Nat.pow_one _;have:j=0\/j=1\/j=2\/j=3:=by omega
 rcases this with rfl|rfl|rfl|rfl<;>omega
theorem Xwz {base:Nat} {v:Value} {LL:List (SlS TgG)} {W:World} (h:OwnL slC 65 1 W base v LL) (A:Option Addr) (c:Nat) (L:List TgG) (hb:base<=W.heap.size) (hl:LL.length<=40000000) :
  ∃v' V',(Builtin.append_ #[86,86] 86 #[v,.slice (some ⟨W.heap.size,0,none⟩) 1 1]).run Tryz.prog (W.alloc (.cells #[.slice A L.length c] 65)) = .ok v' V'/\OwnL slC 65 1 V' base v' (LL++[⟨A,c,L⟩])/\(W.alloc (.cells #[.slice A L.length c] 65)).grownBy V' v.ownBlock/\(v'.ownBlock=v.ownBlock\/v'.ownBlock=some (W.alloc (.cells #[.slice A L.length c] 65)).heap.size):=by
 obtain⟨i0,hi0,hz0,hz1,hz2⟩:=info_parts Xvz;have hb1:Below W.heap.size W (W.alloc (.cells #[.slice A L.length c] 65)):=ba_q;have hfl:(LL.flatMap slC).length=LL.length*1:=Y0 slC 1 (fun _=>rfl) LL;obtain⟨v',V',hrun,ho,hg,hat⟩:=Tg (P:=Tryz.prog) (w:=W.alloc (.cells #[.slice A L.length c] 65)) base 86 86 65 i0 (.slice none 0 0) 1 24 Tryz.underlying86 hi0 hz0 hz1 hz2 rfl (by decide) v LL.length (LL.flatMap slC) (h.ext hb1) (some ⟨W.heap.size,0,none⟩) 1 1 (slC ⟨A,c,L⟩) rfl (Zg (World.alloc_heap_new _ _) (by simp[slC])) (X2h _) (by unfold maxLen;omega) (by omega) (by simp;omega);exact⟨v',V',hrun,OwnL.snoc (f:=slC) _ ho,hg,hat⟩
theorem Xqm {w W5 wj Wc V:World} {n0:Nat} {M:Nat->Prop} {r0:Option Nat} {X:List (List TgP)} (hS:LsSt w W5 n0 X wj) (hb:Below wj.heap.size wj Wc) (hM:∀b,M b->wj.heap.size<=b) (hr:∀g,r0=some g->W5.heap.size<=g) (hw:w.heap.size<=n0) (hw5:w.heap.size<=W5.heap.size)
  (h1:V.os=Wc.os) (h2:V.tape=Wc.tape) (h3:V.output=Wc.output) (h4:Wc.heap.size<=V.heap.size) (h5:∀b,b<Wc.heap.size->b≠n0->r0≠some b->¬M b->V.heap[b]? = Wc.heap[b]?) :
  (∀b,b<W5.heap.size->b≠n0->V.heap[b]? = W5.heap[b]?)/\Below w.heap.size w V:=by
 have hs1:=hS.size;have hs2:=hb.size
 exact⟨fun b e1 e2=>(h5 b (by omega) e2 (fun e=>by have:=hr b e;omega) (fun e=>by have:=hM b e;omega)).trans ((hb.block b (by omega)).trans (hS.keep b e1 e2)),
  h1.trans (hb.os.trans hS.low.os),h2.trans (hb.tape.trans hS.low.tape),h3.trans (hb.output.trans hS.low.output),Nat.le_trans hS.low.size (Nat.le_trans hs2 h4),fun b e1=>(h5 b (by omega) (by omega) (fun e=>by have:=hr b e;omega) (fun e=>by have:=hM b e;omega)).trans ((hb.block b (by omega)).trans (hS.low.block b e1))⟩
theorem Xiu {W5 wj Wc V:World} {n0:Nat} {M:Nat->Prop} {v0:Value} {LL:List (SlS TgG)} {B:Nat} {Ds:List Nat} (hD:∀D∈Ds,W5.heap.size<=D/\wj.heap[D]? = some (.deferred (some []))) (hn:n0<W5.heap.size) (hro:OwnL slC 65 1 wj B v0 LL) (hb:Below wj.heap.size wj Wc) (hM:∀b,M b->wj.heap.size<=b)
  (h5:∀b,b<Wc.heap.size->b≠n0->v0.ownBlock≠some b->¬M b->V.heap[b]? = Wc.heap[b]?):∀D∈Ds,D<wj.heap.size/\V.heap[D]? = some (.deferred (some [])):=by
 intro D hm;obtain⟨h1,h2⟩:=hD D hm;have hlt:D<wj.heap.size:=Xd h2;have hs2:=hb.size;refine⟨hlt,(h5 D (by omega) (by omega) (fun e=>?_) (fun e=>by have:=hM D e;omega)).trans ((hb.block D hlt).trans h2)⟩;obtain⟨cur,h9⟩:=OwnL.kind hro e;rw[h2] at h9;cases h9
theorem DrR.over {W V:World} {b:Nat} {v5 v6 v7:Value} (h:DrR W b v5 v6 v7) (hk:∀k,b<k->k<=b+1+1+1+1+1+1+1->V.heap[k]? = W.heap[k]?):DrR V b v5 v6 v7 :=
 ⟨(hk _ (by omega) (by omega)).trans h.t,(hk _ (by omega) (by omega)).trans h.n,(hk _ (by omega) (by omega)).trans h.e⟩
theorem Xgm {w W W':World} (h:Below w.heap.size w W) {Ds:List Nat} (hD:∀D∈Ds,w.heap.size<=D) (h1:W'.os=W.os) (h2:W'.tape=W.tape) (h3:W'.output=W.output) (h4:W'.heap.size=W.heap.size) (h5:∀k,k∉Ds->W'.heap[k]? = W.heap[k]?):Below w.heap.size w W' :=
 ⟨h1.trans h.os,h2.trans h.tape,h3.trans h.output,by rw[h4];exact h.size,fun b hb=>(h5 b fun hm=>by have:=hD b hm;omega).trans (h.block b hb)⟩
def DrEnd (w W5:World) (n:Nat) (Ds:List Nat) (A:Option Addr) (c:Nat) (L:List TgG) (V:World):Prop :=
 RowF W5.heap.size V ⟨A,c,L⟩/\Below w.heap.size w V/\DrR V w.heap.size (.slice A L.length c) (.int .i64 (n:Int)) (.int .i64 0)/\∀D∈Ds,V.heap[D]? = some (.deferred (some []))
theorem Xva {w W1 W5 wj U0 U:World} {n0:Nat} {X:List (List TgP)} {LL:List (SlS TgG)} {vL:Value} {Ds:List Nat} {A9:Option Addr} {c9:Nat} {L9:List TgG} (n:Nat) (hS:LsSt w W5 n0 X wj) (hDR:DrR W5 w.heap.size (.slice none 0 0) (.int .i64 0) (.int .i64 0)) (hz1:W1.heap.size=w.heap.size+1+1+1+1+1+1+1+1) (hb8:W1.heap.size<n0) (hbx:wj.heap[n0]? = some (.cells #[vL] 86 (0,0))) (hgr:∀s∈LL,RowF W5.heap.size wj s)
  (hDs:∀D∈Ds,W5.heap.size<=D/\wj.heap[D]? = some (.deferred (some []))) (h0:Below wj.heap.size wj U0) (hU:Below U0.heap.size U0 U) (ho:OwnL TgG.cells 75 3 U U0.heap.size (.slice A9 L9.length c9) L9) (hi:∀x∈L9,InL LL x) :
  U.cell? ⟨w.heap.size+1+1+1+1+1,0,none⟩=some (.slice none 0 0)/\U.frozen? ⟨w.heap.size+1+1+1+1+1,0,none⟩=false /\
  (U.setCell ⟨w.heap.size+1+1+1+1+1,0,none⟩ (.slice A9 L9.length c9)).cell? ⟨w.heap.size+1+1+1+1+1+1,0,none⟩=some (.int .i64 0)/\(U.setCell ⟨w.heap.size+1+1+1+1+1,0,none⟩ (.slice A9 L9.length c9)).frozen? ⟨w.heap.size+1+1+1+1+1+1,0,none⟩=false /\
  ((U.setCell ⟨w.heap.size+1+1+1+1+1,0,none⟩ (.slice A9 L9.length c9)).setCell ⟨w.heap.size+1+1+1+1+1+1,0,none⟩ (.int .i64 (n:Int))).cell? ⟨w.heap.size+1+1+1+1+1+1+1,0,none⟩=some (.int .i64 0)/\((U.setCell ⟨w.heap.size+1+1+1+1+1,0,none⟩ (.slice A9 L9.length c9)).setCell ⟨w.heap.size+1+1+1+1+1+1,0,none⟩ (.int .i64 (n:Int))).frozen? ⟨w.heap.size+1+1+1+1+1+1+1,0,none⟩=false /\
  U.cell? ⟨n0,0,none⟩=some vL/\(U.setCell ⟨w.heap.size+1+1+1+1+1,0,none⟩ (.slice A9 L9.length c9)).cell? ⟨n0,0,none⟩=some vL /\
  ((U.setCell ⟨w.heap.size+1+1+1+1+1,0,none⟩ (.slice A9 L9.length c9)).setCell ⟨w.heap.size+1+1+1+1+1+1,0,none⟩ (.int .i64 (n:Int))).cell? ⟨n0,0,none⟩=some vL /\
  (((U.setCell ⟨w.heap.size+1+1+1+1+1,0,none⟩ (.slice A9 L9.length c9)).setCell ⟨w.heap.size+1+1+1+1+1+1,0,none⟩ (.int .i64 (n:Int))).setCell ⟨w.heap.size+1+1+1+1+1+1+1,0,none⟩ (.int .i64 0)).cell? ⟨n0,0,none⟩=some vL /\
  DrEnd w W5 n Ds A9 c9 L9 (((U.setCell ⟨w.heap.size+1+1+1+1+1,0,none⟩ (.slice A9 L9.length c9)).setCell ⟨w.heap.size+1+1+1+1+1+1,0,none⟩ (.int .i64 (n:Int))).setCell ⟨w.heap.size+1+1+1+1+1+1+1,0,none⟩ (.int .i64 0)):=by
 have hl7:=Xd hDR.e;have s1:=hS.size;have s2:=h0.size;have s3:=hU.size;have hD:DrR U w.heap.size (.slice none 0 0) (.int .i64 0) (.int .i64 0):=hDR.over fun i h1 h2=>(hU.block i (by omega)).trans ((h0.block i (by omega)).trans (hS.keep i (by omega) (by omega)));have hxn:U.heap[n0]? = some (.cells #[vL] 86 (0,0)):=(hU.block _ (by have:=Xd hbx;omega)).trans (Xi h0 hbx)
 have hrow:RowF W5.heap.size U ⟨A9,c9,L9⟩:=Xpj ho (by omega) (fun x hx=>by
  obtain⟨s,hs,hm⟩:=hi x hx;exact(((hgr s hs).ext h0).ext hU).deps x hm)
 have hDU:∀D∈Ds,U.heap[D]? = some (.deferred (some [])):=fun D hm=>(hU.block _ (by have:=Xd (hDs D hm).2;omega)).trans ((h0.block _ (Xd (hDs D hm).2)).trans (hDs D hm).2);have hBU:Below w.heap.size w U:=Xb hS.low (Xb h0 hU);obtain⟨U1,hU1⟩:∃U1,U.setCell ⟨w.heap.size+1+1+1+1+1,0,none⟩ (.slice A9 L9.length c9)=U1:=⟨_,rfl⟩
 obtain⟨U2,hU2⟩:∃U2,U1.setCell ⟨w.heap.size+1+1+1+1+1+1,0,none⟩ (.int .i64 (n:Int))=U2:=⟨_,rfl⟩
 obtain⟨U3,hU3⟩:∃U3,U2.setCell ⟨w.heap.size+1+1+1+1+1+1+1,0,none⟩ (.int .i64 0)=U3:=⟨_,rfl⟩
 rw[hU1,hU2,hU3];have e1:∀k,k≠w.heap.size+1+1+1+1+1->U1.heap[k]? = U.heap[k]? := fun k hk=>by rw[<- hU1];exact Below.heap_setCell _ _ _ _ hk
 have e2:∀k,k≠w.heap.size+1+1+1+1+1+1->U2.heap[k]? = U1.heap[k]? := fun k hk=>by rw[<- hU2];exact Below.heap_setCell _ _ _ _ hk
 have e3:∀k,k≠w.heap.size+1+1+1+1+1+1+1->U3.heap[k]? = U2.heap[k]? := fun k hk=>by rw[<- hU3];exact Below.heap_setCell _ _ _ _ hk
 have b1:U1.heap[w.heap.size+1+1+1+1+1]? = some (.cells #[.slice A9 L9.length c9] 65 (0,0)):=by rw[<- hU1];exact Xs hD.t 0 _
 have n1:=(e1 (w.heap.size+1+1+1+1+1+1) (by omega)).trans hD.n;have b2:U2.heap[w.heap.size+1+1+1+1+1+1]? = some (.cells #[.int .i64 (n:Int)] 3 (0,0)):=by rw[<- hU2];exact Xs n1 0 _
 have n2:=(e2 (w.heap.size+1+1+1+1+1+1+1) (by omega)).trans ((e1 _ (by omega)).trans hD.e);have b3:U3.heap[w.heap.size+1+1+1+1+1+1+1]? = some (.cells #[.int .i64 0] 33 (0,0)):=by rw[<- hU3];exact Xs n2 0 _
 have x1:=(e1 n0 (by omega)).trans hxn;have x2:=(e2 n0 (by omega)).trans x1;have x3:=(e3 n0 (by omega)).trans x2;have e4:∀k,W5.heap.size<=k->U3.heap[k]? = U.heap[k]? := fun k hk=>(e3 k (by omega)).trans ((e2 k (by omega)).trans (e1 k (by omega)));refine⟨Xe hD.t,Xf hD.t 0,Xe n1,Xf n1 0,Xe n2,Xf n2 0,Xe hxn,Xe x1,Xe x2,Xe x3,hrow.over fun k _ _ _ _ hG _=>⟨e4 k hG,hG⟩,?_,⟨(e3 _ (by omega)).trans ((e2 _ (by omega)).trans b1),(e3 _ (by omega)).trans b2,b3⟩,fun D hm=>(e4 D (hDs D hm).1).trans (hDU D hm)⟩;rw[<- hU3,<- hU2,<- hU1];exact((hBU.setCell (p:=⟨w.heap.size+1+1+1+1+1,0,none⟩) (by show w.heap.size<=w.heap.size+1+1+1+1+1;omega) _).setCell (p:=⟨w.heap.size+1+1+1+1+1+1,0,none⟩) (by show w.heap.size<=w.heap.size+1+1+1+1+1+1;omega) _).setCell (p:=⟨w.heap.size+1+1+1+1+1+1+1,0,none⟩) (by show w.heap.size<=w.heap.size+1+1+1+1+1+1+1;omega) _
end Go.Proofs.YtolpbjjapodmnaaGreatDoor
