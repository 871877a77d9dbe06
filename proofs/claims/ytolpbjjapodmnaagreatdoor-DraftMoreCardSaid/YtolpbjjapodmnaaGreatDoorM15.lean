/- Texts of this claim, one after the other: Wk1, Wk2, Wk3, Wk4, KidM, LoopAt. -/
import Derived.Test.YtolpbjjapodmnaaGreatDoorM10
import Derived.Test.YtolpbjjapodmnaaGreatDoorM11
import Derived.Test.YtolpbjjapodmnaaGreatDoorM14
import Derived.Test.YtolpbjjapodmnaaGreatDoorM13
import Derived.Test.YtolpbjjapodmnaaGreatDoorM12
namespace Go.Proofs.YtolpbjjapodmnaaGreatDoor
open Go.RowKit Go.Han
set_option maxRecDepth 100000
attribute [local irreducible] wpStill wpQuiet
set_option maxHeartbeats 8000000
section
attribute [local go_sem] Oper.semAt_some
theorem Xwc (r:RuleG) (x:TreeG) (w:World):Calls Tryz.prog 162 #[r.vl,x.vl] w fun e w' =>
  e = .returned (.func (.func 210) #[] #[.pointer (some ⟨w.heap.size+1,0,none⟩),.pointer (some ⟨w.heap.size,0,none⟩)])/\(w.alloc r.ob).alloc x.ob=w':=by
 have hmf:∀(fn:Fn) (first cap:Array Value) (w:World),(Instr.makeFunc fn first cap).run Tryz.prog w = .ok (.func fn first cap) w:=fun _ _ _ _=>rfl;go_enter Tryz.func162,Tryz.ntmps162
 go_wp2
 go_ret;exact⟨rfl,rfl⟩
/-! ### literals$1 -/
def OldR (w0:World) (k:Nat):Prop:=k<w0.heap.size
theorem Xw4 {w0 W:World} (h:Xd4 (OldR w0) w0 W):Below w0.heap.size w0 W:=⟨h.os,h.tape,h.output,h.size,fun k hk=>(h.block k hk).2⟩
theorem X0s {w0 W:World} (h:Below w0.heap.size w0 W):Xd4 (OldR w0) w0 W:=⟨h.os,h.tape,h.output,h.size,fun k hk=>⟨hk,h.block k hk⟩⟩
theorem Xr9 {w0:World} {own own':Nat->Prop} {V V':World} (h:Ti (OldR w0) own V) (hb:BodyStep own own' V V') (hs:w0.heap.size<=V.heap.size):Ti (OldR w0) own' V':=fun k hk=>⟨by
 rcases hb.owns k hk with h1|h1
 ·exact(h k h1).1
 ·intro h2;unfold OldR at h2;omega,hb.live k hk⟩
theorem Xqn {w0:World} {own own':Nat->Prop} {V V':World} (h0:Below w0.heap.size w0 V) (h:Ti (OldR w0) own V) (hb:BodyStep own own' V V'):Below w0.heap.size w0 V' :=
 ⟨hb.os.trans h0.os,hb.tape.trans h0.tape,hb.output.trans h0.output,Nat.le_trans h0.size hb.size,fun k hk=>(hb.block k (Nat.lt_of_lt_of_le hk h0.size) fun ho=>(h k ho).1 hk).trans (h0.block k hk)⟩
def EncN (_:Nat->Prop) (x:Int) (vs:Array Value) (_:World):Prop:=vs=#[.int .i64 x]
theorem Xrr {p:PartG} (h:p.text.size≠0) (ps:List PartG) (ks:List TreeV) (i:Int):litsV (p :: ps) ks i=i :: litsV ps ks (i+1):=by rw[litsV.eq_def (p :: ps) ks i];exact if_pos h
theorem Xwd {p:PartG} (h:¬p.text.size≠0) (ps:List PartG) (t:TreeV) (ks:List TreeV) (i:Int):litsV (p :: ps) (t :: ks) i=litsV ps ks t.unt:=by rw[litsV.eq_def (p :: ps) (t :: ks) i];exact if_neg h
theorem Xfl:∀(ps:List PartG) (ks:List TreeV) (i:Int),(litsV ps ks i).length<=ps.length
 | [],ks,i=>by simp[litsV]
 | p :: ps,ks,i=>by
  unfold litsV;split
  ·rw[List.length_cons,List.length_cons];have:=Xfl ps ks (i+1);omega
  ·split
   ·simp
   ·rename_i x ks'
    have:=Xfl ps ks' x.unt;rw[List.length_cons];omega
theorem Xpa {R:Nat->Prop} {own own':Nat->Prop} {V V':World} (h:Ti R own V) (hb:BodyStep own own' V V') (hs:∀k,R k->k<V.heap.size):Ti R own' V':=fun k hk=>⟨by
 rcases hb.owns k hk with h1|h1
 ·exact(h k h1).1
 ·intro h2;have:=hs k h2;omega,hb.live k hk⟩
theorem Xnq {R:Nat->Prop} {w0:World} {own own':Nat->Prop} {V V':World} (h0:Below w0.heap.size w0 V) (h:Ti R own V) (hR:∀k,k<w0.heap.size->R k) (hb:BodyStep own own' V V'):Below w0.heap.size w0 V' :=
 ⟨hb.os.trans h0.os,hb.tape.trans h0.tape,hb.output.trans h0.output,Nat.le_trans h0.size hb.size,fun k hk=>(hb.block k (Nat.lt_of_lt_of_le hk h0.size) fun ho=>(h k ho).1 (hR k hk)).trans (h0.block k hk)⟩
structure LitSt (w0 wb:World) (R:Nat->Prop) (own₀:Nat->Prop) (W:World) (J:(Nat->Prop)->List Int->World->Prop) (xs:List Int) (ps:List PartG) (P:Nat->Prop) (p:Nat) (ks:List TreeV) (B:Option Addr) (cB:Nat) (at_:Int) (V:World):Prop where
 run:∃own pre,BodyStep own₀ own W V/\Ti R own V/\J own pre V/\pre++litsV (ps.drop p) ks at_=xs
 low:Below wb.heap.size wb V
 size:w0.heap.size<=V.heap.size
 kids:∃css,KidsAt wb P ks css/\Rd wb B css.flatten
 cap:ks.length<=cB
 cats:(ps.drop p).countP (fun x=>decide (x.text.size=0))<=ks.length
 lo:0<=at_
 hi:at_<=5000+p
 unt:∀t∈ks,0<=t.unt/\t.unt<=5000
theorem LitSt.ext {w0 wb:World} {R own₀:Nat->Prop} {W:World} {J:(Nat->Prop)->List Int->World->Prop} {xs:List Int} {ps:List PartG} {P:Nat->Prop} {p:Nat} {ks:List TreeV} {B:Option Addr} {cB:Nat} {at_:Int} {V V':World} (h:LitSt w0 wb R own₀ W J xs ps P p ks B cB at_ V) {C:Nat} (hJ:Xbk C J) (hb:Below V.heap.size V V'):LitSt w0 wb R own₀ W J xs ps P p ks B cB at_ V':=by
 obtain⟨⟨own,pre,h1,h2,h3,h4⟩,h5,h5s,h6,h7,h8,h9,h10,h11⟩:=h;exact⟨⟨own,pre,h1.trans (.grow hb fun k hk=>(h2 k hk).2),fun k hk=>⟨(h2 k hk).1,Nat.lt_of_lt_of_le (h2 k hk).2 hb.size⟩,hJ.1 _ _ _ _ h3 hb,h4⟩,Xb h5 hb,Nat.le_trans h5s hb.size,h6,h7,h8,h9,h10,h11⟩
theorem lits1 (w0 wb:World) (R:Nat->Prop) (hwb:Below wb.heap.size wb w0) (hRb:∀k,k<wb.heap.size->R k) (hRl:∀k,R k->k<w0.heap.size) (r:RuleG) (P:Nat->Prop) (tr ti tf tu:Int) (l:List TreeV) (xa:Option Addr) (xc bt br:Nat) (css:List (List Value))
  (ht:w0.heap[bt]? = some (.cells #[.int .i64 tr,.int .i64 ti,.int .i64 tf,.int .i64 tu,.slice xa l.length xc] 37 (0,0))) (hr:w0.heap[br]? = some r.ob)
  (hbt:R bt) (hbr:R br) (hp:r.parts.lies PartG.cells wb) (hpl:r.parts.xs.length<=4) (hk:KidsAt wb P l css) (hrd:Rd wb xa css.flatten) (hcap:l.length<=xc) (hcat:r.parts.xs.countP (fun x=>decide (x.text.size=0))<=l.length)
  (h0:0<=tf) (h1:tf<=5000) (hu:∀t∈l,0<=t.unt/\t.unt<=5000) :
  Xno Tryz.prog 210 #[.pointer (some ⟨bt,0,none⟩),.pointer (some ⟨br,0,none⟩)] EncN R (litsV r.parts.xs l tf) w0:=by
 intro l' J own₀ W hR hown hJ hY hj0;refine(callsIn_wide (n:=0)).1 ?_;refine callsIn_of_wp Tryz.func210 rfl trivial ?_;simp only[Tryz.ntmps210,Zr,Nat.reduceAdd,Nat.reduceSub];have hlow:Below wb.heap.size wb W:=⟨hR.os.trans hwb.os,hR.tape.trans hwb.tape,hR.output.trans hwb.output,Nat.le_trans hwb.size hR.size,fun k hk=>(hR.block k (hRb k hk)).2.trans (hwb.block k hk)⟩
 have hst:LitSt w0 wb R own₀ W J (litsV r.parts.xs l tf) r.parts.xs P 0 l xa xc tf W:=⟨⟨own₀,[],.refl fun k hk=>(hown k hk).2,hown,hj0,rfl⟩,hlow,hR.size,⟨css,hk,hrd⟩,hcap,hcat,h0,by omega,hu⟩
 have ht0:=(hR.block bt hbt).2.trans ht;have hr0:=(hR.block br hbr).2.trans hr;have HRb:=Xa hRb;have HRl:=Xa hRl;obtain⟨y0,y1,y2,y3,y4⟩:=gb5 ht0;obtain⟨c0,c1,c2,c3,c4⟩:=gb5 hr0;have Hst:=Xa hst;have HY:=Xa hY;have HJ:=Xa hJ;have Hp:=Xa hp;have hly:=Xd ht0;have HdW:=Xa (Xr (Below.refl W.heap.size W));clear hR hown hY hj0 hlow hRb hRl hwb hbt hbr hst ht hr ht0 hr0 hp hk hrd hcap hcat h0 h1 hu hJ;gi_wp2_with fail
 have hwf:∀f,Fence.wide.fn f=True:=fun f=>by simp[Fence.wide]
 refine Zz 5 (by kernel_rfl) (by kernel_rfl) ?_;simp only[List.take_succ_cons,List.take_zero,List.drop_succ_cons,List.drop_zero];repeat still_step
 refine wpStill_nil ?_;gi_wp2_with fail
 gi_loopw [4,5,15] (fun av kv iv wr=>∃(p:Nat) (ks:List TreeV) (B:Option Addr) (cB:Nat) (at_:Int),p<=r.parts.xs.length/\av = .int .i64 at_/\kv = .slice B ks.length cB/\iv = .int .i64 p/\Hid (LitSt w0 wb R own₀ W J (litsV r.parts.xs l tf) r.parts.xs P p ks B cB at_ wr)) (fun _ _ iv _=>r.parts.xs.length-(intOf iv).toNat)
 case atStart=>exact⟨0,l,xa,xc,tf,Nat.zero_le _,rfl,rfl,rfl,Hst.out.ext HJ.out HdW.out⟩
 case round =>
  obtain⟨p,ks,B,cB,at_,hp,rfl,rfl,rfl,HS⟩:=hrel;by_cases hlt:p<r.parts.xs.length
  ·obtain⟨bP,oP,hPa,hbP,hPc⟩:=Hp.out.at_ PartG.size_cells (by omega) hlt
   have f0:wr.cell? ⟨bP,oP+p*3,none⟩=some (.string r.parts.xs[p].cat):=hPc p hlt wr HS.out.low 0 _ rfl;have f1:wr.cell? ⟨bP,oP+p*3+1,none⟩=some (.int .i64 r.parts.xs[p].no):=hPc p hlt wr HS.out.low 1 _ rfl;have f2:wr.cell? ⟨bP,oP+p*3+2,none⟩=some (.string r.parts.xs[p].text):=hPc p hlt wr HS.out.low 2 _ rfl;have hdr:=List.drop_eq_getElem_cons hlt;rw[hPa];have Hdr:=Xa hdr;clear hPc hPa hdr;generalize r.parts.xs[p]=q at *;obtain⟨w3,hw3⟩:∃w3,wr.alloc (.cells #[.string q.cat,.int .i64 q.no,.string q.text] 81)=w3:=⟨_,rfl⟩
   have hb3:=X5 hw3;have hz3:=Yg hw3;obtain⟨s0,s1,s2⟩:=gb3 hz3;have HS3:=Xa (HS.out.ext HJ.out hb3);have hlo:=HS.out.lo;have hhi:=HS.out.hi;clear hz3 hb3 HS;by_cases ht:q.text.size≠0
   ·have k3:=Uo (s:=q.text) (by omega)
    have k4:¬q.text.toList=[]:=(by intro h;rw[h] at k3;cases k3);obtain⟨⟨own,pre,g1,g2,g3,g4⟩,g5,g5s,g6,g7,g8,g9,g10,g11⟩:=HS3.out;rw[Hdr.out,Xrr ht] at g4;obtain⟨fn,tmps,assign,body,hyy,hRd⟩:=HY.out own pre at_ #[.int .i64 at_] w3 g3 (by rw[<- g4];exact⟨litsV (r.parts.xs.drop (p+1)) ks (at_+1),by simp⟩) rfl g2;have HRd:=Xa hRd;have G1:=Xa g1;have G2:=Xa g2;have G4:=Xa g4;have G5:=Xa g5;have G6:=Xa g6;have G8:=Xa g8;have G11:=Xa g11;have hw1:IntKind.i64.wrap (at_+1)=at_+1:=IntWalk.i64_in _ (by omega);clear hRd g1 g2 g3 g4 g5 g6 g8 g11 HS3;gi_wp2_with (have hmark:=hyy;refine⟨rfl,HRd.out.mono ?_⟩;rintro e w9 ⟨rfl,own',hbs,hj9⟩;have Hj9:=Xa hj9;have Hbs:=Xa hbs;clear hj9 hbs hyy hmark)
    go_roundw
    case rel =>
     have e8:=G8.out;rw[Hdr.out,List.countP_cons,if_neg (by simpa using ht)] at e8;exact⟨p+1,ks,B,cB,at_+1,by omega,by go_num,rfl,by go_num,⟨own',pre++[at_],G1.out.trans Hbs.out,Xpa G2.out Hbs.out fun k hk=>(by have:=HRl.out k hk;omega),Hj9.out,by rw[<- G4.out];simp⟩,Xnq G5.out G2.out HRb.out Hbs.out,Nat.le_trans g5s Hbs.out.size,G6.out,g7,e8,by omega,by push_cast;omega,G11.out⟩
    case measure=>simp[intOf];omega
   ·have ht0:q.text.size=0:=by omega
    have k2:=Up (s:=q.text) (by omega);have k3:q.text.toList=[]:=List.isEmpty_iff.1 k2;obtain⟨⟨own,pre,g1,g2,g3,g4⟩,g5,g5s,⟨css9,g6,g6r⟩,g7,g8,g9,g10,g11⟩:=HS3.out;rw[Hdr.out,List.countP_cons,if_pos (by simpa using ht0)] at g8;cases ks with
    | nil=>simp at g8
    | cons t ks' =>
     obtain⟨b0,off0,B',cp',rfl,hb0,hta,n0,n1,n2,n3,n4⟩:=Xk6 g6r g6 (n:=0) (by simp);simp only[List.getElem_cons_zero,Nat.zero_mul,Nat.add_zero] at n3;have m3:=(World.cell?_of_block (a:=⟨b0,off0+3,none⟩) (g5.block b0 hb0)).trans n3;have hut:=g11 t (List.mem_cons_self ..);have hrs:∀V:World,_:=fun V=>Xw1 (some ⟨b0,off0,none⟩) cB (ks'.length+1) V (by have:=g7;simp at this;omega);rw[Hdr.out,Xwd ht] at g4;have l0:(0:Int)<((ks'.length:Nat):Int)+1:=by omega
     have G:Hid (LitSt w0 wb R own₀ W J (litsV r.parts.xs l tf) r.parts.xs P (p+1) ks' (subA (some ⟨b0,off0,none⟩) cB 1 5) (cB-1) t.unt w3):=by
      obtain⟨css2,hk2,hr2⟩:=X0l (cp:=cB) g6r g6 (by simpa using g7);exact⟨⟨own,pre,g1,g2,g3,g4⟩,g5,g5s,⟨css2,hk2,hr2⟩,by simp at g7;omega,by rw[List.length_cons] at g8;omega,hut.1,by have:=hut.2;push_cast;omega,fun t' ht'=>g11 t' (List.mem_cons_of_mem _ ht')⟩
     clear n0 n1 n2 n3 n4 hta g1 g2 g3 g4 g5 g6 g6r g7 g8 g9 g10 g11 HS3 hb0 hut;generalize t.unt=tu at *;gi_wp2_with fail
     have hwf:∀f,Fence.wide.fn f=True:=fun f=>by simp[Fence.wide]
     refine Zz 7 (by kernel_rfl) (by kernel_rfl) ?_;simp only[List.take_succ_cons,List.take_zero,List.drop_succ_cons,List.drop_zero];repeat still_step
     refine wpStill_nil ?_;gi_wp2
     go_roundw
     case rel=>exact⟨p+1,ks',subA (some ⟨b0,off0,none⟩) cB 1 5,cB-1,tu,by omega,rfl,rfl,by go_num,G.out.ext HJ.out bd_q⟩
     case measure=>simp[intOf];omega
  ·obtain rfl:p=r.parts.xs.length:=by omega
   have HS:=HS;gi_wp2
   go_end0
   obtain⟨⟨own,pre,g1,g2,g3,g4⟩,_⟩:=HS.out;rw[List.drop_length] at g4;rw[litsV,List.append_nil] at g4;subst g4;exact⟨⟨_,rfl⟩,own,g1,g3⟩
structure Xto (w0:World) (bi bg:Nat) (g:Gram) (its:SlS ItemG):Prop where
 items:w0.heap[bi]? = some (.cells #[.slice its.addr its.xs.length its.cap] 27 (0,0))
 gram:w0.heap[bg]? = some g.ob
 gl:g.lies w0
 il:ItemsAt w0 its
def YBox (N l:Nat) (X:World):Prop:=X.heap[N]? = some (.cells #[.func (.yield l) #[] #[]] 222 (0,0))
structure WkSt (w0:World) (N l bi bg:Nat) (J:(Nat->Prop)->List TgP->World->Prop) (own:Nat->Prop) (pre:List TgP) (V:World):Prop where
 j:J own pre V
 ok:Ti (OldR w0) own V
 low:Below w0.heap.size w0 V
 y:V.heap[N]? = some (.cells #[.func (.yield l) #[] #[]] 222 (0,0))
 wk:V.heap[N+1]? = some (.cells #[.func (.func 160) #[] #[.pointer (some ⟨bi,0,none⟩),.pointer (some ⟨N+1+1,0,none⟩),.pointer (some ⟨bg,0,none⟩),.pointer (some ⟨N+1,0,none⟩)]] 223 (0,0))
 pt:V.heap[N+1+1]? = some (.cells #[.func (.func 156) #[] #[.pointer (some ⟨N,0,none⟩)]] 227 (0,0))
 far:¬own N/\¬own (N+1)/\¬own (N+1+1)
section
variable {w0:World} {N l bi bg:Nat} {J:(Nat->Prop)->List TgP->World->Prop} {own own':Nat->Prop} {pre pre':List TgP} {V V':World}
theorem WkSt.ext (h:WkSt w0 N l bi bg J own pre V) (hJ:Xbk N J) (hb:Below V.heap.size V V'):WkSt w0 N l bi bg J own pre V' :=
 ⟨hJ.1 _ _ _ _ h.j hb,fun k hk=>⟨(h.ok k hk).1,Nat.lt_of_lt_of_le (h.ok k hk).2 hb.size⟩,Xb h.low hb,(hb.block _ (Xd h.y)).trans h.y,(hb.block _ (Xd h.wk)).trans h.wk,(hb.block _ (Xd h.pt)).trans h.pt,h.far⟩
theorem Y4 {b:Nat} (hb:BodyStep own own' V V') (h:¬own b) (hl:b<V.heap.size):¬own' b:=fun h1=>by
 rcases hb.owns b h1 with h2|h2
 ·exact h h2
 ·omega
theorem WkSt.step (h:WkSt w0 N l bi bg J own pre V) (hb:BodyStep own own' V V') (hj:J own' pre' V'):WkSt w0 N l bi bg J own' pre' V' :=
 ⟨hj,Xr9 h.ok hb h.low.size,Xqn h.low h.ok hb,(hb.block _ (Xd h.y) h.far.1).trans h.y,(hb.block _ (Xd h.wk) h.far.2.1).trans h.wk,(hb.block _ (Xd h.pt) h.far.2.2).trans h.pt,
  Y4 hb h.far.1 (Xd h.y),Y4 hb h.far.2.1 (Xd h.wk),Y4 hb h.far.2.2 (Xd h.pt)⟩
def AbAt (own:Nat->Prop) (V:World) (A:Option Addr) (cp:Nat) (l:List Int):Prop:=l.length<=cp/\(l=[]\/∃b off,A=some ⟨b,off,none⟩/\b<V.heap.size/\¬own b/\∀(j:Nat) (u:Value),(l.flatMap intC)[j]? = some u->V.cell? ⟨b,off+j,none⟩=some u)
theorem AbAt.rd {A:Option Addr} {cp:Nat} {l:List Int} (h:AbAt own V A cp l):Rd V A (l.flatMap intC):=by
 rcases h.2 with rfl|⟨b,off,h1,h2,_,h4⟩
 ·exact .inl rfl
 ·exact .inr ⟨b,off,h1,h2,h4⟩
theorem AbAt.ext {A:Option Addr} {cp:Nat} {l:List Int} (h:AbAt own V A cp l) (hb:Below V.heap.size V V'):AbAt own V' A cp l :=
 ⟨h.1,h.2.imp id fun ⟨b,off,h1,h2,h3,h4⟩=>⟨b,off,h1,Nat.lt_of_lt_of_le h2 hb.size,h3,fun j u hu=>(World.cell?_of_block (a:=⟨b,off+j,none⟩) (hb.block b h2)).trans (h4 j u hu)⟩⟩
theorem AbAt.step {A:Option Addr} {cp:Nat} {l:List Int} (h:AbAt own V A cp l) (hb:BodyStep own own' V V'):AbAt own' V' A cp l :=
 ⟨h.1,h.2.imp id fun ⟨b,off,h1,h2,h3,h4⟩=>⟨b,off,h1,Nat.lt_of_lt_of_le h2 hb.size,Y4 hb h3 h2,fun j u hu=>(World.cell?_of_block (a:=⟨b,off+j,none⟩) (hb.block b h2 h3)).trans (h4 j u hu)⟩⟩
theorem AbAt.nil (own:Nat->Prop) (V:World):AbAt own V none 0 []:=⟨Nat.le_refl _,.inl rfl⟩
theorem Xsa {base:Nat} {v:Value} {l:List Int} (h:OwnI V base v l) (hn:∀k,own k->k<base):∃A cp,v = .slice A l.length cp/\AbAt own V A cp l:=by
 obtain⟨A,cp,rfl,hr,h0⟩:=h.form (by decide);refine⟨A,cp,rfl,?_,?_⟩
 ·rcases h.2 with ⟨h1,h2⟩|⟨g9,c9,cur,h1,_,_,h4,_⟩
  ·injection h1 with _ h3 _;omega
  ·injection h1 with _ _ h3;omega
 ·rcases hr with h1|⟨b,off,h1,h2,h3⟩
  ·left
   have:=Vj l;rw[h1] at this;exact List.eq_nil_of_length_eq_zero (by simpa using this.symm)
  ·right
   refine⟨b,off,h1,h2,fun ho=>?_,h3⟩;have:=(h.lt b (by rw[h1];rfl)).1;have:=hn b ho;omega
theorem X0h {X base g cp:Nat} {l:List Int} (h:OwnI V base (.slice (some ⟨g,0,none⟩) l.length cp) l) (hn:∀k,own k->k<base) (hX:X<=base):DepsAt (fun b=>own b\/b<X) V (some ⟨g,0,none⟩) cp l:=by
 rcases h.2 with ⟨h1,_⟩|⟨g9,c9,cur,h1,h2,h3,h4,h5,_,h7⟩
 ·cases h1
 ·cases h1
  refine⟨⟨h4,Nat.le_trans h4 h5⟩,g,cur,_,rfl,h3,fun ho=>ho.elim (fun ho=>by have:=hn g ho;omega) (fun ho=>by omega),fun j x hx=>?_⟩;rw[Nat.mul_one,Xt2] at h7;have hj:j<l.length:=(List.getElem?_eq_some_iff.1 hx).1;have e1:(cur.toList.take l.length)[j]? = (l.map (Value.int .i64))[j]? := by rw[h7]
  rw[List.getElem?_take,if_pos hj,Array.getElem?_toList,List.getElem?_map,hx] at e1;exact e1
def Xd3 (w0:World) (N l bi bg:Nat) (J:(Nat->Prop)->List TgP->World->Prop) (own:Nat->Prop) (pre:List TgP) (V:World) (e:Ending) (V':World):Prop :=
 e = .returned (.bool true)/\∃own',BodyStep own own' V V'/\WkSt w0 N l bi bg J own' pre V'
theorem put30 {xs:List TgP} (hJ:Xbk N J) (hY:AskK Tryz.prog l (EncK w0.heap.size) (OldR w0) xs J) (H:WkSt w0 N l bi bg J own pre V) (text:ByteArray) (A A2:Option Addr) (c c2:Nat) (deps ab:List Int) (term:Int) (hd:AbAt own V A c deps) (h0:0<deps.length) (ha:AbAt own V A2 c2 ab) (hn:deps.length+ab.length<=9000)
  (hpre:pre++[⟨text,setI (deps++ab),term⟩] <+: xs) :
  Calls Tryz.prog 156 #[.string text,.slice A deps.length c,.slice A2 ab.length c2,.int .i64 term,.pointer (some ⟨N,0,none⟩)] V (Xd3 w0 N l bi bg J own (pre++[⟨text,setI (deps++ab),term⟩]) V):=by
 obtain⟨w1,hw1⟩:∃w1,V.alloc (.cells #[.slice A deps.length c,.slice A2 ab.length c2] 49)=w1:=⟨_,rfl⟩
 have hb1:=X5 hw1;have hk1:=Yg hw1;have HC:=Xa (Xn7 V.heap.size A A2 c c2 deps ab w1 hk1 (hd.ext hb1).rd (ha.ext hb1).rd (by omega) (by omega));have HH:=Xa H;have Hb1:=Xa hb1;have HJ:=Xa hJ;have HY:=Xa hY;have Hpre:=Xa hpre;have hz1:=hb1.size;have hl:(deps++ab).length=deps.length+ab.length:=List.length_append;have hN:=Xd H.y;clear H hd ha hJ hY hpre hb1 hk1;generalize hL:deps++ab=L at *;have hL0:0<L.length:=by omega
 have hL1:L.length<=9000:=by omega
 clear hl h0 hn;go_enter Tryz.func156,Tryz.ntmps156
 go_wp2_with fail
 skip
 refine HC.out.mono ?_;rintro e w2 ⟨v2,rfl,hv2,hb2⟩;rw[hL] at hv2
 obtain⟨g,cp,rfl,hcp⟩:∃g cp,v2 = .slice (some ⟨g,0,none⟩) L.length cp/\L.length<=cp:=by
  rcases hv2.2 with ⟨_,h2⟩|⟨g9,c9,cur,h1,_,_,h4,_⟩
  ·omega
  ·exact⟨g9,c9,h1,h4⟩
 have hV2:=Xb Hb1.out hb2;have hbg:V.heap.size<=g:=by have:=(hv2.lt g rfl).1;omega
 have HS:=Xa (X0v hL0 (by omega) hv2);have HV2:=Xa hV2;clear HC hv2 hb2 hw1;go_wp2_with fail
 refine HS.out.mono ?_;rintro e w3 ⟨rfl,hv3,hg3⟩;have hV3:Below V.heap.size V w3:=⟨hg3.os.trans HV2.out.os,hg3.tape.trans HV2.out.tape,hg3.output.trans HV2.out.output,Nat.le_trans HV2.out.size hg3.size,fun k hk=>(hg3.block k (Nat.lt_of_lt_of_le hk HV2.out.size) fun e=>by injection e with e;omega).trans (HV2.out.block k hk)⟩
 have hy3:=(hV3.block N hN).trans HH.out.y;have hls:=Xfw L;have Hls:=Xa hls;have Hv3:=Xa hv3;have Hy3:=Xa hy3;have HV3:=Xa hV3;clear HS hv3 hy3 hV3 hg3 HV2 hls;go_wp2_with fail
 have Hv3d:=Xa (show OwnI w3.drew w1.heap.size (.slice (some ⟨g,0,none⟩) L.length cp) (Qf L) from Hv3.out.ext bd_q);have HCo:=Xa (Xn6 (cap:=cp) (n:=L.length) Hls.out (by omega) Hv3d.out);refine wpIn_wide (n:=0) |>.1 ?_
 refine Yz _ ?_ (fun _ _ h=>h);refine Xn (YBox N l) (by kernel_rfl) ?_;refine Xc (i:=0) (hy:=fun V hV=>(by have c0:=gblk (show V.heap[N]? = _ from hV) 0;go_simp<;>rfl)) ?_;refine Xc (i:=1) ?_;refine Xc (i:=2) ?_;refine Xc (i:=4) ?_;refine Xh (i:=3) Hy3.out fun K hK=>?_;go_simp
 refine⟨trivial,rfl,callsIn_wide.2 (HCo.out.mono ?_)⟩;rintro e w4 ⟨rfl,hv4,hg4⟩;refine hK _ _ ?_;clear hK K;have hV4:Below V.heap.size V w4:=⟨hg4.os.trans HV3.out.os,hg4.tape.trans HV3.out.tape,hg4.output.trans HV3.out.output,Nat.le_trans HV3.out.size hg4.size,fun k hk=>(hg4.block k (Nat.lt_of_lt_of_le hk HV3.out.size) fun e=>by injection e with e;omega).trans (HV3.out.block k hk)⟩
 have hy4:=(hV4.block N hN).trans HH.out.y;rw[Xea] at hv4;rw[Xea];have hH4:=HH.out.ext HJ.out hV4;have hlt4:∀k,own k->k<w1.heap.size:=fun k hk=>Nat.lt_of_lt_of_le (HH.out.ok k hk).2 hz1;obtain⟨fn,tmps,assign,body,hyy,hRd⟩:=HY.out own pre ⟨text,setI L,term⟩ #[.agg #[.string text,.slice (some ⟨g,0,none⟩) (setI L).length cp,.int .i64 term]] w4 hH4.j Hpre.out ⟨_,_,rfl,X0h hv4 hlt4 (Nat.le_trans HH.out.low.size hz1)⟩ hH4.ok;have HRd:=Xa hRd;have H4:=Xa hH4;have HV4:=Xa hV4;clear hRd hH4 hV4 hv4 hg4 HCo Hv3d hlt4;refine Xc (i:=5) ?_;refine Xh (i:=6) hy4 fun K hK=>?_;go_simp
 refine⟨rfl,HRd.out.mono ?_⟩;rintro e w9 ⟨rfl,own',hbs,hj9⟩;refine hK _ _ ?_;clear hK K;have H9:=Xa (H4.out.step hbs hj9);have Hbs:=Xa hbs;refine Xc (i:=7) ?_;refine Xk H9.out.y (by kernel_rfl) ?_ _;clear hbs hj9 hyy;go_wp2_with fail
 go_ret;exact⟨rfl,own',(BodyStep.grow HV4.out fun k hk=>(HH.out.ok k hk).2).trans Hbs.out,H9.out⟩
end
section
variable {w0:World} {N l bi bg:Nat} {J:(Nat->Prop)->List TgP->World->Prop} {own own':Nat->Prop} {pre pre':List TgP} {V V':World} {g:Gram} {its:SlS ItemG}
def Xhp (N l b:Nat) (o:Obj) (X:World):Prop:=X.heap[N]? = some (.cells #[.func (.func 156) #[] #[.pointer (some ⟨l,0,none⟩)]] 227 (0,0))/\X.heap[b]? = some o
theorem Xv2 {x:ItemG} {ab:List Int} {k:Nat} (h:k<x.tgt.xs.length):(Uf x ab).take (k+1)=(Uf x ab).take k++[⟨x.tgt.xs[k],setI (Vi x.frm x.unt++ab),x.term⟩]:=by
 rw[List.take_add_one]
 congr 1
 unfold Uf;rw[List.getElem?_map,List.getElem?_eq_getElem h];rfl
def Xov (x:ItemG):Obj:=x.ob
def Xqi (w0:World) (N l bi bg:Nat) (J:(Nat->Prop)->List TgP->World->Prop) (own₀:Nat->Prop) (V:World) (pre:List TgP) (x:ItemG) (bx:Nat) (A:Option Addr) (cp:Nat) (ab:List Int) (k:Nat) (W:World):Prop :=
 ∃own,BodyStep own₀ own V W/\WkSt w0 N l bi bg J own (pre++(Uf x ab).take k) W/\AbAt own W A cp ab/\W.heap[bx]? = some x.ob/\¬own bx
theorem Xxt {xs:List TgP} (hE:Xto w0 bi bg g its) (_hm:its.xs.length<=9223372036854775807) (hJ:Xbk N J) (hY:AskK Tryz.prog l (EncK w0.heap.size) (OldR w0) xs J) (H:WkSt w0 N l bi bg J own pre V) (r:Int) (j:Nat) (i k:Int) (kA:Option Addr) (kn kc:Nat) (A:Option Addr) (cp:Nat) (ab:List Int) (hr:r<0) (hj:j<its.xs.length)
  (hp:0<=its.xs[j].frm/\its.xs[j].frm<its.xs[j].unt/\its.xs[j].unt<=16) (ha:AbAt own V A cp ab) (hn:ab.length<=5000) (hpre:pre++Uf its.xs[j] ab <+: xs) :
  Calls Tryz.prog 160 #[.agg #[.int .i64 r,.int .i64 j,.int .i64 i,.int .i64 k,.slice kA kn kc],.slice A ab.length cp,.pointer (some ⟨bi,0,none⟩),.pointer (some ⟨N+1+1,0,none⟩),.pointer (some ⟨bg,0,none⟩),.pointer (some ⟨N+1,0,none⟩)] V (Xd3 w0 N l bi bg J own (pre++Uf its.xs[j] ab) V):=by
 obtain⟨bI,oI,hIa,hbI,hIc⟩:=hE.il.lies.at_ ItemG.size_cells (by omega) hj;have htl:=hE.il.tgt _ (List.getElem_mem hj);obtain⟨w1,hw1⟩:∃w1,V.alloc (.cells #[.int .i64 r,.int .i64 j,.int .i64 i,.int .i64 k,.slice kA kn kc] 37)=w1:=⟨_,rfl⟩
 have hb1:=X5 hw1;have hk1:=Yg hw1;have H1:=H.ext hJ hb1;have d0:w1.cell? ⟨bI,oI+j*6,none⟩=some (.int .i64 its.xs[j].cat):=hIc j hj w1 H1.low 0 _ rfl;have d1:w1.cell? ⟨bI,oI+j*6+1,none⟩=some (.int .i64 its.xs[j].frm):=hIc j hj w1 H1.low 1 _ rfl;have d2:w1.cell? ⟨bI,oI+j*6+2,none⟩=some (.int .i64 its.xs[j].unt):=hIc j hj w1 H1.low 2 _ rfl;have d3:w1.cell? ⟨bI,oI+j*6+3,none⟩=some (.int .i64 its.xs[j].cost):=hIc j hj w1 H1.low 3 _ rfl;have d4:w1.cell? ⟨bI,oI+j*6+4,none⟩=some (.slice its.xs[j].tgt.addr its.xs[j].tgt.xs.length its.xs[j].tgt.cap):=hIc j hj w1 H1.low 4 _ rfl;have d5:w1.cell? ⟨bI,oI+j*6+5,none⟩=some (.int .i64 its.xs[j].term):=hIc j hj w1 H1.low 5 _ rfl;have hbi:=(H1.low.block _ (Xd hE.items)).trans hE.items;have ci:=gblk hbi 0;obtain⟨y0,y1,y2,y3,y4⟩:=gb5 hk1;rw[hIa] at ci;have Hp:=Xa hp;have Hpre:=Xa hpre;have Htl:=Xa htl;have hml:=Nat.le_trans htl.cap htl.max;have q1:decide (r<0)=true:=decide_eq_true hr;have q2:0<=(j:Int):=by omega
 have q3:(j:Int)<(its.xs.length:Int):=by omega
 generalize its.xs[j]=x at *;obtain⟨w2,hw2⟩:∃w2,w1.alloc x.ob=w2:=⟨_,rfl⟩
 have hb2:=X5 hw2;have hx2:=Yg hw2;obtain⟨e0,e1,e2,e3,e4,e5⟩:=gb6 hx2;have hb12:=Xb hb1 hb2;have hst:Xqi w0 N l bi bg J own V pre x w1.heap.size A cp ab 0 w2:=⟨own,.grow hb12 fun k hk=>(H.ok k hk).2,by simpa using H1.ext hJ hb2,ha.ext hb12,hx2,fun h=>by have:=(H.ok _ h).2;have:=hb1.size;omega⟩
 have Hst:=Xa hst;have HJ:=Xa hJ;have HY:=Xa hY;have HE:=Xa hE;clear hp hpre htl hst hJ hY hE H H1 ha hb1 hk1 hb2 hx2 hb12 hIa hIc hbi;go_enter Tryz.func160,Tryz.ntmps160
 go_wp2_with fail
 clear hw1 hw2;go_loopw [31] (fun iv wr=>∃q:Nat,q<=x.tgt.xs.length/\iv = .int .i64 q/\Hid (Xqi w0 N l bi bg J own V pre x w1.heap.size A cp ab q wr)) (fun iv _=>x.tgt.xs.length-(intOf iv).toNat)
 case atStart=>exact⟨0,Nat.zero_le _,rfl,Hst.out⟩
 case round =>
  obtain⟨q,hq,rfl,HL⟩:=hrel;obtain⟨own2,hbs2,hS2,ha2,hx2,hn2⟩:=HL.out;by_cases hlt:q<x.tgt.xs.length
  ·obtain⟨bs,os,hsA,hbs,hsc⟩:=StrS.at_ (StrS.lies.ext Htl.out hS2.low) hlt
   have s0:=hsc q hlt;have Htk:=Xa (Xv2 (ab:=ab) hlt);have HS2:=Xa hS2;have Hbs2:=Xa hbs2;have Ha2:=Xa ha2;rw[hsA];clear hsc hsA hS2 hbs2 ha2 HL;generalize x.tgt.xs[q]=s at *;have HC:=Xa (show Xhp (N+1+1) N w1.heap.size (Xov x) wr from ⟨HS2.out.pt,hx2⟩);have HCd:Hid (Xhp (N+1+1) N w1.heap.size (Xov x) wr.drew):=HC;clear hx2;go_wp2_with fail
   refine wpIn_wide (n:=0) |>.1 ?_
   refine Yz _ ?_ (fun _ _ h=>h);refine Xn (Xhp (N+1+1) N w1.heap.size (Xov x)) (by kernel_rfl) ?_;refine Xc (i:=0) (hy:=fun V hV=>(by have c0:=gblk hV.1 0;go_simp<;>rfl)) ?_;refine Xc (i:=1) ?_;refine Xc (i:=2) (hy:=fun V hV=>(by have c1:=gblk hV.2 1;have c2:=gblk hV.2 2;go_simp<;>rfl)) ?_;refine Xc (i:=3) (hy:=fun V hV=>(by have c1:=gblk hV.2 1;have c2:=gblk hV.2 2;go_simp<;>rfl)) ?_;refine Xc (i:=4) (hy:=fun V hV=>(by have c1:=gblk hV.2 1;have c2:=gblk hV.2 2;go_simp<;>rfl)) ?_;refine Xc (i:=5) (hy:=fun V hV=>(by have c1:=gblk hV.2 1;have c2:=gblk hV.2 2;go_simp<;>rfl)) ?_;refine Xc (i:=7) ?_;refine Xc (i:=8) (hy:=fun V hV=>(by have c5:=gblk hV.2 5;go_simp<;>rfl)) ?_;refine Xc (i:=9) (hy:=fun V hV=>(by have c5:=gblk hV.2 5;go_simp<;>rfl)) ?_;refine Xh (i:=6) HCd.out fun K hK=>?_;go_simp
   refine⟨trivial,rfl,callsIn_wide.2 ((Xjc x.frm x.unt _ Hp.out.1 (by have:=Hp.out.2.1;omega) (by have:=Hp.out.2.2;omega)).mono ?_)⟩;rintro e w4 ⟨v4,rfl,hv4,hb4⟩;refine hK _ _ ?_;clear hK K;have hb4:=Xb (Xr (Below.refl wr.heap.size wr)) hb4;have hS4:=HS2.out.ext HJ.out hb4;obtain⟨A4,cp4,rfl,hd4⟩:=Xsa (own:=own2) hv4 (fun k hk=>by have:=(HS2.out.ok k hk).2;simpa using this);have hsl:=Xjd x.frm x.unt
   have hpp:(pre++(Uf x ab).take q)++[⟨s,setI (Vi x.frm x.unt++ab),x.term⟩] <+: xs:=by
    rw[List.append_assoc,<- Htk.out];exact((List.prefix_append_right_inj pre).2 (List.take_prefix _ _)).trans Hpre.out
   have cP:=Xa (put30 HJ.out HY.out hS4 s A4 A cp4 cp (Vi x.frm x.unt) ab x.term hd4 (by have:=Hp.out.2.1;omega) (Ha2.out.ext hb4) (by have:=Hp.out;omega) hpp);have HC4:Hid (Xhp (N+1+1) N w1.heap.size (Xov x) w4):=⟨(hb4.block _ (Xd HC.out.1)).trans HC.out.1,(hb4.block _ (Xd HC.out.2)).trans HC.out.2⟩
   have Hb4:=Xa hb4;clear hb4 hS4 hv4 hd4 hpp hsl;refine Xh (i:=10) HC4.out fun K hK=>?_;go_simp
   refine⟨trivial,rfl,callsIn_wide.2 (cP.out.mono ?_)⟩;rintro e w9 ⟨rfl,own9,hbs9,hS9⟩;refine hK _ _ ?_;clear hK K;have hbs29:BodyStep own2 own9 wr w9:=(BodyStep.grow Hb4.out fun k hk=>(HS2.out.ok k hk).2).trans hbs9;have hx9:=(hbs29.block _ (Xd HC.out.2) hn2).trans HC.out.2;have HL9:Hid (Xqi w0 N l bi bg J own V pre x w1.heap.size A cp ab (q+1) w9):=⟨own9,Hbs2.out.trans hbs29,by rw[Htk.out,<- List.append_assoc];exact hS9,Ha2.out.step hbs29,hx9,Y4 hbs29 hn2 (Xd HC.out.2)⟩
   have HC9:Hid (Xhp (N+1+1) N w1.heap.size (Xov x) w9):=⟨hS9.pt,hx9⟩
   clear hbs9 hS9 hbs29 hx9;refine Xc (i:=11) ?_;refine Xk HC9.out (by kernel_rfl) ?_ _;go_wp2_with fail
   go_roundw
   case rel=>exact⟨q+1,by omega,by go_num,HL9.out⟩
   case measure=>simp[intOf];omega
  ·obtain rfl:q=x.tgt.xs.length:=by omega
   have HF:Hid (Xd3 w0 N l bi bg J own (pre++Uf x ab) V (.returned (.bool true)) wr):=by
    refine⟨rfl,own2,hbs2,?_⟩
    rwa [List.take_of_length_le (by unfold Uf;simp)] at hS2
   clear hbs2 hS2 ha2 HL hx2;go_wp2_with fail
   go_ret;exact HF.out
end
def FullI (X:Nat->Prop) (V:World) (bx:Nat) (v:Value) (l:List Int):Prop:=∃A,v = .slice A l.length l.length/\(l=[]\/∃b off,A=some ⟨b,off,none⟩/\(b<bx/\¬X b)/\b<V.heap.size/\∀(j:Nat) (u:Value),(l.flatMap intC)[j]? = some u->V.cell? ⟨b,off+j,none⟩=some u)
def RowK (X:Nat->Prop) (bx:Nat) (ab:List Int) (own:Nat->Prop) (pre:List Int) (V:World):Prop :=
 ∃v,V.heap[bx]? = some (.cells #[v] 49 (0,0))/\((OwnI V bx v (ab++pre)/\∀k,own k↔(k=bx\/v.ownBlock=some k))\/(pre=[]/\FullI X V bx v ab/\∀k,own k↔k=bx))
theorem Xls {X:Nat->Prop} {bx:Nat} {ab:List Int} {own:Nat->Prop} {pre:List Int} {V V':World} (h:RowK X bx ab own pre V) (hs:V.heap.size<=V'.heap.size) (hb:∀k,k<V.heap.size->(own k\/k<bx)->V'.heap[k]? = V.heap[k]?):RowK X bx ab own pre V':=by
 obtain⟨v,h1,h2⟩:=h;have hlt:=Xd h1;rcases h2 with ⟨h2,h3⟩|⟨h2,⟨A,h4,h5⟩,h3⟩
 ·exact⟨v,(hb bx hlt (.inl ((h3 bx).2 (.inl rfl)))).trans h1,.inl ⟨h2.block fun g hg=>hb g (h2.lt g hg).2 (.inl ((h3 g).2 (.inr hg))),h3⟩⟩
 ·exact⟨v,(hb bx hlt (.inl ((h3 bx).2 rfl))).trans h1,.inr ⟨h2,⟨A,h4,h5.imp id fun ⟨b,off,h5,h6,h7,h8⟩=>⟨b,off,h5,h6,Nat.lt_of_lt_of_le h7 hs,fun j u hu=>(World.cell?_of_block (a:=⟨b,off+j,none⟩) (hb b h7 (.inr h6.1))).trans (h8 j u hu)⟩⟩,h3⟩⟩
theorem Xpl {X:Nat->Prop} {bx:Nat} {ab:List Int} {own:Nat->Prop} {pre:List Int} {V V':World} {l:Nat} (h:RowK X bx ab own pre V) (hl:bx<=l) (hn:¬own l) (hs:OneStep l V V'):RowK X bx ab own pre V' :=
 Xls h (by rw[hs.size];exact Nat.le_refl _) fun k _ hk=>hs.block k (by rintro rfl;rcases hk with hk|hk;exact hn hk;omega)
theorem Xlr (X:Nat->Prop) {bx C:Nat} (hC:bx<=C) (ab:List Int):Xbk C (RowK X bx ab):=⟨fun _ _ _ _ h hb=>Xls h hb.size fun k hk _=>hb.block k hk,fun _ _ _ _ _ _ h hl hn _ _ hs=>Xpl h (Nat.le_trans hC hl) hn hs⟩
theorem Xg5 {X:Nat->Prop} {bx:Nat} {ab:List Int} {v:Value} {V:World} (hv:FullI X V bx v ab) (x:Int) (a:Nat) (hx:V.cell? ⟨a,0,none⟩=some (.int .i64 x)) (hb:bx<=V.heap.size) (hl:ab.length<=9000) (ty:TypeId) :
  ∃v' w',(Builtin.append_ #[49,49] ty #[v,.slice (some ⟨a,0,none⟩) 1 1]).run Tryz.prog V = .ok v' w'/\OwnI w' bx v' (ab++[x])/\v'.ownBlock=some V.heap.size/\Below V.heap.size V w':=by
 obtain⟨i0,hi0,hz0,hs0,hb0⟩:=info_parts T4
 have hnews:∀(j:Nat) (u:Value),[Value.int .i64 x][j]? = some u->V.cell? ((⟨a,0,none⟩:Addr).add j)=some u:=by
  intro j u hu;cases j with
  | zero=>simp at hu;subst hu;rw[show (⟨a,0,none⟩:Addr).add 0=⟨a,0,none⟩ from by unfold Addr.add;split<;>simp_all];exact hx
  | succ j=>simp at hu
 have fin:∀old:Nat,OwnI (V.drew.alloc (.cells ((ab.flatMap intC).toArray++[Value.int .i64 x].toArray++Builtin.zeroCells (Value.int .i64 0).cells (grownCap V (ab.length+1) old 3-(ab.length+1))) 3)) bx (.slice (some ⟨V.heap.size,0,none⟩) (ab.length+1) (grownCap V (ab.length+1) old 3)) (ab++[x]):=fun old=>by
  have hge:=grownCap_ge V (ab.length+1) old 3;have hcm:=grownCap_le_maxLen V (ab.length+1) old 3 (by unfold maxLen;omega);refine⟨Vj _,.inr ⟨V.heap.size,_,_,by simp,hb,World.alloc_heap_new V.drew _,by simpa using hge,hcm,?_,?_⟩⟩
  ·have h9:=Vj ab
   have e1:(Value.int .i64 0).cells.size=1:=rfl;rw[Array.size_append,Array.size_append,size_zeroCells,e1,List.size_toArray,List.size_toArray,h9];simp only[List.length_cons,List.length_nil];omega
  ·have hlen:=Vj (ab++[x])
   rw[<- hlen];have e:∀Z:Array Value,((ab.flatMap intC).toArray++[Value.int .i64 x].toArray++Z).toList=(ab++[x]).flatMap intC++Z.toList:=fun Z=>by simp[intC]
   rw[e];exact List.take_left
 have bel:∀o:Obj,Below V.heap.size V (V.drew.alloc o):=fun o=>Xg bd_q o;obtain⟨A,rfl,h⟩:=hv;cases A with
 | none =>
  obtain rfl:ab=[]:=by
   rcases h with h|⟨b,off,h,_⟩
   ·exact h
   ·cases h
  have hr:=run_append_nil (P:=Tryz.prog) V 49 ty 3 i0 _ Tryz.underlying49 hi0 hz0 ⟨a,0,none⟩ 1 1 [.int .i64 x] (by rw[hs0];rfl) hnews (by omega) (by omega) (by rw[hb0];omega);exact⟨_,_,hr,fin 0,rfl,bel _⟩
 | some p =>
  have hr:=run_append_grow (P:=Tryz.prog) V 49 ty 3 i0 _ Tryz.underlying49 hi0 hz0 p ab.length ab.length (ab.flatMap intC) (by rw[Vj,hs0]) (fun j u hu=>by
   rcases h with rfl|⟨b,off,h,_,_,h4⟩
   ·simp at hu
   ·cases h
    rw[show (⟨b,off,none⟩:Addr).add j=⟨b,off+j,none⟩ from by unfold Addr.add;split<;>simp_all];exact h4 j u hu) ⟨a,0,none⟩ 1 1 [.int .i64 x] (by rw[hs0];rfl) hnews (by omega) (by omega) (by rw[hb0];exact growslice_fits (by omega) (by omega))
  exact⟨_,_,hr,fin _,rfl,bel _⟩
theorem Xpk {X:Nat->Prop} {bx:Nat} {ab:List Int} {own:Nat->Prop} {pre:List Int} {V:World} (h:RowK X bx ab own pre V) (x:Int) (a:Nat) (hx:V.cell? ⟨a,0,none⟩=some (.int .i64 x)) (hl:ab.length+pre.length<=9000) (ty:TypeId) :
  ∃v v' w',V.heap[bx]? = some (.cells #[v] 49 (0,0))/\(Builtin.append_ #[49,49] ty #[v,.slice (some ⟨a,0,none⟩) 1 1]).run Tryz.prog V = .ok v' w'/\w'.heap[bx]? = some (.cells #[v] 49 (0,0)) /\
   ∃own',BodyStep own own' V (w'.setCell ⟨bx,0,none⟩ v')/\RowK X bx ab own' (pre++[x]) (w'.setCell ⟨bx,0,none⟩ v'):=by
 obtain⟨v,h1,h2⟩:=h;have hlt:=Xd h1
 have fin:∀(v':Value) (w':World),OwnI w' bx v' (ab++(pre++[x]))->(∀k,k<V.heap.size->¬own k->w'.heap[k]? = V.heap[k]?)->w'.os=V.os->w'.tape=V.tape->w'.output=V.output->V.heap.size<=w'.heap.size->w'.heap[bx]? = some (.cells #[v] 49 (0,0))->own bx->(∀k,v'.ownBlock=some k->own k\/V.heap.size<=k) ->
   ∃own',BodyStep own own' V (w'.setCell ⟨bx,0,none⟩ v')/\RowK X bx ab own' (pre++[x]) (w'.setCell ⟨bx,0,none⟩ v'):=by
  intro v' w' ho hb e1 e2 e3 hs hbx hobx hrow;have hz:(w'.setCell ⟨bx,0,none⟩ v').heap.size=w'.heap.size:=by simp[World.setCell]
  have hother:∀k,k≠bx->(w'.setCell ⟨bx,0,none⟩ v').heap[k]? = w'.heap[k]? := fun k hk=>Below.heap_setCell _ _ _ _ hk
  have hne:v'.ownBlock≠some bx:=fun e=>by
   rcases ho.2 with ⟨h3,_⟩|⟨g9,c9,cur,h3,_,h5,_⟩
   ·rw[h3] at e;cases e
   ·rw[h3] at e
    have:g9=bx:=(by simpa[Value.ownBlock] using e);subst this;rw[hbx] at h5;simp only[Option.some.injEq,Obj.cells.injEq] at h5;exact absurd h5.2.1 (by decide)
  refine⟨fun k=>k=bx\/v'.ownBlock=some k,⟨e1,e2,e3,by rw[hz];exact hs,fun k hk hno=>(hother k (by rintro rfl;exact hno hobx)).trans (hb k hk hno),fun k hk=>?_,fun k hk=>?_⟩,v',Xs hbx 0 _,.inl ⟨ho.block fun g hg=>hother g (by rintro rfl;exact hne hg),fun _=>Iff.rfl⟩⟩
  ·rcases hk with rfl|hk
   ·exact .inl hobx
   ·exact hrow k hk
  ·rw[hz]
   rcases hk with rfl|hk
   ·omega
   ·exact(ho.lt k hk).2
 rcases h2 with ⟨h2,h3⟩|⟨rfl,h2,h3⟩
 ·obtain⟨i0,hi0,hz0,hs0,hb0⟩:=info_parts T4
  have hll:(ab++pre).length<=9000:=by rw[List.length_append];exact hl
  have hnews:∀(j:Nat) (u:Value),[Value.int .i64 x][j]? = some u->V.cell? ((⟨a,0,none⟩:Addr).add j)=some u:=by
   intro j u hu;cases j with
   | zero=>simp at hu;subst hu;rw[show (⟨a,0,none⟩:Addr).add 0=⟨a,0,none⟩ from by unfold Addr.add;split<;>simp_all];exact hx
   | succ j=>simp at hu
  obtain⟨v',w',r1,r2,r3,_,r5⟩:=run_append_own_at (P:=Tryz.prog) V bx 49 ty 3 i0 _ 1 8 Tryz.underlying49 hi0 hz0 hs0 hb0 rfl (by decide) v (ab++pre).length ((ab++pre).flatMap intC) h2 ⟨a,0,none⟩ 1 1 [.int .i64 x] rfl hnews (by simp[Value.oneCell']) (by unfold maxLen;omega) (by omega) (Nat.le_of_lt hlt)
  have hvb:v.ownBlock≠some bx:=fun e=>by
   rcases h2.2 with ⟨h4,_⟩|⟨g9,c9,cur,h4,_,h5,_⟩
   ·rw[h4] at e;cases e
   ·rw[h4] at e
    have:g9=bx:=(by simpa[Value.ownBlock] using e);subst this;rw[h1] at h5;simp only[Option.some.injEq,Obj.cells.injEq] at h5;exact absurd h5.2.1 (by decide)
  have hbx:=(r3.block bx hlt (fun e=>hvb e.symm)).trans h1;refine⟨v,v',w',h1,r1,hbx,fin v' w' (by rw[<- List.append_assoc];exact OwnL.snoc (f:=intC) x r2) (fun k hk hno=>r3.block k hk fun e=>hno ((h3 k).2 (.inr e.symm))) r3.os r3.tape r3.output r3.size hbx ((h3 bx).2 (.inl rfl)) fun k hk=>?_⟩;rcases r5 with e|e
  ·exact .inl ((h3 k).2 (.inr (e ▸ hk)))
  ·rw[e] at hk;cases hk;exact .inr (Nat.le_refl _)
 ·obtain⟨v',w',r1,r2,r3,r4⟩:=Xg5 h2 x a hx (Nat.le_of_lt hlt) (by simpa using hl) ty
  have hbx:=(r4.block bx hlt).trans h1;exact⟨v,v',w',h1,r1,hbx,fin v' w' r2 (fun k hk _=>r4.block k hk) r4.os r4.tape r4.output r4.size hbx ((h3 bx).2 rfl) fun k hk=>by rw[r3] at hk;cases hk;exact .inr (Nat.le_refl _)⟩
theorem Xm8 {X:Nat->Prop} {bx:Nat} {ab:List Int} {own:Nat->Prop} {pre:List Int} {V:World} (h:RowK X bx ab own pre V) (x:Int) (a:Nat) (hx:V.cell? ⟨a,0,none⟩=some (.int .i64 x)) (hl:ab.length+pre.length<=9000) (ty:TypeId) :
  ∃A1 n1 c1 A2 n2 c2 w',V.heap[bx]? = some (.cells #[.slice A1 n1 c1] 49 (0,0))/\(Builtin.append_ #[49,49] ty #[.slice A1 n1 c1,.slice (some ⟨a,0,none⟩) 1 1]).run Tryz.prog V = .ok (.slice A2 n2 c2) w'/\w'.heap[bx]? = some (.cells #[.slice A1 n1 c1] 49 (0,0)) /\
   ∃own',BodyStep own own' V (w'.setCell ⟨bx,0,none⟩ (.slice A2 n2 c2))/\RowK X bx ab own' (pre++[x]) (w'.setCell ⟨bx,0,none⟩ (.slice A2 n2 c2)):=by
 have key:∀ {own:Nat->Prop} {pre:List Int} {V:World},RowK X bx ab own pre V->∃A n c,V.heap[bx]? = some (.cells #[.slice A n c] 49 (0,0)):=fun h=>by
  obtain⟨v,h1,h2⟩:=h;rcases h2 with ⟨h2,_⟩|⟨_,⟨A,rfl,_⟩,_⟩
  ·obtain⟨A,c,rfl,_⟩:=h2.form (by decide)
   exact⟨A,_,c,h1⟩
  ·exact⟨A,_,_,h1⟩
 obtain⟨v,v',w',h1,h2,h3,own',h4,h5⟩:=Xpk h x a hx hl ty;obtain⟨A1,n1,c1,e1⟩:=key h;obtain⟨A2,n2,c2,e2⟩:=key h5;have e3:=Xs (o:=0) (u:=v') h3;rw[h1] at e1;rw[e3] at e2;have f1:v = .slice A1 n1 c1:=by simpa using e1
 have f2:v' = .slice A2 n2 c2:=by simpa using e2
 subst f1 f2;exact⟨A1,n1,c1,A2,n2,c2,w',h1,h2,h3,own',h4,h5⟩
theorem X0m {X:Nat->Prop} {bx:Nat} {ab:List Int} {own5:Nat->Prop} {pre:List Int} {W:World} (h:RowK X bx ab own5 pre W) (hn:∀k,X k->k<bx) :
  ∃A cp,W.heap[bx]? = some (.cells #[.slice A (ab++pre).length cp] 49 (0,0))/\AbAt X W A cp (ab++pre):=by
 obtain⟨v,h1,h2⟩:=h;rcases h2 with ⟨h2,_⟩|⟨rfl,⟨A,rfl,h4⟩,_⟩
 ·obtain⟨A,cp,rfl,h3⟩:=Xsa h2 hn
  exact⟨A,cp,h1,h3⟩
 ·rw[List.append_nil]
  exact⟨A,ab.length,h1,Nat.le_refl _,h4.imp id fun ⟨b,off,e1,e2,e3,e4⟩=>⟨b,off,e1,e3,e2.2,e4⟩⟩
theorem Xv {P:Program} {ops:Array Oper} {C:World->Prop} {Q:Exit->Act->World->Prop} {m f:Nat} {listed:Array Bool} {a a':Act} {w:World} (h:a=a') (k:wpAnyC m P ops C Q f listed a' w):wpAnyC m P ops C Q f listed a w:=h ▸ k
theorem Xcx {F:Fence} {n:Nat} {P:Program} (w:World) {ops:Array Oper} {rest:List Oper} {o:Oper} {a:Act} {Q:Exit->Act->World->Prop}
  (hg:o.guard=none) (s x:Operand) (t:TypeId) (hop:o.op=Op.call {callee:=Callee.builtin Builtin.append,args:=#[s,x],argTypes:=#[t,t]}) {v u v':Value} {w':World} (hs:a.eval s=v) (hx:a.eval x=u) (hrun:(Builtin.append_ #[t,t] o.type #[v,u]).run P w = .ok v' w')
  (hK:wpListIn F n P ops Q rest (a.put o.dst v') w'):wpListIn F n P ops Q (o :: rest) a w:=by
 refine wpListIn_plain hg fun K hK'=>?_;unfold Oper.wpIn;refine⟨?_,?_⟩
 ·simp[Oper.about,hop,resolve,Target.leads,Sem.run_pure]
 ·rw[Oper.semAt_plain F _ _ (by rw[hop];intro c hc';cases hc')]
  simp[execOp,hop,resolve,invoke,builtin,hs,hx,hrun,Result.andThen];exact hK' _ _ hK
end
def TreeG.val (x:TreeG):Value:=x.vl
theorem Xxh (x y:TreeG) (h:x.val=y.val):x=y:=by
 obtain⟨c,d,e,f,⟨g,h1,i⟩⟩:=x;obtain⟨c',d',e',f',⟨g',h1',i'⟩⟩:=y;simp[TreeG.val] at h;obtain⟨rfl,rfl,rfl,rfl,rfl,rfl,rfl⟩:=h;rfl
def treeE:ElemShape TreeG:=⟨TreeG.val,Xxh⟩
theorem Xqe (w:World):(zeroValue 37).run Tryz.prog w = .ok (treeE.val Xd0) w:=by kernel_rfl
theorem Xzv:Tryz.prog.underlying 230=some (.map 3 37):=by rw[Tryz.underlying230]
def Yo (parts:List PartG) (p:Nat):Bool:=match parts[p]? with|some q=>decide (q.text.size=0)|none=>false
theorem Xux {parts:List PartG} {p:Nat} (h:p<parts.length):Yo parts p=decide (parts[p].text.size=0):=by unfold Yo;rw[List.getElem?_eq_getElem h]
theorem Xd8 {parts:List PartG} {p:Nat} (h:Yo parts p=true):p<parts.length:=by
 unfold Yo at h;cases hp:parts[p]? with
 | none=>rw[hp] at h;cases h
 | some q=>exact(List.getElem?_eq_some_iff.1 hp).1
theorem Xcm (parts:List PartG) (p:Nat):kidN parts (p+1)=kidN parts p+if Yo parts p=true then 1 else 0:=by
 unfold kidN;rw[List.take_add_one,List.countP_append]
 congr 1
 unfold Yo;cases hp:parts[p]? with
 | none=>simp
 | some q=>simp
theorem Xk5 (parts:List PartG) {p q:Nat} (h:p<=q):kidN parts p<=kidN parts q:=by
 obtain⟨d,rfl⟩:=Nat.le.dest h;clear h
 induction d with
 | zero=>exact Nat.le_refl _
 | succ d ih=>rw[<- Nat.add_assoc,Xcm];omega
theorem Xhc {parts:List PartG} {p n:Nat} (h:Yo parts p=true) (hn:parts.countP (fun x=>decide (x.text.size=0))<=n):kidN parts p<n:=by
 have h1:=Xcm parts p;rw[if_pos h] at h1;have h2:=Xk5 parts (show p+1<=parts.length from Xd8 h);have h3:kidN parts parts.length=parts.countP (fun x=>decide (x.text.size=0)):=by unfold kidN;rw[List.take_length]
 omega
def kmF (parts:List PartG) (kg:Nat->TreeG) (p:Nat) (y:Int):Option TreeG:=if 0<=y/\y<p/\Yo parts y.toNat=true then some (kg (kidN parts y.toNat)) else none
theorem Xzx (parts:List PartG) (kg:Nat->TreeG) (y:Int):kmF parts kg 0 y=none:=by unfold kmF;rw[if_neg (by omega)]
theorem Xzw {parts:List PartG} {kg:Nat->TreeG} {p:Nat} (h:Yo parts p=false) (y:Int):kmF parts kg (p+1) y=kmF parts kg p y:=by
 unfold kmF;by_cases e:y=(p:Int)
 ·subst e
  rw[if_neg (by rintro⟨_,_,h3⟩;simp at h3;rw[h] at h3;cases h3),if_neg (by omega)]
 ·by_cases h1:0<=y/\y<p/\Yo parts y.toNat=true
  ·rw[if_pos h1,if_pos ⟨h1.1,by omega,h1.2.2⟩]
  ·rw[if_neg h1,if_neg (by rintro⟨a,b,c⟩;exact h1 ⟨a,by omega,c⟩)]
theorem X14 {parts:List PartG} {kg:Nat->TreeG} {p:Nat} (h:Yo parts p=true) (y:Int):kmF parts kg (p+1) y=if y=(p:Int) then some (kg (kidN parts p)) else kmF parts kg p y:=by
 unfold kmF;by_cases e:y=(p:Int)
 ·subst e
  rw[if_pos ⟨by omega,by omega,by simpa using h⟩,if_pos rfl];simp
 ·rw[if_neg e]
  by_cases h1:0<=y/\y<p/\Yo parts y.toNat=true
  ·rw[if_pos h1,if_pos ⟨h1.1,by omega,h1.2.2⟩]
  ·rw[if_neg h1,if_neg (by rintro⟨a,b,c⟩;exact h1 ⟨a,by omega,c⟩)]
theorem X15 {parts:List PartG} {kg:Nat->TreeG} {q:Nat} (h:Yo parts q=true):kmF parts kg parts.length (q:Int)=some (kg (kidN parts q)):=by
 have:=Xd8 h;unfold kmF;rw[if_pos ⟨by omega,by omega,by simpa using h⟩];simp
def Xbt (parts:List PartG) (p:Nat):List Int:=((List.range p).filter (Yo parts)).map fun n:Nat=>(n:Int)
theorem Xio (parts:List PartG):∀p,(Xbt parts p).length=kidN parts p
 | 0=>by simp[Xbt,kidN]
 | p+1=>by
  have ih:=Xio parts p;unfold Xbt at ih ⊢;rw[List.length_map] at ih ⊢;rw[List.range_succ,List.filter_append,List.length_append,ih,Xcm]
  congr 1
  by_cases h:Yo parts p=true
  ·simp[h]
  ·simp[h]
theorem Xm2 (parts:List PartG) (p:Nat):(Xbt parts p).Nodup:=by
 unfold Xbt;unfold List.Nodup;rw[List.pairwise_map];exact(List.Pairwise.filter (Yo parts) (List.nodup_range (n:=p))).imp fun h e=>h (by omega)
theorem Xrl (parts:List PartG) (kg:Nat->TreeG) (p:Nat) (y:Int):(kmF parts kg p y).isSome↔y∈Xbt parts p:=by
 unfold kmF Xbt;constructor
 ·intro h
  split at h
  ·rename_i h1
   exact List.mem_map.2 ⟨y.toNat,List.mem_filter.2 ⟨List.mem_range.2 (by omega),h1.2.2⟩,by omega⟩
  ·cases h
 ·intro h
  obtain⟨n,hn,rfl⟩:=List.mem_map.1 h;obtain⟨h1,h2⟩:=List.mem_filter.1 hn;have:=List.mem_range.1 h1;rw[if_pos ⟨by omega,by omega,by simpa using h2⟩];rfl
theorem Xv4 {w:World} {P:Nat->Prop} {l:List TreeV} {css:List (List Value)} {A:Option Addr} (hr:Rd w A css.flatten) (h:KidsAt w P l css) :
  ∃kg:Nat->TreeG,∀n (hn:n<l.length),TreeAt w P l[n] [.int .i64 (kg n).rule,.int .i64 (kg n).item,.int .i64 (kg n).frm,.int .i64 (kg n).unt,.slice (kg n).kids.addr (kg n).kids.len (kg n).kids.cap]/\∃b off,A=some ⟨b,off,none⟩/\b<w.heap.size /\
   w.cell? ⟨b,off+n*5,none⟩=some (.int .i64 (kg n).rule)/\w.cell? ⟨b,off+n*5+1,none⟩=some (.int .i64 (kg n).item)/\w.cell? ⟨b,off+n*5+2,none⟩=some (.int .i64 (kg n).frm)/\w.cell? ⟨b,off+n*5+3,none⟩=some (.int .i64 (kg n).unt)/\w.cell? ⟨b,off+n*5+4,none⟩=some (.slice (kg n).kids.addr (kg n).kids.len (kg n).kids.cap):=by
 have key:∀n:Nat,∃x:TreeG,∀hn:n<l.length,TreeAt w P l[n] [.int .i64 x.rule,.int .i64 x.item,.int .i64 x.frm,.int .i64 x.unt,.slice x.kids.addr x.kids.len x.kids.cap]/\∃b off,A=some ⟨b,off,none⟩/\b<w.heap.size /\
   w.cell? ⟨b,off+n*5,none⟩=some (.int .i64 x.rule)/\w.cell? ⟨b,off+n*5+1,none⟩=some (.int .i64 x.item)/\w.cell? ⟨b,off+n*5+2,none⟩=some (.int .i64 x.frm)/\w.cell? ⟨b,off+n*5+3,none⟩=some (.int .i64 x.unt)/\w.cell? ⟨b,off+n*5+4,none⟩=some (.slice x.kids.addr x.kids.len x.kids.cap):=fun n=>by
  by_cases hn:n<l.length
  ·obtain⟨b,off,B,cp,h1,h2,h3,c0,c1,c2,c3,c4⟩:=Xk6 hr h hn
   exact⟨⟨l[n].rule,l[n].item,l[n].frm,l[n].unt,⟨B,l[n].kids.length,cp⟩⟩,fun _=>⟨h3,b,off,h1,h2,c0,c1,c2,c3,c4⟩⟩
  ·exact⟨Xd0,fun h=>absurd h hn⟩
 exact⟨fun n=>Classical.choose (key n),fun n hn=>Classical.choose_spec (key n) hn⟩
end Go.Proofs.YtolpbjjapodmnaaGreatDoor
/- A loop that holds a range over a function; a function's end behind several of them. Plain theorems about the machine's steps. Conditions: none. -/
namespace Go.Han
open Go.RowKit
section
variable {P:Program} {f:FuncId} {Q:Exit->Act->World->Prop} {a:Act} {w:World}
theorem Xl8 {c:Code} (I:Act->World->Prop) (mu:Act->World->Nat) (h0:I a w) (hs:∀a w,I a w->wpAt P f c (Exit.then (fun a' w'=>I a' w'/\mu a' w'<mu a w) Q) a w):wpAt P f (Code.loop c) Q a w:=by
 intro b k cs hro hb
 have key:∀(n:Nat) (a:Act) (w:World),I a w->mu a w<n->∃e a' w',Q e a' w'/\ArrivesIn (Machine.fenced P Fence.wide) P (lone (b.atR a (.code c :: .inLoop c :: k)) cs w) b k cs e a' w':=by
  intro n
  induction n with
  | zero=>intro a w _ h;omega
  | succ n ih =>
   intro a w hI hn;obtain⟨e,a1,w1,hq,harr⟩:=hs a w hI b (.inLoop c :: k) cs hro hb;cases e with
   | normal =>
    obtain⟨hI1,hlt⟩:=hq;obtain⟨e2,a2,w2,hq2,harr2⟩:=ih a1 w1 hI1 (by omega);exact⟨e2,a2,w2,hq2,.of_steps (StepsIn.trans harr (.one (Yf _ _ _ _) stepR_inLoop)) harr2⟩
   | exit id=>exact⟨_,a1,w1,hq,.pass (x:=.inLoop c) rfl (fun _ _ => .inl (by simp)) harr⟩
   | goto l=>exact⟨_,a1,w1,hq,.pass (x:=.inLoop c) rfl (fun _ _ => .inl (by simp)) harr⟩
   | ret=>exact⟨_,a1,w1,hq,.pass (x:=.inLoop c) rfl (fun _ _ => .inl (by simp)) harr⟩
   | panic ch=>exact⟨_,a1,w1,hq,.pass (x:=.inLoop c) rfl (fun _ _ => .inl (by simp)) harr⟩
   | outgrown=>exact⟨_,a1,w1,hq,.pass (x:=.inLoop c) rfl (fun _ _ => .inl (by simp)) harr⟩
 obtain⟨e,a',w',hq,harr⟩:=key _ a w h0 (Nat.lt_succ_self _);exact⟨e,a',w',hq,.of_steps (.one (Yf P _ _ _) stepR_loop) harr⟩
end
def colD (D:Nat):Deferred:={target:=.collected D,args:=#[]}
theorem Xek {P:Program} {fn:Func} {tmps:Array Value} {R:Ending->World->Prop} (hn:fn.results=#[]):∀(Ds:List Nat) (W:World),(∀D∈Ds,W.heap[D]? = some (.deferred (some [])))->Ds.Nodup ->
  (∀W',W'.os=W.os->W'.tape=W.tape->W'.output=W.output->W'.heap.size=W.heap.size->(∀k,k∉Ds->W'.heap[k]? = W.heap[k]?)->R (.returned (.tuple #[])) W')->LeavesInM Fence.wide 0 P fn tmps R (Ds.map colD) .returning W
 | [],W,_,_,hR=>Xkg (results_none hn _ _ _) (hR W rfl rfl rfl rfl fun _ _=>rfl)
 | D :: Ds,W,hd,hnd,hR=>by
  have hD:=hd D (List.mem_cons_self ..);have hn1:=(List.nodup_cons.1 hnd).1;refine⟨by simp,.inl ⟨_,_,rfl,run_takeDeferred hD,Xek hn Ds _ (fun E hE=>?_) (List.nodup_cons.1 hnd).2 fun W' h1 h2 h3 h4 h5=>hR W' (h1.trans rfl) (h2.trans rfl) (h3.trans rfl) (h4.trans (by simp)) fun k hk=>?_⟩⟩
  ·exact(World.putObj_heap_other (by rintro rfl;exact hn1 hE)).trans (hd E (List.mem_cons_of_mem _ hE))
  ·exact(h5 k (fun h=>hk (List.mem_cons_of_mem _ h))).trans (World.putObj_heap_other (by rintro rfl;exact hk (List.mem_cons_self ..)))
end Go.Han
