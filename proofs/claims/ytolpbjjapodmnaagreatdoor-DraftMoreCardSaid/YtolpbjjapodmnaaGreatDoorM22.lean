/- Texts of this claim, one after the other: TagK, Chwb, ChaX, ChwP, Chwc. -/
import Derived.Test.YtolpbjjapodmnaaGreatDoorM18
import Derived.Test.YtolpbjjapodmnaaGreatDoorM21
import Derived.Test.YtolpbjjapodmnaaGreatDoorM12
import Derived.Test.YtolpbjjapodmnaaGreatDoorM17
import Derived.Test.YtolpbjjapodmnaaGreatDoorM14
import Derived.Test.YtolpbjjapodmnaaGreatDoorM8
import Derived.Test.YtolpbjjapodmnaaGreatDoorM13
import Derived.Test.YtolpbjjapodmnaaGreatDoorM15
namespace Go.Proofs.YtolpbjjapodmnaaGreatDoor
open Go.RowKit Go.Han
set_option maxRecDepth 100000
attribute [local irreducible] wpStill wpQuiet
set_option maxHeartbeats 8000000
def Xum (g:Gram) (l:List Term) (lang:Int) (ws:List ByteArray) (t u:Int) (w:World) (e:Ending) (w':World):Prop :=
 Below w.heap.size w w'/\((Xz g l lang ws t u≠0/\e = .returned (.tuple #[.slice none 0 0,.int .i64 (Xz g l lang ws t u)])) \/
  (Xz g l lang ws t u=0/\∃its:SlS ItemG,e = .returned (.tuple #[.slice its.addr its.xs.length its.cap,.int .i64 0])/\its.xs.map ItemG.c=Vb g (Yh l lang t u) ws/\ItemsAt w' its))
theorem ItSt.boxed {w V V1:World} {bi tb bw n:Nat} {T:TagG} {S:List Term} {v:Value} {L:List ItemG} (h:ItSt w bi tb bw n T S v L V) (hon:Only (fun k=>v.ownBlock=some k) V V1):Boxed V1 bi 27 v:=by
 refine(hon.block bi h.box.lt fun he=>?_).trans h.box;obtain⟨cur,hc⟩:=OwnL.kind h.own he;have hb:V.heap[bi]? = _:=h.box;rw[hb] at hc;simp only[Option.some.injEq,Obj.cells.injEq] at hc;exact absurd hc.2.1 (by decide)
theorem Xe3 {w V V2:World} {bi tb bw n:Nat} {T:TagG} {S:List Term} {v:Value} {L:List ItemG} {gf:Nat} {lb:Array Value} {xs:List Ye} (h:ItSt w bi tb bw n T S v L V) (hb:Below V.heap.size V V2)
  (heg:∀args W,(callFunc gf args).run Tryz.prog W = .ok (.enter gf args) W)
  (hit:∀R:Nat->Prop,(∀k,k<w.heap.size->R k)->(∀k,V.heap.size<=k->k<V2.heap.size->R k)->R T.m->Xhm Tryz.prog gf lb (EncI w.heap.size) R xs V2) (hlen:L.length+xs.length<=1000000) :
  Calls Tryz.prog 86 #[v,.func (.func gf) #[] lb] V2 (Xtg w.heap.size v L xs V2):=by
 have h2:=h.ext hb;refine Xhs gf lb w.heap.size v L (fun k=>k<V2.heap.size/\v.ownBlock≠some k) xs V2 (hit _ (fun k hk=>⟨Nat.lt_of_lt_of_le hk h2.d.size,fun he=>?_⟩) (fun k h1 h3=>⟨h3,fun he=>?_⟩) ⟨h2.map.lt,fun he=>?_⟩) heg h2.d.size (fun k hk=>hk) h2.own h2.far hlen
 ·have:=(h.own.lt k he).1;omega
 ·have:=(h.own.lt k he).2;omega
 ·obtain⟨cur,hc⟩:=OwnL.kind h2.own he
  obtain⟨es,c,hm⟩:=Xla h2.map;rw[hm] at hc;cases hc
theorem Xi1 (g:Gram) (hg:Y5 g) (S:List Term) (ws:List ByteArray) (i:Nat) (s:ByteArray):∀p∈X8 g S ws i s,p.length<=512:=by
 have ht:=fun m=>Xw9 g.cats.xs S ws i m
 have he:(Xy g.entries.xs i s).length<=512:=by
  unfold Xy;rw[List.length_map];exact Nat.le_trans (List.length_filter_le _ _) hg.fewE
 have hu:(unkC g.cats.xs.length i s).length<=32:=by
  unfold unkC;rw[List.length_map,List.length_range];exact hg.few
 intro p hp;unfold X8 at hp;simp only[List.mem_cons,List.not_mem_nil,or_false] at hp;rcases hp with rfl|rfl|rfl|rfl|rfl|rfl
 ·have:=ht 1;omega
 ·exact he
 ·split
  ·omega
  ·simp
 ·have:=ht 2;omega
 ·have:=ht 3;omega
 ·have:=ht 4;omega
theorem Xbg (g:Gram) (hg:Y5 g) (S:List Term) (ws:List ByteArray) (i:Nat) (s:ByteArray) (j:Nat):((X8 g S ws i s).take j).flatten.length<=512*6:=by
 have key:∀(l:List (List Ye)),(∀p∈l,p.length<=512)->l.flatten.length<=512*l.length:=by
  intro l
  induction l with
  | nil=>intro _;simp
  | cons p l ih =>
   intro h;rw[List.flatten_cons,List.length_append,List.length_cons];have h1:=ih fun q hq=>h q (List.mem_cons_of_mem _ hq);have h2:=h p (List.mem_cons_self ..);omega
 have h1:=key ((X8 g S ws i s).take j) fun p hp=>Xi1 g hg S ws i s p (List.mem_of_mem_take hp);have h2:((X8 g S ws i s).take j).length<=6:=by rw[List.length_take];unfold X8;simp;omega
 omega
theorem Xl7 (g:Gram) (hg:Y5 g) (S:List Term) (ws:List ByteArray):∀(l:List ByteArray) (i:Nat),(Y9 g S ws i l).length<=512*6*l.length
 | [],_=>by simp[Y9]
 | s :: l,i=>by
  rw[Y9,List.length_append,List.length_cons];have h1:=Xl7 g hg S ws l (i+1);have h2:=Xbg g hg S ws i s 6;rw[List.take_of_length_le (by unfold X8;simp),Xgo] at h2;omega
theorem Xun (g:Gram) (A:Option Addr) (cp:Nat) (l:List Term) (lang:Int) (s:StrS) (t u:Int) (w:World) (hT:TabsG w) (hg:g.lies w) (hs:g.short) (hr:TermsAt w A l) (hm:l.length<=9223372036854775807) (hws:s.lies w) :
  Calls Tryz.prog 25 #[g.vl,.slice A l.length cp,.int .i64 lang,.slice s.addr s.xs.length s.cap,.int .i64 t,.int .i64 u] w (Xum g l lang s.xs t u w):=by
 obtain⟨i0,z0,hi0,hz0,hz1,hz2,hzs⟩:=Xiy;have hmm:=@run_makeMap Tryz.prog;obtain⟨W0,hW0⟩:∃W0,((w.alloc g.ob).alloc (.cells #[.slice s.addr s.xs.length s.cap] 22)).alloc (.cells #[.slice none 0 0] 27)=W0:=⟨_,rfl⟩
 have hB0:Below w.heap.size w W0:=by rw[<- hW0];exact Xg (Xg ba_q _) _
 have hg0:W0.heap[w.heap.size]? = some g.ob:=by rw[<- hW0];exact(Below.heap_alloc _ _ _ (by simp;omega)).trans ((Below.heap_alloc _ _ _ (by simp)).trans (World.alloc_heap_new _ _))
 have hw0:W0.heap[w.heap.size+1]? = some (.cells #[.slice s.addr s.xs.length s.cap] 22 (0,0)):=by rw[<- hW0];exact(Below.heap_alloc _ _ _ (by simp)).trans (Xo _ _ _ (by simp))
 have hb0:Boxed W0 (w.heap.size+1+1) 27 (.slice none 0 0):=by rw[<- hW0];exact Xo _ _ _ (by simp)
 have hz0':W0.heap.size=w.heap.size+3:=by rw[<- hW0];simp
 have HE:Hid (Xz g l lang s.xs t u=if Yb g≠0 then Yb g else if Zj l lang t u≠0 then Zj l lang t u else if 16<s.xs.length then 2 else if s.xs.all Xq=false then 280 else if 1024<(Vb g (Yh l lang t u) s.xs).length then 2 else 0):=rfl;have c1:=Xa (Xc1 g W0 (hT.ext hB0) (hg.ext hB0) hs);have c2:=Xa (fun V (hV:Below W0.heap.size W0 V)=>Xmg A cp l lang t u V (hT.ext (Xb hB0 hV)).u (hr.ext (Xb hB0 hV)) hm);have HT:=Xa hT;have Hg:=Xa hg;have Hr:=Xa hr;have Hws:=Xa hws;have Hg0:=Xa hg0;have Hw0:=Xa hw0;have Hb0:=Xa hb0;have Hz0:=Xa hz0';obtain⟨g0,g1,g2,g3,g4,g5⟩:=gb6 hg0;clear hT hg hs hr hws hg0 hw0 hb0 hz0';go_enter Tryz.func25,Tryz.ntmps25
 go_wp2_with fail
 refine c1.out.mono ?_;rintro e w1 ⟨rfl,hb1⟩;clear c1 g0 g1 g2 g3 g4 g5 hW0;have hbx:=Xi hb1 Hb0.out;have k0:=Xe hbx;have f0:=Xf hbx 0;have hB1:=Xb hB0 hb1;by_cases hc:Yb g≠0
 ·have HF:Hid (Xz g l lang s.xs t u=Yb g):=by show _=_;rw[HE.out,if_pos hc]
  have q:(Yb g != 0)=true:=by simpa using hc
  have Hc:=Xa hc;generalize Yb g=r at *;clear hc HE c2 hbx;go_wp2_with fail
  exact bodyPost_ret (v:=.tuple #[.slice none 0 0,.int .i64 r]) (by simp[results,Tryz.results25,go_sem,k0]) rfl ⟨hB1.setCell (p:=⟨w.heap.size+1+1,0,none⟩) (by simp;omega) _,.inl ⟨by rw[HF.out];exact Hc.out,by rw[HF.out]⟩⟩
 have hc:=Decidable.not_not.1 hc;have HC:=Xa hc;have HE2:Hid (Xz g l lang s.xs t u=if Zj l lang t u≠0 then Zj l lang t u else if 16<s.xs.length then 2 else if s.xs.all Xq=false then 280 else if 1024<(Vb g (Yh l lang t u) s.xs).length then 2 else 0):=by show _=_;rw[HE.out,if_neg (fun h=>h hc)]
 rw[hc];clear hc HE;go_wp2_with fail
 refine(c2.out w1 hb1).mono ?_;rintro e w2 ⟨hb2,⟨hne,rfl⟩|⟨hz,SA,Sc,rfl,hS,hSn⟩⟩
 ·have HF:Hid (Xz g l lang s.xs t u=Zj l lang t u):=by show _=_;rw[HE2.out,if_pos hne]
  have q:(Zj l lang t u != 0)=true:=by simpa using hne
  have Hc:=Xa hne;have hbx2:=Xi hb2 hbx;clear k0 f0;have k0:=Xe hbx2;have f0:=Xf hbx2 0;have hB2:=Xb hB1 hb2;generalize Zj l lang t u=r at *;clear hne HE2 c2 hbx hbx2;go_wp2_with fail
  exact bodyPost_ret (v:=.tuple #[.slice none 0 0,.int .i64 r]) (by simp[results,Tryz.results25,go_sem,k0]) rfl ⟨hB2.setCell (p:=⟨w.heap.size+1+1,0,none⟩) (by simp;omega) _,.inl ⟨by rw[HF.out];exact Hc.out,by rw[HF.out]⟩⟩
 have hB2:=Xb hB1 hb2;have hbx2:=Xi hb2 hbx;have hwx2:=(hb2.block _ (Xd (Xi hb1 Hw0.out))).trans (Xi hb1 Hw0.out);have hgx2:=(hb2.block _ (Xd (Xi hb1 Hg0.out))).trans (Xi hb1 Hg0.out);clear k0 f0 hbx;have k0:=Xe hbx2;have f0:=Xf hbx2 0;have kw:=Xe hwx2;have HZ:=Xa hz;have HE3:Hid (Xz g l lang s.xs t u=if 16<s.xs.length then 2 else if s.xs.all Xq=false then 280 else if 1024<(Vb g (Yh l lang t u) s.xs).length then 2 else 0):=by show _=_;rw[HE2.out,if_neg (fun h=>h hz)]
 have hlt0:=Qp hz;have hu:=Xa6 hlt0.1 lang t u;have hok:=Xai hlt0.1 lang t u;have hSl:∀x∈Yh l lang t u,x.lies w:=fun x hx=>Hr.out.lie x (List.mem_filter.1 hx).1;have hSlen:(Yh l lang t u).length<=1024:=Nat.le_trans (List.length_filter_le _ _) (Qi hlt0.1).1;have Hu:=Xa hu;have Hok:=Xa hok;have HSl:=Xa hSl;clear HE2 c2 hlt0 hu hok hSl;clear hz;generalize hSS:Yh l lang t u=S at *;have HSS:=Xa hSS;clear hSS;by_cases hlen:16<s.xs.length
 ·have HF:Hid (Xz g l lang s.xs t u=2):=by show _=_;rw[HE3.out,if_pos hlen]
  clear HE3 hS hSn hbx2 hwx2 hgx2;go_wp2_with fail
  exact bodyPost_ret (v:=.tuple #[.slice none 0 0,.int .i64 2]) (by simp[results,Tryz.results25,go_sem,k0]) rfl ⟨hB2.setCell (p:=⟨w.heap.size+1+1,0,none⟩) (by simp;omega) _,.inl ⟨by rw[HF.out];decide,by rw[HF.out]⟩⟩
 have HE4:Hid (Xz g l lang s.xs t u=if s.xs.all Xq=false then 280 else if 1024<(Vb g S s.xs).length then 2 else 0):=by show _=_;rw[HE3.out,if_neg hlen]
 have HLen:Hid (s.xs.length<=16):=by show _<=_;omega
 obtain⟨g0,g1,g2,g3,g4,g5⟩:=gb6 hgx2;have hsz:w.heap.size+3<=w2.heap.size:=by have:=hb1.size;have:=hb2.size;have:=Hz0.out;omega
 have l1:w.heap.size+1<w2.heap.size:=by omega
 have n1:w.heap.size+1≠w2.heap.size:=by omega
 clear HE3;go_wp2_with fail
 clear g0 g1 g2 g3 g4 g5 k0 f0 kw;obtain⟨T,hT⟩:∃T:TagG,(⟨g,w2.heap.size,s⟩:TagG)=T:=⟨_,rfl⟩
 obtain⟨W3,hW3⟩:∃W3,(w2.alloc (.map #[] 0)).alloc (.cells #[.string g.name,.slice g.cats.addr g.cats.xs.length g.cats.cap,.string g.start,.int .i64 g.startNo,.slice g.entries.addr g.entries.xs.length g.entries.cap,.slice g.rules.addr g.rules.xs.length g.rules.cap,.map (some w2.heap.size),.slice s.addr s.xs.length s.cap] 129)=W3:=⟨_,rfl⟩
 have hB3:Below w2.heap.size w2 W3:=by rw[<- hW3];exact Xg ba_q _
 have ht3:W3.heap[w2.heap.size+1]? = some (.cells #[.string g.name,.slice g.cats.addr g.cats.xs.length g.cats.cap,.string g.start,.int .i64 g.startNo,.slice g.entries.addr g.entries.xs.length g.entries.cap,.slice g.rules.addr g.rules.xs.length g.rules.cap,.map (some w2.heap.size),.slice s.addr s.xs.length s.cap] 129 (0,0)):=by rw[<- hW3];exact Xo _ _ _ (by simp)
 have hm3:TermsM W3 w2.heap.size 0 []:=by
  rw[<- hW3];have h1:=MapF.made (P:=Tryz.prog) w2 strK termShape;exact(h1.of_block (Below.heap_alloc _ _ _ (by simp))).congr fun _ _=>rfl
 rw[hW3];clear hW3 l1 n1;go_loopw [49] (fun iv wr=>∃k:Nat,k<=S.length/\iv = .int .i64 k/\Below w2.heap.size w2 wr/\wr.heap[w2.heap.size+1]? = some (.cells #[.string g.name,.slice g.cats.addr g.cats.xs.length g.cats.cap,.string g.start,.int .i64 g.startNo,.slice g.entries.addr g.entries.xs.length g.entries.cap,.slice g.rules.addr g.rules.xs.length g.rules.cap,.map (some w2.heap.size),.slice s.addr s.xs.length s.cap] 129 (0,0))/\TermsM wr w2.heap.size k (S.take k)) (fun iv _=>S.length-(intOf iv).toNat)
 case atStart=>exact⟨0,Nat.zero_le _,rfl,hB3,ht3,hm3⟩
 case round =>
  obtain⟨k,hk,rfl,hB,ht,hmp⟩:=hrel;by_cases hlt:k<S.length
  ·obtain⟨b,off,hA,hb,hcl⟩:=hS.at_ hlt
   obtain⟨d0,d1,d2,d3,d4,d5,d6,d7⟩:=hcl k hlt wr hB;have hmem:S[k]∈S:=List.getElem_mem hlt;have htk:S.take (k+1)=S.take k++[S[k]]:=List.take_succ_eq_append_getElem hlt;have hyok:=Hok.out _ hmem;have hyl:=HSl.out _ hmem;have hklen:k<1024\/1024<=k:=(by omega);rw[hA];clear hcl hmem hA;generalize S[k]=y at *;obtain⟨w4,hw4⟩:∃w4,wr.alloc y.ob=w4:=⟨_,rfl⟩
   have hb4:=X5 hw4;have hx4:=Yg hw4;have hB4:=Xb hB hb4;have ht4:=Xi hb4 ht;have hm4:=hmp.ext hb4;obtain⟨s1,s2,s3⟩:=Xfn hyok;have hkey:Zm y.src.xs=Zm y.src.xs:=rfl;have hkl:=Xax s3 s2
   have cJ:Hid (∀V,Below w4.heap.size w4 V->Calls Tryz.prog 76 #[.slice y.src.addr y.src.xs.length y.src.cap,.string ⟨#[32]⟩] V (fun e w'=>e = .returned (.string (Zm y.src.xs))/\Below V.heap.size V w')):=fun V hV =>
    Xil y.src V (StrS.lies.ext hyl.1 (Xb (Xb (Xb hB2 hB) hb4) hV)) s1 s2 s3
   have HG:Hid (∀V,Only (fun j=>j=w2.heap.size) w4 V->V.cell? ⟨w2.heap.size+1,6,none⟩=some (.map (some w2.heap.size))/\V.cell? ⟨wr.heap.size,0,none⟩=some (.int .i64 y.no)/\V.cell? ⟨wr.heap.size,1,none⟩=some (.int .i64 y.at_)/\V.cell? ⟨wr.heap.size,2,none⟩=some (.int .i64 y.known)/\V.cell? ⟨wr.heap.size,3,none⟩=some (.int .i64 y.lang)/\V.cell? ⟨wr.heap.size,4,none⟩=some (.slice y.src.addr y.src.xs.length y.src.cap)/\V.cell? ⟨wr.heap.size,5,none⟩=some (.slice y.tgt.addr y.tgt.xs.length y.tgt.cap)/\V.cell? ⟨wr.heap.size,6,none⟩=some (.string y.cat)/\V.cell? ⟨wr.heap.size,7,none⟩=some (.bool y.gone)):=fun V hV=>by
    have g1:=(hV.block _ (Xd ht4) (by show ¬_=_;omega)).trans ht4;have hlm:=hmp.lt;have g2:=(hV.block _ (Xd hx4) (by show ¬_=_;omega)).trans hx4;exact⟨gblk g1 6,gblk g2 0,gblk g2 1,gblk g2 2,gblk g2 3,gblk g2 4,gblk g2 5,gblk g2 6,gblk g2 7⟩
   have HM4:=Xa hm4;have HT4:=Xa ht4;have HB4:=Xa hB4;have Htk:=Xa htk;have hlw2:w2.heap.size<w4.heap.size:=hm4.lt;have Hlw:=Xa hlw2;clear hyok hyl hB ht hmp hx4 hB4 ht4 hm4 s1 s2 s3 htk hkey hb4 hlw2;generalize hkk:Zm y.src.xs=key at *;have Hkk:=Xa hkk;clear hkk;go_wp2_with fail
   clear hw4 d0 d1 d2 d3 d4 d5 d6 d7;refine wpIn_wide (n:=0) |>.1 ?_
   apply Xjn (Phi:=fun V=>Hid (Below w2.heap.size w2 V/\V.heap[w2.heap.size+1]? = some (.cells #[.string g.name,.slice g.cats.addr g.cats.xs.length g.cats.cap,.string g.start,.int .i64 g.startNo,.slice g.entries.addr g.entries.xs.length g.entries.cap,.slice g.rules.addr g.rules.xs.length g.rules.cap,.map (some w2.heap.size),.slice s.addr s.xs.length s.cap] 129 (0,0))/\TermsM V w2.heap.size (k+1) (S.take (k+1))))
   ·refine Xn (fun V=>Only (fun j=>j=w2.heap.size) w4 V) (by kernel_rfl) ?_
    refine Xc (i:=0) (hy:=fun V hV=>(by obtain⟨r0,r1,r2,r3,r4,r5,r6,r7,r8⟩:=HG.out V hV;go_simp<;>rfl)) ?_;refine Xc (i:=1) (hy:=fun V hV=>(by obtain⟨r0,r1,r2,r3,r4,r5,r6,r7,r8⟩:=HG.out V hV;go_simp<;>rfl)) ?_;refine Xc (i:=2) (hy:=fun V hV=>(by obtain⟨r0,r1,r2,r3,r4,r5,r6,r7,r8⟩:=HG.out V hV;go_simp<;>rfl)) ?_;refine Xc (i:=3) (hy:=fun V hV=>(by obtain⟨r0,r1,r2,r3,r4,r5,r6,r7,r8⟩:=HG.out V hV;go_simp<;>rfl)) ?_;refine Xc (i:=5) (hy:=fun V hV=>(by obtain⟨r0,r1,r2,r3,r4,r5,r6,r7,r8⟩:=HG.out V hV;go_simp<;>rfl)) ?_;refine Xh (i:=4) (.of_below bd_q) fun K hK=>?_;go_simp
    refine⟨trivial,rfl,callsIn_wide.2 ((cJ.out _ bd_q).mono ?_)⟩;rintro e w5 ⟨rfl,hb5⟩;refine hK _ _ ?_;clear hK K;have hb5:Below w4.heap.size w4 w5:=Xb bd_q hb5;have hm5:=HM4.out.ext hb5;obtain⟨w9,hrun0,hm9,hg9,hs9⟩:=MapF.store w5 Ts Tryz.underlying127 hm5 (by unfold maxLen;omega) key y.shown (show key.size<=maxLen by unfold maxLen;omega);have hrun:(Instr.mapUpdate 127 (.map (some w2.heap.size)) (.string key) (y.vl)).run Tryz.prog w5 = .ok () w9:=hrun0;refine Xh (i:=6) (.of_below hb5) fun K hK=>?_;go_simp
    refine hK _ _ ?_;clear hK K;have hon:Only (fun j=>j=w2.heap.size) w4 w9:=Xdp (.of_below hb5) hg9 fun q hq => .inl (Option.some.inj hq).symm;refine Xk hon (by kernel_rfl) ⟨rfl,?_,?_,?_⟩ _
    ·exact⟨hon.os.trans HB4.out.os,hon.tape.trans HB4.out.tape,hon.output.trans HB4.out.output,Nat.le_trans HB4.out.size hon.size,fun q hq=>(hon.block q (by have:=HB4.out.size;omega) (fun (e:q=w2.heap.size)=>by omega)).trans (HB4.out.block q hq)⟩
    ·exact(hon.block _ (Xd HT4.out) (fun (e:w2.heap.size+1=w2.heap.size)=>by omega)).trans HT4.out
    ·refine hm9.congr fun x _=>?_
     rw[Htk.out,Xgw,Hkk.out];by_cases hx:x=key
     ·simp[hx]
     ·rw[if_neg hx,if_neg (fun h=>hx h.symm)]
   intro w9 h9;go_wp2
   go_roundw
   case rel=>exact⟨k+1,by omega,by go_num,h9.out.1,h9.out.2.1,h9.out.2.2⟩
   case measure=>simp[intOf];omega
  ·have hkS:k=S.length:=by omega
   subst hkS
   have hI0:ItSt w (w.heap.size+1+1) (w2.heap.size+1) (w.heap.size+1) S.length ⟨g,w2.heap.size,s⟩ S (.slice none 0 0) [] wr:=by
    have hbw:=Xb hB2 hB;refine⟨hbw.os,hbw.tape,hbw.output,⟨hbw.size,fun q hq=>hbw.block q hq,Hg.out,Hws.out⟩,ht,Xi hB hwx2,?_,Xi hB hbx2,OwnL.nil _ _ _ _ _,fun x hx=>(by cases hx),by omega⟩;have:=hmp;rw[List.take_length] at this;exact this
   have kw:=Xe hI0.wbox;have HI0:=Xa hI0;have HSn:=Xa hSn;clear hI0 hmp ht hB hlt hk hbx2 hwx2 hgx2 hS hSn;have hs16:s.xs.length<=9223372036854775807:=by have:=HLen.out;omega
   go_wp2_with fail
   clear kw;go_loopw [62] (fun iv wx=>∃(k:Nat) (v:Value) (L:List ItemG),k<=s.xs.length/\iv = .int .i64 k/\Hid (ItSt w (w.heap.size+1+1) (w2.heap.size+1) (w.heap.size+1) S.length ⟨g,w2.heap.size,s⟩ S v L wx)/\Hid (L.map ItemG.c=Us 0 (s.xs.take k))/\Hid ((s.xs.take k).all Xq=true)) (fun iv _=>s.xs.length-(intOf iv).toNat)
   case atStart=>exact⟨0,.slice none 0 0,[],Nat.zero_le _,rfl,HI0,rfl,rfl⟩
   case round =>
    obtain⟨k,v,L,hk,rfl,HI,HMp,HAll⟩:=hrel;clear HI0;by_cases hlt:k<s.xs.length
    ·have hIs:=HI.out
     obtain⟨b,off,hA,hb,hc⟩:=StrS.at_ hIs.d.wsv (k:=k) hlt;have e0:wr.cell? ⟨b,off+k,none⟩=some (.string s.xs[k]):=hc k hlt;have htk:s.xs.take (k+1)=s.xs.take k++[s.xs[k]]:=List.take_succ_eq_append_getElem hlt;have hmem:=List.getElem_mem hlt;have cW:=Xa (Xew s.xs[k] wr (HT.out.ext hIs.below).u);have HT2:Hid (Xq s.xs[k]=true->(s.xs.take (k+1)).all Xq=true):=(by intro h;rw[htk,List.all_append,HAll.out];simp[h]);have HF2:Hid (Xq s.xs[k]=false->s.xs.all Xq=false):=by intro h;rw[List.all_eq_false];exact⟨_,hmem,by simp[h]⟩
     have HO:Hid (Us 0 (s.xs.take (k+1))=Us 0 (s.xs.take k)++[X0g k s.xs[k]]):=by
      show _=_;rw[htk,Xix,List.length_take,Nat.min_eq_left hk,Nat.zero_add]
     have hLk:L.length=k:=by
      have h1:=congrArg List.length HMp.out;rw[List.length_map,Xfo,List.length_take,Nat.min_eq_left hk] at h1;exact h1
     rw[hA];clear hc hA htk hmem hIs;generalize s.xs[k]=x at *;generalize Xq x=f at *;have hk16:k<16:=by have:=HLen.out;omega
     have hL16:L.length<16:=(by omega);clear hLk;have hwr:IntKind.i64.wrap ((k:Int)+1)=(k:Int)+1:=IntWalk.i64_in _ (by omega);go_wp2_with fail
     clear e0;refine cW.out.mono ?_;rintro ee w4 ⟨rfl,hb4⟩;have hI4:=HI.out.ext hb4;have k0:=hI4.box.cell;have f0:=hI4.box.frozen;clear cW;cases f
     ·have HF:Hid (Xz g l lang s.xs t u=280):=by show _=_;rw[HE4.out,if_pos (HF2.out rfl)]
      have Hbel:=Xa hI4.below;clear hI4 HT2 HF2 HO;go_wp2_with fail
      exact bodyPost_ret (v:=.tuple #[.slice none 0 0,.int .i64 280]) (by simp[results,Tryz.results25,go_sem,k0]) rfl ⟨Hbel.out.setCell (p:=⟨w.heap.size+1+1,0,none⟩) (by simp;omega) _,.inl ⟨by rw[HF.out];decide,by rw[HF.out]⟩⟩
     ·have HAll2:=Xa (HT2.out rfl)
      obtain⟨Av,cv,rfl,_⟩:=Y1 hI4.own;have hrow:w4.ownsRow w.heap.size 53 6 (.slice Av L.length cv) L.length (L.flatMap ItemG.cells):=hI4.own;have hbxb:Boxed w4 (w.heap.size+1+1) 27 (.slice Av L.length cv):=hI4.box;have hBw:w.heap.size<=w4.heap.size:=hI4.d.size;have HI4:=Xa hI4;clear HT2 HF2 hI4;go_wp2_with (at_builtin;refine wpList_append_own_at _ rfl _ _ 27 rfl w.heap.size 53 i0 z0 6 64 Tryz.underlying27 hi0 hz0 hz1 hz2 hzs (by decide) _ _ _ rfl ((hrow.alloc _).alloc _) ⟨w4.heap.size+1,0,none⟩ 1 1 [.int .i64 (-1),.int .i64 (k:Int),.int .i64 ((k:Int)+1),.int .i64 0,.slice (some ⟨w4.heap.size,0,none⟩) 1 1,.int .i64 (-1)] rfl rfl (Xgb w4 _ [.int .i64 (-1),.int .i64 (k:Int),.int .i64 ((k:Int)+1),.int .i64 0,.slice (some ⟨w4.heap.size,0,none⟩) 1 1,.int .i64 (-1)] 53) (by simp[Value.oneCell']) (by unfold maxLen;omega) (by omega) (by simp;omega) ?_;intro v' w6 hown' hgrow hnil hat;obtain⟨g',cap',rfl⟩:=ownsRow_succ hown';obtain⟨hv1,hv2,hr2,hk2,hb2'⟩:=(hbxb.alloc (.cells #[.string x] 9)).appended (by decide) (hrow.alloc _) (by simp;omega) (by omega) hown' hgrow;have hc1:=hv1.cell;have hf1:=hv1.frozen)
      have hyF:FarI w.heap.size ((w4.alloc (.cells #[.string x] 9)).alloc (.cells ([.int .i64 (-1),.int .i64 (k:Int),.int .i64 ((k:Int)+1),.int .i64 0,.slice (some ⟨w4.heap.size,0,none⟩) 1 1,.int .i64 (-1)]).toArray 53)) ⟨some ⟨w4.heap.size,0,none⟩,1,[x]⟩:=Xtx (V:=w4) (by rw[<- World.size_alloc];exact ba_q);have hbq:Below w4.heap.size w4 ((w4.alloc (.cells #[.string x] 9)).alloc (.cells ([.int .i64 (-1),.int .i64 (k:Int),.int .i64 ((k:Int)+1),.int .i64 0,.slice (some ⟨w4.heap.size,0,none⟩) 1 1,.int .i64 (-1)]).toArray 53)):=Xg ba_q _;have hIq:=HI4.out.ext hbq
      have hst:=HI4.out.step (Xdp (.of_below hbq) hgrow fun g hg => .inl hg) (OwnL.snoc ⟨-1,k,(k:Int)+1,0,⟨some ⟨w4.heap.size,0,none⟩,1,[x]⟩, -1⟩ hown') (fun z hz=>by
       rcases List.mem_append.1 hz with h|h
       ·exact(hIq.far z h).grown hIq.own hIq.d.size hgrow
       ·obtain rfl:=List.mem_singleton.1 h
        exact hyF.grown hIq.own hIq.d.size hgrow)
      have Hst:=Xa hst;clear hst hIq hyF hbq hrow hbxb hown' hgrow hnil hat hv1 hv2 hr2 hk2 hb2' HI4 HI;go_wp2
      go_roundw
      case rel=>exact⟨k+1,_,L++[⟨-1,k,(k:Int)+1,0,⟨some ⟨w4.heap.size,0,none⟩,1,[x]⟩, -1⟩],by omega,by go_num,Hst,by show _=_;rw[List.map_append,HMp.out,HO.out];rfl,HAll2⟩
      case measure=>simp[intOf];omega
    ·have hks:k=s.xs.length:=by omega
     subst hks;rw[List.take_length] at HMp HAll;have HE5:Hid (Xz g l lang s.xs t u=if 1024<(Vb g S s.xs).length then 2 else 0):=(by show _=_;rw[HE4.out,if_neg (by rw[HAll.out];decide)]);have HWs:Hid (∀z∈s.xs,Xq z=true):=List.all_eq_true.1 HAll.out;have kw:=Xe HI.out.wbox;clear HE4 hlt hk HAll;go_wp2_with fail
     clear kw;have HGO:=Xa (Qy HC.out);go_loopw [82] (fun iv wx=>∃(k:Nat) (v:Value) (L:List ItemG),k<=s.xs.length/\iv = .int .i64 k/\Hid (ItSt w (w.heap.size+1+1) (w2.heap.size+1) (w.heap.size+1) S.length ⟨g,w2.heap.size,s⟩ S v L wx)/\Hid (L.map ItemG.c=Us 0 s.xs++Y9 g S s.xs 0 (s.xs.take k))) (fun iv _=>s.xs.length-(intOf iv).toNat)
     case atStart=>exact⟨0,v,L,Nat.zero_le _,rfl,HI,by show _=_;rw[HMp.out,List.take_zero];simp[Y9]⟩
     case round =>
      obtain⟨k,v,L,hk,rfl,HI,HMp⟩:=hrel;by_cases hlt:k<s.xs.length
      ·obtain⟨wz,hwz⟩:∃wz,wz=wr:=⟨_,rfl⟩
       subst hwz;have hIs:=HI.out;obtain⟨Av,cv,rfl,_⟩:=Y1 hIs.own;have kb:=hIs.box.cell;have htk:s.xs.take (k+1)=s.xs.take k++[s.xs[k]]:=List.take_succ_eq_append_getElem hlt;have hsk:s.xs[k]? = some s.xs[k]:=List.getElem?_eq_getElem hlt
       have hb5:∀W5,((wz.alloc (.cells #[.int .i64 (k:Int)] 3)).alloc (.cells #[.int .i64 (L.length:Int)] 3)).alloc (.cells #[.func (.func 77) #[] #[.pointer (some ⟨w2.heap.size+1,0,none⟩),.pointer (some ⟨wz.heap.size,0,none⟩)],.func (.func 79) #[] #[.pointer (some ⟨w2.heap.size+1,0,none⟩),.pointer (some ⟨wz.heap.size,0,none⟩)],.func (.func 81) #[] #[.pointer (some ⟨w.heap.size+1+1,0,none⟩),.pointer (some ⟨wz.heap.size+1,0,none⟩),.pointer (some ⟨w2.heap.size+1,0,none⟩),.pointer (some ⟨wz.heap.size,0,none⟩),.pointer (some ⟨w.heap.size+1,0,none⟩)],.func (.func 83) #[] #[.pointer (some ⟨w2.heap.size+1,0,none⟩),.pointer (some ⟨wz.heap.size,0,none⟩)],.func (.func 84) #[] #[.pointer (some ⟨w2.heap.size+1,0,none⟩),.pointer (some ⟨wz.heap.size,0,none⟩)],.func (.func 85) #[] #[.pointer (some ⟨w2.heap.size+1,0,none⟩),.pointer (some ⟨wz.heap.size,0,none⟩)]] 134)=W5->Below wz.heap.size wz W5/\W5.heap[wz.heap.size]? = some (.cells #[.int .i64 (k:Int)] 3 (0,0))/\W5.heap[wz.heap.size+1]? = some (.cells #[.int .i64 (L.length:Int)] 3 (0,0))/\W5.heap[wz.heap.size+1+1]? = some (.cells #[.func (.func 77) #[] #[.pointer (some ⟨w2.heap.size+1,0,none⟩),.pointer (some ⟨wz.heap.size,0,none⟩)],.func (.func 79) #[] #[.pointer (some ⟨w2.heap.size+1,0,none⟩),.pointer (some ⟨wz.heap.size,0,none⟩)],.func (.func 81) #[] #[.pointer (some ⟨w.heap.size+1+1,0,none⟩),.pointer (some ⟨wz.heap.size+1,0,none⟩),.pointer (some ⟨w2.heap.size+1,0,none⟩),.pointer (some ⟨wz.heap.size,0,none⟩),.pointer (some ⟨w.heap.size+1,0,none⟩)],.func (.func 83) #[] #[.pointer (some ⟨w2.heap.size+1,0,none⟩),.pointer (some ⟨wz.heap.size,0,none⟩)],.func (.func 84) #[] #[.pointer (some ⟨w2.heap.size+1,0,none⟩),.pointer (some ⟨wz.heap.size,0,none⟩)],.func (.func 85) #[] #[.pointer (some ⟨w2.heap.size+1,0,none⟩),.pointer (some ⟨wz.heap.size,0,none⟩)]] 134 (0,0)):=by
        rintro W5 rfl;exact⟨Xg (Xg ba_q _) _,(Below.heap_alloc _ _ _ (by simp;omega)).trans ((Below.heap_alloc _ _ _ (by simp)).trans (World.alloc_heap_new _ _)),(Below.heap_alloc _ _ _ (by simp)).trans (Xo _ _ _ (by simp)),Xo _ _ _ (by simp)⟩
       have l1:w.heap.size+1+1<wz.heap.size:=hIs.box.lt;have n1:w.heap.size+1+1≠wz.heap.size:=(by omega);have Htk:=Xa htk;have Hsk:=Xa hsk;have hmf:∀(fn:Fn) (first cap:Array Value) (w:World),(Instr.makeFunc fn first cap).run Tryz.prog w = .ok (.func fn first cap) w:=fun _ _ _ _=>rfl;clear hIs htk hsk;generalize s.xs[k]=x at *;go_wp2_with fail
       obtain⟨W5,hW5⟩:∃W5,((wz.alloc (.cells #[.int .i64 (k:Int)] 3)).alloc (.cells #[.int .i64 (L.length:Int)] 3)).alloc (.cells #[.func (.func 77) #[] #[.pointer (some ⟨w2.heap.size+1,0,none⟩),.pointer (some ⟨wz.heap.size,0,none⟩)],.func (.func 79) #[] #[.pointer (some ⟨w2.heap.size+1,0,none⟩),.pointer (some ⟨wz.heap.size,0,none⟩)],.func (.func 81) #[] #[.pointer (some ⟨w.heap.size+1+1,0,none⟩),.pointer (some ⟨wz.heap.size+1,0,none⟩),.pointer (some ⟨w2.heap.size+1,0,none⟩),.pointer (some ⟨wz.heap.size,0,none⟩),.pointer (some ⟨w.heap.size+1,0,none⟩)],.func (.func 83) #[] #[.pointer (some ⟨w2.heap.size+1,0,none⟩),.pointer (some ⟨wz.heap.size,0,none⟩)],.func (.func 84) #[] #[.pointer (some ⟨w2.heap.size+1,0,none⟩),.pointer (some ⟨wz.heap.size,0,none⟩)],.func (.func 85) #[] #[.pointer (some ⟨w2.heap.size+1,0,none⟩),.pointer (some ⟨wz.heap.size,0,none⟩)]] 134)=W5:=⟨_,rfl⟩
       obtain⟨hb5,hi5,hn5,hc5⟩:=hb5 W5 hW5;have HI5:Hid (ItSt w (w.heap.size+1+1) (w2.heap.size+1) (w.heap.size+1) S.length ⟨g,w2.heap.size,s⟩ S (.slice Av L.length cv) L W5):=HI.out.ext hb5;rw[hW5];clear kb l1 n1 hW5 hmf;go_loopw [95] (fun iv wx=>∃(j:Nat) (v:Value) (L':List ItemG),j<=6/\iv = .int .i64 j/\Hid (ItSt w (w.heap.size+1+1) (w2.heap.size+1) (w.heap.size+1) S.length ⟨g,w2.heap.size,s⟩ S v L' wx)/\wx.heap[wz.heap.size]? = some (.cells #[.int .i64 (k:Int)] 3 (0,0))/\wx.heap[wz.heap.size+1]? = some (.cells #[.int .i64 (L.length:Int)] 3 (0,0))/\wx.heap[wz.heap.size+1+1]? = some (.cells #[.func (.func 77) #[] #[.pointer (some ⟨w2.heap.size+1,0,none⟩),.pointer (some ⟨wz.heap.size,0,none⟩)],.func (.func 79) #[] #[.pointer (some ⟨w2.heap.size+1,0,none⟩),.pointer (some ⟨wz.heap.size,0,none⟩)],.func (.func 81) #[] #[.pointer (some ⟨w.heap.size+1+1,0,none⟩),.pointer (some ⟨wz.heap.size+1,0,none⟩),.pointer (some ⟨w2.heap.size+1,0,none⟩),.pointer (some ⟨wz.heap.size,0,none⟩),.pointer (some ⟨w.heap.size+1,0,none⟩)],.func (.func 83) #[] #[.pointer (some ⟨w2.heap.size+1,0,none⟩),.pointer (some ⟨wz.heap.size,0,none⟩)],.func (.func 84) #[] #[.pointer (some ⟨w2.heap.size+1,0,none⟩),.pointer (some ⟨wz.heap.size,0,none⟩)],.func (.func 85) #[] #[.pointer (some ⟨w2.heap.size+1,0,none⟩),.pointer (some ⟨wz.heap.size,0,none⟩)]] 134 (0,0))/\Hid (L'.map ItemG.c=L.map ItemG.c++((X8 g S s.xs k x).take j).flatten)) (fun iv _=>6-(intOf iv).toNat)
       case atStart=>exact⟨0,_,L,by omega,rfl,HI5,hi5,hn5,hc5,by show _=_;simp⟩
       case round =>
        obtain⟨j,v,L',hj,rfl,HJ,hi5,hn5,hc5,HMj⟩:=hrel;by_cases hlj:j<6
        ·have hkl:k<s.xs.length:=hlt
         have HLl:Hid (L'.length<=60000):=by
          have h1:=congrArg List.length HMj.out;have h2:=congrArg List.length HMp.out;rw[List.length_map,List.length_append,List.length_map] at h1;rw[List.length_map,List.length_append,Xfo] at h2;have h3:=Xl7 g HGO.out S s.xs (s.xs.take k) 0;have h4:=Xbg g HGO.out S s.xs k x j;have h5:=HLen.out;rw[List.length_take] at h3;have h6:min k s.xs.length<=16:=(by omega);have h7:512*6*min k s.xs.length<=512*6*16:=Nat.mul_le_mul_left _ h6;show _<=_;omega
         have hpl:=Xi1 g HGO.out S s.xs k x;have hj6:j=0\/j=1\/j=2\/j=3\/j=4\/j=5:=(by omega);have Hi5:=Xa hi5;have Hn5:=Xa hn5;have Hc5:=Xa hc5;clear hj hlj hi5 hn5 hc5;rcases hj6 with rfl|rfl|rfl|rfl|rfl|rfl
         ·have e0:wr.cell? ⟨wz.heap.size+1+1,0,none⟩=some (.func (.func 77) #[] #[.pointer (some ⟨w2.heap.size+1,0,none⟩),.pointer (some ⟨wz.heap.size,0,none⟩)]):=gblk Hc5.out 0
          have kb:=HJ.out.box.cell
          have cF:Hid (∀V,Below wr.heap.size wr V->Calls Tryz.prog 77 #[.pointer (some ⟨w2.heap.size+1,0,none⟩),.pointer (some ⟨wz.heap.size,0,none⟩)] V (Vt w w2.heap.size (Xw g.cats.xs S s.xs k 1) V)):=by
           intro V hV;have hq:=HJ.out.ext hV;have hiq:=Xi hV Hi5.out;have hnq:=Xi hV Hn5.out;exact of1 hq hiq hkl HLen.out HSl.out Hu.out Hok.out HWs.out
          have hpj:(Xw g.cats.xs S s.xs k 1).length<=512:=hpl _ (by unfold X8;simp)
          have HMj2:Hid (∀L3:List ItemG,L3.map ItemG.c=Xw g.cats.xs S s.xs k 1->(L'++L3).map ItemG.c=L.map ItemG.c++((X8 g S s.xs k x).take 1).flatten):=by
           intro L3 h3;rw[List.map_append,HMj.out,h3];unfold X8;simp
          clear hpl;generalize Xw g.cats.xs S s.xs k 1=pj at *;go_wp2_with fail
          clear e0;go_region_with (first|(go_at_call 77;refine(cF.out _ ?_).mono ?_;(repeat (first|exact bo_q|refine Xr ?_));rintro e V2 ⟨gf,lb,rfl,hq2,heg,hit⟩;have hbq:Below wr.heap.size wr V2:=Xb bd_q hq2;have cA:=Xa (Xe3 (HJ.out.ext bd_q) hq2 heg hit (by have:=HLl.out;omega));have kb2:=(HJ.out.ext hbq).box.cell;have Hbq:=Xa hbq;clear hq2 heg hit hbq)|(go_at_call 86;refine cA.out.mono ?_;rintro e V3 ⟨v3,L3,rfl,hown3,hmap3,hfar3,hon3⟩;obtain⟨A3,c3,rfl,_⟩:=Y1 hown3;have hb3:=(HJ.out.ext Hbq.out).boxed hon3;have kb3:=hb3.cell;have kf3:=hb3.frozen))
          all_goals
           have hq2:=HJ.out.ext Hbq.out;have hst0:=hq2.step hon3 hown3 hfar3;have hi6:=hq2.keep (v':=.slice A3 (L'++L3).length c3) hon3 (Xi Hbq.out Hi5.out) (by decide) (by decide);have hn6:=hq2.keep (v':=.slice A3 (L'++L3).length c3) hon3 (Xi Hbq.out Hn5.out) (by decide) (by decide);have hc6:=hq2.keep (v':=.slice A3 (L'++L3).length c3) hon3 (Xi Hbq.out Hc5.out) (by decide) (by decide);have HM6:=Xa (HMj2.out L3 hmap3);rw[List.length_append] at hst0 hi6 hn6 hc6;have hst:=Xa hst0;clear hst0;clear hq2 hon3 hown3 hfar3 hmap3 hb3 kb3 kf3 kb2 kb cA cF;go_wp2
           go_roundw
           case rel=>exact⟨1,_,L'++L3,by omega,by go_num,hst,hi6,hn6,hc6,HM6⟩
           case measure=>simp[intOf]
         ·have e0:wr.cell? ⟨wz.heap.size+1+1,1,none⟩=some (.func (.func 79) #[] #[.pointer (some ⟨w2.heap.size+1,0,none⟩),.pointer (some ⟨wz.heap.size,0,none⟩)]):=gblk Hc5.out 1
          have kb:=HJ.out.box.cell
          have cF:Hid (∀V,Below wr.heap.size wr V->Calls Tryz.prog 79 #[.pointer (some ⟨w2.heap.size+1,0,none⟩),.pointer (some ⟨wz.heap.size,0,none⟩)] V (Vt w w2.heap.size (Xy g.entries.xs k x) V)):=by
           intro V hV;have hq:=HJ.out.ext hV;have hiq:=Xi hV Hi5.out;have hnq:=Xi hV Hn5.out;exact of2 x hq hiq Hsk.out
          have hpj:(Xy g.entries.xs k x).length<=512:=hpl _ (by unfold X8;simp)
          have HMj2:Hid (∀L3:List ItemG,L3.map ItemG.c=Xy g.entries.xs k x->(L'++L3).map ItemG.c=L.map ItemG.c++((X8 g S s.xs k x).take 2).flatten):=by
           intro L3 h3;rw[List.map_append,HMj.out,h3];unfold X8;simp
          clear hpl;generalize Xy g.entries.xs k x=pj at *;go_wp2_with fail
          clear e0;go_region_with (first|(go_at_call 79;refine(cF.out _ ?_).mono ?_;(repeat (first|exact bo_q|refine Xr ?_));rintro e V2 ⟨gf,lb,rfl,hq2,heg,hit⟩;have hbq:Below wr.heap.size wr V2:=Xb bd_q hq2;have cA:=Xa (Xe3 (HJ.out.ext bd_q) hq2 heg hit (by have:=HLl.out;omega));have kb2:=(HJ.out.ext hbq).box.cell;have Hbq:=Xa hbq;clear hq2 heg hit hbq)|(go_at_call 86;refine cA.out.mono ?_;rintro e V3 ⟨v3,L3,rfl,hown3,hmap3,hfar3,hon3⟩;obtain⟨A3,c3,rfl,_⟩:=Y1 hown3;have hb3:=(HJ.out.ext Hbq.out).boxed hon3;have kb3:=hb3.cell;have kf3:=hb3.frozen))
          all_goals
           have hq2:=HJ.out.ext Hbq.out;have hst0:=hq2.step hon3 hown3 hfar3;have hi6:=hq2.keep (v':=.slice A3 (L'++L3).length c3) hon3 (Xi Hbq.out Hi5.out) (by decide) (by decide);have hn6:=hq2.keep (v':=.slice A3 (L'++L3).length c3) hon3 (Xi Hbq.out Hn5.out) (by decide) (by decide);have hc6:=hq2.keep (v':=.slice A3 (L'++L3).length c3) hon3 (Xi Hbq.out Hc5.out) (by decide) (by decide);have HM6:=Xa (HMj2.out L3 hmap3);rw[List.length_append] at hst0 hi6 hn6 hc6;have hst:=Xa hst0;clear hst0;clear hq2 hon3 hown3 hfar3 hmap3 hb3 kb3 kf3 kb2 kb cA cF;go_wp2
           go_roundw
           case rel=>exact⟨2,_,L'++L3,by omega,by go_num,hst,hi6,hn6,hc6,HM6⟩
           case measure=>simp[intOf]
         ·have e0:wr.cell? ⟨wz.heap.size+1+1,2,none⟩=some (.func (.func 81) #[] #[.pointer (some ⟨w.heap.size+1+1,0,none⟩),.pointer (some ⟨wz.heap.size+1,0,none⟩),.pointer (some ⟨w2.heap.size+1,0,none⟩),.pointer (some ⟨wz.heap.size,0,none⟩),.pointer (some ⟨w.heap.size+1,0,none⟩)]):=gblk Hc5.out 2
          have kb:=HJ.out.box.cell
          have hL:L'.length=L.length+(Xw g.cats.xs S s.xs k 1++Xy g.entries.xs k x).length:=by
           have h1:=congrArg List.length HMj.out;rw[List.length_map,List.length_append,List.length_map] at h1;rw[h1];unfold X8;simp
          have hp3:(if L'.length=L.length then unkC g.cats.xs.length k x else [])=(if (Xw g.cats.xs S s.xs k 1++Xy g.entries.xs k x).length=0 then unkC g.cats.xs.length k x else []):=by
           by_cases h0:(Xw g.cats.xs S s.xs k 1++Xy g.entries.xs k x).length=0
           ·rw[if_pos h0,if_pos (by omega)]
           ·rw[if_neg h0,if_neg (by omega)]
          have cF:Hid (∀V,Below wr.heap.size wr V->Calls Tryz.prog 81 #[.pointer (some ⟨w.heap.size+1+1,0,none⟩),.pointer (some ⟨wz.heap.size+1,0,none⟩),.pointer (some ⟨w2.heap.size+1,0,none⟩),.pointer (some ⟨wz.heap.size,0,none⟩),.pointer (some ⟨w.heap.size+1,0,none⟩)] V (Vt w w2.heap.size ((if (Xw g.cats.xs S s.xs k 1++Xy g.entries.xs k x).length=0 then unkC g.cats.xs.length k x else [])) V)):=by
           intro V hV;have hq:=HJ.out.ext hV;have hiq:=Xi hV Hi5.out;have hnq:=Xi hV Hn5.out;exact(hp3 ▸ of3 L.length x hq hiq hnq Hsk.out HLen.out HSl.out Hu.out Hok.out HWs.out)
          have hpj:((if (Xw g.cats.xs S s.xs k 1++Xy g.entries.xs k x).length=0 then unkC g.cats.xs.length k x else [])).length<=512:=hpl _ (by unfold X8;simp)
          have HMj2:Hid (∀L3:List ItemG,L3.map ItemG.c=(if (Xw g.cats.xs S s.xs k 1++Xy g.entries.xs k x).length=0 then unkC g.cats.xs.length k x else [])->(L'++L3).map ItemG.c=L.map ItemG.c++((X8 g S s.xs k x).take 3).flatten):=by
           intro L3 h3;rw[List.map_append,HMj.out,h3];unfold X8;simp
          clear hpl hL hp3;generalize (if (Xw g.cats.xs S s.xs k 1++Xy g.entries.xs k x).length=0 then unkC g.cats.xs.length k x else [])=pj at *;go_wp2_with fail
          clear e0;go_region_with (first|(go_at_call 81;refine(cF.out _ ?_).mono ?_;(repeat (first|exact bo_q|refine Xr ?_));rintro e V2 ⟨gf,lb,rfl,hq2,heg,hit⟩;have hbq:Below wr.heap.size wr V2:=Xb bd_q hq2;have cA:=Xa (Xe3 (HJ.out.ext bd_q) hq2 heg hit (by have:=HLl.out;omega));have kb2:=(HJ.out.ext hbq).box.cell;have Hbq:=Xa hbq;clear hq2 heg hit hbq)|(go_at_call 86;refine cA.out.mono ?_;rintro e V3 ⟨v3,L3,rfl,hown3,hmap3,hfar3,hon3⟩;obtain⟨A3,c3,rfl,_⟩:=Y1 hown3;have hb3:=(HJ.out.ext Hbq.out).boxed hon3;have kb3:=hb3.cell;have kf3:=hb3.frozen))
          all_goals
           have hq2:=HJ.out.ext Hbq.out;have hst0:=hq2.step hon3 hown3 hfar3;have hi6:=hq2.keep (v':=.slice A3 (L'++L3).length c3) hon3 (Xi Hbq.out Hi5.out) (by decide) (by decide);have hn6:=hq2.keep (v':=.slice A3 (L'++L3).length c3) hon3 (Xi Hbq.out Hn5.out) (by decide) (by decide);have hc6:=hq2.keep (v':=.slice A3 (L'++L3).length c3) hon3 (Xi Hbq.out Hc5.out) (by decide) (by decide);have HM6:=Xa (HMj2.out L3 hmap3);rw[List.length_append] at hst0 hi6 hn6 hc6;have hst:=Xa hst0;clear hst0;clear hq2 hon3 hown3 hfar3 hmap3 hb3 kb3 kf3 kb2 kb cA cF;go_wp2
           go_roundw
           case rel=>exact⟨3,_,L'++L3,by omega,by go_num,hst,hi6,hn6,hc6,HM6⟩
           case measure=>simp[intOf]
         ·have e0:wr.cell? ⟨wz.heap.size+1+1,3,none⟩=some (.func (.func 83) #[] #[.pointer (some ⟨w2.heap.size+1,0,none⟩),.pointer (some ⟨wz.heap.size,0,none⟩)]):=gblk Hc5.out 3
          have kb:=HJ.out.box.cell
          have cF:Hid (∀V,Below wr.heap.size wr V->Calls Tryz.prog 83 #[.pointer (some ⟨w2.heap.size+1,0,none⟩),.pointer (some ⟨wz.heap.size,0,none⟩)] V (Vt w w2.heap.size (Xw g.cats.xs S s.xs k 2) V)):=by
           intro V hV;have hq:=HJ.out.ext hV;have hiq:=Xi hV Hi5.out;have hnq:=Xi hV Hn5.out;exact of4 hq hiq hkl HLen.out HSl.out Hu.out Hok.out HWs.out
          have hpj:(Xw g.cats.xs S s.xs k 2).length<=512:=hpl _ (by unfold X8;simp)
          have HMj2:Hid (∀L3:List ItemG,L3.map ItemG.c=Xw g.cats.xs S s.xs k 2->(L'++L3).map ItemG.c=L.map ItemG.c++((X8 g S s.xs k x).take 4).flatten):=by
           intro L3 h3;rw[List.map_append,HMj.out,h3];unfold X8;simp
          clear hpl;generalize Xw g.cats.xs S s.xs k 2=pj at *;go_wp2_with fail
          clear e0;go_region_with (first|(go_at_call 83;refine(cF.out _ ?_).mono ?_;(repeat (first|exact bo_q|refine Xr ?_));rintro e V2 ⟨gf,lb,rfl,hq2,heg,hit⟩;have hbq:Below wr.heap.size wr V2:=Xb bd_q hq2;have cA:=Xa (Xe3 (HJ.out.ext bd_q) hq2 heg hit (by have:=HLl.out;omega));have kb2:=(HJ.out.ext hbq).box.cell;have Hbq:=Xa hbq;clear hq2 heg hit hbq)|(go_at_call 86;refine cA.out.mono ?_;rintro e V3 ⟨v3,L3,rfl,hown3,hmap3,hfar3,hon3⟩;obtain⟨A3,c3,rfl,_⟩:=Y1 hown3;have hb3:=(HJ.out.ext Hbq.out).boxed hon3;have kb3:=hb3.cell;have kf3:=hb3.frozen))
          all_goals
           have hq2:=HJ.out.ext Hbq.out;have hst0:=hq2.step hon3 hown3 hfar3;have hi6:=hq2.keep (v':=.slice A3 (L'++L3).length c3) hon3 (Xi Hbq.out Hi5.out) (by decide) (by decide);have hn6:=hq2.keep (v':=.slice A3 (L'++L3).length c3) hon3 (Xi Hbq.out Hn5.out) (by decide) (by decide);have hc6:=hq2.keep (v':=.slice A3 (L'++L3).length c3) hon3 (Xi Hbq.out Hc5.out) (by decide) (by decide);have HM6:=Xa (HMj2.out L3 hmap3);rw[List.length_append] at hst0 hi6 hn6 hc6;have hst:=Xa hst0;clear hst0;clear hq2 hon3 hown3 hfar3 hmap3 hb3 kb3 kf3 kb2 kb cA cF;go_wp2
           go_roundw
           case rel=>exact⟨4,_,L'++L3,by omega,by go_num,hst,hi6,hn6,hc6,HM6⟩
           case measure=>simp[intOf]
         ·have e0:wr.cell? ⟨wz.heap.size+1+1,4,none⟩=some (.func (.func 84) #[] #[.pointer (some ⟨w2.heap.size+1,0,none⟩),.pointer (some ⟨wz.heap.size,0,none⟩)]):=gblk Hc5.out 4
          have kb:=HJ.out.box.cell
          have cF:Hid (∀V,Below wr.heap.size wr V->Calls Tryz.prog 84 #[.pointer (some ⟨w2.heap.size+1,0,none⟩),.pointer (some ⟨wz.heap.size,0,none⟩)] V (Vt w w2.heap.size (Xw g.cats.xs S s.xs k 3) V)):=by
           intro V hV;have hq:=HJ.out.ext hV;have hiq:=Xi hV Hi5.out;have hnq:=Xi hV Hn5.out;exact of5 hq hiq hkl HLen.out HSl.out Hu.out Hok.out HWs.out
          have hpj:(Xw g.cats.xs S s.xs k 3).length<=512:=hpl _ (by unfold X8;simp)
          have HMj2:Hid (∀L3:List ItemG,L3.map ItemG.c=Xw g.cats.xs S s.xs k 3->(L'++L3).map ItemG.c=L.map ItemG.c++((X8 g S s.xs k x).take 5).flatten):=by
           intro L3 h3;rw[List.map_append,HMj.out,h3];unfold X8;simp
          clear hpl;generalize Xw g.cats.xs S s.xs k 3=pj at *;go_wp2_with fail
          clear e0;go_region_with (first|(go_at_call 84;refine(cF.out _ ?_).mono ?_;(repeat (first|exact bo_q|refine Xr ?_));rintro e V2 ⟨gf,lb,rfl,hq2,heg,hit⟩;have hbq:Below wr.heap.size wr V2:=Xb bd_q hq2;have cA:=Xa (Xe3 (HJ.out.ext bd_q) hq2 heg hit (by have:=HLl.out;omega));have kb2:=(HJ.out.ext hbq).box.cell;have Hbq:=Xa hbq;clear hq2 heg hit hbq)|(go_at_call 86;refine cA.out.mono ?_;rintro e V3 ⟨v3,L3,rfl,hown3,hmap3,hfar3,hon3⟩;obtain⟨A3,c3,rfl,_⟩:=Y1 hown3;have hb3:=(HJ.out.ext Hbq.out).boxed hon3;have kb3:=hb3.cell;have kf3:=hb3.frozen))
          all_goals
           have hq2:=HJ.out.ext Hbq.out;have hst0:=hq2.step hon3 hown3 hfar3;have hi6:=hq2.keep (v':=.slice A3 (L'++L3).length c3) hon3 (Xi Hbq.out Hi5.out) (by decide) (by decide);have hn6:=hq2.keep (v':=.slice A3 (L'++L3).length c3) hon3 (Xi Hbq.out Hn5.out) (by decide) (by decide);have hc6:=hq2.keep (v':=.slice A3 (L'++L3).length c3) hon3 (Xi Hbq.out Hc5.out) (by decide) (by decide);have HM6:=Xa (HMj2.out L3 hmap3);rw[List.length_append] at hst0 hi6 hn6 hc6;have hst:=Xa hst0;clear hst0;clear hq2 hon3 hown3 hfar3 hmap3 hb3 kb3 kf3 kb2 kb cA cF;go_wp2
           go_roundw
           case rel=>exact⟨5,_,L'++L3,by omega,by go_num,hst,hi6,hn6,hc6,HM6⟩
           case measure=>simp[intOf]
         ·have e0:wr.cell? ⟨wz.heap.size+1+1,5,none⟩=some (.func (.func 85) #[] #[.pointer (some ⟨w2.heap.size+1,0,none⟩),.pointer (some ⟨wz.heap.size,0,none⟩)]):=gblk Hc5.out 5
          have kb:=HJ.out.box.cell
          have cF:Hid (∀V,Below wr.heap.size wr V->Calls Tryz.prog 85 #[.pointer (some ⟨w2.heap.size+1,0,none⟩),.pointer (some ⟨wz.heap.size,0,none⟩)] V (Vt w w2.heap.size (Xw g.cats.xs S s.xs k 4) V)):=by
           intro V hV;have hq:=HJ.out.ext hV;have hiq:=Xi hV Hi5.out;have hnq:=Xi hV Hn5.out;exact of6 hq hiq hkl HLen.out HSl.out Hu.out Hok.out HWs.out
          have hpj:(Xw g.cats.xs S s.xs k 4).length<=512:=hpl _ (by unfold X8;simp)
          have HMj2:Hid (∀L3:List ItemG,L3.map ItemG.c=Xw g.cats.xs S s.xs k 4->(L'++L3).map ItemG.c=L.map ItemG.c++((X8 g S s.xs k x).take 6).flatten):=by
           intro L3 h3;rw[List.map_append,HMj.out,h3];unfold X8;simp
          clear hpl;generalize Xw g.cats.xs S s.xs k 4=pj at *;go_wp2_with fail
          clear e0;go_region_with (first|(go_at_call 85;refine(cF.out _ ?_).mono ?_;(repeat (first|exact bo_q|refine Xr ?_));rintro e V2 ⟨gf,lb,rfl,hq2,heg,hit⟩;have hbq:Below wr.heap.size wr V2:=Xb bd_q hq2;have cA:=Xa (Xe3 (HJ.out.ext bd_q) hq2 heg hit (by have:=HLl.out;omega));have kb2:=(HJ.out.ext hbq).box.cell;have Hbq:=Xa hbq;clear hq2 heg hit hbq)|(go_at_call 86;refine cA.out.mono ?_;rintro e V3 ⟨v3,L3,rfl,hown3,hmap3,hfar3,hon3⟩;obtain⟨A3,c3,rfl,_⟩:=Y1 hown3;have hb3:=(HJ.out.ext Hbq.out).boxed hon3;have kb3:=hb3.cell;have kf3:=hb3.frozen))
          all_goals
           have hq2:=HJ.out.ext Hbq.out;have hst0:=hq2.step hon3 hown3 hfar3;have hi6:=hq2.keep (v':=.slice A3 (L'++L3).length c3) hon3 (Xi Hbq.out Hi5.out) (by decide) (by decide);have hn6:=hq2.keep (v':=.slice A3 (L'++L3).length c3) hon3 (Xi Hbq.out Hn5.out) (by decide) (by decide);have hc6:=hq2.keep (v':=.slice A3 (L'++L3).length c3) hon3 (Xi Hbq.out Hc5.out) (by decide) (by decide);have HM6:=Xa (HMj2.out L3 hmap3);rw[List.length_append] at hst0 hi6 hn6 hc6;have hst:=Xa hst0;clear hst0;clear hq2 hon3 hown3 hfar3 hmap3 hb3 kb3 kf3 kb2 kb cA cF;go_wp2
           go_roundw
           case rel=>exact⟨6,_,L'++L3,by omega,by go_num,hst,hi6,hn6,hc6,HM6⟩
           case measure=>simp[intOf]
        ·have hj6:j=6:=by omega
         subst hj6
         have HM7:Hid (L'.map ItemG.c=Us 0 s.xs++Y9 g S s.xs 0 (s.xs.take (k+1))):=by
          show _=_;rw[HMj.out,HMp.out,List.take_of_length_le (show (X8 g S s.xs k x).length<=6 by unfold X8;simp),Xgo,Htk.out,Xg3,List.length_take,Nat.min_eq_left hk,Nat.zero_add,List.append_assoc]
         go_wp2_with fail
         exact⟨⟨k+1,v,L',by omega,by go_num,HJ,HM7⟩,by simp[intOf];omega⟩
      ·have hks:k=s.xs.length:=by omega
       subst hks
       have HTl:Hid (L.map ItemG.c=Vb g S s.xs):=by
        have:=HMp.out;rw[List.take_length] at this;exact this
       have hLl:(Vb g S s.xs).length=L.length:=(by rw[<- HTl.out,List.length_map]);obtain⟨Av,cv,rfl,_⟩:=Y1 HI.out.own;have k0:=HI.out.box.cell;have f0:=HI.out.box.frozen;have HE6:Hid (Xz g l lang s.xs t u=if 1024<L.length then 2 else 0):=(by show _=_;rw[HE5.out,hLl]);clear HE5 hLl hlt hk;by_cases hbig:1024<L.length
       ·have HF:Hid (Xz g l lang s.xs t u=2):=by show _=_;rw[HE6.out,if_pos hbig]
        go_wp2_with fail
        exact bodyPost_ret (v:=.tuple #[.slice none 0 0,.int .i64 2]) (by simp[results,Tryz.results25,go_sem,k0]) rfl ⟨HI.out.below.setCell (p:=⟨w.heap.size+1+1,0,none⟩) (by simp;omega) _,.inl ⟨by rw[HF.out];decide,by rw[HF.out]⟩⟩
       ·have HF:Hid (Xz g l lang s.xs t u=0):=by show _=_;rw[HE6.out,if_neg hbig]
        have hst:=HI.out.step (.refl _ _) HI.out.own HI.out.far;obtain⟨A9,c9,e9,hr9,hn9⟩:=hst.own.form (by decide);cases e9
        obtain⟨hc9,hm9⟩:L.length<=cv/\cv<=9223372036854775807:=by
         rcases hst.own.2 with ⟨h1,h2⟩|⟨g9,c9,cur,h1,_,_,h4,h5,_⟩
         ·injection h1 with _ h3 h4
          subst h4;exact⟨by omega,by omega⟩
         ·injection h1 with _ _ h6
          subst h6;exact⟨h4,by unfold maxLen at h5;omega⟩
        have HIt:Hid (ItemsAt (wr.setCell ⟨w.heap.size+1+1,0,none⟩ (.slice Av L.length cv)) ⟨Av,cv,L⟩):=⟨⟨hr9,hc9,hm9,hn9⟩,fun y hy=>(hst.far y hy).1⟩
        have Hbl:=Xa hst.below;clear hst hr9 hn9 hc9 hm9;go_wp2_with fail
        exact bodyPost_ret (v:=.tuple #[.slice Av L.length cv,.int .i64 0]) (by simp[results,Tryz.results25,go_sem,k0]) rfl ⟨Hbl.out,.inr ⟨HF.out,⟨Av,cv,L⟩,rfl,by rw[HSS.out];exact HTl.out,HIt.out⟩⟩
section
attribute [local go_sem] Oper.semAt_some
def LayR (D kb fb b:Nat):Prop:=b<D/\b≠kb/\b≠fb
theorem lays2 {e0 w w0:World} {cb kb wb top fb:Nat} {g:Gram} {its:SlS ItemG} {n:Nat} {A:Option Addr} {cp:Nat} {parts:List PartG} {i k:Nat} {e:Ending} (hE:ChEnv e0 cb kb wb top g its n w) (hA:Rd w A (parts.flatMap PartG.cells)) (hfar:∀b off,A=some ⟨b,off,none⟩->b<top/\b≠kb) (hL:Xhn cb A parts.length cp i k w e w0)
  (hf:top<=fb/\fb<w.heap.size) (h4:parts.length<=4) (hk:k<=16) (hi:i<=k) :
  IterV Tryz.prog 219 #[.pointer (some ⟨w.heap.size+1+1+1+1+1,0,none⟩),.pointer (some ⟨w.heap.size+1+1,0,none⟩)] EncW (LayR w0.heap.size kb fb) (fun b=>b=w.heap.size+1+1+1+1) (Ya (Xp its.xs) parts i k) w0:=by
 obtain⟨rfl,hB,hends,hb,hz⟩:=hL;have hE0:=hE.ext hb;have hkt:=hE.hk;have htw:=hE.top
 have henv:LayEnv w0 w.heap.size cb kb wb top g its n A cp parts i k (LayR w0.heap.size kb fb) :=
  ⟨hB,hE0.chart,hE0.words,hA.ext hb,hfar,fun b h1 h2=>⟨by omega,by omega,by omega⟩,fun b h1 h2=>⟨by omega,h2,by omega⟩,htw,⟨hE.hc.2,hE.kc⟩,⟨hE.hw.2,Ne.symm hE.kw⟩⟩
 intro l' B0 J Jx own₀ W hR hown hB0 hlive hJ hJx hY h0
 have hbw:w0.heap.size<=B0:=by
  have:=(hR (w.heap.size+1+1+1+1+1) ⟨by omega,by omega,by omega⟩).1;omega
 have U:Xe0 w0 w.heap.size B0 W.heap.size cb kb wb top (LayR w0.heap.size kb fb) (fun b=>b=w.heap.size+1+1+1+1) J Jx l' (Ya (Xp its.xs) parts i k) g its n A cp parts i k :=
  ⟨henv,by omega,fun b hb=>(hR b hb).1,hB0,hJ,rfl,hY,h4,hk⟩
 have hbe:W.heap[w.heap.size+1+1+1+1]? = some (.cells #[.slice none 0 0] 49 (0,0)):=(hR _ ⟨by omega,by omega,by omega⟩).2.trans hends
 have hS:LaySt w0 w.heap.size B0 W.heap.size (LayR w0.heap.size kb fb) J own₀ [] [] (.slice none 0 0) W :=
  ⟨h0,fun b hr _=>(hR b hr).2,hown,hlive,Nat.le_refl _,hbe,OwnL.nil _ _ _ _ _,fun g hg=>by simp[Value.ownBlock] at hg⟩
 have hat:=henv.at_ hS.keep (by omega);have cl:=Xe hat.l;have cf:=Xe ((hR (w.heap.size+1+1) ⟨by omega,by omega,by omega⟩).2.trans hB.frm);have hc:=lay1 U parts 0 i own₀ [] [] (.slice none 0 0) W rfl (by simp) hi (by simpa using h4) hS (by simp);have hc':Calls Tryz.prog 218 #[.int .i64 0,.int .i64 (i:Int),.func (.yield l') #[] #[],.pointer (some ⟨w.heap.size+1,0,none⟩),.pointer (some ⟨w.heap.size+1+1+1,0,none⟩),.pointer (some ⟨w.heap.size+1+1+1+1,0,none⟩),.pointer (some ⟨w.heap.size,0,none⟩),.pointer (some ⟨w.heap.size+1+1+1+1+1,0,none⟩)] W (LayPost w0 w.heap.size B0 W.heap.size (LayR w0.heap.size kb fb) J Jx (Ya (Xp its.xs) parts i k) [] [] (Ya (Xp its.xs) parts i k)):=hc;have HC:=Xa hc';clear U hE hA hfar hf hE0 henv hR hown hlive hJ hJx hY h0 hbe hS hat hc hc' hB hends hb hz hbw hB0;go_enter Tryz.func219,Tryz.ntmps219
 go_wp2_with fail
 refine HC.out.mono ?_;intro e w9 h9;rcases h9.two with ⟨rfl,own',v',h⟩|⟨rfl,own',pre,h1,h2⟩
 ·have hj:=h.j
  rw[List.nil_append,show (fun x:List Nat=>[]++x)=id from rfl,List.map_id] at hj;have HJ:=Xa hj;clear hj h h9;go_wp2_with fail
  exact bodyPost_ret (results_none rfl _ _ _) rfl (.inl ⟨rfl,⟨_,rfl⟩,own',HJ.out⟩)
 ·have H2:=Xa h2
  clear h2 h9;go_wp2_with fail
  exact bodyPost_ret (results_none rfl _ _ _) rfl (.inr (.inl ⟨⟨_,rfl⟩,own',pre,h1,H2.out⟩))
end
theorem Xpi {g:Gram} (hg:Y5 g) {c:Int} (h0:0<=c) (h1:c<g.cats.xs.length):Ut g c<g.cats.xs.length:=by
 obtain⟨n,rfl⟩:∃n:Nat,c=(n:Int):=⟨c.toNat,by omega⟩
 have hn:n<g.cats.xs.length:=by omega
 unfold Ut;rw[Int.toNat_natCast,List.getElem?_eq_getElem hn];show Vo g.rules.xs g.cats.xs[n] _<_;have h2:=Xaf g.rules.xs g.cats.xs[n] g.cats.xs.length;rcases Nat.lt_or_ge (Vo g.rules.xs g.cats.xs[n] g.cats.xs.length) g.cats.xs.length with h|h
 ·exact h
 ·exfalso
  have h3:=Qe g.rules.xs g.cats.xs[n] g.cats.xs.length;rw[show Vo g.rules.xs g.cats.xs[n] g.cats.xs.length=g.cats.xs.length by omega] at h3;have h4:=hg.circ g.cats.xs[n] (List.getElem_mem hn);rw[h3] at h4;cases h4
theorem Xxn {g:Gram} (hg:Y5 g) (items:List ItemG) (A:Int->Nat->Nat->List Dv) (c:Int) (i k:Nat)
  (h:∀(d:Int) (u v:Nat),0<=d->d<g.cats.xs.length->i<=u->u<v->v<=k->(v-u<k-i\/(u=i/\v=k/\Ut g d<Ut g c))->A d u v=derG g items d u v) :
  X3 c i k 0 items++Yd (Xp items) A c i k 0 g.rules.xs=derG g items c i k:=by
 rw[Xha hg]
 congr 1
 refine Ty _ _ _ c i k 0 g.rules.xs fun r hr hc=>?_;refine Tp _ _ _ _ i k fun p hp ht u v h1 h2 h3 h4=>?_;have hn:=hg.part r hr p hp ht;have hlt:=Xcl p.cat g.cats.xs;rw[<- hn.1] at hlt;refine h p.no u v hn.2 hlt h1 h2 h3 ?_;have h5:=(hg.rule r hr).2.2.2.2.1;by_cases hs:r.parts.xs.length=1
 ·obtain⟨q,hq⟩:=List.length_eq_one_iff.1 hs
  have hpq:p=q:=by rw[hq] at hp;exact List.mem_singleton.1 hp
  subst hpq;have:=Xi2 hg hr hq ht;rw[hc] at this;rcases Nat.lt_or_ge (v-u) (k-i) with h'|h'
  ·exact .inl h'
  ·exact .inr ⟨by omega,by omega,this⟩
 ·exact .inl (by omega)
structure TabInv (g:Gram) (items:List ItemG) (n:Nat) (A:Int->Nat->Nat->List Dv) (long frm turn cat:Nat):Prop where
 less:∀(d:Int) (u v:Nat),0<=d->d<g.cats.xs.length->u<v->v<=n->(v-u<long\/(v-u=long/\u<frm))->A d u v=derG g items d u v
 here:∀(d:Int),0<=d->d<g.cats.xs.length->frm+long<=n->(Ut g d<turn\/(d<cat/\Ut g d<=turn))->A d frm (frm+long)=derG g items d frm (frm+long)
def putA (A:Int->Nat->Nat->List Dv) (c:Int) (i k:Nat) (l:List Dv):Int->Nat->Nat->List Dv:=fun d u v=>if d=c/\u=i/\v=k then l else A d u v
theorem TabInv.start {g:Gram} {items:List ItemG} {n:Nat} {A:Int->Nat->Nat->List Dv}:TabInv g items n A 1 0 0 0:=by
 refine⟨fun d u v _ _ h1 h2 h3=>?_,fun d h0 _ _ h=>?_⟩
 ·rcases h3 with h|⟨_,h⟩<;>omega
 ·rcases h with h|⟨h,_⟩<;>omega
theorem TabInv.cat {g:Gram} (hg:Y5 g) {items:List ItemG} {n:Nat} {A:Int->Nat->Nat->List Dv} {long frm turn cat:Nat} (h:TabInv g items n A long frm turn cat) (_hl:0<long) (hn:frm+long<=n) (_hc:cat<g.cats.xs.length) :
  TabInv g items n (putA A cat frm (frm+long) (X3 cat frm (frm+long:Nat) 0 items++Yd (Xp items) A cat frm (frm+long) 0 g.rules.xs)) long frm turn (cat+1):=by
 refine⟨fun d u v h0 h1 h2 h3 h4=>?_,fun d h0 h1 h2 h3=>?_⟩
 ·unfold putA
  rw[if_neg (by rintro⟨_,rfl,rfl⟩;rcases h4 with h4|h4<;>omega)];exact h.less d u v h0 h1 h2 h3 h4
 ·unfold putA
  have key:Ut g d<=turn->d=(cat:Int)->X3 (cat:Int) frm (frm+long:Nat) 0 items++Yd (Xp items) A cat frm (frm+long) 0 g.rules.xs=derG g items d frm (frm+long):=by
   rintro hr rfl;refine Xxn hg items A cat frm (frm+long) fun d' u v h0' h1' a b c' e=>?_;rcases e with e|⟨rfl,rfl,e⟩
   ·exact h.less d' u v h0' h1' b (by omega) (by omega)
   ·exact h.here d' h0' h1' h2 (.inl (by omega))
  by_cases e:d=(cat:Int)
  ·rw[if_pos ⟨e,rfl,rfl⟩]
   rcases h3 with h3|h3
   ·exact key (by omega) e
   ·exact key h3.2 e
  ·rw[if_neg (fun hh=>e hh.1)]
   refine h.here d h0 h1 h2 ?_;rcases h3 with h3|⟨h3,h4⟩
   ·exact .inl h3
   ·exact .inr ⟨by omega,h4⟩
theorem TabInv.turn {g:Gram} {items:List ItemG} {n:Nat} {A:Int->Nat->Nat->List Dv} {long frm turn:Nat} (h:TabInv g items n A long frm turn g.cats.xs.length):TabInv g items n A long frm (turn+1) 0 :=
 ⟨h.less,fun d h0 h1 h2 h3=>h.here d h0 h1 h2 (by rcases h3 with h3|⟨h3,_⟩;exact .inr ⟨h1,by omega⟩;omega)⟩
theorem TabInv.frm {g:Gram} (hg:Y5 g) {items:List ItemG} {n:Nat} {A:Int->Nat->Nat->List Dv} {long frm:Nat} (h:TabInv g items n A long frm g.cats.xs.length 0):TabInv g items n A long (frm+1) 0 0:=by
 refine⟨fun d u v h0 h1 h2 h3 h4=>?_,fun d h0 _ _ h=>?_⟩
 ·by_cases e:v-u=long/\u=frm
  ·obtain⟨e1,rfl⟩:=e
   obtain rfl:v=u+long:=by omega
   exact h.here d h0 h1 h3 (.inl (Xpi hg h0 h1))
  ·exact h.less d u v h0 h1 h2 h3 (by omega)
 ·rcases h with h|⟨h,_⟩<;>omega
theorem TabInv.long {g:Gram} {items:List ItemG} {n:Nat} {A:Int->Nat->Nat->List Dv} {long frm:Nat} (h:TabInv g items n A long frm 0 0) (hf:n<frm+long):TabInv g items n A (long+1) 0 0 0:=by
 refine⟨fun d u v h0 h1 h2 h3 h4=>h.less d u v h0 h1 h2 h3 (by omega),fun d h0 _ _ h=>?_⟩;rcases h with h|⟨h,_⟩<;>omega
theorem X0o {A:Int->Nat->Nat->List Dv} {j:Nat} {r:RuleG} {i k:Nat} {es:List Nat} {C:Int} {kids:List TreeV} {e:Nat} (h:(Y2 A r.parts.xs i es).length=e/\Yc (Y2 A r.parts.xs i es)=some (C,kids)) :
  Fd.of bigN (Qo A j r i k es)=⟨capN bigN e,some (r.cost+C,.node j (-1) i k kids)⟩:=by
 unfold Fd.of Qo;rw[List.length_map,Xas (fun x:Dk=>((r.cost+x.1,.node j (-1) i k x.2):Dv)) r.cost (fun _=>rfl),h.1,h.2];rfl
theorem Xsm {A:Int->Nat->Nat->List Dv} {j:Nat} {r:RuleG} {i k:Nat} {es:List Nat} (h:Y2 A r.parts.xs i es=[]):Qo A j r i k es=[]:=by
 unfold Qo;rw[h];rfl
theorem Xso {st:Int->ByteArray->Bool} {A:Int->Nat->Nat->List Dv} {c:Int} {i k:Nat} {rs:List RuleG} {j:Nat} (hj:j<rs.length) (hn:rs[j].no=c) (L:List Dv) :
  Fd.of bigN (L++Yd st A c i k 0 (rs.take j)++(Ya st rs[j].parts.xs i k).flatMap (Qo A j rs[j] i k))=Fd.of bigN (L++Yd st A c i k 0 (rs.take (j+1))):=by
 have htk:rs.take (j+1)=rs.take j++[rs[j]]:=List.take_succ_eq_append_getElem hj;have hl:(rs.take j).length=j:=by rw[List.length_take];omega
 rw[htk,Xb3,if_pos hn,hl,Nat.zero_add,<- List.append_assoc];exact((SameM.refl _).append (Xsl st A j rs[j] i k)).of
theorem Xsn {st:Int->ByteArray->Bool} {A:Int->Nat->Nat->List Dv} {c:Int} {i k:Nat} {rs:List RuleG} {j:Nat} (hj:j<rs.length) (hn:rs[j].no≠c):Yd st A c i k 0 (rs.take (j+1))=Yd st A c i k 0 (rs.take j):=by
 have htk:rs.take (j+1)=rs.take j++[rs[j]]:=List.take_succ_eq_append_getElem hj;rw[htk,Xb3,if_neg hn,List.append_nil]
theorem Xy0 {g:Gram} (hg:Y5 g) {items:List ItemG} {n m:Nat} (hi:Ve n m items) {c:Int} {i k:Nat} {x:Dv} (h:x∈derG g items c i k) (hik:i<k) (hk:k<=16):0<=x.1/\x.1<=1000000:=by
 have h1:=Xh4 hg hi _ _ _ _ _ h;have h2:=Xcj hg _ _ _ _ _ h hik;have h3:=Xph g c;have h4:=hg.few;have h5:(2*(k-i)-2)*g.cats.xs.length<=30*32:=Nat.mul_le_mul (by omega) h4;omega
def Xbl (X:Nat->Prop) (g:Gram) (items:List ItemG) (N kb:Nat) (f0:X9->Option FoundG) (c:Int) (i k m:Nat) (W:World) (e:Ending) (W':World):Prop :=
 ∃fd f',e = .returned (fd.vl)/\FoundOk X W' fd (Fd.of bigN (derG g items c i k))/\KnownF X g items N kb f' W'/\Grew g m f0 f'/\Only (fun j=>j=kb) W W'
def Xyb (e0:World) (cb kb wb top:Nat) (g:Gram) (its:SlS ItemG) (N:Nat) (c:Int) (i k:Nat):Prop :=
 ∀(X:Nat->Prop) (f0:X9->Option FoundG) (W:World),(∀b,X b->b<W.heap.size)->ChEnv e0 cb kb wb top g its N W->KnownF X g its.xs N kb f0 W ->
  Calls Tryz.prog 67 #[.pointer (some ⟨cb,0,none⟩),.agg #[.int .i64 c,.int .i64 (i:Int),.int .i64 (k:Int)]] W (Xbl X g its.xs N kb f0 c i k (muG g c i k+1) W)
theorem Xkj (bi bx bk:Nat) (j i k c:Int) (v:Value) (A:Option Addr) (n cp:Nat) (w:World) (hi:w.heap[bi]? = some (.cells #[.int .i64 j] 3 (0,0))) (hx:w.heap[bx]? = some (.cells #[.int .i64 c,.int .i64 i,.int .i64 k] 119 (0,0))) (hk:w.heap[bk]? = some (.cells #[v] 30 (0,0))) (hv:v = .slice A n cp) :
  Calls Tryz.prog 182 #[.pointer (some ⟨bi,0,none⟩),.pointer (some ⟨bx,0,none⟩),.pointer (some ⟨bk,0,none⟩)] w fun e w'=>e = .returned (.agg #[.int .i64 j,.int .i64 (-1),.int .i64 i,.int .i64 k,.slice A n cp])/\Below w.heap.size w w':=by
 subst hv;have a0:=Xe hi;have k0:=Xe hk;obtain⟨b0,b1,b2⟩:=gb3 hx;have hli:=Xd hi;have hlx:=Xd hx;have hlk:=Xd hk;have hni:bi≠w.heap.size:=by omega
 have hnx:bx≠w.heap.size:=by omega
 have hnk:bk≠w.heap.size:=by omega
 have hB:Below w.heap.size w (w.alloc (.cells #[.int .i64 j,.int .i64 (-1),.int .i64 i,.int .i64 k,.slice A n cp] 37)):=ba_q;clear hi hx hk;go_enter Tryz.func182,Tryz.ntmps182
 go_wp2_with fail
 exact bodyPost_ret (v:=.agg #[.int .i64 j,.int .i64 (-1),.int .i64 i,.int .i64 k,.slice A n cp]) (by simp[results,Tryz.results182,go_sem]) rfl ⟨rfl,hB⟩
theorem Xrb {X:Nat->Prop} {W:World} {fd:FoundG} {g:Gram} {items:List ItemG} {c:Int} {i k:Nat} (h:FoundOk X W fd (Fd.of bigN (derG g items c i k))) :
  (Yc (derG g items c i k)=none/\fd.ok=false)\/∃cc t,Yc (derG g items c i k)=some (cc,t)/\fd.ok=true/\fd.cost=cc/\TreeW X W t fd.tree/\fd.many=(capN bigN (derG g items c i k).length:Nat):=by
 have hb:=h.best;have hm:=h.many;change match Yc (derG g items c i k) with|none=>_|some (c,t)=>_ at hb
 cases hf:Yc (derG g items c i k) with
 | none=>rw[hf] at hb;exact .inl ⟨rfl,hb.1⟩
 | some y =>
  obtain⟨cc,t⟩:=y;rw[hf] at hb;exact .inr ⟨cc,t,rfl,hb.1,hb.2.1,hb.2.2,hm⟩
theorem Xxf (e n:Nat):Qu bigN (capN bigN e) (capN bigN n)=capN bigN (e*n):=Xqt bigN e n
section
variable {e0:World} {cb kb wb top fb:Nat} {g:Gram} {its:SlS ItemG} {N:Nat} {X:Nat->Prop} {f0:X9->Option FoundG} {c:Int} {i k:Nat}
structure RuSt (e0:World) (cb kb wb top fb:Nat) (g:Gram) (its:SlS ItemG) (N:Nat) (X:Nat->Prop) (f0:X9->Option FoundG) (c:Int) (i k:Nat) (W1:World) (l:List Dv) (W:World):Prop where
 env:ChEnv e0 cb kb wb top g its N W
 found:∃fd f',W.heap[fb]? = some fd.ob/\FoundOk X W fd (Fd.of bigN l)/\KnownF X g its.xs N kb f' W/\Grew g (muG g c i k) f0 f'
 only:Only (fun j=>j=kb\/j=fb) W1 W
def XR (X:Nat->Prop) (M B0:Nat) (own:Nat->Prop) (b:Nat):Prop:=X b\/b=M\/(B0<=b/\¬own b)
structure WaSt (e0:World) (cb kb wb top fb:Nat) (g:Gram) (its:SlS ItemG) (N:Nat) (X:Nat->Prop) (f0:X9->Option FoundG) (c:Int) (i k:Nat) (W0:World) (M:Nat) (L:List Dv) (r:Nat->List Nat->List Dv) (j:Nat) (own:Nat->Prop) (ys:List (List Nat)) (W:World):Prop where
 os:W.os=W0.os
 tape:W.tape=W0.tape
 output:W.output=W0.output
 size:W0.heap.size<=W.heap.size
 keep:∀b,b<W0.heap.size->b≠kb->b≠fb->b≠M->W.heap[b]? = W0.heap[b]?
 okb:own kb
 ofb:own fb
 found:∃fd f',W.heap[fb]? = some fd.ob/\FoundOk (XR X M W0.heap.size own) W fd (Fd.of bigN (L++ys.flatMap (r j)))/\KnownF (XR X M W0.heap.size own) g its.xs N kb f' W/\Grew g (muG g c i k) f0 f'
theorem WaSt.stable {W0:World} {M:Nat} {L:List Dv} {r:Nat->List Nat->List Dv} {j:Nat} (hkb:kb<W0.heap.size):Yp W0.heap.size (fun b=>b=M) (WaSt e0 cb kb wb top fb g its N X f0 c i k W0 M L r j):=by
 intro own ys W W' h st;have hz:=h.size
 have hkeep:∀b,KidP W b->¬XR X M W0.heap.size own b->W'.heap[b]? = W.heap[b]? := fun b ⟨cs,fr,hb⟩ hx=>by
  refine st.block b (Xd hb) ?_;by_cases ho:own b
  ·exact .inr ho
  ·refine .inl ⟨?_,fun hm=>hx (.inr (.inl hm))⟩
   rcases Nat.lt_or_ge b W0.heap.size with h1|h1
   ·exact h1
   ·exact absurd (.inr (.inr ⟨h1,ho⟩)) hx
 have ht:∀t x,TreeW (XR X M W0.heap.size own) W t x->TreeW (XR X M W0.heap.size own) W' t x:=fun t x ht=>ht.keep hkeep st.size fun _ _ h=>h;obtain⟨fd,f',h1,h2,h3,h4⟩:=h.found
 exact⟨st.os.trans h.os,st.tape.trans h.tape,st.output.trans h.output,Nat.le_trans hz st.size,fun b hb h1 h2 h3=>(st.block b (Nat.lt_of_lt_of_le hb hz) (.inl ⟨hb,h3⟩)).trans (h.keep b hb h1 h2 h3),h.okb,h.ofb,
  fd,f',(st.block fb (Xd h1) (.inr h.ofb)).trans h1,h2.keep ht,h3.keep (st.block kb (by omega) (.inr h.okb)) ht,h4⟩
end
end Go.Proofs.YtolpbjjapodmnaaGreatDoor
