/- Texts of this claim, one after the other: DraJ, Law33a, Law33c, R26n, R28f, Law33d, Law33e, Law33b, Law33f. -/
import Derived.Test.YtolpbjjapodmnaaGreatDoorM30
import Derived.Test.YtolpbjjapodmnaaGreatDoorM29
import Derived.Test.YtolpbjjapodmnaaGreatDoorM13
import Derived.Test.YtolpbjjapodmnaaGreatDoorM4
import Derived.Test.YtolpbjjapodmnaaGreatDoorM9
import Derived.Test.YtolpbjjapodmnaaGreatDoorM3
namespace Go.Proofs.YtolpbjjapodmnaaGreatDoor
open Go.RowKit Go.Han
set_option maxRecDepth 100000
attribute [local irreducible] wpStill wpQuiet
set_option maxHeartbeats 8000000
def Xez (g:Gram) (l:List Term) (lang:Int) (ws more:List ByteArray) (k t u:Int) (w:World) (e:Ending) (w':World):Prop :=
 Below w.heap.size w w'/\∃(A:Option Addr) (c:Nat) (L:List TgG),e = .returned (.tuple #[.slice A L.length c,.int .i64 ((Uy g l lang ws more k t u:Nat):Int),.int .i64 (X7 g l lang ws more k t u)])/\L.map TgG.c=Zo g l lang ws more k t u/\TgsAt w' ⟨A,c,L⟩
theorem Qd {g:Gram} {l:List Term} {lang:Int} {ws more:List ByteArray} {k t u n:Int} {w W:World} (h:X7 g l lang ws more k t u=n) (hn:n≠0) (hB:Below w.heap.size w W):Xez g l lang ws more k t u w (.returned (.tuple #[.slice none 0 0,.int .i64 0,.int .i64 n])) W:=by
 have h1:X7 g l lang ws more k t u≠0:=by rw[h];exact hn
 refine⟨hB,none,0,[],?_,?_,⟨⟨Rd.nil _ _,Nat.le_refl _,by simp,fun _=>rfl⟩,fun x hx=>by cases hx⟩⟩
 ·unfold Uy
  rw[if_pos h1,h];rfl
 ·unfold Zo
  rw[if_pos h1];rfl
def DrInv (g:Gram) (l:List Term) (lang t u:Int) (s mo:StrS) (w W5:World) (n0 c8 K:Nat) (a:Act) (V:World):Prop :=
 ∃(Ds:List Nat) (j:Nat),a={tmps:=drF s mo w.heap.size c8 n0 K (fun n=>a.tmps.getD n undef) j,defers:=Ds.map colD++drD w.heap.size}/\j<=K+1/\LsSt w W5 n0 ((Y7 s.xs mo.xs j).map fun c=>(trE g l lang c t u).1) V/\(∀c∈Y7 s.xs mo.xs j,Xz g l lang c t u=0)/\Ds.Nodup/\∀D∈Ds,W5.heap.size<=D/\V.heap[D]? = some (.deferred (some []))
theorem Xiw {U:World} {base:Nat} {v:Value} {x:List ByteArray} (h:OwnL strD 9 1 U base v x):∃A c,v = .slice A x.length c/\StrS.lies U ⟨A,c,x⟩:=by
 obtain⟨⟨A,c,y⟩,e1,rfl,h2,_⟩:=Xm7 (by decide) h;exact⟨A,c,e1,by rw[<- Tb];exact h2.rd,h2.cap,h2.max,h2.nil⟩
theorem Xzd (X:Array Value) (p:Nat) (v:Value):Array.foldl (fun t (x:Nat×Value)=>match x with|(p,v)=>t.setIfInBounds p v) X (#[p].zip #[v])=X.setIfInBounds p v:=by simp
def trF (b:Nat):Value:=.func (.func 114) #[] #[.pointer (some ⟨b,0,none⟩),.pointer (some ⟨b+1,0,none⟩),.pointer (some ⟨b+1+1,0,none⟩),.pointer (some ⟨b+1+1+1,0,none⟩),.pointer (some ⟨b+1+1+1+1,0,none⟩)]
theorem DrB.below {W V:World} {b:Nat} {g:Gram} {A:Option Addr} {cp:Nat} {l:List Term} {lang t u:Int} (h:DrB W b g A cp l lang t u) (hb:Below W.heap.size W V):DrB V b g A cp l lang t u :=
 h.keep fun j h1 h2=>hb.block j (by have:=Xd h.known;omega)
theorem DrR.below {W V:World} {b:Nat} {v5 v6 v7:Value} (h:DrR W b v5 v6 v7) (hb:Below W.heap.size W V):DrR V b v5 v6 v7 :=
 ⟨(hb.block _ (Xd h.t)).trans h.t,(hb.block _ (Xd h.n)).trans h.n,(hb.block _ (Xd h.e)).trans h.e⟩
theorem Xce (g:Gram) (A:Option Addr) (cp:Nat) (l:List Term) (lang:Int) (s mo:StrS) (k t u:Int) (w:World) (hT:TabsG w) (hg:g.lies w) (hgs:g.short) (hr:TermsAt w A l) (hm:l.length<=9223372036854775807) (hs:s.lies w) (hmo:mo.lies w) (hk0 : -9223372036854775808<=k/\k<=9223372036854775807) :
  Calls Tryz.prog 51 #[g.vl,.slice A l.length cp,.int .i64 lang,.slice s.addr s.xs.length s.cap,.slice mo.addr mo.xs.length mo.cap,.int .i64 k,.int .i64 t,.int .i64 u] w (Xez g l lang s.xs mo.xs k t u w):=by
 have hmf:∀(fn:Fn) (first cap:Array Value) (w:World),(Instr.makeFunc fn first cap).run Tryz.prog w = .ok (.func fn first cap) w:=fun _ _ _ _=>rfl;obtain⟨W1,hW1⟩:∃W1,(((((((w.alloc g.ob).alloc (.cells #[.slice A l.length cp] 43)).alloc (.cells #[.int .i64 lang] 3)).alloc (.cells #[.int .i64 t] 3)).alloc (.cells #[.int .i64 u] 3)).alloc (.cells #[.slice none 0 0] 65)).alloc (.cells #[.int .i64 0] 3)).alloc (.cells #[.int .i64 0] 33)=W1:=⟨_,rfl⟩
 refine Z0 Tryz.func51 rfl ?_;simp only[Tryz.ntmps51,Zr,Nat.reduceAdd,Nat.reduceSub];refine Xm fun Q1 hQ1=>?_;go_wp2_with fail
 refine Xm fun Q2 hQ2=>?_;go_wp2_with fail
 refine Xm fun Q3 hQ3=>?_;go_wp2_with fail
 have hB1:Below w.heap.size w W1:=by rw[<- hW1];exact Xg (Xg (Xg (Xg (Xg (Xg (Xg ba_q _) _) _) _) _) _) _
 have hz1:W1.heap.size=w.heap.size+1+1+1+1+1+1+1+1:=by rw[<- hW1];simp only[World.size_alloc]
 have f0:W1.heap[w.heap.size]? = some g.ob:=by
  rw[<- hW1];iterate 7 refine(Below.heap_alloc _ _ _ (by simp only[World.size_alloc];omega)).trans ?_
  exact World.alloc_heap_new _ _
 have f1:W1.heap[w.heap.size+1]? = some (.cells #[.slice A l.length cp] 43 (0,0)):=by
  rw[<- hW1];iterate 6 refine(Below.heap_alloc _ _ _ (by simp only[World.size_alloc];omega)).trans ?_
  exact Xo _ _ _ (by simp)
 have f2:W1.heap[w.heap.size+1+1]? = some (.cells #[.int .i64 lang] 3 (0,0)):=by
  rw[<- hW1];iterate 5 refine(Below.heap_alloc _ _ _ (by simp only[World.size_alloc];omega)).trans ?_
  exact Xo _ _ _ (by simp)
 have f3:W1.heap[w.heap.size+1+1+1]? = some (.cells #[.int .i64 t] 3 (0,0)):=by
  rw[<- hW1];iterate 4 refine(Below.heap_alloc _ _ _ (by simp only[World.size_alloc];omega)).trans ?_
  exact Xo _ _ _ (by simp)
 have f4:W1.heap[w.heap.size+1+1+1+1]? = some (.cells #[.int .i64 u] 3 (0,0)):=by
  rw[<- hW1];iterate 3 refine(Below.heap_alloc _ _ _ (by simp only[World.size_alloc];omega)).trans ?_
  exact Xo _ _ _ (by simp)
 have f5:W1.heap[w.heap.size+1+1+1+1+1]? = some (.cells #[.slice none 0 0] 65 (0,0)):=by
  rw[<- hW1];iterate 2 refine(Below.heap_alloc _ _ _ (by simp only[World.size_alloc];omega)).trans ?_
  exact Xo _ _ _ (by simp)
 have f6:W1.heap[w.heap.size+1+1+1+1+1+1]? = some (.cells #[.int .i64 0] 3 (0,0)):=by
  rw[<- hW1];iterate 1 refine(Below.heap_alloc _ _ _ (by simp only[World.size_alloc];omega)).trans ?_
  exact Xo _ _ _ (by simp)
 have f7:W1.heap[w.heap.size+1+1+1+1+1+1+1]? = some (.cells #[.int .i64 0] 33 (0,0)):=by
  rw[<- hW1];exact Xo _ _ _ (by simp)
 have hDB1:DrB W1 w.heap.size g A cp l lang t u:=⟨f0,f1,f2,f3,f4⟩
 have hDR1:DrR W1 w.heap.size (.slice none 0 0) (.int .i64 0) (.int .i64 0):=⟨f5,f6,f7⟩
 obtain⟨W2,hW2⟩:∃W2,W1.alloc (.cells #[trF w.heap.size] 168)=W2:=⟨_,rfl⟩
 have hB2:=X5 hW2;have f8:=Yg hW2;have hDB2:=hDB1.below hB2;have hDR2:=hDR1.below hB2;have HB2:=Xa (Xb hB1 hB2);have HT2:=Xa (Xp2 w.heap.size g A cp l lang s t u W2 hDB2 (hT.ext (Xb hB1 hB2)) (hg.ext (Xb hB1 hB2)) hgs (hr.ext (Xb hB1 hB2)) hm (hs.ext (Xb hB1 hB2)));have Hz1:=Xa hz1;have HDB2:=Xa hDB2;have HDR2:=Xa hDR2;have Hf8:=Xa f8;have c8:=Xe f8;unfold trF at c8 hW2;clear hW1 f0 f1 f2 f3 f4 f5 f6 f7 f8 hDB1 hDR1 hDB2 hDR2 hz1;refine Xm fun Q4 hQ4=>?_;go_wp2_with fail
 refine Xm fun Q5 hQ5=>?_;go_wp2_with fail
 refine HT2.out.mono ?_;rintro e w3 ⟨hb3,⟨hz,A3,c3,L3,rfl,_,_⟩|⟨hne,rfl⟩⟩;rotate_left
 ·exact Z6 (HDR2.out.below hb3) hne (fun W h=>by simp[results,Tryz.results51,go_sem,Xe h.t,Xe h.n,Xe h.e]) (Qd (by unfold X7;rw[if_pos hne]) hne (Z5 (Xb HB2.out hb3) (Nat.le_refl _)))
 have HB3:=Xa (Xb HB2.out hb3);have HDB3:=Xa (HDB2.out.below hb3);have HDR3:=Xa (HDR2.out.below hb3);have Hf3:=Xa (Xi hb3 Hf8.out);have hn16:=(Vy hz).2.2.1;have Hz:=Xa hz;have hml:=Nat.le_trans hmo.cap hmo.max;have HO:=Xa (Xe6 mo.addr mo.cap mo.xs 116 #[] (fun b => !Xq b) w3 (by have h:=(hmo.ext (Xb HB2.out hb3)).rd;rw[<- Tb] at h;exact h) hml (fun _ _=>rfl) (fun W hW x _=>Xwr x W (hT.ext (Xb (Xb HB2.out hb3) hW)).u));clear hb3 hz c8 hW2 HB2 HDB2 HDR2 Hf8 HT2;go_wp2_with fail
 refine Xm fun Q6 hQ6=>?_;go_wp2_with fail
 refine Xm fun Q7 hQ7=>?_
 have He0:Hid (∀m,Vk s.xs mo.xs k=m->m≠0->X7 g l lang s.xs mo.xs k t u=m):=fun m h1 h2=>by
  unfold X7;rw[if_neg (by rw[Hz.out];simp),h1,if_pos h2]
 by_cases hw:mo.xs.length<=256
 rotate_left
 ·have k1:decide ((mo.xs.length:Int)<=256)=false:=decide_eq_false (by omega)
  have hn:=Xby false 330 w3 rfl;have HN:=Xa hn;have hE:Hid (Vk s.xs mo.xs k=330):=by show _=_;unfold Vk Qv;rw[if_pos (by rw[decide_eq_false hw];rfl)]
  clear hn hw HO;go_wp2_with fail
  refine HN.out.mono ?_;rintro e w4 ⟨rfl,rfl⟩;exact Z6 HDR3.out (by decide) (fun W h=>by simp[results,Tryz.results51,go_sem,Xe h.t,Xe h.n,Xe h.e]) (Qd (He0.out _ hE.out (by decide)) (by decide) (Z5 HB3.out (Nat.le_refl _)))
 have k1:decide ((mo.xs.length:Int)<=256)=true:=decide_eq_true (by omega);go_wp2_with fail
 refine HO.out.mono ?_;rintro e w4 ⟨rfl,hb4⟩;have HB4:=Xa (Xb HB3.out hb4);have HDB4:=Xa (HDB3.out.below hb4);have HDR4:=Xa (HDR3.out.below hb4);have Hf4:=Xa (Xi hb4 Hf3.out);obtain⟨q,hq⟩:∃q,mo.xs.any (fun b => !Xq b)=q:=⟨_,rfl⟩
 have Hq:=Xa hq;rw[hq];clear hb4 HB3 HDB3 HDR3 Hf3 HO hq;cases q;rotate_left
 ·have hn:=Xby false 330 w4 rfl
  have HN:=Xa hn
  have hE:Hid (Vk s.xs mo.xs k=330):=by
   show _=_;unfold Vk Qv;rw[if_pos];have h:=Hq.out;rw[V4] at h;rw[show mo.xs.all Xq=false from by simpa using h,Bool.and_false]
  clear hn hw;go_wp2_with fail
  refine HN.out.mono ?_;rintro e w5 ⟨rfl,rfl⟩;exact Z6 HDR4.out (by decide) (fun W h=>by simp[results,Tryz.results51,go_sem,Xe h.t,Xe h.n,Xe h.e]) (Qd (He0.out _ hE.out (by decide)) (by decide) (Z5 HB4.out (Nat.le_refl _)))
 have Hwd:Hid (Qv mo.xs=true):=by
  show _=_;unfold Qv;have h:=Hq.out;rw[V4] at h;rw[decide_eq_true hw,show mo.xs.all Xq=true from by simpa using h];rfl
 have hn:=Xel true 330 w4 rfl;have HN:=Xa hn;clear hn;go_wp2_with fail
 refine HN.out.mono ?_;rintro e w5 ⟨rfl,rfl⟩;clear HN;go_wp2_with fail
 refine Xm fun Q8 hQ8=>?_;by_cases hk1:0<=k/\k<=3
 rotate_left
 ·have hn:=Xby false 1 w4 rfl
  have HN:=Xa hn;have hE:Hid (Vk s.xs mo.xs k=1):=by show _=_;unfold Vk;rw[if_neg (by rw[Hwd.out];simp),if_pos (by omega)]
  clear hn;by_cases hk2:0<=k
  ·have k2:decide (0<=k)=true:=decide_eq_true hk2
   have k3:decide (k<=3)=false:=decide_eq_false (by omega);clear hk1;go_wp2_with fail
   refine HN.out.mono ?_;rintro e w5 ⟨rfl,rfl⟩;exact Z6 HDR4.out (by decide) (fun W h=>by simp[results,Tryz.results51,go_sem,Xe h.t,Xe h.n,Xe h.e]) (Qd (He0.out _ hE.out (by decide)) (by decide) (Z5 HB4.out (Nat.le_refl _)))
  ·have k2:decide (0<=k)=false:=decide_eq_false hk2
   clear hk1;go_wp2_with fail
   refine HN.out.mono ?_;rintro e w5 ⟨rfl,rfl⟩;exact Z6 HDR4.out (by decide) (fun W h=>by simp[results,Tryz.results51,go_sem,Xe h.t,Xe h.n,Xe h.e]) (Qd (He0.out _ hE.out (by decide)) (by decide) (Z5 HB4.out (Nat.le_refl _)))
 obtain⟨hk2,hk3⟩:=hk1;have k2:decide (0<=k)=true:=decide_eq_true hk2;have k3:decide (k<=3)=true:=decide_eq_true hk3;have hn:=Xel true 1 w4 rfl;have HN:=Xa hn;clear hn;go_wp2_with fail
 refine HN.out.mono ?_;rintro e w5 ⟨rfl,rfl⟩;clear HN;go_wp2_with fail
 refine Xm fun Q9 hQ9=>?_;obtain⟨K,hK⟩:∃K,kkN s.xs.length k=K:=⟨_,rfl⟩
 have hKm:min k (16-(s.xs.length:Int))=(K:Int):=by rw[<- hK];unfold kkN;omega
 have hK3:K<=3:=by omega
 have HK:=Xa hK;go_wp2_with fail
 try rw[hKm]
 have hKn:s.xs.length+K<=16:=by omega
 clear hKm hK k2 k3;refine Xm fun Q10 hQ10=>?_;go_wp2_with fail
 refine Uq ?_;refine Xm fun Q11 hQ11=>?_;go_wp2_with fail
 refine Ur ?_;go_wp2_with fail
 go_loopw [21,22,55] (fun av ov iv wr=>∃j a o:Nat,j<=K+1/\av = .int .i64 a/\ov = .int .i64 o/\iv = .int .i64 j/\wr=w4/\Hid (a=sumP mo.xs.length j/\o=mo.xs.length ^ j)/\Hid (a<=256)) (fun _ _ iv _=>K+1-(intOf iv).toNat)
 case atStart=>exact⟨0,0,1,Nat.zero_le _,rfl,rfl,rfl,rfl,⟨rfl,rfl⟩,by show 0<=256;omega⟩
 case round =>
  obtain⟨j,a,o,hj,rfl,rfl,rfl,rfl,Hao,Ha⟩:=hrel;by_cases hjl:j<K+1
  ·have hsum:sumP mo.xs.length (j+1)=a+o:=by rw[Hao.out.1,Hao.out.2];rfl
   have ho:o<=256\/¬a+o<=256:=(by omega);have hao:((a:Int)+(o:Int))=((a+o:Nat):Int):=by push_cast;rfl
   have ho4:o<=16777216:=by
    rw[Hao.out.2];have h1:mo.xs.length ^ j<=256 ^ j:=Nat.pow_le_pow_left hw j;have h2:(256:Nat) ^ j<=256 ^ 3:=Nat.pow_le_pow_right (by omega) (by omega);omega
   have ha2:=Ha.out;by_cases hs2:a+o<=256
   rotate_left
   ·have k4:decide ((a:Int)+(o:Int)<=256)=false:=decide_eq_false (by omega)
    have hwr:IntKind.i64.wrap ((a:Int)+(o:Int))=(a:Int)+(o:Int):=IntWalk.i64_in _ (by omega);have hn:=Xby false 2 wr rfl;have HN:=Xa hn
    have hE:Hid (Vk s.xs mo.xs k=2):=by
     show _=_;unfold Vk;rw[if_neg (by rw[Hwd.out];simp),if_neg (by omega),if_pos];rw[HK.out];have:=Xcs mo.xs.length (show j+1<=K+1 by omega);omega
    clear hn hao ho hsum hwr;go_wp2_with fail
    refine HN.out.mono ?_;rintro e w5 ⟨rfl,rfl⟩;exact Z6 HDR4.out (by decide) (fun W h=>by simp[results,Tryz.results51,go_sem,Xe h.t,Xe h.n,Xe h.e]) (Qd (He0.out _ hE.out (by decide)) (by decide) (Z5 HB4.out (Nat.le_refl _)))
   have k4:decide ((a:Int)+(o:Int)<=256)=true:=decide_eq_true (by omega);have hn:=Xel true 2 wr rfl;have HN:=Xa hn;have homl:((o:Int)*(mo.xs.length:Int))=((o*mo.xs.length:Nat):Int):=(by push_cast;rfl);have hom:o*mo.xs.length<=65536:=Nat.mul_le_mul (show o<=256 by omega) hw;have Hs:=Xa hsum;have Hom:=Xa homl;have Hsa:=Xa hao;have homi:(o:Int)*(mo.xs.length:Int)<=65536:=(by omega);have homj:0<=(o:Int)*(mo.xs.length:Int):=(by omega);clear hn hsum ho hao homl;go_wp2_with fail
   refine HN.out.mono ?_;rintro e w5 ⟨rfl,rfl⟩;clear HN;go_wp2_with fail
   go_roundw
   case rel=>exact⟨j+1,a+o,o*mo.xs.length,by omega,by rw[Hsa.out],by rw[Hom.out],by go_num,by first|rfl|trivial,⟨Hs.out.symm,by rw[Hao.out.2,Nat.pow_succ]⟩,hs2⟩
   case measure=>simp[intOf];omega
  ·obtain rfl:j=K+1:=by omega
   have Hsm:Hid (sumP mo.xs.length (K+1)<=256):=(by show _<=_;rw[<- Hao.out.1];exact Ha.out);clear Hao Ha;go_wp2_with fail
   obtain⟨W5,hW5⟩:∃W5,wr.alloc (.cells #[.slice none 0 0] 86)=W5:=⟨_,rfl⟩
   refine Xm fun Q12 hQ12=>?_;go_wp2_with fail
   refine Uq ?_;refine Xm fun Q13 hQ13=>?_;go_wp2_with fail
   refine Zl ?_;have hb5:=X5 hW5;have hbx5:=Yg hW5;have HB5:=Xa (Xb HB4.out hb5);have HDB5:=Xa (HDB4.out.below hb5);have HDR5:=Xa (HDR4.out.below hb5);have Hf5:=Xa (Xi hb5 Hf4.out);have hlt5:=Xd hbx5;have hwn:w.heap.size<=wr.heap.size:=HB4.out.size
   have hmore:Hid (Vk s.xs mo.xs k=0):=by
    show _=_;unfold Vk;rw[if_neg (by rw[Hwd.out];simp),if_neg (by omega),if_neg (by rw[HK.out];have:=Hsm.out;omega)]
   have hS0:LsSt w W5 wr.heap.size ((Y7 s.xs mo.xs 0).map fun c=>(trE g l lang c t u).1) W5:=⟨rfl,rfl,rfl,Nat.le_refl _,fun _ _ _=>rfl,⟨.slice none 0 0,hbx5,[],OwnL.nil _ _ _ _ _,rfl,fun x hx=>by cases hx⟩,HB5.out⟩
   have HS0:=Xa hS0;have Hb8:=Xa (Xd Hf4.out);clear hW5 hb5 hbx5 hS0 HB4 HDB4 HDR4 Hf4;refine Xl8 (DrInv g l lang t u s mo w W5 wr.heap.size W1.heap.size K) (fun a _=>K+1-(intOf (a.tmps.getD 70 undef)).toNat) ?_ (fun a wj hI=>?_)
   ·exact⟨[],0,rfl,Nat.zero_le _,HS0.out,(fun c hc=>(by cases hc)),List.nodup_nil,(fun D hD=>(by cases hD))⟩
   obtain⟨Ds,j,ha,hj,hS,hok,hnd,hDs⟩:=hI;generalize (fun n=>a.tmps.getD n undef)=uu at ha;subst ha;unfold drF;by_cases hlt:j<K+1
   rotate_left
   ·obtain rfl:j=K+1:=by omega
    have k6:decide (((K+1:Nat):Int)<(K:Int)+1)=false:=decide_eq_false (by omega);obtain⟨vL,hbx,LL,hro,hx,hgr⟩:=hS.ls;obtain⟨AL,cL,rfl,hrd,hnilL⟩:=hro.form (by decide);have hszS:=hS.size
    have hrows:∀y∈LL,y.xs.length<=1000000:=fun y hy=>by
     have h1:tgL y∈LL.map tgL:=List.mem_map_of_mem hy;rw[hx] at h1;obtain⟨c,_,hc⟩:=List.mem_map.1 h1;have h2:=tr_len g l lang c t u;have h3:=congrArg List.length hc;unfold tgL at h3;rw[List.length_map] at h3;omega
    have hlen:LL.length=(Y7 s.xs mo.xs (K+1)).length:=by
     have:=congrArg List.length hx
     simpa using this
    have hlen2:LL.length<=100000000:=by
     rw[hlen,Xcb,List.length_append];have:=Xl0 (ws:=s.xs) hw hK3;omega
    have hB0:Below w.heap.size w wj:=hS.low;have HCl:Hid (∀U,Below wj.heap.size wj U->U.cell? ⟨wr.heap.size,0,none⟩=some (.slice AL LL.length cL)):=fun U hU=>Xe (Xi hU hbx);have HBe:Hid (∀U,Below wj.heap.size wj U->Calls Tryz.prog 109 #[.func (.func 110) #[] #[],.slice AL LL.length cL] U (Xqh U (Yl (LL.map tgL)) (InL LL))):=fun U hU=>Xc0 AL cL LL U (hrd.ext hU) (by omega) fun y hy=>⟨((hgr y hy).ext hU).tgs,hrows y hy⟩
    have hDRj:DrR wj w.heap.size (.slice none 0 0) (.int .i64 0) (.int .i64 0):=HDR5.out.over fun i h1 h2=>hS.keep i (by have:=Xd HDR5.out.e;omega) (by have:=Hz1.out;have:=Hb8.out;omega);have HFin:Hid (∀(U0 U:World) (A9:Option Addr) (c9:Nat) (L9:List TgG),Below wj.heap.size wj U0->Below U0.heap.size U0 U->OwnL TgG.cells 75 3 U U0.heap.size (.slice A9 L9.length c9) L9->(∀x∈L9,InL LL x)->_):=fun U0 U A9 c9 L9 h0 hU ho hi=>Xva LL.length hS HDR5.out Hz1.out Hb8.out hbx hgr hDs h0 hU ho hi;have hE0:=Xvb Hz.out hmore.out (by rw[HK.out];exact hok)
    have hpost:Hid (∀(A9:Option Addr) (c9:Nat) (L9:List TgG) (V:World),L9.map TgG.c=Yl (LL.map tgL)->Below w.heap.size w V->RowF W5.heap.size V ⟨A9,c9,L9⟩->Xez g l lang s.xs mo.xs k t u w (.returned (.tuple #[.slice A9 L9.length c9,.int .i64 (LL.length:Int),.int .i64 0])) V):=fun A9 c9 L9 V h1 h2 h3=>by
     refine⟨h2,A9,c9,L9,?_,?_,h3.tgs⟩
     ·rw[hE0,Xkx hE0,HK.out,hlen]
      unfold Y7;rw[List.length_map,Qs]
     ·rw[Ux hE0,h1,hx,Xnd,HK.out]
    have HDs:=Xa hDs;have HB0:=Xa hB0;clear hS hok hDs hro hrd hbx hgr hx hB0 hDRj hlen hE0 hrows;refine Xm fun Q14 hQ14=>?_;go_wp2_with fail
    refine Xm fun Q15 hQ15=>?_;go_wp2_with fail
    refine Ur ?_;go_wp2_with fail
    refine wpIn_wide (n:=0) |>.1 ?_
    refine Xdw (fun (v:Value) a=>((((a.put (some 86) (.slice AL LL.length cL)).put (some 87) v).put (some 88) (.slice AL LL.length cL)).put (some 89) (.int .i64 (LL.length:Int)))) (fun v V=>∃(A9:Option Addr) (c9:Nat) (L9:List TgG),v = .slice A9 L9.length c9/\L9.map TgG.c=Yl (LL.map tgL)/\DrEnd w W5 LL.length Ds A9 c9 L9 V) ?_ ?_
    ·refine Xn (fun U=>U.cell? ⟨wr.heap.size,0,none⟩=some (.slice AL LL.length cL)) (by kernel_rfl) ?_
     refine Xc (i:=0) (hy:=fun V hV=>(by have r1:=hV;go_simp<;>rfl)) ?_;refine Xc (i:=2) (hy:=fun V hV=>(by have r1:=hV;go_simp<;>rfl)) ?_;refine Xc (i:=3) (hy:=fun V hV=>(by have r1:=hV;go_simp<;>rfl)) ?_;refine Xh (i:=1) (HCl.out _ bd_q) fun K hK=>?_;go_simp
     first|refine⟨trivial,rfl,callsIn_wide.2 ((HBe.out _ bd_q).mono ?_)⟩|refine callsIn_wide.2 ((HBe.out _ bd_q).mono ?_)
     rintro e1 U1 ⟨A9,c9,L9,rfl,hl9,_,ho9,hi9,hb9⟩;refine hK _ _ ?_;clear hK K;obtain⟨c5,f5,c6,f6,c7,f7,k0,k1,k2,k3,hend⟩:=HFin.out _ U1 A9 c9 L9 bd_q hb9 ho9 hi9;have Hend:=Xa hend;clear hend ho9 hi9 hb9;refine Xh (i:=4) k0 fun K hK=>?_;go_simp
     refine hK _ _ ?_;clear hK K;refine Xh (i:=5) k1 fun K hK=>?_;go_simp
     refine hK _ _ ?_;clear hK K;refine Xh (i:=6) k2 fun K hK=>?_;go_simp
     refine hK _ _ ?_;clear hK K;exact Xk k3 (by kernel_rfl) ⟨_,rfl,A9,c9,L9,rfl,hl9,Hend.out⟩ _
    ·rintro v V ⟨A9,c9,L9,rfl,hl9,hrow,hBV,hDV,hmV⟩
     have Hrow:=Xa hrow;have HBV:=Xa hBV;have HDV:=Xa hDV;have HmV:=Xa hmV;clear hrow hBV hDV hmV;simp only[Act.put];go_wp2_with fail
     show LeavesInM Fence.wide 0 Tryz.prog Tryz.f51 _ _ (Ds.map colD++drD w.heap.size) .returning V;have hb5:=HB5.out.size;refine Qt (fun h=>by cases h) Ds V HmV.out hnd (fun V' z1 z2 z3 z4 z5=>?_);exact Xob (HDV.out.over fun i h1 h2=>z5 i fun hm=>by have:=(HDs.out i hm).1;have:=Hz1.out;have:=Hb8.out;omega) (fun W h=>by simp[results,Tryz.results51,go_sem,Xe h.t,Xe h.n,Xe h.e]) (hpost.out A9 c9 L9 V' hl9 (Xgm HBV.out (fun E hE=>Nat.le_trans hb5 (HDs.out E hE).1) z1 z2 z3 z4 z5) (Hrow.out.over fun i cs tt fr hc hG _=>⟨z5 i fun hm=>(by have h9:=HmV.out i hm;rw[hc] at h9;cases h9),hG⟩))
   have k6:decide ((j:Int)<(K:Int)+1)=true:=decide_eq_true (by omega);refine Xm fun Q14 hQ14=>?_;go_wp2_with fail
   refine Xm fun Q15 hQ15=>?_;go_wp2_with fail
   refine Uq ?_;refine Zl ?_;refine Xm fun Q16 hQ16=>?_;go_wp2_with fail
   refine Xm fun Q17 hQ17=>?_;have hC:=Xu6 s mo j wj (hs.ext hS.low) (by omega);have HC:=Xa hC;have HS:=Xa hS;have HD:=Xa hDs;have Hok:=Xa hok;clear hC hS hDs hok;go_wp2_with fail
   refine HC.out.mono ?_;intro e Wc hcp;have hcp0:=hcp;obtain⟨v0,hbx0,LL0,hro0,hx0,hg0⟩:=HS.out.ls;have hbwc:Below wj.heap.size wj Wc:=(by obtain⟨_,_,_,_,_,_,_,_,h⟩:=hcp0;exact h);have hszw:=HS.out.size;have hszc:=hbwc.size;have hr0:=fun g hg=>hro0.lt g hg;have hn0j:=Xd hbx0
   obtain⟨N,rfl,M,hM,hit⟩:=cont2 hcp (hmo.ext HS.out.low) (by omega) (R:=fun b=>b<Wc.heap.size/\b≠wr.heap.size/\v0.ownBlock≠some b) (fun b hb=>hb.1) (fun b h1 h2=>⟨h2,by omega,fun e=>by have:=(hr0 b e).2;omega⟩) (fun b off hA hx=>by
    rcases hmo.rd with h|⟨b',off',he,hlt',_⟩
    ·exact absurd (by unfold strs at h;exact List.map_eq_nil_iff.1 h) hx
    ·rw[hA] at he
     cases he;exact⟨by have:=HB5.out.size;omega,by omega,fun e=>by have:=(hr0 _ e).1;omega⟩)
   have Hit:=Xa hit;have HM:=Xa hM;have Hcp0:=Xa hbwc;clear hcp hcp0 hit hM hbwc HC;go_wp2_with fail
   refine Zl ?_
   refine Xx1 (xs:=genL mo.xs j s.xs) (M:=M) (R:=fun b=>b<Wc.heap.size/\b≠wr.heap.size/\v0.ownBlock≠some b) (w0:=Wc) (Enc:=EncS) Tryz.func51 rfl (enters_of Tryz.func175 (by kernel_rfl) rfl) Hit.out (fun b hb=>⟨hb.1,rfl⟩) (fun x vs V ⟨_,_,h,_⟩=>by rw[h];rfl)
    (LsI Wc W5.heap.size wr.heap.size M v0.ownBlock (fun c=>(trE g l lang c t u).1) (fun c=>Xz g l lang c t u=0) ((Y7 s.xs mo.xs j).map fun c=>(trE g l lang c t u).1)) (fun _ _ _ _=>False) (LsP g l lang t u s.xs mo.xs k Wc wr.heap.size M v0.ownBlock) LsI.stable (fun _ _ _ _ _ h _=>h)
    (fun b=>b=wr.heap.size\/v0.ownBlock=some b) ?_ ?_
    (fun x a' own pre V=>∃v,EncS x #[v] V/\a'={tmps:=drG s mo w.heap.size W1.heap.size wr.heap.size K uu j (.func (.func 175) #[] #[.pointer (some ⟨N+1,0,none⟩),.pointer (some ⟨wj.heap.size+1,0,none⟩)]) v,defers:=[]}/\LsI Wc W5.heap.size wr.heap.size M v0.ownBlock (fun c=>(trE g l lang c t u).1) (fun c=>Xz g l lang c t u=0) ((Y7 s.xs mo.xs j).map fun c=>(trE g l lang c t u).1) own pre V) ?_ ?_ ?_ ?_ ?_ ?_
   ·rintro b (rfl|h)
    ·exact⟨by omega,fun h=>h.2.1 rfl⟩
    ·exact⟨by have:=(hr0 b h).2;omega,fun h2=>h2.2.2 h⟩
   ·exact⟨rfl,rfl,rfl,Nat.le_refl _,fun _ _ _ _ _=>rfl,.inl rfl,(fun c hc=>(by cases hc)),v0,fun b hb=>⟨.inr hb,.inl hb⟩,(Hcp0.out.block _ hn0j).trans hbx0,LL0,hro0.ext Hcp0.out,by rw[List.map_nil,List.append_nil];exact hx0,fun y hy=>(hg0 y hy).over fun b _ _ _ hc hG _=>⟨Hcp0.out.block b (Xd hc),hG,.inr ⟨by have:=Xd hc;omega,fun hm=>by have:=HM.out b hm;have:=Xd hc;omega⟩⟩⟩
   ·rintro x a' own pre P Q ⟨v,hv,ha,hw2⟩ ⟨q,hq,h1,h2,h3,h4,ho,⟨Lp,h6⟩,h7⟩
    exact⟨v,Xvc hv h4 h6 h7,ha,hw2.loop h1 h2 h3 h4 h6 hq ho h7⟩
   ·rintro lq own pre x vs V hW hEnc hl1 hl2 ho hpre
    have hlv:∀b,own b->b<V.heap.size:=fun b hb=>(ho b hb).2.1;have hEnc2:=hEnc;obtain⟨Ad,cpe,rfl,_⟩:=hEnc2;refine wpIn_mono (Q:=Exit.then (fun a' W'=>∃own',BodyStep own own' V W'/\∃v,EncS x #[v] W'/\a'={tmps:=drG s mo w.heap.size W1.heap.size wr.heap.size K uu j (.func (.func 175) #[] #[.pointer (some ⟨N+1,0,none⟩),.pointer (some ⟨wj.heap.size+1,0,none⟩)]) v,defers:=[]}/\LsI Wc W5.heap.size wr.heap.size M v0.ownBlock (fun c=>(trE g l lang c t u).1) (fun c=>Xz g l lang c t u=0) ((Y7 s.xs mo.xs j).map fun c=>(trE g l lang c t u).1) own' pre W') (fun _ _ _=>False)) ?_ (fun e a w h=>h);have HEn:=Xa hEnc;have HWn:=Xa hW;clear hEnc hW;rw[Xzd];show Code.wpIn (Fence.wide.inRound lq) 0 Tryz.prog _ _ {tmps:=(drG s mo w.heap.size W1.heap.size wr.heap.size K uu j (.func (.func 175) #[] #[.pointer (some ⟨N+1,0,none⟩),.pointer (some ⟨wj.heap.size+1,0,none⟩)]) (.slice Ad x.length cpe)).setIfInBounds 25 (uu 25),defers:=[]} V;simp only[drG,List.setIfInBounds_toArray,List.set_cons_succ,List.set_cons_zero];gi_wp2
    exact⟨own,BodyStep.refl hlv,_,HEn.out,rfl,HWn.out⟩
   ·rintro lq own pre x a' V ⟨v,hEnc,rfl,hW⟩ hl1 hl2 ho hpre
    have hlv:∀b,own b->b<V.heap.size:=fun b hb=>(ho b hb).2.1;have hSt:=hW.done HS.out Hcp0.out HM.out (fun g hg=>(hr0 g hg).1) hwn HB5.out.size;obtain⟨Ad,cpe,hve,hlE,_⟩:=hEnc;obtain rfl:v = .slice Ad x.length cpe:=by simpa using hve
    have hxl:x.length<=1000000:=by
     have h1:=hpre.subset (show x∈pre++[x] by simp);rw[Xef] at h1;obtain⟨d,hd,rfl⟩:=List.mem_map.1 h1;have:=((Qz mo.xs j d).1 hd).1;rw[List.length_append];omega
    have hVz:=hSt.size;have hcn:=hSt.ls;obtain⟨v2,hv2,hbx2,LL2,hro2,hx2,hg2⟩:=hW.ls;have HCn:Hid (∀U,Below V.heap.size V U->U.cell? ⟨wr.heap.size,0,none⟩=some v2):=fun U hU=>Xe (Xi hU hbx2);have hf8V:=(hSt.keep W1.heap.size (by have:=Hb8.out;omega) (by have:=Hb8.out;omega)).trans Hf5.out;have HC8:Hid (∀U,Below V.heap.size V U->U.cell? ⟨W1.heap.size,0,none⟩=some (.func (.func 114) #[] #[.pointer (some ⟨w.heap.size,0,none⟩),.pointer (some ⟨w.heap.size+1,0,none⟩),.pointer (some ⟨w.heap.size+1+1,0,none⟩),.pointer (some ⟨w.heap.size+1+1+1,0,none⟩),.pointer (some ⟨w.heap.size+1+1+1+1,0,none⟩)])):=fun U hU=>Xe (Xi hU hf8V);have hDBV:DrB V w.heap.size g A cp l lang t u:=HDB5.out.keep fun i h1 h2=>hSt.keep i (by have:=Hz1.out;have:=Hb8.out;omega) (by have:=Hz1.out;have:=Hb8.out;omega);have HTrs:Hid (∀(Ac:Option Addr) (cc:Nat) (U:World),Below V.heap.size V U->StrS.lies U ⟨Ac,cc,x⟩->Calls Tryz.prog 114 #[.slice Ac x.length cc,.pointer (some ⟨w.heap.size,0,none⟩),.pointer (some ⟨w.heap.size+1,0,none⟩),.pointer (some ⟨w.heap.size+1+1,0,none⟩),.pointer (some ⟨w.heap.size+1+1+1,0,none⟩),.pointer (some ⟨w.heap.size+1+1+1+1,0,none⟩)] U (Xnp g l lang x t u U)):=fun Ac cc U hU hlc=>Xp2 w.heap.size g A cp l lang ⟨Ac,cc,x⟩ t u U (hDBV.below hU) (hT.ext (Xb hSt.low hU)) (hg.ext (Xb hSt.low hU)) hgs (hr.ext (Xb hSt.low hU)) hm hlc;have HCl:=Xa (Xf7 Ad cpe x V.drew (by rw[Tb];exact(StrS.lies.ext hlE bd_q).rd) hlE.nil hxl);have Hpre:=Xa hpre;have HWo:=Xa hW.ok;have Hjl:Hid (j<K+1):=hlt;have hkeepW:=hW.keep;have Hmeta:=Xa (And.intro hW.os (And.intro hW.tape (And.intro hW.output hW.size)));unfold drG;by_cases hxe:Xz g l lang x t u=0
    rotate_left
    ·have Hxe:=Xa hxe
     have HPan:Hid (∀U,Below V.heap.size V U->LsP g l lang t u s.xs mo.xs k Wc wr.heap.size M v0.ownBlock (Ud (Xz g l lang x t u)) U):=fun U hU=>⟨_,Hxe.out,rfl,Xy3 Hz.out hmore.out (by rw[HK.out];exact Hjl.out) Hok.out Hpre.out HWo.out Hxe.out,hU.os.trans Hmeta.out.1,hU.tape.trans Hmeta.out.2.1,hU.output.trans Hmeta.out.2.2.1,Nat.le_trans Hmeta.out.2.2.2 hU.size,fun b h1 h2 h3 h4=>(hU.block b (by have:=Hmeta.out.2.2.2;omega)).trans (hkeepW b h1 h2 h3 h4)⟩
     have Hlv:=Xa hlv;clear hxe hlv hkeepW hW hSt hDBV hf8V hlE hcn hbx2 hro2 hx2 hg2 hv2 hpre;gi_wp2_with fail
     refine Xg4 2 (fun ch U=>Below V.heap.size V U/\LsP g l lang t u s.xs mo.xs k Wc wr.heap.size M v0.ownBlock ch U) ?_ ?_;rotate_left
     ·rintro ch a' U ⟨hd,_⟩ ⟨hbU,hp⟩
      exact⟨hd,⟨own,BodyStep.grow hbU Hlv.out⟩,hp⟩
     refine Vg (fun U=>U.cell? ⟨W1.heap.size,0,none⟩=some (.func (.func 114) #[] #[.pointer (some ⟨w.heap.size,0,none⟩),.pointer (some ⟨w.heap.size+1,0,none⟩),.pointer (some ⟨w.heap.size+1+1,0,none⟩),.pointer (some ⟨w.heap.size+1+1+1,0,none⟩),.pointer (some ⟨w.heap.size+1+1+1+1,0,none⟩)])) (by kernel_rfl) (by kernel_rfl) ?_;refine Xc (i:=1) (hQ:=fun _ _ _ h=>h.put (by kernel_rfl)) (hy:=fun V hV=>(by have r1:=hV;go_simp<;>rfl)) ?_;refine Xc (i:=2) (hQ:=fun _ _ _ h=>h.put (by kernel_rfl)) (hy:=fun V hV=>(by have r1:=hV;go_simp<;>rfl)) ?_;refine Xl (rs:=[0,3]) (HC8.out _ bd_q) (by kernel_rfl) (by simp) (AllC.cons rfl (fun K hK=>?_) (AllC.cons rfl (fun K hK=>?_) AllC.nil))
     ·have r0:=HCn.out _ bd_q
      go_simp
      refine hK _ _ ?_;clear hK K r0;refine Xl (rs:=[3]) (HC8.out _ bd_q) (by kernel_rfl) (by simp) (AllC.cons rfl (fun K hK=>?_) AllC.nil);go_simp
      refine⟨trivial,rfl,callsIn_wide.2 (HCl.out.mono ?_)⟩;rintro e1 U1 ⟨vc,rfl,hoc,hbc⟩;refine hK _ _ ?_;clear hK K;obtain⟨Ac,cc,rfl,hlc⟩:=Xiw hoc;have hb1:=Xb (Xr (Below.refl V.heap.size V)) hbc;have HTr:=HTrs.out Ac cc U1 hb1 hlc;refine Xl (rs:=[4]) (HC8.out _ hb1) (by kernel_rfl) (by simp) (AllC.cons rfl (fun K hK=>?_) AllC.nil);go_simp
      refine⟨trivial,rfl,callsIn_wide.2 (HTr.mono ?_)⟩;rintro e2 U2 ⟨hbt,⟨h9,_⟩|⟨_,rfl⟩⟩
      ·exact absurd h9 Hxe.out
      ·exact⟨_,rfl,KeepF.of_take rfl rfl,Xb hb1 hbt,HPan.out U2 (Xb hb1 hbt)⟩
     ·go_simp
      refine⟨trivial,rfl,callsIn_wide.2 (HCl.out.mono ?_)⟩;rintro e1 U1 ⟨vc,rfl,hoc,hbc⟩;refine hK _ _ ?_;clear hK K;obtain⟨Ac,cc,rfl,hlc⟩:=Xiw hoc;have hb1:=Xb (Xr (Below.refl V.heap.size V)) hbc;have HTr:=HTrs.out Ac cc U1 hb1 hlc;refine Xl (rs:=[0,4]) (HC8.out _ hb1) (by kernel_rfl) (by simp) (AllC.cons rfl (fun K hK=>?_) (AllC.cons rfl (fun K hK=>?_) AllC.nil))
      ·have r0:=HCn.out _ hb1
       go_simp
       refine hK _ _ ?_;clear hK K r0;refine Xl (rs:=[4]) (HC8.out _ hb1) (by kernel_rfl) (by simp) (AllC.cons rfl (fun K hK=>?_) AllC.nil);go_simp
       refine⟨trivial,rfl,callsIn_wide.2 (HTr.mono ?_)⟩;rintro e2 U2 ⟨hbt,⟨h9,_⟩|⟨_,rfl⟩⟩
       ·exact absurd h9 Hxe.out
       ·exact⟨_,rfl,KeepF.of_take rfl rfl,Xb hb1 hbt,HPan.out U2 (Xb hb1 hbt)⟩
      ·go_simp
       refine⟨trivial,rfl,callsIn_wide.2 (HTr.mono ?_)⟩;rintro e2 U2 ⟨hbt,⟨h9,_⟩|⟨_,rfl⟩⟩
       ·exact absurd h9 Hxe.out
       ·exact⟨_,rfl,KeepF.of_take rfl rfl,Xb hb1 hbt,HPan.out U2 (Xb hb1 hbt)⟩
    have HPush:Hid (∀(U:World) (A9:Option Addr) (c9:Nat) (L9:List TgG),Below V.heap.size V U->RowF V.heap.size U ⟨A9,c9,L9⟩->L9.map TgG.c=(trE g l lang x t u).1->∃A3 c3 V3,(Builtin.append_ #[86,86] 86 #[v2,.slice (some ⟨U.heap.size,0,none⟩) 1 1]).run Tryz.prog (U.alloc (.cells #[.slice A9 L9.length c9] 65)) = .ok (.slice A3 (LL2.length+1) c3) V3/\(∃own',BodyStep own own' V (V3.setCell ⟨wr.heap.size,0,none⟩ (.slice A3 (LL2.length+1) c3))/\LsI Wc W5.heap.size wr.heap.size M v0.ownBlock (fun c=>(trE g l lang c t u).1) (fun c=>Xz g l lang c t u=0) ((Y7 s.xs mo.xs j).map fun c=>(trE g l lang c t u).1) own' (pre++[x]) (V3.setCell ⟨wr.heap.size,0,none⟩ (.slice A3 (LL2.length+1) c3)))/\V3.cell? ⟨W1.heap.size,0,none⟩=some (.func (.func 114) #[] #[.pointer (some ⟨w.heap.size,0,none⟩),.pointer (some ⟨w.heap.size+1,0,none⟩),.pointer (some ⟨w.heap.size+1+1,0,none⟩),.pointer (some ⟨w.heap.size+1+1+1,0,none⟩),.pointer (some ⟨w.heap.size+1+1+1+1,0,none⟩)])/\V3.cell? ⟨wr.heap.size,0,none⟩=some v2/\V3.frozen? ⟨wr.heap.size,0,none⟩=false/\(V3.setCell ⟨wr.heap.size,0,none⟩ (.slice A3 (LL2.length+1) c3)).cell? ⟨W1.heap.size,0,none⟩=some (.func (.func 114) #[] #[.pointer (some ⟨w.heap.size,0,none⟩),.pointer (some ⟨w.heap.size+1,0,none⟩),.pointer (some ⟨w.heap.size+1+1,0,none⟩),.pointer (some ⟨w.heap.size+1+1+1,0,none⟩),.pointer (some ⟨w.heap.size+1+1+1+1,0,none⟩)])):=by
     refine Xa fun U A9 c9 L9 hU hRow hc9=>?_;have hb2:Below V.heap.size V (U.alloc (.cells #[.slice A9 L9.length c9] 65)):=Xb hU ba_q
     have hln:LL2.length<=40000000:=by
      have h1:=congrArg List.length hx2;have h2:=hpre.length_le;have h3:=Xl0 (ws:=s.xs) hw (j:=j) (by have:=Hjl.out;omega);simp only[List.length_map,List.length_append,List.length_singleton] at h1 h2;omega
     obtain⟨v3,V3,hrun,ho3,hg3,hat3⟩:=Xwz (hro2.ext hU) A9 c9 L9 (by have:=hU.size;have:=Hcp0.out.size;omega) hln;obtain⟨A3,c3,rfl,_⟩:=ho3.form (by decide);have hP:=hW.push hlv (by have:=HS.out.size;have:=Hcp0.out.size;omega) hv2 hbx2 hro2 hx2 hg2 hb2 (hRow.ext ba_q) hc9 hxe ho3 hg3 (hat3.imp id fun e=>⟨_,e,Nat.le_refl _⟩)
     have hlow:∀ {k:Nat} {v5:Value} {tt:Nat},V.heap[k]? = some (.cells #[v5] tt (0,0))->tt≠65->V3.heap[k]? = some (.cells #[v5] tt (0,0)):=fun {k v5 tt} hk hne=>(hg3.block k (Nat.lt_of_lt_of_le (Xd hk) hb2.size) fun e=>by
      obtain⟨cur,h9⟩:=OwnL.kind hro2 e.symm;rw[hk] at h9;simp only[Option.some.injEq,Obj.cells.injEq] at h9;exact hne h9.2.1).trans ((hb2.block k (Xd hk)).trans hk)
     have h8:=hlow hf8V (by decide);have h9:=hlow hbx2 (by decide);rw[List.length_append] at hrun hP;exact⟨A3,c3,V3,hrun,hP,Xe h8,Xe h9,Xf h9 0,Xe ((Below.heap_setCell _ _ _ _ (Nat.ne_of_lt Hb8.out)).trans h8)⟩
    have Hxe:=Xa hxe;clear hxe hlv hkeepW hW hSt hDBV hf8V hlE hcn hbx2 hro2 hx2 hg2 hv2 hpre;gi_wp2_with fail
    refine Yz (fun _ U=>∃own',BodyStep own own' V U/\LsI Wc W5.heap.size wr.heap.size M v0.ownBlock (fun c=>(trE g l lang c t u).1) (fun c=>Xz g l lang c t u=0) ((Y7 s.xs mo.xs j).map fun c=>(trE g l lang c t u).1) own' (pre++[x]) U) ?_ (fun _ _ h=>h);refine Vg (fun U=>U.cell? ⟨W1.heap.size,0,none⟩=some (.func (.func 114) #[] #[.pointer (some ⟨w.heap.size,0,none⟩),.pointer (some ⟨w.heap.size+1,0,none⟩),.pointer (some ⟨w.heap.size+1+1,0,none⟩),.pointer (some ⟨w.heap.size+1+1+1,0,none⟩),.pointer (some ⟨w.heap.size+1+1+1+1,0,none⟩)])) (by kernel_rfl) (by kernel_rfl) ?_;refine Xc (i:=1) (hy:=fun V hV=>(by have r1:=hV;go_simp<;>rfl)) ?_;refine Xc (i:=2) (hy:=fun V hV=>(by have r1:=hV;go_simp<;>rfl)) ?_;refine Xl (rs:=[0,3]) (HC8.out _ bd_q) (by kernel_rfl) (by simp) (AllC.cons rfl (fun K hK=>?_) (AllC.cons rfl (fun K hK=>?_) AllC.nil))
    ·have r0:=HCn.out _ bd_q
     go_simp
     refine hK _ _ ?_;clear hK K r0;refine Xl (rs:=[3]) (HC8.out _ bd_q) (by kernel_rfl) (by simp) (AllC.cons rfl (fun K hK=>?_) AllC.nil);go_simp
     refine⟨trivial,rfl,callsIn_wide.2 (HCl.out.mono ?_)⟩;rintro e1 U1 ⟨vc,rfl,hoc,hbc⟩;refine hK _ _ ?_;clear hK K;obtain⟨Ac,cc,rfl,hlc⟩:=Xiw hoc;have hb1:=Xb (Xr (Below.refl V.heap.size V)) hbc;have HTr:=HTrs.out Ac cc U1 hb1 hlc;refine Xl (rs:=[4]) (HC8.out _ hb1) (by kernel_rfl) (by simp) (AllC.cons rfl (fun K hK=>?_) AllC.nil);go_simp
     refine⟨trivial,rfl,callsIn_wide.2 (HTr.mono ?_)⟩;rintro e2 U2 ⟨hbt,⟨_,A9,c9,L9,rfl,hl9,hr9⟩|⟨h9,_⟩⟩;rotate_left
     ·exact absurd Hxe.out h9
     refine hK _ _ ?_;clear hK K;have hb2:=Xb hb1 hbt;refine Xl (rs:=[5]) (HC8.out _ hb2) (by kernel_rfl) (by simp) (AllC.cons rfl (fun K hK=>?_) AllC.nil);go_simp
     refine hK _ _ ?_;clear hK K;have hb3:=Xb hb2 (Xg (Below.refl U2.heap.size U2) (.cells #[.slice A9 L9.length c9] 65));obtain⟨A3,c3,V3,hrun,hfin3,hc83⟩:=HPush.out U2 A9 c9 L9 hb2 (hr9.over fun b _ _ _ _ hG _=>⟨rfl,Nat.le_trans hb1.size hG⟩) hl9;refine Xl (rs:=[6]) (HC8.out _ hb3) (by kernel_rfl) (by simp) (AllC.cons rfl (fun K hK=>?_) AllC.nil);refine Xt rfl _ _ _ rfl rfl rfl hrun (hK _ _ ?_);clear hK K;refine Xl (rs:=[7]) hc83.1 (by kernel_rfl) (by simp) (AllC.cons rfl (fun K hK=>?_) AllC.nil);have st1:=hc83.2.1;have st2:=hc83.2.2.1;go_simp
     refine hK _ _ ?_;clear hK K;refine Xk hc83.2.2.2 (by kernel_rfl) ?_ _;exact hfin3
    ·go_simp
     refine⟨trivial,rfl,callsIn_wide.2 (HCl.out.mono ?_)⟩;rintro e1 U1 ⟨vc,rfl,hoc,hbc⟩;refine hK _ _ ?_;clear hK K;obtain⟨Ac,cc,rfl,hlc⟩:=Xiw hoc;have hb1:=Xb (Xr (Below.refl V.heap.size V)) hbc;have HTr:=HTrs.out Ac cc U1 hb1 hlc;refine Xl (rs:=[0,4]) (HC8.out _ hb1) (by kernel_rfl) (by simp) (AllC.cons rfl (fun K hK=>?_) (AllC.cons rfl (fun K hK=>?_) AllC.nil))
     ·have r0:=HCn.out _ hb1
      go_simp
      refine hK _ _ ?_;clear hK K r0;refine Xl (rs:=[4]) (HC8.out _ hb1) (by kernel_rfl) (by simp) (AllC.cons rfl (fun K hK=>?_) AllC.nil);go_simp
      refine⟨trivial,rfl,callsIn_wide.2 (HTr.mono ?_)⟩;rintro e2 U2 ⟨hbt,⟨_,A9,c9,L9,rfl,hl9,hr9⟩|⟨h9,_⟩⟩;rotate_left
      ·exact absurd Hxe.out h9
      refine hK _ _ ?_;clear hK K;have hb2:=Xb hb1 hbt;refine Xl (rs:=[5]) (HC8.out _ hb2) (by kernel_rfl) (by simp) (AllC.cons rfl (fun K hK=>?_) AllC.nil);go_simp
      refine hK _ _ ?_;clear hK K;have hb3:=Xb hb2 (Xg (Below.refl U2.heap.size U2) (.cells #[.slice A9 L9.length c9] 65));obtain⟨A3,c3,V3,hrun,hfin3,hc83⟩:=HPush.out U2 A9 c9 L9 hb2 (hr9.over fun b _ _ _ _ hG _=>⟨rfl,Nat.le_trans hb1.size hG⟩) hl9;refine Xl (rs:=[6]) (HC8.out _ hb3) (by kernel_rfl) (by simp) (AllC.cons rfl (fun K hK=>?_) AllC.nil);refine Xt rfl _ _ _ rfl rfl rfl hrun (hK _ _ ?_);clear hK K;refine Xl (rs:=[7]) hc83.1 (by kernel_rfl) (by simp) (AllC.cons rfl (fun K hK=>?_) AllC.nil);have st1:=hc83.2.1;have st2:=hc83.2.2.1;go_simp
      refine hK _ _ ?_;clear hK K;refine Xk hc83.2.2.2 (by kernel_rfl) ?_ _;exact hfin3
     ·go_simp
      refine⟨trivial,rfl,callsIn_wide.2 (HTr.mono ?_)⟩;rintro e2 U2 ⟨hbt,⟨_,A9,c9,L9,rfl,hl9,hr9⟩|⟨h9,_⟩⟩;rotate_left
      ·exact absurd Hxe.out h9
      refine hK _ _ ?_;clear hK K;have hb2:=Xb hb1 hbt;refine Xl (rs:=[0,5]) (HC8.out _ hb2) (by kernel_rfl) (by simp) (AllC.cons rfl (fun K hK=>?_) (AllC.cons rfl (fun K hK=>?_) AllC.nil))
      ·have r0:=HCn.out _ hb2
       go_simp
       refine hK _ _ ?_;clear hK K r0;refine Xl (rs:=[5]) (HC8.out _ hb2) (by kernel_rfl) (by simp) (AllC.cons rfl (fun K hK=>?_) AllC.nil);go_simp
       refine hK _ _ ?_;clear hK K;have hb3:=Xb hb2 (Xg (Below.refl U2.heap.size U2) (.cells #[.slice A9 L9.length c9] 65));obtain⟨A3,c3,V3,hrun,hfin3,hc83⟩:=HPush.out U2 A9 c9 L9 hb2 (hr9.over fun b _ _ _ _ hG _=>⟨rfl,Nat.le_trans hb1.size hG⟩) hl9;refine Xl (rs:=[6]) (HC8.out _ hb3) (by kernel_rfl) (by simp) (AllC.cons rfl (fun K hK=>?_) AllC.nil);refine Xt rfl _ _ _ rfl rfl rfl hrun (hK _ _ ?_);clear hK K;refine Xl (rs:=[7]) hc83.1 (by kernel_rfl) (by simp) (AllC.cons rfl (fun K hK=>?_) AllC.nil);have st1:=hc83.2.1;have st2:=hc83.2.2.1;go_simp
       refine hK _ _ ?_;clear hK K;refine Xk hc83.2.2.2 (by kernel_rfl) ?_ _;exact hfin3
      ·go_simp
       refine hK _ _ ?_;clear hK K;have hb3:=Xb hb2 (Xg (Below.refl U2.heap.size U2) (.cells #[.slice A9 L9.length c9] 65));obtain⟨A3,c3,V3,hrun,hfin3,hc83⟩:=HPush.out U2 A9 c9 L9 hb2 (hr9.over fun b _ _ _ _ hG _=>⟨rfl,Nat.le_trans hb1.size hG⟩) hl9;refine Xl (rs:=[0]) (HC8.out _ hb3) (by kernel_rfl) (by simp) (AllC.cons rfl (fun K hK=>?_) AllC.nil);have r0:=HCn.out _ hb3;go_simp
       refine hK _ _ ?_;clear hK K r0;refine Xl (rs:=[6]) (HC8.out _ hb3) (by kernel_rfl) (by simp) (AllC.cons rfl (fun K hK=>?_) AllC.nil);refine Xt rfl _ _ _ rfl rfl rfl hrun (hK _ _ ?_);clear hK K;refine Xl (rs:=[7]) hc83.1 (by kernel_rfl) (by simp) (AllC.cons rfl (fun K hK=>?_) AllC.nil);have st1:=hc83.2.1;have st2:=hc83.2.2.1;go_simp
       refine hK _ _ ?_;clear hK K;refine Xk hc83.2.2.2 (by kernel_rfl) ?_ _;exact hfin3
   ·rintro D own V hWD hown9 hI9 hDd
    have hSn:=hI9.done HS.out Hcp0.out HM.out (fun g hg=>(hr0 g hg).1) hwn HB5.out.size;rw[<- List.map_append,<- Xcb] at hSn;have hmk:=Xiu HD.out hlt5 hro0 Hcp0.out HM.out hI9.keep;have HSn:=Xa hSn;have Hmk:=Xa hmk;have HDd:=Xa hDd;have Hok9:=Xa hI9.ok;clear hSn hmk hDd hI9 hown9;simp only[Exit.inBlock,Exit.then];refine Ur ?_;go_wp2_with fail
    refine⟨⟨D :: Ds,j+1,rfl,by omega,HSn.out,fun c hc=>?_,List.nodup_cons.2 ⟨fun hm=>by have:=(Hmk.out D hm).1;omega,hnd⟩,fun E hE=>?_⟩,?_⟩
    ·rw[Xcb] at hc
     rcases List.mem_append.1 hc with hc|hc
     ·exact Hok.out c hc
     ·exact Hok9.out c hc
    ·rcases List.mem_cons.1 hE with rfl|hE
     ·exact⟨by omega,HDd.out⟩
     ·exact⟨(HD.out E hE).1,(Hmk.out E hE).2⟩
    ·show K+1-((j:Int)+1).toNat<K+1-((j:Int)).toNat
     omega
   ·rintro D own cc pre V _ _ _ h
    exact h.elim
   ·rintro D ch V hWD ⟨n,hn0,rfl,hdr,q1,q2,q3,q4,q5⟩ hDd
    have hbe:=Xqm HS.out Hcp0.out HM.out (fun g hg=>(hr0 g hg).1) hwn HB5.out.size q1 q2 q3 q4 q5;have hmk:=Xiu HD.out hlt5 hro0 Hcp0.out HM.out q5
    have hDge:∀E∈D :: Ds,W5.heap.size<=E:=fun E hE=>by
     rcases List.mem_cons.1 hE with rfl|hE
     ·omega
     ·exact(HD.out E hE).1
    show LeavesInM Fence.wide 0 Tryz.prog Tryz.f51 _ _ ((D :: Ds).map colD++drD w.heap.size) (.panicking (Ud n)) V;refine Qt (fun h=>by cases h) (D :: Ds) V (fun E hE=>?_) (List.nodup_cons.2 ⟨fun hm=>by have:=(hmk D hm).1;omega,hnd⟩) (fun V' z1 z2 z3 z4 z5=>?_)
    ·rcases List.mem_cons.1 hE with rfl|hE
     ·exact hDd
     ·exact(hmk E hE).2
    have hb5:=HB5.out.size;exact Z6 (HDR5.out.over fun i h1 h2=>(z5 i fun hm=>by have:=hDge i hm;have:=Xd HDR5.out.e;omega).trans (hbe.1 i (by have:=Xd HDR5.out.e;omega) (by have:=Hz1.out;have:=Hb8.out;omega))) hn0 (fun W h=>by simp[results,Tryz.results51,go_sem,Xe h.t,Xe h.n,Xe h.e]) (Qd hdr hn0 (Z5 (Xgm hbe.2 (fun E hE=>Nat.le_trans hb5 (hDge E hE)) z1 z2 z3 z4 z5) (Nat.le_refl _)))
theorem Td (s:ByteArray) (A:Option Addr) (n c:Nat) (w:World):Calls Tryz.prog 106 #[.string s,.slice A n c] w fun e w'=>e = .returned (.agg #[.string s,.slice A n c,.int .i64 (-1)])/\Below w.heap.size w w':=by
 go_enter Tryz.func106,Tryz.ntmps106
 go_wp2_with fail
 have hB:Below w.heap.size w (w.alloc (.cells #[.string s,.slice A n c,.int .i64 (-1)] 75)):=ba_q;have hx:(w.alloc (.cells #[.string s,.slice A n c,.int .i64 (-1)] 75)).heap[w.heap.size]? = some (.cells #[.string s,.slice A n c,.int .i64 (-1)] 75 (0,0)):=World.alloc_heap_new _ _;generalize (w.alloc (.cells #[.string s,.slice A n c,.int .i64 (-1)] 75))=W2 at *;obtain⟨z0,z1,z2⟩:=gb3 hx;exact bodyPost_ret (v:=.agg #[.string s,.slice A n c,.int .i64 (-1)]) (by simp[results,Tryz.results106,go_sem,z0,z1,z2]) rfl ⟨rfl,hB⟩
theorem Xwf {m K i o:Nat} (hs:sumP m (K+1)<=256) (hi:i<=K) (ho:o=m ^ i):o<=256/\(i+1<=K->o*min m 257=m ^ (i+1)):=by
 have h1:m ^ i<=256:=Nat.le_trans (Xpv m i) (Nat.le_trans (Xcs m (by omega)) hs);refine⟨by omega,fun h=>?_⟩;have h2:m ^ 1<=256:=Nat.le_trans (Xpv m 1) (Nat.le_trans (Xcs m (by omega)) hs);rw[Nat.pow_one] at h2;rw[Nat.min_eq_left (by omega),ho,Nat.pow_succ]
theorem Xru (s mo:StrS) (k:Int) (w:World) (hn:s.xs.length<=16) (hk:0<=k/\k<=3) (hm:mo.xs.length<=9223372036854775807) (hs:sumP mo.xs.length (kkN s.xs.length k+1)<=256):Calls Tryz.prog 57 #[.slice s.addr s.xs.length s.cap,.slice mo.addr mo.xs.length mo.cap,.int .i64 k] w fun e w'=>e = .returned (.int .i64 ((sumP mo.xs.length (kkN s.xs.length k+1):Nat):Int))/\w'=w:=by
 obtain⟨K,hK⟩:∃K,kkN s.xs.length k=K:=⟨_,rfl⟩
 have hK2:(K:Int)<=k/\s.xs.length+K<=16/\((K:Int)+1<=k->16<s.xs.length+(K+1)):=by
  unfold kkN at hK;omega
 rw[hK] at hs ⊢;have Hs:=Xa hs;obtain⟨hk1,hk2,hk3⟩:=hK2;have Hk3:=Xa hk3;clear hs hK hk3;go_enter Tryz.func57,Tryz.ntmps57
 go_wp2_with fail
 go_loopw [7,8,9] (fun nv ov iv wr=>∃(i o:Nat),i<=K+1/\nv = .int .i64 ((sumP mo.xs.length i:Nat):Int)/\ov = .int .i64 (o:Int)/\iv = .int .i64 (i:Int)/\Hid (i<=K->o=mo.xs.length ^ i)/\wr=w) (fun _ _ iv _=>K+1-(intOf iv).toNat)
 ·exact⟨0,1,by omega,rfl,rfl,rfl,fun _=>rfl,rfl⟩
 ·obtain⟨i,o,hi,rfl,rfl,rfl,ho,rfl⟩:=hrel
  have w1:IntKind.i64.wrap ((s.xs.length:Int)+(i:Int))=(s.xs.length:Int)+(i:Int):=IntWalk.i64_in _ (by omega);by_cases hlt:i<=K
  ·obtain⟨ho1,ho2⟩:=Xwf Hs.out hlt (ho.out hlt)
   have hsm:sumP mo.xs.length i<=256:=Nat.le_trans (Xcs _ (by omega)) Hs.out;have hsn:sumP mo.xs.length (i+1)=sumP mo.xs.length i+o:=(by rw[ho.out hlt];rfl);have hml:o*min mo.xs.length 257<=256*257:=Nat.mul_le_mul ho1 (Nat.min_le_right _ _);have d1:decide ((i:Int)<=k)=true:=decide_eq_true (by omega);have d2:decide ((s.xs.length:Int)+(i:Int)<=16)=true:=decide_eq_true (by omega);have d3:decide (((sumP mo.xs.length i:Nat):Int)<=256)=true:=decide_eq_true (by omega);have w2:IntKind.i64.wrap (((sumP mo.xs.length i:Nat):Int)+(o:Int))=((sumP mo.xs.length (i+1):Nat):Int):=(by rw[hsn];exact(IntWalk.i64_in _ (by omega)).trans (by omega));have w3:IntKind.i64.wrap ((i:Int)+1)=(i:Int)+1:=IntWalk.i64_in _ (by omega);have Hml:=Xa hml;have Ho2:=Xa ho2;have Hhi:=Xa hlt;have Hho:=Xa ho1;clear hsn hml ho2 hi ho hsm hlt ho1;go_wp2_with fail
   have hmi:(o:Int)*min (mo.xs.length:Int) 257=((o*min mo.xs.length 257:Nat):Int):=by
    rw[Int.natCast_mul]
    congr 1
    omega
   have hwm:wrap64 ((o:Int)*min (mo.xs.length:Int) 257)=((o*min mo.xs.length 257:Nat):Int):=by
    have h9:=Hml.out;generalize o*min mo.xs.length 257=q at hmi h9 ⊢;rw[hmi];exact IntWalk.wrap64_in _ (by omega)
   have Hhj:=Hhi.out;refine⟨⟨i+1,o*min mo.xs.length 257,by omega,rfl,by rw[hwm],rfl,Ho2.out,trivial⟩,?_⟩;show K+1-((i:Int)+1).toNat<K+1-((i:Int)).toNat;omega
  ·obtain rfl:i=K+1:=by omega
   by_cases hkk:((K+1:Nat):Int)<=k
   ·have d1:decide (((K+1:Nat):Int)<=k)=true:=decide_eq_true hkk
    have d2:decide ((s.xs.length:Int)+((K:Int)+1)<=16)=false:=decide_eq_false (by have:=Hk3.out;omega);have h16:=Hk3.out (by omega);have d4:decide ((K:Int)+1<=k)=true:=decide_eq_true (by omega);have w4:IntKind.i64.wrap ((s.xs.length:Int)+((K:Int)+1))=(s.xs.length:Int)+((K:Int)+1):=IntWalk.i64_in _ (by omega);clear hlt hi ho;go_wp2_with fail
    all_goals first|(exfalso;omega)|exact bodyPost_ret (v:=.int .i64 ((sumP mo.xs.length (K+1):Nat):Int)) (by simp[results,Tryz.results57,go_sem]) rfl ⟨rfl,rfl⟩
   ·have d1:decide (((K+1:Nat):Int)<=k)=false:=decide_eq_false hkk
    clear hlt hi ho;go_wp2_with fail
    all_goals first|(exfalso;omega)|exact bodyPost_ret (v:=.int .i64 ((sumP mo.xs.length (K+1):Nat):Int)) (by simp[results,Tryz.results57,go_sem]) rfl ⟨rfl,rfl⟩
theorem Xrv (s mo : StrS) (k : Int) (w : World) (hn : s.xs.length <= 1000000) (hk : 0 <= k /\ k <= 3) : Calls Tryz.prog 57 #[.slice s.addr s.xs.length s.cap, .slice mo.addr mo.xs.length mo.cap, .int .i64 k] w fun e w' => (∃ n : Int, e = .returned (.int .i64 n)) /\ w' = w := by
  go_enter Tryz.func57, Tryz.ntmps57
  go_wp2_with fail
  go_loopw [7, 8, 9] (fun nv ov iv wr => ∃ (i : Nat) (a o : Int), i <= 4 /\ nv = .int .i64 a /\ ov = .int .i64 o /\ iv = .int .i64 (i : Int) /\ wr = w) (fun _ _ iv _ => 4 - (intOf iv).toNat)
  · exact ⟨0, 0, 1, by omega, rfl, rfl, rfl, rfl⟩
  · obtain ⟨i, a, o, hi, rfl, rfl, rfl, rfl⟩ := hrel
    have w1 : IntKind.i64.wrap ((s.xs.length : Int) + (i : Int)) = (s.xs.length : Int) + (i : Int) := IntWalk.i64_in _ (by omega);have w3 : IntKind.i64.wrap ((i : Int) + 1) = (i : Int) + 1 := IntWalk.i64_in _ (by omega);by_cases hlt : (i : Int) <= k
    · have d1 : decide ((i : Int) <= k) = true := decide_eq_true hlt
      have Hlt := Xa hlt;clear hlt;go_wp2_with fail
      all_goals first
        | exact bodyPost_ret (v := .int .i64 a) (by simp [results, Tryz.results57, go_sem]) rfl ⟨⟨_, rfl⟩, rfl⟩
        | (have h9 := Hlt.out
           refine ⟨⟨i + 1, _, _, by omega, rfl, rfl, rfl, trivial⟩, ?_⟩;show 4 - ((i : Int) + 1).toNat < 4 - ((i : Int)).toNat;omega)
    · have d1 : decide ((i : Int) <= k) = false := decide_eq_false hlt
      clear hlt;go_wp2_with fail
      all_goals exact bodyPost_ret (v := .int .i64 a) (by simp [results, Tryz.results57, go_sem]) rfl ⟨⟨_, rfl⟩, rfl⟩
def Xyi (w:World) (e:Ending) (w':World):Prop:=∃b:Bool,e = .returned (.bool b)/\Below w.heap.size w w'
theorem Xve (g : Gram) (w : World) (hg : g.lies w) : Calls Tryz.prog 34 #[g.vl] w (Xyi w) := by
  obtain ⟨W1, hW1⟩ : ∃ W1, w.alloc g.ob = W1 := ⟨_, rfl⟩;have hB1 := X5 hW1;have hk := Yg hW1;have hg1 := hg.ext hB1;have hme : g.entries.xs.length <= 9223372036854775807 := Nat.le_trans hg.entries.cap hg.entries.max;have hmr : g.rules.xs.length <= 9223372036854775807 := Nat.le_trans hg.rules.cap hg.rules.max;obtain ⟨c0, c1, c2, c3, c4, c5⟩ := gb6 hk
  have HE : Hid (∀ k (hk : k < g.entries.xs.length), ∃ b off n cp, g.entries.addr = some ⟨b, off, none⟩ /\ W1.cell? ⟨b, off + k * 5 + 3, none⟩ = some (.slice n g.entries.xs[k].gives.xs.length cp)) := by
    intro k hk;obtain ⟨b, off, hA, hb, hc⟩ := hg1.entries.at_ EntryG.size_cells (by omega) hk;exact ⟨b, off, g.entries.xs[k].gives.addr, g.entries.xs[k].gives.cap, hA, hc k hk W1 bo_q 3 _ rfl⟩
  have HR : Hid (∀ k (hk : k < g.rules.xs.length), ∃ b off n cp n' cp', g.rules.addr = some ⟨b, off, none⟩ /\ W1.cell? ⟨b, off + k * 5 + 2, none⟩ = some (.slice n g.rules.xs[k].parts.xs.length cp) /\ W1.cell? ⟨b, off + k * 5 + 3, none⟩ = some (.slice n' g.rules.xs[k].gives.xs.length cp')) := by
    intro k hk;obtain ⟨b, off, hA, hb, hc⟩ := hg1.rules.at_ RuleG.size_cells (by omega) hk;exact ⟨b, off, _, _, _, _, hA, hc k hk W1 bo_q 2 _ rfl, hc k hk W1 bo_q 3 _ rfl⟩
  have HB1 := Xa hB1;clear hk hg hg1 hB1;have key : True := trivial;go_enter Tryz.func34, Tryz.ntmps34
  go_wp2_with fail
  all_goals first
    | (go_ret
       exact ⟨_, rfl, HB1.out⟩)
    | skip
  all_goals
    go_loopw [3] (fun iv wr => ∃ k : Nat, k <= g.entries.xs.length /\ iv = .int .i64 k /\ wr = W1) (fun iv _ => g.entries.xs.length - (intOf iv).toNat)
    case atStart => exact ⟨0, Nat.zero_le _, rfl, rfl⟩
    case round =>
      obtain ⟨k, hk, rfl, rfl⟩ := hrel;by_cases hlt : k < g.entries.xs.length
      · obtain ⟨b, off, n, cp, hA, hc⟩ := HE.out k hlt
        rw [hA] at c4;try rw [hA]
        clear hA;go_wp2_with fail
        · go_ret
          exact ⟨_, rfl, HB1.out⟩
        · go_roundw
          case rel => exact ⟨k + 1, by omega, by go_num, by first | rfl | trivial⟩
          case measure => simp [intOf]; omega
      · go_wp2_with fail
        clear hlt;go_loopw [4] (fun iv wr2 => ∃ k : Nat, k <= g.rules.xs.length /\ iv = .int .i64 k /\ wr2 = wr) (fun iv _ => g.rules.xs.length - (intOf iv).toNat)
        case atStart => exact ⟨0, Nat.zero_le _, rfl, rfl⟩
        case round =>
          obtain ⟨k, hk, rfl, rfl⟩ := hrel;by_cases hlt : k < g.rules.xs.length
          · obtain ⟨b, off, n, cp, n', cp', hA, hc, hc'⟩ := HR.out k hlt
            rw [hA] at c5;try rw [hA]
            clear hA;go_wp2_with fail
            all_goals first
              | (go_ret
                 exact ⟨_, rfl, HB1.out⟩)
              | skip
            go_roundw
            case rel => exact ⟨k + 1, by omega, by go_num, by first | rfl | trivial⟩
            case measure => simp [intOf]; omega
          · go_wp2_with fail
            go_ret;exact ⟨_, rfl, HB1.out⟩
theorem Xvf (g:Gram) (A:Option Addr) (cp:Nat) (l:List Term) (s:StrS) (w:World) (hg:g.lies w) (hm:l.length<=9223372036854775807) (hs:s.lies w):Calls Tryz.prog 73 #[g.vl,.slice A l.length cp,.slice s.addr s.xs.length s.cap] w (Xyi w):=by
 obtain⟨W1,hW1⟩:∃W1,w.alloc g.ob=W1:=⟨_,rfl⟩
 have hB1:=X5 hW1;have hk:=Yg hW1;have F1:=Xa (Xve g W1 (hg.ext hB1));have hms:s.xs.length<=9223372036854775807:=Nat.le_trans hs.cap hs.max;obtain⟨c0,c1,c2,c3,c4,c5⟩:=gb6 hk;have Hs:=Xa hs;clear hk hg hs;go_enter Tryz.func73,Tryz.ntmps73
 go_wp2_with fail
 refine F1.out.mono ?_;rintro e w2 ⟨b1,rfl,hb2⟩;have hB2:=Xb hB1 hb2;have F2:=Xa (Xy9 A cp l w2 hm);clear c0 c1 c2 c3 c4 c5 F1;cases b1
 ·go_wp2_with fail
  go_ret;exact⟨_,rfl,hB2⟩
 go_wp2_with fail
 refine F2.out.mono ?_;rintro e w3 ⟨rfl,rfl⟩;clear F2;generalize (decide (l.length<=30) || decide (1024<l.length) && decide (l.length<=1100))=b2;cases b2
 ·go_wp2_with fail
  go_ret;exact⟨_,rfl,hB2⟩
 by_cases h30:30<s.xs.length
 ·go_wp2_with fail
  go_ret;exact⟨_,rfl,hB2⟩
 have HS2:=Xa (StrS.lies.ext Hs.out hB2);have HB2:=Xa hB2;clear hB2 hb2 hB1;go_wp2_with fail
 go_loopw [7] (fun iv wr=>∃k:Nat,k<=s.xs.length/\iv = .int .i64 k/\Below w.heap.size w wr/\Hid (s.lies wr)) (fun iv _=>s.xs.length-(intOf iv).toNat)
 case atStart=>exact⟨0,Nat.zero_le _,rfl,HB2.out,HS2⟩
 case round =>
  obtain⟨k,hk,rfl,hB,HS⟩:=hrel;by_cases hlt:k<s.xs.length
  ·obtain⟨b,off,hA,hb,hc⟩:=StrS.at_ HS.out (k:=k) hlt
   have e0:wr.cell? ⟨b,off+k,none⟩=some (.string s.xs[k]):=hc k hlt;rw[hA];clear hA hc;generalize s.xs[k]=y at *;by_cases h100:100<y.size
   ·go_wp2_with fail
    go_ret;exact⟨_,rfl,hB⟩
   ·go_wp2_with fail
    go_roundw
    case rel=>exact⟨k+1,by omega,by go_num,hB,HS⟩
    case measure=>simp[intOf];omega
  ·go_wp2_with fail
   go_ret;exact⟨_,rfl,hB⟩
theorem Xvg (g : Gram) (A : Option Addr) (cp : Nat) (l : List Term) (s mo : StrS) (k : Int) (w : World) (hg : g.lies w) (hm : l.length <= 9223372036854775807) (hs : s.lies w) (hmo : mo.lies w) : Calls Tryz.prog 50 #[g.vl, .slice A l.length cp, .slice s.addr s.xs.length s.cap, .slice mo.addr mo.xs.length mo.cap, .int .i64 k] w (Xyi w) := by
  obtain ⟨W1, hW1⟩ : ∃ W1, w.alloc g.ob = W1 := ⟨_, rfl⟩;have hB1 := X5 hW1;have hk := Yg hW1;have hms : s.xs.length <= 9223372036854775807 := Nat.le_trans hs.cap hs.max;have hmm : mo.xs.length <= 9223372036854775807 := Nat.le_trans hmo.cap hmo.max;have Hk := Xa hk;have HB1 := Xa hB1;have Hg := Xa (hg.ext hB1);have Hs := Xa (StrS.lies.ext hs hB1);have Hmo := Xa (StrS.lies.ext hmo hB1);clear hk hg hs hmo hB1;go_enter Tryz.func50, Tryz.ntmps50
  go_wp2_with fail
  go_loopw [11] (fun iv wr => ∃ j : Nat, j <= mo.xs.length /\ iv = .int .i64 j /\ wr = W1) (fun iv _ => mo.xs.length - (intOf iv).toNat)
  case atStart => exact ⟨0, Nat.zero_le _, rfl, rfl⟩
  case round =>
    obtain ⟨j, hj, rfl, rfl⟩ := hrel;by_cases hlt : j < mo.xs.length /\ j < 300
    · obtain ⟨hlt, h300⟩ := hlt
      have k1 : decide ((j : Int) < (mo.xs.length : Int)) = true := decide_eq_true (by omega);have k2 : decide ((j : Int) < 300) = true := decide_eq_true (by omega);obtain ⟨b, off, hA, hb, hc⟩ := StrS.at_ Hmo.out (k := j) hlt;have e0 : wr.cell? ⟨b, off + j, none⟩ = some (.string mo.xs[j]) := hc j hlt;rw [hA];clear hA hc;generalize mo.xs[j] = y at *;by_cases h100 : 200 < y.size
      · go_wp2_with fail
        go_ret;exact ⟨_, rfl, HB1.out⟩
      · go_wp2_with fail
        go_roundw
        case rel => exact ⟨j + 1, by omega, by go_num, trivial⟩
        case measure => simp [intOf]; omega
    · have F2 := Xa (Xvf g A cp l s wr Hg.out hm Hs.out)
      have hk2 := Hk.out;obtain ⟨c0, c1, c2, c3, c4, c5⟩ := gb6 hk2;clear hk2;clear hj;go_wp2_with fail
      all_goals try (exfalso; omega)
      all_goals
        refine F2.out.mono ?_;rintro e w3 ⟨b1, rfl, hb3⟩;have hB3 := Xb HB1.out hb3;have hk3 := Xi hb3 Hk.out;clear c0 c1 c2 c3 c4 c5 F2;obtain ⟨c0, c1, c2, c3, c4, c5⟩ := gb6 hk3;clear hk3;cases b1
        · go_wp2_with fail
          go_ret;exact ⟨_, rfl, hB3⟩
        by_cases h40 : s.xs.length <= 40
        rotate_left
        · go_wp2_with fail
          all_goals first | (go_ret; exact ⟨_, rfl, hB3⟩) | (exfalso; omega)
        have FM := Xa (Xrv s mo (min (max k 0) 3) w3 (by omega) (by omega));go_wp2_with fail
        all_goals first
          | (go_ret; exact ⟨_, rfl, hB3⟩)
          | (refine FM.out.mono ?_
             rintro e w4 ⟨⟨n, rfl⟩, rfl⟩;clear FM;go_wp2_with fail
             all_goals (go_ret; exact ⟨_, rfl, hB3⟩))
def X1n (g:Gram) (l:List Term) (lang:Int) (ws more:List ByteArray) (k t u:Int) (w:World) (e:Ending) (w':World):Prop :=
 Below w.heap.size w w'/\∃(A:Option Addr) (c:Nat) (L:List TgG) (ok:Bool),e = .returned (.tuple #[.slice A L.length c,.bool ok])/\TgsAt w' ⟨A,c,L⟩/\(ok=true->ws.length<=5/\X7 g l lang ws more k t u=0/\L.map TgG.c=Zo g l lang ws more k t u)
theorem Xgs (g:Gram) (A:Option Addr) (cp:Nat) (l:List Term) (lang:Int) (s mo:StrS) (k t u:Int) (w:World) (hT:TabsG w) (hg:g.lies w) (hgs:g.short) (hr:TermsAt w A l) (hm:l.length<=9223372036854775807) (hs:s.lies w) (hmo:mo.lies w) (hk0 : -9223372036854775808<=k/\k<=9223372036854775807) :
  Calls Tryz.prog 55 #[g.vl,.slice A l.length cp,.int .i64 lang,.slice s.addr s.xs.length s.cap,.slice mo.addr mo.xs.length mo.cap,.int .i64 k,.int .i64 t,.int .i64 u] w (X1n g l lang s.xs mo.xs k t u w):=by
 obtain⟨W1,hW1⟩:∃W1,w.alloc g.ob=W1:=⟨_,rfl⟩
 have hB1:=X5 hW1;have hk:=Yg hW1;have hms:s.xs.length<=9223372036854775807:=Nat.le_trans hs.cap hs.max;have F1:=Xa (Xvg g A cp l s mo k W1 (hg.ext hB1) hm (StrS.lies.ext hs hB1) (StrS.lies.ext hmo hB1));have FD:Hid (∀U,Below w.heap.size w U->_):=fun U hU=>Xce g A cp l lang s mo k t u U (hT.ext hU) (hg.ext hU) hgs (hr.ext hU) hm (StrS.lies.ext hs hU) (StrS.lies.ext hmo hU) hk0;have Hk:=Xa hk;have HB1:=Xa hB1;obtain⟨c0,c1,c2,c3,c4,c5⟩:=gb6 hk;clear hk hg hs hmo hB1 hT hr;go_enter Tryz.func55,Tryz.ntmps55
 go_wp2_with fail
 refine F1.out.mono ?_;rintro e w2 ⟨b1,rfl,hb2⟩;have hB2:=Xb HB1.out hb2;have hk2:=Xi hb2 Hk.out;have HB2:=Xa hB2;clear c0 c1 c2 c3 c4 c5 F1 hB2 hb2;obtain⟨c0,c1,c2,c3,c4,c5⟩:=gb6 hk2;clear hk2;have hnil:TgsAt w2 ⟨none,0,[]⟩:=⟨⟨Rd.nil _ _,Nat.le_refl _,by simp,fun _=>rfl⟩,fun x hx=>by cases hx⟩
 have Hnil:=Xa hnil;clear hnil;cases b1
 ·go_wp2_with fail
  go_ret2
  exact⟨HB2.out,none,0,[],false,rfl,Hnil.out,fun h=>by cases h⟩
 by_cases h5:5<s.xs.length
 ·go_wp2_with fail
  all_goals first|(exfalso;omega)|skip
  all_goals
   go_ret2
   exact⟨HB2.out,none,0,[],false,rfl,Hnil.out,fun h=>by cases h⟩
 have F3:=Xa (FD.out w2 HB2.out);go_wp2_with fail
 all_goals try (exfalso;omega)
 refine F3.out.mono ?_;rintro e w3 ⟨hb3,A9,c9,L9,rfl,hl9,ht9⟩;have Hl9:=Xa hl9;have Ht9:=Xa ht9;have HB3:=Xa (Xb HB2.out hb3);clear hl9 ht9 hb3 F3 FD c0 c1 c2 c3 c4 c5;go_wp2_with fail
 go_ret2
 exact⟨HB3.out,A9,c9,L9,_,rfl,Ht9.out,fun h=>⟨by omega,by simpa using h,Hl9.out⟩⟩
def nG3:ByteArray:=⟨#[103]⟩
def nS3:ByteArray:=⟨#[115]⟩
def nV3:ByteArray:=⟨#[118]⟩
def noS3:ByteArray:=⟨#[]⟩
def nN3:ByteArray:=⟨#[110]⟩
def er3:ByteArray:=⟨#[101,114]⟩
def he3:ByteArray:=⟨#[104,101]⟩
def sc3:ByteArray:=⟨#[115,99,104,108,105,101,102]⟩
def sl3:ByteArray:=⟨#[115,108,101,112,116]⟩
def Xt3 (w:World) (os:List Obj):World:=os.foldl World.alloc w
theorem Xbu:∀(os:List Obj) (w:World),Below w.heap.size w (Xt3 w os)
 | [],_=>bo_q
 | o :: os,w=>Xb (Xg bo_q o) (Xbu os (w.alloc o))
theorem Xoz:∀(os:List Obj) (w:World) (k:Nat) (h:k<os.length),(Xt3 w os).heap[w.heap.size+k]? = some os[k]
 | [],w,k,h=>by simp at h
 | o :: os,w,0,h=>((Xbu os (w.alloc o)).block _ (by rw[World.size_alloc];omega)).trans (World.alloc_heap_new _ _)
 | o :: os,w,k+1,h=>by
  have:=Xoz os (w.alloc o) k (by simpa using h);rw[World.size_alloc] at this;rw[show w.heap.size+(k+1)=w.heap.size+1+k by omega];exact this
def X4 (A:Nat->Option Addr):Gram:=⟨nG3,⟨A 0,3,[nS3,nN3,nV3]⟩,nS3,0,⟨A 3,2,[⟨er3,nN3,1,⟨A 1,1,[he3]⟩,0⟩,⟨sc3,nV3,2,⟨A 2,1,[sl3]⟩,0⟩]⟩,⟨A 8,2,[
 ⟨nS3,0,⟨A 4,2,[⟨nN3,1,noS3⟩,⟨nV3,2,noS3⟩]⟩,⟨A 5,2,[⟨1,noS3⟩,⟨0,noS3⟩]⟩,0⟩,
 ⟨nS3,0,⟨A 6,1,[⟨nN3,1,noS3⟩]⟩,⟨A 7,1,[⟨0,noS3⟩]⟩,0⟩]⟩⟩
def Y6 (w:World):List Obj:=[(.cells #[.string nG3,.slice (some ⟨w.heap.size+1,0,none⟩) 3 3,.string nS3,.int .i64 0,.slice (some ⟨w.heap.size+4,0,none⟩) 2 2,.slice (some ⟨w.heap.size+9,0,none⟩) 2 2] 26),(.cells #[.string nS3,.string nN3,.string nV3] 9),(.cells #[.string he3] 9),(.cells #[.string sl3] 9),(.cells #[.string er3,.string nN3,.int .i64 1,.slice (some ⟨w.heap.size+2,0,none⟩) 1 1,.int .i64 0,.string sc3,.string nV3,.int .i64 2,.slice (some ⟨w.heap.size+3,0,none⟩) 1 1,.int .i64 0] 60),(.cells #[.string nN3,.int .i64 1,.string noS3,.string nV3,.int .i64 2,.string noS3] 81),(.cells #[.int .i64 1,.string noS3,.int .i64 0,.string noS3] 176),(.cells #[.string nN3,.int .i64 1,.string noS3] 81),(.cells #[.int .i64 0,.string noS3] 176),(.cells #[.string nS3,.int .i64 0,.slice (some ⟨w.heap.size+5,0,none⟩) 2 2,.slice (some ⟨w.heap.size+6,0,none⟩) 2 2,.int .i64 0,.string nS3,.int .i64 0,.slice (some ⟨w.heap.size+7,0,none⟩) 1 1,.slice (some ⟨w.heap.size+8,0,none⟩) 1 1,.int .i64 0] 79)]
theorem Xki (A:Nat->Option Addr):(X4 A).short:=by
 have hm:∀n:Nat,n<=7->n<=maxLen:=fun n h=>by unfold maxLen;omega
 refine⟨fun s hs=>hm _ ?_,hm _ (by show 1<=7;omega),fun x hx=>hm _ ?_,fun x hx=>hm _ ?_,fun x hx p hp=>hm _ ?_⟩
 ·simp only[X4,List.mem_cons,List.not_mem_nil,or_false] at hs
  rcases hs with rfl|rfl|rfl<;>(show 1<=7;omega)
 ·simp only[X4,List.mem_cons,List.not_mem_nil,or_false] at hx
  rcases hx with rfl|rfl<;>(show 1<=7;omega)
 ·simp only[X4,List.mem_cons,List.not_mem_nil,or_false] at hx
  rcases hx with rfl|rfl<;>(show 1<=7;omega)
 ·simp only[X4,List.mem_cons,List.not_mem_nil,or_false] at hx
  rcases hx with rfl|rfl
  all_goals
   simp only[List.mem_cons,List.not_mem_nil,or_false] at hp
  ·rcases hp with rfl|rfl<;>(show 1<=7;omega)
  ·subst hp;show 1<=7;omega
theorem Xpe (w:World):Calls Tryz.prog 105 #[] w fun e w'=>∃g:Gram,e = .returned (g.vl)/\g.lies w'/\Below w.heap.size w w'/\∃A,g=X4 A:=by
 go_enter Tryz.func105,Tryz.ntmps105
 go_wp2_with fail
 have hB:=Xbu (Y6 w) w;have hh:=Xoz (Y6 w) w;change bodyPost _ _ _ _ _ (Xt3 w (Y6 w));have h0:=hh 0 (by simp[Y6]);have h1:=hh 1 (by simp[Y6]);have h2:=hh 2 (by simp[Y6]);have h3:=hh 3 (by simp[Y6]);have h4:=hh 4 (by simp[Y6]);have h5:=hh 5 (by simp[Y6]);have h6:=hh 6 (by simp[Y6]);have h7:=hh 7 (by simp[Y6]);have h8:=hh 8 (by simp[Y6]);have h9:=hh 9 (by simp[Y6]);generalize Xt3 w (Y6 w)=W2 at *;clear hh;simp only[Y6,List.getElem_cons_zero,List.getElem_cons_succ,Nat.add_zero] at h0 h1 h2 h3 h4 h5 h6 h7 h8 h9;obtain⟨z0,z1,z2,z3,z4,z5⟩:=gb6 h0;refine bodyPost_ret (v:=.agg (X4 (fun k=>match k with|0=>some ⟨w.heap.size+1,0,none⟩|1=>some ⟨w.heap.size+2,0,none⟩|2=>some ⟨w.heap.size+3,0,none⟩|3=>some ⟨w.heap.size+4,0,none⟩|4=>some ⟨w.heap.size+5,0,none⟩|5=>some ⟨w.heap.size+6,0,none⟩|6=>some ⟨w.heap.size+7,0,none⟩|7=>some ⟨w.heap.size+8,0,none⟩|_=>some ⟨w.heap.size+9,0,none⟩)).cells.toArray) ?_ rfl ⟨X4 (fun k=>match k with|0=>some ⟨w.heap.size+1,0,none⟩|1=>some ⟨w.heap.size+2,0,none⟩|2=>some ⟨w.heap.size+3,0,none⟩|3=>some ⟨w.heap.size+4,0,none⟩|4=>some ⟨w.heap.size+5,0,none⟩|5=>some ⟨w.heap.size+6,0,none⟩|6=>some ⟨w.heap.size+7,0,none⟩|7=>some ⟨w.heap.size+8,0,none⟩|_=>some ⟨w.heap.size+9,0,none⟩),rfl,⟨⟨Zg h1 rfl,by simp[X4],by simp[X4],fun h=>by cases h⟩,⟨Zg h4 rfl,by simp[X4],by simp[X4],fun h=>by cases h⟩,fun x hx=>?_,⟨Zg h9 rfl,by simp[X4],by simp[X4],fun h=>by cases h⟩,fun x hx=>?_⟩,hB,_,rfl⟩
 ·simp[results,Tryz.results105,go_sem,z0,z1,z2,z3,z4,z5,X4,Gram.cells]
 ·simp only[X4,List.mem_cons,List.not_mem_nil,or_false] at hx
  rcases hx with rfl|rfl
  ·exact⟨Zg h2 rfl,by simp,by simp,fun h=>by cases h⟩
  ·exact⟨Zg h3 rfl,by simp,by simp,fun h=>by cases h⟩
 ·simp only[X4,List.mem_cons,List.not_mem_nil,or_false] at hx
  rcases hx with rfl|rfl
  ·exact⟨⟨Zg h5 rfl,by simp,by simp,fun h=>by cases h⟩,⟨Zg h6 rfl,by simp,by simp,fun h=>by cases h⟩⟩
  ·exact⟨⟨Zg h7 rfl,by simp,by simp,fun h=>by cases h⟩,⟨Zg h8 rfl,by simp,by simp,fun h=>by cases h⟩⟩
section
def ab3:ByteArray:=⟨#[97,32,98]⟩
def a3:ByteArray:=⟨#[97]⟩
def noG3:Gram:=⟨noS3,⟨none,0,[]⟩,noS3,0,⟨none,0,[]⟩,⟨none,0,[]⟩⟩
variable (A:Nat->Option Addr)
theorem ex33_0:X7 (X4 A) [] 1 [er3] [] 3 0 0=0:=by kernel_rfl
theorem ex33_1:X7 (X4 A) [] 1 [er3] [sc3,er3] 1 0 0=0:=by kernel_rfl
theorem ex33_2:X7 (X4 A) [] 1 [] [] 0 0 0=0:=by kernel_rfl
theorem ex33_3:X7 (X4 A) [] 1 [] [ab3] 0 0 0=330:=by kernel_rfl
theorem ex33_4:X7 (X4 A) [] 1 [] [] 4 0 0=1:=by kernel_rfl
theorem ex33_5:X7 (X4 A) [] 1 [] (List.replicate 16 a3) 2 0 0=2:=by kernel_rfl
theorem ex33_6:X7 noG3 [] 1 [] [] 4 0 0=260:=by kernel_rfl
theorem ex33_7:Uy (X4 A) [] 1 [er3] [] 3 0 0=1:=by kernel_rfl
theorem ex33_8:Uy (X4 A) [] 1 [er3] [sc3,er3] 1 0 0=3:=by kernel_rfl
theorem ex33_9:Uy (X4 A) [] 1 [] [] 0 0 0=1:=by kernel_rfl
theorem X1u:Zo (X4 A) [] 1 [er3] [] 3 0 0=[⟨he3,[0], -1⟩]:=by kernel_rfl
theorem X1v:Zo (X4 A) [] 1 [er3] [sc3,er3] 1 0 0=[]:=by kernel_rfl
theorem X1w:Zo (X4 A) [] 1 [] [] 0 0 0=[]:=by kernel_rfl
end
end Go.Proofs.YtolpbjjapodmnaaGreatDoor
