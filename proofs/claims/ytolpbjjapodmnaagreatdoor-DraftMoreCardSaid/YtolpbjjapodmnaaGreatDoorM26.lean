/- Texts of this claim, one after the other: Chwi, Chwj. -/
import Derived.Test.YtolpbjjapodmnaaGreatDoorM25
namespace Go.Proofs.YtolpbjjapodmnaaGreatDoor
open Go.RowKit Go.Han
set_option maxRecDepth 100000
attribute [local irreducible] wpStill wpQuiet
set_option maxHeartbeats 8000000
def Xth (g:Gram) (its:SlS ItemG) (n:Int) (w:World) (e:Ending) (w':World):Prop :=
 Below w.heap.size w w'/\((errC g its.xs n≠0/\e = .panicked (Ud (errC g its.xs n))) \/
  (errC g its.xs n=0/\∃cb kb wb top,e = .returned (.pointer (some ⟨cb,0,none⟩))/\ChEnv w cb kb wb top g its n.toNat w'/\∀X,KnownF X g its.xs n.toNat kb (fun _=>none) w'))
theorem X1p {l:List ItemG} {P:ItemG->Bool} {j:Nat} (h:j<l.length) (hp:P l[j]=false):l.all P=false:=by
 rw[List.all_eq_false];exact⟨l[j],List.getElem_mem h,by rw[hp];simp⟩
theorem X1z {x:ItemG} (h:0<x.tgt.xs.length):x.tgt.xs[0]=Xaa x:=by
 have h1:x.tgt.xs[0]? = some (Xaa x):=by
  unfold Xaa;generalize x.tgt.xs=l at h ⊢;cases l with
  | nil=>simp at h
  | cons y ys=>rfl
 exact(List.getElem?_eq_some_iff.1 h1).2
theorem Xv0:(Tryz.prog.info? 9).map (fun i=>(i.zero,i.size,i.bytes))=some (some (.string ⟨#[]⟩),1,16):=by kernel_rfl
theorem Xkq (g:Gram) (its:SlS ItemG) (n:Int) (w:World) (hT:TabsG w) (hg:g.lies w) (hs:g.short) (hi:ItemsAt w its):Calls Tryz.prog 66 #[g.vl,.slice its.addr its.xs.length its.cap,.int .i64 n] w (Xth g its n w):=by
 obtain⟨W1,hW1⟩:∃W1,w.alloc g.ob=W1:=⟨_,rfl⟩
 have hB1:=X5 hW1;have hk:=Yg hW1;have cC:=Xa (Xc1 g W1 (hT.ext hB1) (hg.ext hB1) hs);obtain⟨c0,c1,c2,c3,c4,c5⟩:=gb6 hk;have Hk:=Xa hk;have HB1:=Xa hB1;clear hk hB1;have HE:Hid (errC g its.xs n=if Yb g≠0 then Yb g else if n<1\/16<n then 1 else if 16384<its.xs.length then 2 else if its.xs.all (U9 g n) then 0 else 280):=rfl;by_cases h0:Yb g=0
 rotate_left
 ·have hE:errC g its.xs n=Yb g:=by rw[HE.out,if_pos h0]
  have q0:(Yb g == 0)=false:=by simpa using h0
  go_enter Tryz.func66,Tryz.ntmps66
  go_wp2_with fail
  refine cC.out.mono ?_;rintro e w2 ⟨rfl,hb2⟩;go_wp2_with fail
  refine(Yn _ _ _ (by simp)).mono ?_;rintro e w' ⟨rfl,rfl⟩;exact⟨rfl,Xb HB1.out hb2,.inl ⟨by rw[hE];exact h0,by rw[hE]⟩⟩
 rw[h0] at cC;by_cases hn:n<1\/16<n
 ·have hE:errC g its.xs n=1:=by rw[HE.out,if_neg (by simpa using h0),if_pos hn]
  have Hn:=Xa hn;clear hn h0;go_enter Tryz.func66,Tryz.ntmps66
  go_wp2_with fail
  refine cC.out.mono ?_;rintro e w2 ⟨rfl,hb2⟩;go_wp2_with fail
  refine(Vl _ _ _ (by simp)).mono ?_;rintro e w' ⟨rfl,rfl⟩;by_cases h1:n<1
  ·have h2:¬1<=n:=by omega
   go_wp2_with fail
   refine(Yn _ _ _ (by simp)).mono ?_;rintro e w' ⟨rfl,rfl⟩;exact⟨rfl,Xb HB1.out hb2,.inl ⟨by rw[hE];decide,by rw[hE]⟩⟩
  ·have h2:1<=n:=by omega
   have h3:¬n<=16:=by have:=Hn.out;omega
   go_wp2_with fail
   refine(Yn _ _ _ (by simp;omega)).mono ?_;rintro e w' ⟨rfl,rfl⟩;exact⟨rfl,Xb HB1.out hb2,.inl ⟨by rw[hE];decide,by rw[hE]⟩⟩
 have n1:1<=n:=by omega
 have n2:n<=16:=by omega
 by_cases hm:16384<its.xs.length
 ·have hE:errC g its.xs n=2:=by rw[HE.out,if_neg (by simpa using h0),if_neg hn,if_pos hm]
  have hm2:¬(its.xs.length:Int)<=16384:=by omega
  clear h0 hn;go_enter Tryz.func66,Tryz.ntmps66
  go_wp2_with fail
  refine cC.out.mono ?_;rintro e w2 ⟨rfl,hb2⟩;go_wp2_with fail
  refine(Vl _ _ _ (by simp)).mono ?_;rintro e w' ⟨rfl,rfl⟩;go_wp2_with fail
  refine(Vl _ _ _ (by simp)).mono ?_;rintro e w' ⟨rfl,rfl⟩;go_wp2_with fail
  refine(Yn _ _ _ (by simp;omega)).mono ?_;rintro e w' ⟨rfl,rfl⟩;exact⟨rfl,Xb HB1.out hb2,.inl ⟨by rw[hE];decide,by rw[hE]⟩⟩
 have hE:errC g its.xs n=if its.xs.all (U9 g n) then 0 else 280:=by rw[HE.out,if_neg (by simpa using h0),if_neg hn,if_neg hm]
 have HE2:=Xa hE;have hm2:(its.xs.length:Int)<=16384:=by omega
 clear h0 hn HE hE;go_enter Tryz.func66,Tryz.ntmps66
 go_wp2_with fail
 refine cC.out.mono ?_;rintro e w2 ⟨rfl,hb2⟩;have Hk2:=Xa (Xi hb2 Hk.out);have hk2:=Hk2.out;obtain⟨d0,d1,d2,d3,d4,d5⟩:=gb6 hk2;clear hk2;go_wp2_with fail
 refine(Vl _ _ _ (by simp)).mono ?_;rintro e w' ⟨rfl,rfl⟩;go_wp2_with fail
 refine(Vl _ _ _ (by simp)).mono ?_;rintro e w' ⟨rfl,rfl⟩;go_wp2_with fail
 refine(Vl _ _ _ (by simp)).mono ?_;rintro e w' ⟨rfl,rfl⟩;have hmm:=@run_makeMap Tryz.prog;obtain⟨w3,hw3⟩:∃w3,w2.alloc (.map #[] 0)=w3:=⟨_,rfl⟩
 obtain⟨w4,hw4⟩:∃w4,w3.alloc (.map #[] 0)=w4:=⟨_,rfl⟩
 obtain⟨w5,hw5⟩:∃w5,w4.alloc (.cells #[.string g.name,.slice g.cats.addr g.cats.xs.length g.cats.cap,.string g.start,.int .i64 g.startNo,.slice g.entries.addr g.entries.xs.length g.entries.cap,.slice g.rules.addr g.rules.xs.length g.rules.cap,.slice its.addr its.xs.length its.cap,.int .i64 n,.map (some w2.heap.size),.map (some w3.heap.size)] 183)=w5:=⟨_,rfl⟩
 have hb3:=X5 hw3;have hb4:=X5 hw4;have hb5:=X5 hw5;have hz3:w3.heap.size=w2.heap.size+1:=by rw[<- hw3];simp
 have hz4:w4.heap.size=w3.heap.size+1:=by rw[<- hw4];simp
 have hz5:w5.heap.size=w4.heap.size+1:=by rw[<- hw5];simp
 have hm3:MapF w3 T3 foundShape w2.heap.size 0 (fun _=>none):=by rw[<- hw3];exact MapF.made w2 T3 foundShape
 have hr4:WRows w5.heap.size w3.heap.size [] w4:=by rw[<- hw4];exact WRows.start _ _
 have hc5:=Yg hw5;have hb25:=Xb hb3 (Xb hb4 hb5);have hB5:=Xb HB1.out (Xb hb2 hb25);have hk5:=Xi hb25 Hk2.out;have Hm5:=Xa (hm3.of_block ((Xb hb4 hb5).block _ hm3.lt));have Hr5:=Xa (hr4.ext hb5);have HB5:=Xa hB5;have Hc5:=Xa hc5;have Hk5:=Xa hk5;have hws:w.heap.size<=w2.heap.size:=by have:=HB1.out.size;have:=hb2.size;omega
 have z3:w3.heap.size<=w2.heap.size+1/\w2.heap.size+1<=w3.heap.size:=by omega
 have z4:w4.heap.size<=w2.heap.size+2/\w2.heap.size+2<=w4.heap.size:=by omega
 have z5:w5.heap.size<=w2.heap.size+3/\w2.heap.size+3<=w5.heap.size:=by omega
 have HT:=Xa hT;have Hit:=Xa hi;have hgfew:g.cats.xs.length<=9223372036854775807:=Nat.le_trans hg.cats.cap hg.cats.max;clear hb3 hb4 hb5 hz3 hz4 hz5 hm3 hr4 hc5 hb25 hB5 hk5 hb2 hT hi hg hs hW1 cC;go_wp2_with fail
 clear hw3 hw4 hw5 hmm d0 d1 d2 d3 d4 d5;go_loopw [39] (fun iv wr=>∃j:Nat,j<=its.xs.length/\iv = .int .i64 j/\Only (fun b=>b=w3.heap.size) w5 wr/\Hid (WRows w5.heap.size w3.heap.size (its.xs.take j) wr)/\Hid ((its.xs.take j).all (U9 g n)=true)) (fun iv _=>its.xs.length-(intOf iv).toNat)
 case atStart=>exact⟨0,Nat.zero_le _,rfl,Only.refl _ _,Hr5.out,rfl⟩
 case round =>
  obtain⟨j,hj,rfl,hO,hR,hall⟩:=hrel;have hBr:Below w.heap.size w wr:=⟨hO.os.trans HB5.out.os,hO.tape.trans HB5.out.tape,hO.output.trans HB5.out.output,Nat.le_trans HB5.out.size hO.size,fun b hb=>(hO.block b (by have:=HB5.out.size;omega) (by show b≠w3.heap.size;omega)).trans (HB5.out.block b hb)⟩
  by_cases hlt:j<its.xs.length
  ·have hal:=Hit.out.ext hBr
   obtain⟨bi,oi,hA,hbb,hcl⟩:=hal.lies.at_ ItemG.size_cells (by omega) hlt;have d0:wr.cell? ⟨bi,oi+j*6,none⟩=some (.int .i64 its.xs[j].cat):=hcl j hlt wr bo_q 0 _ rfl;have d1:wr.cell? ⟨bi,oi+j*6+1,none⟩=some (.int .i64 its.xs[j].frm):=hcl j hlt wr bo_q 1 _ rfl;have d2:wr.cell? ⟨bi,oi+j*6+2,none⟩=some (.int .i64 its.xs[j].unt):=hcl j hlt wr bo_q 2 _ rfl;have d3:wr.cell? ⟨bi,oi+j*6+3,none⟩=some (.int .i64 its.xs[j].cost):=hcl j hlt wr bo_q 3 _ rfl;have d4:wr.cell? ⟨bi,oi+j*6+4,none⟩=some (.slice its.xs[j].tgt.addr its.xs[j].tgt.xs.length its.xs[j].tgt.cap):=hcl j hlt wr bo_q 4 _ rfl;have d5:wr.cell? ⟨bi,oi+j*6+5,none⟩=some (.int .i64 its.xs[j].term):=hcl j hlt wr bo_q 5 _ rfl;have hxl:=hal.tgt _ (List.getElem_mem hlt);have htk:its.xs.take (j+1)=its.xs.take j++[its.xs[j]]:=List.take_succ_eq_append_getElem hlt;have Htk:=Xa htk;rw[hA];obtain⟨x,hx⟩:∃x,its.xs[j]=x:=⟨_,rfl⟩
   have Hx:=Xa hx;rw[hx] at d0 d1 d2 d3 d4 d5 hxl Htk;obtain⟨w6,hw6⟩:∃w6,wr.alloc x.ob=w6:=⟨_,rfl⟩
   have hb6:=X5 hw6;have hx6:=Yg hw6;have hk6:=(hb6.block _ (by have:=hO.size;have:=Xd Hk5.out;omega)).trans ((hO.block _ (Xd Hk5.out) (by show w.heap.size≠w3.heap.size;have:=Xd Hk2.out;omega)).trans Hk5.out);have cF:=Xe6 x.tgt.addr x.tgt.cap x.tgt.xs 125 #[] (fun y => !Xq y) w6 (by have h:=(StrS.lies.ext hxl hb6).rd;rwa [show strs x.tgt.xs=x.tgt.xs.flatMap (fun b:ByteArray=>[Value.string b]) from by unfold strs;rw[List.map_eq_flatMap]] at h) (Nat.le_trans hxl.cap hxl.max) (enters_of Tryz.func125 (by kernel_rfl) rfl) (fun V hV y _=>Xwq y V (HT.out.ext (Xb hBr (Xb hb6 hV))).u);have cF:=Xa cF;obtain⟨a0,a1,a2,a3,a4,a5⟩:=gb6 hx6;obtain⟨b0,b1,b2,b3,b4,b5⟩:=gb6 hk6;have HB6:=Xa hb6;have Hx6:=Xa hx6;have Hk6:=Xa hk6;have Hxl:=Xa hxl;clear hal hcl hA hx hxl htk hb6 hx6 hk6;by_cases hRt:U9 g n x=true
   rotate_left
   ·have hR0:U9 g n x=false:=by simpa using hRt
    have hErr:errC g its.xs n=280:=(by rw[HE2.out,if_neg (by rw[X1p hlt (by rw[Hx.out];exact hR0)];simp)]);have HErr:=Xa hErr;have HR0:=Xa hR0;clear hErr hR0 hRt;by_cases q0:x.frm<0
    ·have u:¬0<=x.frm:=by omega
     go_wp2_with fail
     refine(Yn _ _ _ (by first|rfl|(simp;done)|(simp;omega)|assumption)).mono ?_;rintro e w' ⟨rfl,rfl⟩;exact⟨rfl,Xb hBr HB6.out,.inl ⟨by rw[HErr.out];decide,by rw[HErr.out]⟩⟩
    have p0:0<=x.frm:=(by omega);by_cases q1:x.unt<=x.frm
    ·have u:¬x.frm<x.unt:=by omega
     go_wp2_with fail
     refine(Yn _ _ _ (by first|rfl|(simp;done)|(simp;omega)|assumption)).mono ?_;rintro e w' ⟨rfl,rfl⟩;exact⟨rfl,Xb hBr HB6.out,.inl ⟨by rw[HErr.out];decide,by rw[HErr.out]⟩⟩
    have p1:x.frm<x.unt:=(by omega);by_cases q2:n<x.unt
    ·have u:¬x.unt<=n:=by omega
     go_wp2_with fail
     refine(Yn _ _ _ (by first|rfl|(simp;done)|(simp;omega)|assumption)).mono ?_;rintro e w' ⟨rfl,rfl⟩;exact⟨rfl,Xb hBr HB6.out,.inl ⟨by rw[HErr.out];decide,by rw[HErr.out]⟩⟩
    have p2:x.unt<=n:=(by omega);by_cases q3:x.term < -1
    ·have u:¬ -1<=x.term:=by omega
     go_wp2_with fail
     refine(Yn _ _ _ (by first|rfl|(simp;done)|(simp;omega)|assumption)).mono ?_;rintro e w' ⟨rfl,rfl⟩;exact⟨rfl,Xb hBr HB6.out,.inl ⟨by rw[HErr.out];decide,by rw[HErr.out]⟩⟩
    have p3 : -1<=x.term:=(by omega);by_cases q4:1048576<x.term
    ·have u:¬x.term<=1048576:=by omega
     go_wp2_with fail
     refine(Yn _ _ _ (by first|rfl|(simp;done)|(simp;omega)|assumption)).mono ?_;rintro e w' ⟨rfl,rfl⟩;exact⟨rfl,Xb hBr HB6.out,.inl ⟨by rw[HErr.out];decide,by rw[HErr.out]⟩⟩
    have p4:x.term<=1048576:=(by omega);by_cases q5:x.tgt.xs.length<1
    ·have u:¬(1:Int)<=(x.tgt.xs.length:Int):=by omega
     go_wp2_with fail
     refine(Yn _ _ _ (by first|rfl|(simp;done)|(simp;omega)|assumption)).mono ?_;rintro e w' ⟨rfl,rfl⟩;exact⟨rfl,Xb hBr HB6.out,.inl ⟨by rw[HErr.out];decide,by rw[HErr.out]⟩⟩
    have p5:(1:Int)<=(x.tgt.xs.length:Int):=(by omega);by_cases q6:4<x.tgt.xs.length
    ·have u:¬(x.tgt.xs.length:Int)<=4:=by omega
     go_wp2_with fail
     refine(Yn _ _ _ (by first|rfl|(simp;done)|(simp;omega)|assumption)).mono ?_;rintro e w' ⟨rfl,rfl⟩;exact⟨rfl,Xb hBr HB6.out,.inl ⟨by rw[HErr.out];decide,by rw[HErr.out]⟩⟩
    have p6:(x.tgt.xs.length:Int)<=4:=(by omega);have p9:1<=x.tgt.xs.length:=(by omega);have p10:x.tgt.xs.length<=4:=(by omega);by_cases qw:x.tgt.xs.any (fun y => !Xq y)=true
    ·rw[qw] at cF
     go_wp2_with fail
     refine cF.out.mono ?_;rintro e w7 ⟨rfl,hb7⟩;go_wp2_with fail
     refine(Yn _ _ _ (by first|rfl|(simp;done)|(simp;omega)|assumption)).mono ?_;rintro e w' ⟨rfl,rfl⟩;exact⟨rfl,Xb hBr (Xb HB6.out hb7),.inl ⟨by rw[HErr.out];decide,by rw[HErr.out]⟩⟩
    have qw2:x.tgt.xs.any (fun y => !Xq y)=false:=(by simpa using qw);have qal:x.tgt.xs.all Xq=true:=by rw[List.all_eq_true];intro y hy;have:=List.any_eq_false.1 qw2 y hy;simpa using this
    rw[qw2] at cF
    have htail:Xpy g x=false:=by
     have h:=HR0.out;rw[Xlq] at h;have hpl:Xfq n x=true:=(by unfold Xfq;simp[p0,p1,p2,p3,p4,p9,p10]);rw[hpl,qal] at h
     simpa using h
    have Htail:=Xa htail;clear htail qw qw2 qal q0 q1 q2 q3 q4 q5 q6;go_wp2_with fail
    refine cF.out.mono ?_;rintro e w7 ⟨rfl,hb7⟩;have hx7:=Xi hb7 Hx6.out;have hk7:=Xi hb7 Hk6.out;obtain⟨a0,a1,a2,a3,a4,a5⟩:=gb6 hx7;obtain⟨b0,b1,b2,b3,b4,b5⟩:=gb6 hk7;clear hx7 hk7;go_wp2_with fail
    refine(Vl _ _ _ (by simp)).mono ?_;rintro e w' ⟨rfl,rfl⟩;have ht:=Htail.out;unfold Xpy at ht;by_cases hcat:x.cat = -1
    ·rw[if_pos hcat] at ht
     have kc:(x.cat == -1)=true:=(by simp[hcat]);have Hcat:=Xa hcat;have hwf:IntKind.i64.wrap (x.frm+1)=x.frm+1:=IntWalk.i64_in _ (by omega);clear hcat;by_cases c1:x.unt=x.frm+1
     ·have k1:(x.unt == x.frm+1)=true:=by simp[c1]
      by_cases c2:x.cost=0
      ·have k2:(x.cost == 0)=true:=by simp[c2]
       have c3:x.tgt.xs.length≠1:=(by intro h;rw[decide_eq_true c1,decide_eq_true c2,decide_eq_true h] at ht;cases ht);have k3:(x.tgt.xs.length == 1)=false:=(by simpa using c3);have k4:((x.tgt.xs.length:Int) == 1)=false:=by have h:¬(x.tgt.xs.length:Int)=1:=(by omega);simp[h]
       clear ht c1 c2 c3;go_wp2_with fail
       refine(Yn _ _ _ (by first|rfl|(simp;done)|(simp;omega)|assumption)).mono ?_;rintro e w' ⟨rfl,rfl⟩;exact⟨rfl,Xb hBr (Xb HB6.out hb7),.inl ⟨by rw[HErr.out];decide,by rw[HErr.out]⟩⟩
      ·have k2:(x.cost == 0)=false:=by simp[c2]
       clear ht c1 c2;go_wp2_with fail
       refine(Yn _ _ _ (by first|rfl|(simp;done)|(simp;omega)|assumption)).mono ?_;rintro e w' ⟨rfl,rfl⟩;exact⟨rfl,Xb hBr (Xb HB6.out hb7),.inl ⟨by rw[HErr.out];decide,by rw[HErr.out]⟩⟩
     ·have k1:(x.unt == x.frm+1)=false:=by simp[c1]
      clear ht c1;go_wp2_with fail
      refine(Yn _ _ _ (by first|rfl|(simp;done)|(simp;omega)|assumption)).mono ?_;rintro e w' ⟨rfl,rfl⟩;exact⟨rfl,Xb hBr (Xb HB6.out hb7),.inl ⟨by rw[HErr.out];decide,by rw[HErr.out]⟩⟩
    ·rw[if_neg hcat] at ht
     have kc:(x.cat == -1)=false:=(by simp[hcat]);have ht2:¬(((0<=x.cat)/\(x.cat<g.cats.xs.length))/\(0<=x.cost)/\(x.cost<=1000)):=(by rintro⟨⟨h1,h2⟩,h3,h4⟩;rw[decide_eq_true h1,decide_eq_true h2,decide_eq_true h3,decide_eq_true h4] at ht;cases ht);clear hcat ht;by_cases r0:x.cat<0
     ·have u:¬0<=x.cat:=by omega
      clear ht2;go_wp2_with fail
      refine(Yn _ _ _ (by first|rfl|(simp;done)|(simp;omega)|assumption)).mono ?_;rintro e w' ⟨rfl,rfl⟩;exact⟨rfl,Xb hBr (Xb HB6.out hb7),.inl ⟨by rw[HErr.out];decide,by rw[HErr.out]⟩⟩
     have t0:0<=x.cat:=(by omega);by_cases r1:(g.cats.xs.length:Int)<=x.cat
     ·have u:¬x.cat<(g.cats.xs.length:Int):=by omega
      clear ht2;go_wp2_with fail
      refine(Yn _ _ _ (by first|rfl|(simp;done)|(simp;omega)|assumption)).mono ?_;rintro e w' ⟨rfl,rfl⟩;exact⟨rfl,Xb hBr (Xb HB6.out hb7),.inl ⟨by rw[HErr.out];decide,by rw[HErr.out]⟩⟩
     have t1:x.cat<(g.cats.xs.length:Int):=(by omega);by_cases r2:x.cost<0
     ·have u:¬0<=x.cost:=by omega
      clear ht2;go_wp2_with fail
      refine(Yn _ _ _ (by first|rfl|(simp;done)|(simp;omega)|assumption)).mono ?_;rintro e w' ⟨rfl,rfl⟩;exact⟨rfl,Xb hBr (Xb HB6.out hb7),.inl ⟨by rw[HErr.out];decide,by rw[HErr.out]⟩⟩
     have t2:0<=x.cost:=(by omega);have u:¬x.cost<=1000:=fun h=>ht2 ⟨⟨t0,t1⟩,t2,h⟩;clear ht2;go_wp2_with fail
     refine(Yn _ _ _ (by first|rfl|(simp;done)|(simp;omega)|assumption)).mono ?_;rintro e w' ⟨rfl,rfl⟩;exact⟨rfl,Xb hBr (Xb HB6.out hb7),.inl ⟨by rw[HErr.out];decide,by rw[HErr.out]⟩⟩
   ·have hRx:=hRt
    rw[Xlq] at hRx;have hpl:Xfq n x=true:=(by cases h:Xfq n x;rw[h] at hRx;simp at hRx;rfl);have hal2:x.tgt.xs.all Xq=true:=(by rw[hpl] at hRx;cases h:x.tgt.xs.all Xq;rw[h] at hRx;simp at hRx;rfl);have htail:Xpy g x=true:=by rw[hpl,hal2] at hRx;simpa using hRx
    have hpp:((0<=x.frm/\x.frm<x.unt)/\x.unt<=n)/\(-1<=x.term/\x.term<=1048576)/\(1<=x.tgt.xs.length/\x.tgt.xs.length<=4):=by
     unfold Xfq at hpl;simp only[Bool.and_eq_true,decide_eq_true_eq] at hpl;exact⟨hpl.1.1,hpl.1.2,hpl.2⟩
    obtain⟨⟨⟨p0,p1⟩,p2⟩,⟨p3,p4⟩,p9,p10⟩:=hpp;have p5:(1:Int)<=(x.tgt.xs.length:Int):=(by omega);have p6:(x.tgt.xs.length:Int)<=4:=by omega
    have qw2:x.tgt.xs.any (fun y => !Xq y)=false:=by
     rw[List.any_eq_false];intro y hy;have:=List.all_eq_true.1 hal2 y hy;simp[this]
    rw[qw2] at cF
    have HallN:Hid ((its.xs.take (j+1)).all (U9 g n)=true):=by
     show _=_;rw[Htk.out,List.all_append,hall.out];simp[hRt]
    have Htail:=Xa htail;clear hRt hRx hpl hal2 htail qw2 hall;go_wp2_with fail
    refine cF.out.mono ?_;rintro e w7 ⟨rfl,hb7⟩;have hx7:=Xi hb7 Hx6.out;have hk7:=Xi hb7 Hk6.out;have HB7:=Xa (Xb HB6.out hb7);have Hx7:=Xa hx7;obtain⟨a0,a1,a2,a3,a4,a5⟩:=gb6 hx7;obtain⟨b0,b1,b2,b3,b4,b5⟩:=gb6 hk7;clear hx7 hk7 hb7;go_wp2_with fail
    refine(Vl _ _ _ (by simp)).mono ?_;rintro e w' ⟨rfl,rfl⟩;have ht:=Htail.out;unfold Xpy at ht;by_cases hcat:x.cat = -1
    rotate_left
    ·rw[if_neg hcat] at ht
     have kc:(x.cat == -1)=false:=(by simp[hcat]);simp only[Bool.and_eq_true,decide_eq_true_eq] at ht;obtain⟨⟨t0,t1⟩,t2,t3⟩:=ht
     have HRn:Hid (WRows w5.heap.size w3.heap.size (its.xs.take (j+1)) w7):=by
      show WRows _ _ _ _;rw[Htk.out];exact(hR.out.skip hcat).ext HB7.out
     have hOn:=hO.ext HB7.out;clear hcat hR;go_wp2_with fail
     refine(Vl _ _ _ (by first|rfl|(simp;done)|(simp;omega)|assumption)).mono ?_;rintro e w' ⟨rfl,rfl⟩;go_wp2_with fail
     go_roundw
     case rel=>exact⟨j+1,by omega,by go_num,hOn,HRn,HallN⟩
     case measure=>simp[intOf];omega
    ·rw[if_pos hcat] at ht
     have kc:(x.cat == -1)=true:=(by simp[hcat]);simp only[Bool.and_eq_true,decide_eq_true_eq] at ht;obtain⟨⟨c1,c2⟩,c3⟩:=ht;have k1:(x.unt == x.frm+1)=true:=(by simp[c1]);have k2:(x.cost == 0)=true:=(by simp[c2]);have k3:(x.tgt.xs.length == 1)=true:=(by simp[c3]);have k4:((x.tgt.xs.length:Int) == 1)=true:=(by simp[c3]);have hwf:IntKind.i64.wrap (x.frm+1)=x.frm+1:=IntWalk.i64_in _ (by omega);have Hcat:=Xa hcat;have Hc3:=Xa c3;clear hcat c1 c2 c3;go_wp2_with fail
     refine(Vl _ _ _ (by first|rfl|(simp;done)|(simp;omega)|assumption)).mono ?_;rintro e w' ⟨rfl,rfl⟩;clear k1 k2 k3 k4;have htg:=Hit.out.tgt x (by rw[<- Hx.out];exact List.getElem_mem hlt);have h0t:0<x.tgt.xs.length:=(by omega);obtain⟨bt,ot,hAt,hbt,hct⟩:=StrS.at_ htg (k:=0) h0t;have hs0:=hct 0 h0t;rw[Nat.add_zero,X1z h0t] at hs0;rw[hAt] at a4;have hBw:=Xb hBr HB7.out;have hc7:=(HB7.out.block _ (by have:=hO.size;have:=Xd Hc5.out;omega)).trans ((hO.block _ (Xd Hc5.out) (by show w4.heap.size≠w3.heap.size;omega)).trans Hc5.out);have hR7:=hR.out.ext HB7.out;obtain⟨⟨va,vl,vc⟩,hlook,hov⟩:=hR7.look x.frm (by omega) (by omega);obtain⟨u0,hu0⟩:∃u0,w7.drew=u0:=⟨_,rfl⟩
     have hbu0:Below w7.heap.size w7 u0:=(by rw[<- hu0];exact bd_q);obtain⟨u1,hu1⟩:∃u1,u0.alloc (.cells #[.string (Xaa x)] 9)=u1:=⟨_,rfl⟩
     have hbu1:=X5 hu1;have hbu:=Xb hbu0 hbu1;have hR1:=hR7.ext hbu;have hwbl:w3.heap.size<w7.heap.size:=by have h:=HB7.out.size;have h2:=hO.size;omega
     have hlk0:=hlook u0 (hbu0.block _ hwbl);have hlk1:=hlook u1 (hbu.block _ hwbl);have hov1:=hov.ext hbu;have hwl:=Xqb (its.xs.take j) x.frm;have htl:(its.xs.take j).length<=j:=List.length_take_le _ _;obtain⟨iS,hiS,hzS,hsS,hbS⟩:=info_parts Xv0;obtain⟨v',w1,hrun,hown',hgrow,_,hat⟩:=run_append_own_at (P:=Tryz.prog) u1 w5.heap.size 22 22 9 iS _ 1 16 Tryz.underlying22 hiS hzS hsS hbS rfl (by decide) (.slice va vl vc) (Yy (its.xs.take j) x.frm).length ((Yy (its.xs.take j) x.frm).flatMap strC) hov1 ⟨u0.heap.size,0,none⟩ 1 1 [.string (Xaa x)] rfl (by rw[<- hu1];exact Qa u0 [.string (Xaa x)] 9) (by intro u hu;simp at hu;subst hu;rfl) (by unfold maxLen;omega) (by omega) (by have h:=HB7.out.size;have h2:=hO.size;have h3:=hbu.size;omega);obtain⟨g',cap',rfl⟩:=ownsRow_succ hown';obtain⟨w9,hrun2,hRn,hO9⟩:=hR1.store (x:=x) Hcat.out (by omega) (by omega) (by omega) (v:=⟨va,vl,vc⟩) (v':=⟨some ⟨g',0,none⟩,(Yy (its.xs.take j) x.frm).length+1,cap'⟩) hov1 hlk1 (OwnL.snoc (f:=strC) (Xaa x) hown') hgrow hat (by omega);have hO7:=hO.ext HB7.out
     have hOn:Only (fun b=>b=w3.heap.size) w5 w9:=by
      have hs7:=hO7.size;have hsu:=hbu.size;refine⟨hO9.os.trans (hbu.os.trans hO7.os),hO9.tape.trans (hbu.tape.trans hO7.tape),hO9.output.trans (hbu.output.trans hO7.output),by have:=hO9.size;omega,fun b hb hn=>(hO9.block b (by omega) fun h=>?_).trans ((hbu.block b (by omega)).trans (hO7.block b hb hn))⟩;rcases h with h|h
      ·exact hn h
      ·have:=(hov.lt b h).1;omega
     have HRn:Hid (WRows w5.heap.size w3.heap.size (its.xs.take (j+1)) w9):=by
      show WRows _ _ _ _;rw[Htk.out];exact hRn
     have hC:∀V:World,V.heap[w4.heap.size]? = w7.heap[w4.heap.size]? -> V.heap[wr.heap.size]? = w7.heap[wr.heap.size]? -> V.heap[bt]? = w7.heap[bt]? -> (V.cell? ⟨w4.heap.size,9,none⟩=some (.map (some w3.heap.size))/\V.cell? ⟨wr.heap.size,1,none⟩=some (.int .i64 x.frm)/\V.cell? ⟨wr.heap.size,4,none⟩=some (.slice (some ⟨bt,ot,none⟩) x.tgt.xs.length x.tgt.cap)/\V.cell? ⟨bt,ot,none⟩=some (.string (Xaa x))):=fun V e1 e2 e3 =>
      ⟨gblk (e1.trans hc7) 9,gblk (e2.trans Hx7.out) 1,(gblk (e2.trans Hx7.out) 4).trans (by rw[hAt];rfl),(World.cell?_of_block (w:=w7) e3).trans ((hBw.cell (p:=⟨bt,ot,none⟩) hbt).trans hs0)⟩
     have hl4:=Xd hc7;have hlx:=Xd Hx7.out;have hlt7:bt<w7.heap.size:=Nat.lt_of_lt_of_le hbt hBw.size
     have hkeep:∀b,b<w5.heap.size->b≠w3.heap.size->w9.heap[b]? = w7.heap[b]? := fun b hb hn=>(hO9.block b (by have:=hO7.size;have:=hbu.size;omega) fun h=>by
      rcases h with h|h
      ·exact hn h
      ·have:=(hov.lt b h).1;omega).trans (hbu.block b (by have:=hO7.size;omega))
     have hgk:∀b,b<w7.heap.size->(∀cs fr,w7.heap[b]? ≠ some (.cells cs 9 fr))->w1.heap[b]? = w7.heap[b]? := fun b hb hn=>(hgrow.block b (by have:=hbu.size;omega) fun e=>by
      rcases hov.2 with ⟨q1,_⟩|⟨g9,c9,cur,q1,q2,q3,_⟩
      ·change KidS.val ⟨va,vl,vc⟩=_ at q1
       rw[show (Value.slice va vl vc)=KidS.val ⟨va,vl,vc⟩ from rfl,q1] at e;cases e
      ·change KidS.val ⟨va,vl,vc⟩=_ at q1
       rw[show (Value.slice va vl vc)=KidS.val ⟨va,vl,vc⟩ from rfl,q1] at e;have e2:=Option.some.inj e;have e3:b=g9:=e2;rw[e3] at hn;exact hn _ _ q3).trans (hbu.block b hb)
     have hgt:w1.heap[bt]? = w7.heap[bt]? := (hgrow.block bt (by have:=hbu.size;omega) fun e=>by have:=(hov.lt bt e.symm).1;have:=HB5.out.size;omega).trans (hbu.block bt hlt7)
     have hne:∀ {b:Nat} {cs:Array Value} {tt:TypeId} {fr:Nat×Nat},w7.heap[b]? = some (.cells cs tt fr)->tt≠9->∀cs fr,w7.heap[b]? ≠ some (.cells cs 9 fr):=fun {b cs tt fr} h hn cs' fr' h'=>by
      rw[h] at h';have:=Option.some.inj h';injection this with _ e _;exact hn e
     have HC0:=Xa (hC u0 (hbu0.block _ hl4) (hbu0.block _ hlx) (hbu0.block _ hlt7));have HC1:=Xa (hC u1 (hbu.block _ hl4) (hbu.block _ hlx) (hbu.block _ hlt7));have HCw:=Xa (hC w1 (hgk _ hl4 (hne hc7 (by decide))) (hgk _ hlx (hne Hx7.out (by decide))) hgt)
     have HCf:=Xa (hC w9 (hkeep _ (by omega) (by omega)) ((hO9.block _ (by have:=hbu.size;omega) fun h=>by
      rcases h with h|h
      ·have:=hO.size;omega
      ·rcases hov.2 with ⟨q1,_⟩|⟨g9,c9,cur,q1,q2,q3,_⟩
       ·rw[q1] at h;cases h
       ·rw[q1] at h
        have e2:=Option.some.inj h;have e3:g9=wr.heap.size:=e2;rw[e3] at q3;exact hne Hx7.out (by decide) _ _ q3).trans (hbu.block _ hlx)) (hkeep _ (by have:=HB5.out.size;omega) (by have:=HB5.out.size;omega)))
     have HOn:=Xa hOn;clear hs0 hct hc7 hR7 hlook hov hbu0 hbu1 hbu hR1 hov1 hown' hgrow hat hRn hO9 hO7 hOn hC hkeep hgk hgt hne hwl htl htg hBw hR;unfold KidS.val at hlk0 hlk1 hrun2;go_wp2_with fail
     refine wpIn_wide (n:=0) |>.1 ?_
     apply Xdx (w':=w9)
     ·refine Xn (fun V=>V.cell? ⟨w4.heap.size,9,none⟩=some (.map (some w3.heap.size))/\V.cell? ⟨wr.heap.size,1,none⟩=some (.int .i64 x.frm)/\V.cell? ⟨wr.heap.size,4,none⟩=some (.slice (some ⟨bt,ot,none⟩) x.tgt.xs.length x.tgt.cap)/\V.cell? ⟨bt,ot,none⟩=some (.string (Xaa x))) (by kernel_rfl) ?_
      rw[hu0];refine Xc (i:=0) (hy:=fun V hV=>(by obtain⟨r1,r2,r3,r4⟩:=hV;go_simp<;>rfl)) ?_;refine Xc (i:=1) (hy:=fun V hV=>(by obtain⟨r1,r2,r3,r4⟩:=hV;go_simp<;>rfl)) ?_;refine Xc (i:=2) (hy:=fun V hV=>(by obtain⟨r1,r2,r3,r4⟩:=hV;go_simp<;>rfl)) ?_;refine Xc (i:=3) (hy:=fun V hV=>(by obtain⟨r1,r2,r3,r4⟩:=hV;go_simp<;>rfl)) ?_;refine Xc (i:=4) (hy:=fun V hV=>(by obtain⟨r1,r2,r3,r4⟩:=hV;go_simp<;>rfl)) ?_;refine Xc (i:=5) (hy:=fun V hV=>(by obtain⟨r1,r2,r3,r4⟩:=hV;go_simp<;>rfl)) ?_;refine Xc (i:=6) (hy:=fun V hV=>(by obtain⟨r1,r2,r3,r4⟩:=hV;go_simp<;>rfl)) ?_;refine Xc (i:=7) (hy:=fun V hV=>(by obtain⟨r1,r2,r3,r4⟩:=hV;go_simp<;>rfl)) ?_;refine Xc (i:=8) (hy:=fun V hV=>(by obtain⟨r1,r2,r3,r4⟩:=hV;go_simp<;>rfl)) ?_;refine Xc (i:=9) (hy:=fun V hV=>(by obtain⟨r1,r2,r3,r4⟩:=hV;go_simp<;>rfl)) ?_;refine Xc (i:=10) (hy:=fun V hV=>(by obtain⟨r1,r2,r3,r4⟩:=hV;go_simp<;>rfl)) ?_;refine Xc (i:=11) (hy:=fun V hV=>(by obtain⟨r1,r2,r3,r4⟩:=hV;go_simp<;>rfl)) ?_;refine Xc (i:=13) (hy:=fun V hV=>(by obtain⟨r1,r2,r3,r4⟩:=hV;go_simp<;>rfl)) ?_;refine Xc (i:=14) (hy:=fun V hV=>(by obtain⟨r1,r2,r3,r4⟩:=hV;go_simp<;>rfl)) ?_;refine Xc (i:=15) (hy:=fun V hV=>(by obtain⟨r1,r2,r3,r4⟩:=hV;go_simp<;>rfl)) ?_;refine Xc (i:=16) (hy:=fun V hV=>(by obtain⟨r1,r2,r3,r4⟩:=hV;go_simp<;>rfl)) ?_;refine Xl (rs:=[12,17]) HC0.out (by kernel_rfl) (by simp) (AllC.cons rfl (fun K hK=>?_) (AllC.cons rfl (fun K hK=>?_) AllC.nil))
      ·go_simp
       refine hK _ _ ?_;clear hK K;refine Xh (i:=17) HC0.out fun K hK=>?_;go_simp
       refine hK _ _ ?_;clear hK K;refine Xh (i:=18) HC1.out fun K hK=>?_;refine Xt rfl _ _ _ rfl rfl rfl hrun (hK _ _ ?_);clear hK K;refine Xh (i:=19) HCw.out fun K hK=>?_;go_simp
       refine hK _ _ ?_;clear hK K;exact Xk HCf.out (by kernel_rfl) ⟨rfl,rfl⟩ _
      ·go_simp
       refine hK _ _ ?_;clear hK K;refine Xh (i:=12) HC1.out fun K hK=>?_;go_simp
       refine hK _ _ ?_;clear hK K;refine Xh (i:=18) HC1.out fun K hK=>?_;refine Xt rfl _ _ _ rfl rfl rfl hrun (hK _ _ ?_);clear hK K;refine Xh (i:=19) HCw.out fun K hK=>?_;go_simp
       refine hK _ _ ?_;clear hK K;exact Xk HCf.out (by kernel_rfl) ⟨rfl,rfl⟩ _
     ·go_wp2_with fail
      go_roundw
      case rel=>exact⟨j+1,by omega,by go_num,HOn.out,HRn,HallN⟩
      case measure=>simp[intOf];omega
  ·obtain rfl:j=its.xs.length:=by omega
   have hal:=hall.out;rw[List.take_length] at hal;have hE0:errC g its.xs n=0:=(by rw[HE2.out,if_pos hal]);have hrr:=hR.out;rw[List.take_length] at hrr;have hAr:=Xfa hE0
   have hne:∀x∈its.xs,x.cat = -1->x.tgt.xs≠[]:=fun x hx _ h0=>by
    have:=(Tx (hAr.right x hx)).2.2.2.2.2.2.2;rw[h0] at this;simp at this
   have hcn:((n.toNat:Nat):Int)=n:=by omega
   have hfin:Xth g its n w (.returned (.pointer (some ⟨w4.heap.size,0,none⟩))) wr:=by
    have hmr:=Hm5.out.of_block (hO.block _ Hm5.out.lt (by show w2.heap.size≠w3.heap.size;omega));have hwz:=hO.size;refine⟨hBr,.inr ⟨hE0,w4.heap.size,w2.heap.size,w3.heap.size,wr.heap.size,rfl,⟨hBr,?_,hrr.done hne (by omega),⟨by omega,by omega⟩,⟨by omega,by omega⟩,⟨by omega,by omega⟩,by omega,Nat.le_refl _,?_⟩,fun X=>⟨?_,fun x fd h=>by cases h⟩⟩⟩
    ·unfold Xdf
     rw[hcn];exact(hO.block _ (Xd Hc5.out) (by show w4.heap.size≠w3.heap.size;omega)).trans Hc5.out
    ·obtain⟨_,⟨_,_,hmm,_⟩,_⟩:=hmr
     exact⟨_,_,hmm⟩
    ·exact hmr.mono (Nat.zero_le _)
   have HF:=Xa hfin;clear hal hE0 hrr hAr hne hcn hfin hR hall hO hBr;go_wp2_with fail
   go_ret;exact HF.out
theorem Uv {s k:Nat} {A B C:World} (h:Below s A B) (hs:s<=B.heap.size) (ho:Only (fun j=>j=k) B C) (hk:s<=k):Below s A C :=
 ⟨ho.os.trans h.os,ho.tape.trans h.tape,ho.output.trans h.output,Nat.le_trans h.size ho.size,fun b hb=>(ho.block b (Nat.lt_of_lt_of_le hb hs) (by show b≠k;omega)).trans (h.block b hb)⟩
theorem Xyt (g:Gram) (its:SlS ItemG) (n:Int) (U:World) (hT:TabsG U) (hg:g.lies U) (hs:g.short) (hi:ItemsAt U its) (h0:errC g its.xs n=0):Calls Tryz.prog 66 #[g.vl,.slice its.addr its.xs.length its.cap,.int .i64 n] U fun e w'=>∃cb kb wb top,e = .returned (.pointer (some ⟨cb,0,none⟩))/\ChEnv U cb kb wb top g its n.toNat w'/\KnownF (fun _=>False) g its.xs n.toNat kb (fun _=>none) w'/\Below U.heap.size U w' :=
 (Xkq g its n U hT hg hs hi).mono fun _ _ ⟨h1,h2⟩=>by
  rcases h2 with ⟨h3,_⟩|⟨_,cb,kb,wb,top,e,h4,h5⟩
  ·exact absurd h0 h3
  ·exact⟨cb,kb,wb,top,e,h4,h5 _,h1⟩
theorem Xys (g:Gram) (its:SlS ItemG) (n:Int) (U:World) (hT:TabsG U) (hg:g.lies U) (hs:g.short) (hi:ItemsAt U its) (h0:errC g its.xs n≠0):Calls Tryz.prog 66 #[g.vl,.slice its.addr its.xs.length its.cap,.int .i64 n] U fun e w'=>e = .panicked (Ud (errC g its.xs n))/\Below U.heap.size U w' :=
 (Xkq g its n U hT hg hs hi).mono fun _ _ ⟨h1,h2⟩=>by
  rcases h2 with ⟨_,h3⟩|⟨h3,_⟩
  ·exact⟨h3,h1⟩
  ·exact absurd h3 h0
end Go.Proofs.YtolpbjjapodmnaaGreatDoor
