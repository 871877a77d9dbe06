/- Texts of this claim, one after the other: GrmF, GrmG, GrmH, GrmL. -/
import Derived.Test.YtolpbjjapodmnaaGreatDoorM18
import Derived.Test.YtolpbjjapodmnaaGreatDoorM4
import Derived.Test.YtolpbjjapodmnaaGreatDoorM3
import Derived.Test.YtolpbjjapodmnaaGreatDoorM5
import Derived.Test.YtolpbjjapodmnaaGreatDoorM6
import Derived.BigQuiet
import Derived.Laws.EntriesVeiled
import Derived.Maps.RangeWalk
namespace Go.Proofs.YtolpbjjapodmnaaGreatDoor
open Go.RowKit Go.Han
set_option maxRecDepth 100000
attribute [local irreducible] wpStill wpQuiet
set_option maxHeartbeats 8000000
theorem Xvr {w:World} {g j e:Nat} {u:Value} {c:Array Value} {fr:Nat×Nat} (h:w.heap[g]? = some (.cells c e fr)):(w.setCell ⟨g,j,none⟩ u).heap[g]? = some (.cells (c.setIfInBounds j u) e fr):=by
 obtain⟨hlt,hk⟩:=Array.getElem?_eq_some_iff.1 h;show (w.heap.modify g _)[g]? = _;rw[Array.getElem?_eq_getElem (by rw[Array.size_modify];exact hlt),Array.getElem_modify_self,hk];rfl
theorem Xk8 (z:Value) (n:Nat):madeCells #[z] n=Array.replicate n z:=by
 apply Array.ext
 ·simp[madeCells]
 ·intro i h1 h2
  simp[madeCells,Nat.mod_one]
theorem Xrh:(Tryz.prog.info? 3).map (fun i=>(i.zero,i.size,i.bytes))=some (some (.int .i64 0),1,8):=by kernel_rfl
theorem X0a (n:Nat) (h:n<=1000) (w:World):(Instr.makeSlice 49 (.int .i64 (n:Int)) (.int .i64 (n:Int))).run Tryz.prog w = .ok (.slice (some ⟨w.heap.size,0,none⟩) n n) (w.alloc (.cells (Array.replicate n (.int .i64 0)) 3)):=by
 rw[<- Xk8];exact run_make_row' (P:=Tryz.prog) 49 3 (.int .i64 0) 8 Tryz.underlying49 Xrh rfl .i64 .i64 n (by omega) (by omega) w
def Tq (l:List GiveG) (n:Nat):Array Value:=((List.range n).map fun i=>Value.int .i64 (Yw l i:Nat)).toArray
theorem Xwe (n:Nat):Tq [] n=Array.replicate n (.int .i64 0):=by
 unfold Tq;apply Array.ext
 ·simp
 ·intro i h1 h2
  simp[Yw]
theorem Xfm (l:List GiveG) {n i:Nat} (h:i<n):(Tq l n)[i]? = some (.int .i64 (Yw l i:Nat)):=by
 unfold Tq;simp[h]
theorem Xrx (l:List GiveG) (n:Nat) (y:GiveG) (h:¬y.text.size=0):Tq (l++[y]) n=Tq l n:=by
 unfold Tq
 congr 1
 refine List.map_congr_left fun i _=>?_;rw[Xif,if_neg (fun hh=>h hh.1)];rfl
theorem Xrw (l:List GiveG) (n p:Nat) (y:GiveG) (h:y.text.size=0) (hp:y.part=(p:Int)):(Tq l n).setIfInBounds p (.int .i64 ((Yw l p:Nat)+1:Int))=Tq (l++[y]) n:=by
 unfold Tq;apply Array.ext
 ·simp
 ·intro i h1 h2
  simp only[List.size_toArray,List.length_map,List.length_range,Array.size_setIfInBounds] at h1 h2;rw[Array.getElem_setIfInBounds (by simpa using h1)];simp only[List.getElem_toArray,List.getElem_map,List.getElem_range];rw[Xif];by_cases e:p=i
  ·subst e
   rw[if_pos rfl,if_pos ⟨h,hp⟩];simp
  ·rw[if_neg e,if_neg (fun hh=>e (by have:=hh.2;omega))];rfl
theorem Xyo (bc bf bi bm:Nat) (cats:List ByteArray) (ps:SlS PartG) (W:World) (hT:TabsG W) (hc:CatBox W bc bf bi bm cats) (hs:ps.lies PartG.cells W) (hl:∀p∈ps.xs,p.cat.size<=maxLen) :
  Calls Tryz.prog 234 #[.func (.func 232) #[] #[.pointer (some ⟨bc,0,none⟩)],.slice (some ⟨W.heap.size,0,none⟩) 1 1] (W.alloc (.cells #[.slice ps.addr ps.xs.length ps.cap] 76)) fun e w'=>e = .returned (.bool (ps.xs.all (Ui cats)))/\Below W.heap.size W w':=by
 have hB:Below W.heap.size W (W.alloc (.cells #[.slice ps.addr ps.xs.length ps.cap] 76)):=ba_q;refine(Xyn W.heap.size ps.addr ps.cap ps.xs 232 #[.pointer (some ⟨bc,0,none⟩)] (Ui cats) _ (World.alloc_heap_new _ _) (hs.ext hB).rd (Nat.le_trans hs.cap hs.max) (enters_of Tryz.func232 (by kernel_rfl) rfl) ?_).mono fun _ _ ⟨h1,h2⟩=>⟨h1,Xb hB h2⟩
 intro V hV x hx;exact Xpb bc bf bi bm cats x V (hT.ext (Xb hB hV)) (hc.ext (Xb hB hV)) (hl x hx)
def Xzi (cats:List ByteArray) (x:RuleG):Bool:=catB cats x.cat && (decide (1<=x.parts.xs.length) && decide (x.parts.xs.length<=4)) && (decide (1<=x.gives.xs.length) && decide (x.gives.xs.length<=8)) && Xbp x.cost && x.parts.xs.all (Ui cats)
theorem Xsk (cats:List ByteArray) (x:RuleG):Vh cats x=(Xzi cats x && (x.gives.xs.all (To x.parts.xs.length) && Xbx x.gives.xs 0 x.parts.xs)):=by
 unfold Vh Xzi;rw[Bool.and_assoc,Xrf]
theorem Xt1 (a b n:Nat):(decide ((a:Int)<=(n:Int)) && decide ((n:Int)<=(b:Int)))=(decide (a<=n) && decide (n<=b)):=by
 congr 1<;>(apply decide_eq_decide.2;omega)
theorem Xpm (bp bc bf bi bm:Nat) (cats:List ByteArray) (x:RuleG) (w:World) (hT:TabsG w) (hc:CatBox w bc bf bi bm cats) (hx:x.lies w) (hp:FnBox w bp 288 232 #[.pointer (some ⟨bc,0,none⟩)])
  (hs:x.cat.size<=maxLen) (hl:∀p∈x.parts.xs,p.cat.size<=maxLen) :
  Calls Tryz.prog 233 #[x.vl,.pointer (some ⟨bc,0,none⟩),.pointer (some ⟨bp,0,none⟩)] w fun e w'=>e = .returned (.bool (Vh cats x))/\Below w.heap.size w w':=by
 obtain⟨W1,hW1⟩:∃W1,w.alloc x.ob=W1:=⟨_,rfl⟩
 have hB1:Below w.heap.size w W1:=by subst hW1;exact ba_q
 have hk:W1.heap[w.heap.size]? = some x.ob:=by subst hW1;exact World.alloc_heap_new _ _
 have eg:=enters_of Tryz.func227 (by kernel_rfl) rfl;have HR:=Xa (Xsk cats x);have HE:Hid (Xzi cats x=(catB cats x.cat && (decide (1<=x.parts.xs.length) && decide (x.parts.xs.length<=4)) && (decide (1<=x.gives.xs.length) && decide (x.gives.xs.length<=8)) && Xbp x.cost && x.parts.xs.all (Ui cats))):=rfl;have HT:=Xa (hT.ext hB1);have HC:=Xa (hc.ext hB1);have HX:=Xa (RuleG.lies.ext hx hB1);have cC:=Xa (Xcg bf bi bm cats x.cat W1 HC.out.2.1 HC.out.2.2 hs);have cB:=Xa (fun W=>Xkt 1 4 (x.parts.xs.length:Int) W);have cG:=Xa (fun W=>Xkt 1 8 (x.gives.xs.length:Int) W);have cD:=Xa (fun W=>Xkt 0 1000 x.cost W);have cA:=Xa (fun W (hW:Below W1.heap.size W1 W)=>Xyo bc bf bi bm cats x.parts W (HT.out.ext hW) (HC.out.ext hW) (HX.out.1.ext hW) hl);have hcb:=HC.out.1;have hpb:=hp.ext hB1;rw[show (decide ((1:Int)<=(x.parts.xs.length:Int)) && decide ((x.parts.xs.length:Int)<=4))=(decide (1<=x.parts.xs.length) && decide (x.parts.xs.length<=4)) from Xt1 1 4 _] at cB;rw[show (decide ((1:Int)<=(x.gives.xs.length:Int)) && decide ((x.gives.xs.length:Int)<=8))=(decide (1<=x.gives.xs.length) && decide (x.gives.xs.length<=8)) from Xt1 1 8 _] at cG;have HE5:Hid (Xbp x.cost=(decide (0<=x.cost) && decide (x.cost<=1000))):=rfl;rw[<- HE5.out] at cD;have Hpl:Hid ((decide (1<=x.parts.xs.length) && decide (x.parts.xs.length<=4))=true->x.parts.xs.length<=4):=by intro h;simp at h;exact h.2
 have Hgl:Hid ((decide (1<=x.gives.xs.length) && decide (x.gives.xs.length<=8))=true->x.gives.xs.length<=8):=by intro h;simp at h;exact h.2
 generalize catB cats x.cat=f1 at *;generalize (decide (1<=x.parts.xs.length) && decide (x.parts.xs.length<=4))=f2 at *;generalize (decide (1<=x.gives.xs.length) && decide (x.gives.xs.length<=8))=f3 at *;generalize Xbp x.cost=f4 at *;generalize x.parts.xs.all (Ui cats)=f5 at *;clear hT hc hx hp hl HE5;obtain⟨a0,a1,a2,a3,a4⟩:=gb5 hk;have c0:=Xe hcb;go_enter Tryz.func233,Tryz.ntmps233
 go_wp2_with fail
 refine cC.out.mono ?_;rintro e w' ⟨rfl,rfl⟩;clear hW1;cases f1
 ·go_wp2_with fail
  go_ret;exact⟨by rw[HR.out,HE.out];rfl,hB1⟩
 go_wp2_with fail
 refine(cB.out W1).mono ?_;rintro e w2 ⟨rfl,hb2⟩;have hB2:=Xb hB1 hb2;have hk2:=Xi hb2 hk;cases f2
 ·go_wp2_with fail
  go_ret;exact⟨by rw[HR.out,HE.out];rfl,hB2⟩
 obtain⟨b0,b1,b2,b3,b4⟩:=gb5 hk2;clear a0 a1 a2 a3 a4 c0;go_wp2_with fail
 refine(cG.out w2).mono ?_;rintro e w3 ⟨rfl,hb3⟩;have hB3:=Xb hB2 hb3;have hk3:=Xi hb3 hk2;cases f3
 ·go_wp2_with fail
  go_ret;exact⟨by rw[HR.out,HE.out];rfl,hB3⟩
 obtain⟨d0,d1,d2,d3,d4⟩:=gb5 hk3;clear b0 b1 b2 b3 b4;go_wp2_with fail
 refine(cD.out w3).mono ?_;rintro e w4 ⟨rfl,hb4⟩;have hB4:=Xb hB3 hb4;have hk4:=Xi hb4 hk3;cases f4
 ·go_wp2_with fail
  go_ret;exact⟨by rw[HR.out,HE.out];rfl,hB4⟩
 obtain⟨g0,g1,g2,g3,g4⟩:=gb5 hk4;have hb14:=Xb hb2 (Xb hb3 hb4);have hp4:=Xe (hpb.ext hb14);clear d0 d1 d2 d3 d4;go_wp2_with fail
 refine(cA.out w4 hb14).mono ?_;rintro e w5 ⟨rfl,hb5⟩;have hB5:=Xb hB4 hb5;have hk5:=Xi hb5 hk4;cases f5
 ·go_wp2_with fail
  go_ret;exact⟨by rw[HR.out,HE.out];rfl,hB5⟩
 have hpl:=Hpl.out trivial;have hgl:=Hgl.out trivial;have HF:Hid (Vh cats x=(x.gives.xs.all (To x.parts.xs.length) && Xbx x.gives.xs 0 x.parts.xs)):=by show _=_;rw[HR.out,HE.out];rfl
 have HT5:=Xa (HT.out.ext (Xb hb14 hb5));have HX5:=Xa (HX.out.ext (Xb hb14 hb5));have Hk5:=Xa hk5;obtain⟨k0,k1,k2,k3,k4⟩:=gb5 hk5;clear g0 g1 g2 g3 g4 hp4 cA cB cC cD cG hb2 hb3 hb4 hb14 hb5 hB1 hB2 hB3 hB4 hk hk2 hk3 hk4 hk5 hcb hpb HR HE HT HC HX Hpl Hgl eg;have hmk:=fun w=>X0a x.parts.xs.length (by omega) w;have hnil:=Xa (Xwe x.parts.xs.length);obtain⟨n,hn⟩:∃n,x.parts.xs.length=n:=⟨_,rfl⟩
 obtain⟨w6,hw6⟩:∃w6,w5.alloc (.cells (Array.replicate n (.int .i64 0)) 3)=w6:=⟨_,rfl⟩
 rw[hn] at hnil HF hmk hpl;have hB6:Below w5.heap.size w5 w6:=by subst hw6;exact ba_q
 have hm6:w6.heap[w5.heap.size]? = some (.cells (Tq [] n) 3 (0,0)):=by subst hw6;rw[hnil.out];exact World.alloc_heap_new _ _
 have hk6:=Xi hB6 Hk5.out;have HK6:=Xa hk6;have k6:w6.cell? ⟨w.heap.size,3,none⟩=some (.slice x.gives.addr x.gives.xs.length x.gives.cap):=gblk hk6 3;clear hk6;go_wp2_with fail
 clear k0 k1 k2 k3 k4 k6 hmk hnil hw6;go_loopw [53] (fun i wr=>∃k:Nat,k<=x.gives.xs.length/\i = .int .i64 k/\Below w5.heap.size w5 wr/\wr.heap[w5.heap.size]? = some (.cells (Tq (x.gives.xs.take k) n) 3 (0,0))/\Hid ((x.gives.xs.take k).all (To n)=true)) (fun i _=>x.gives.xs.length-(intOf i).toNat)
 case atStart=>exact⟨0,Nat.zero_le _,rfl,hB6,hm6,rfl⟩
 case round =>
  obtain⟨k,hk,rfl,hB,hm,HR⟩:=hrel;have hBw:=Xb hB5 hB;by_cases hlt:k<x.gives.xs.length
  ·obtain⟨b,off,hA,hb,hc⟩:=HX5.out.2.at_ GiveG.size_cells (by omega) hlt
   rw[hA];have d0:wr.cell? ⟨b,off+k*2,none⟩=some (.int .i64 x.gives.xs[k].part):=hc k hlt wr hB 0 _ rfl;have d1:wr.cell? ⟨b,off+k*2+1,none⟩=some (.string x.gives.xs[k].text):=hc k hlt wr hB 1 _ rfl;have hmem:=List.getElem_mem hlt;have htk:x.gives.xs.take (k+1)=x.gives.xs.take k++[x.gives.xs[k]]:=List.take_succ_eq_append_getElem hlt;have Htk:=Xa htk;have Hmem:=Xa hmem;clear hc hmem htk hA;obtain⟨y,hy⟩:∃y,x.gives.xs[k]=y:=⟨_,rfl⟩
   rw[hy] at Htk Hmem d0 d1;clear hy;obtain⟨W2,hW2⟩:∃W2,wr.alloc (.cells #[.int .i64 y.part,.string y.text] 176)=W2:=⟨_,rfl⟩
   have hb2:Below wr.heap.size wr W2:=(by subst hW2;exact ba_q);have hy2:W2.heap[wr.heap.size]? = some (.cells #[.int .i64 y.part,.string y.text] 176 (0,0)):=(by subst hW2;exact World.alloc_heap_new _ _);have hm2:=Xi hb2 hm;have hB2:=Xb hB hb2
   have HFf:Hid (To n y=false->Vh cats x=false):=by
    intro h;rw[HF.out];have:x.gives.xs.all (To n)=false:=(by rw[List.all_eq_false];exact⟨y,Hmem.out,by simp[h]⟩);rw[this];rfl
   have HFt:Hid (To n y=true->(x.gives.xs.take (k+1)).all (To n)=true):=by
    intro h;rw[Htk.out,List.all_append,HR.out];simp[h]
   obtain⟨e0,e1⟩:=gb2 hy2;by_cases ht:y.text.size=0
   ·have n0:=Up (s:=y.text) (by omega)
    have n1:(y.text.toList != [])=false:=by have:=List.isEmpty_iff.1 n0;simp[this]
    have HG:Hid (To n y=(decide (0<=y.part) && decide (y.part<=(n:Int)-1))):=by
     show _=_;unfold To;rw[if_pos ht]
     congr 1
     exact decide_eq_decide.2 (by omega)
    have cB:=Xa (Xkt 0 ((n:Int)-1) y.part W2);have z2:Hid (W2.heap.size=wr.heap.size+1):=by show _=_;rw[<- hW2];simp
    have HN:Hid (∀p:Nat,y.part=(p:Int)->(Tq (x.gives.xs.take k) n).setIfInBounds p (.int .i64 ((Yw (x.gives.xs.take k) p:Nat)+1:Int))=Tq (x.gives.xs.take (k+1)) n):=by
     intro p hp;rw[Htk.out];exact Xrw _ n p y ht hp
    rw[<- HG.out] at cB;clear ht;have w1:IntKind.i64.wrap ((n:Int)-1)=(n:Int)-1:=IntWalk.i64_in _ (by omega);cases hg:To n y
    ·have HR2:=Xa (HFf.out hg)
     rw[hg] at cB;clear hg HFf HFt HG HN;go_wp2_with fail
     refine cB.out.mono ?_;rintro e w7 ⟨rfl,hb7⟩;go_wp2_with fail
     go_ret;exact⟨by rw[HR2.out];rfl,Xb hB5 (Xb hB2 hb7)⟩
    ·have HR2:=Xa (HFt.out hg)
     have hpr:=HG.out;rw[hg] at cB hpr;have hpr2:=hpr.symm;simp only[Bool.and_eq_true,decide_eq_true_eq] at hpr2;obtain⟨p,hp⟩:∃p:Nat,y.part=(p:Int):=⟨y.part.toNat,by omega⟩
     have hpn:p<n:=(by omega);have HN2:=Xa (HN.out p hp);have hcl:Yw (x.gives.xs.take k) p<=8:=by have:=Xoq (x.gives.xs.take k) p;have:=List.length_take_le k x.gives.xs;omega
     have HGet:=Xa (Xfm (x.gives.xs.take k) hpn);obtain⟨yp,yt⟩:=y;have hp:yp=(p:Int):=hp;subst hp
     dsimp only at e0 e1 d0 d1 hW2 hy2 cB n0 n1 HN2 HR2
     generalize (Yw (x.gives.xs.take k) p:Nat)=c at *;have w2:IntKind.i64.wrap ((c:Int)+1)=(c:Int)+1:=IntWalk.i64_in _ (by omega);generalize Tq (x.gives.xs.take k) n=M at *;clear hg hpr hpr2 HFf HFt HG HN;go_wp2_with fail
     refine cB.out.mono ?_;rintro e w7 ⟨rfl,hb7⟩;have hm7:=Xi hb7 hm2;have hy7:=Xi hb7 hy2;have q0:w7.cell? ⟨w5.heap.size,0+p,none⟩=some (.int .i64 (c:Int)):=(by rw[Nat.zero_add];exact(gblk hm7 p).trans HGet.out);have q1:w7.cell? ⟨w5.heap.size,p,none⟩=some (.int .i64 (c:Int)):=(gblk hm7 p).trans HGet.out;have q2:=Xf hm7 p;have q3:w7.cell? ⟨wr.heap.size,0,none⟩=some (.int .i64 (p:Int)):=gblk hy7 0;have hB7:=Xb hB2 hb7;have hs7:=hB7.setCell (p:=⟨w5.heap.size,p,none⟩) (Nat.le_refl _) (.int .i64 ((c:Int)+1));have hm8:=Xvr (j:=p) (u:=.int .i64 ((c:Int)+1)) hm7;rw[HN2.out] at hm8;have Hm8:=Xa hm8;have Hs7:=Xa hs7;clear hm7 hy7 hm8 hs7 hm2 hy2 e0 e1 hW2 cB z2 hb2 hm HN2 HGet d0 d1;go_wp2_with fail
     go_roundw
     case rel=>exact⟨k+1,by omega,by go_num,Hs7.out,Hm8.out,HR2⟩
     case measure=>simp[intOf];omega
   ·have n0:=Uo (s:=y.text) (by omega)
    have HG:Hid (To n y=(decide (y.part=0) && Zc y.text)):=(by show _=_;unfold To;rw[if_neg ht]);have HN:Hid (Tq (x.gives.xs.take (k+1)) n=Tq (x.gives.xs.take k) n):=(by show _=_;rw[Htk.out];exact Xrx _ n y ht);have cF:=Xa (fun W (hW:Below w5.heap.size w5 W)=>Xbs y.text W (HT5.out.ext hW));clear ht;by_cases hz:y.part=0
    ·have g1:(y.part != 0)=false:=by simp[hz]
     have HG2:Hid (To n y=Zc y.text):=(by show _=_;rw[HG.out,decide_eq_true hz];rfl);clear HG hz;generalize Zc y.text=f at *;go_wp2_with fail
     refine(cF.out W2 hB2).mono ?_;rintro e w7 ⟨rfl,hb7⟩;have hB7:=Xb hB2 hb7;cases f
     ·have HR2:=Xa (HFf.out HG2.out)
      clear HFf HFt HG2 cF;go_wp2_with fail
      go_ret;exact⟨by rw[HR2.out];rfl,Xb hB5 hB7⟩
     ·have HR2:=Xa (HFt.out HG2.out)
      have hm7:=Xi hb7 hm2;rw[<- HN.out] at hm7;clear HFf HFt HG2 cF HN;go_wp2_with fail
      go_roundw
      case rel=>exact⟨k+1,by omega,by go_num,hB7,hm7,HR2⟩
      case measure=>simp[intOf];omega
    ·have g1:(y.part != 0)=true:=by simpa using hz
     have HR2:=Xa (HFf.out (by rw[HG.out,decide_eq_false hz];rfl));clear HG hz HFf HFt HN cF;go_wp2_with fail
     go_ret;exact⟨by rw[HR2.out];rfl,Xb hB5 hB2⟩
  ·obtain rfl:k=x.gives.xs.length:=by omega
   rw[List.take_length] at hm HR;have HF2:Hid (Vh cats x=Xbx x.gives.xs 0 x.parts.xs):=(by show _=_;rw[HF.out,HR.out];rfl);have Hm:=Xa hm;have HGl:=Xa (fun k=>Xoq x.gives.xs k);have hkr:=Xi hB Hk5.out;have k2:wr.cell? ⟨w.heap.size,2,none⟩=some (.slice x.parts.addr x.parts.xs.length x.parts.cap):=gblk hkr 2;rw[hn] at k2;obtain⟨w9,hw9⟩:∃w9,w9=wr:=⟨_,rfl⟩
   subst hw9;clear HF HR hkr hm HK6;go_wp2_with fail
   clear k2;go_loopw [90] (fun i wr=>∃k:Nat,k<=n/\i = .int .i64 k/\Below w9.heap.size w9 wr/\Hid (∀(j:Nat) (p:PartG),x.parts.xs[j]? = some p->j<k->(Yw x.gives.xs (0+j)=1↔p.text.size=0)/\Yw x.gives.xs (0+j)<=1)) (fun i _=>n-(intOf i).toNat)
   case atStart=>exact⟨0,Nat.zero_le _,rfl,bo_q,fun j p _ h=>by omega⟩
   case round =>
    obtain⟨k,hk,rfl,hB9,HR⟩:=hrel;have hBr:=Xb hB hB9;by_cases hlt:k<n
    ·have hlt':k<x.parts.xs.length:=by omega
     obtain⟨b,off,hA,hb,hc⟩:=HX5.out.1.at_ PartG.size_cells (by omega) hlt';rw[hA];have d0:wr.cell? ⟨b,off+k*3,none⟩=some (.string x.parts.xs[k].cat):=hc k hlt' wr hBr 0 _ rfl;have d1:wr.cell? ⟨b,off+k*3+1,none⟩=some (.int .i64 x.parts.xs[k].no):=hc k hlt' wr hBr 1 _ rfl;have d2:wr.cell? ⟨b,off+k*3+2,none⟩=some (.string x.parts.xs[k].text):=hc k hlt' wr hBr 2 _ rfl;have hget:x.parts.xs[k]? = some x.parts.xs[k]:=List.getElem?_eq_getElem hlt';obtain⟨y,hy⟩:∃y,x.parts.xs[k]=y:=⟨_,rfl⟩
     rw[hy] at hget d0 d1 d2
     have HFf:Hid (¬((Yw x.gives.xs k=1↔y.text.size=0)/\Yw x.gives.xs k<=1)->Vh cats x=false):=by
      intro h;rw[HF2.out,Bool.eq_false_iff];intro hm;have:=(Xa0 _ _ _).1 hm k y hget;rw[Nat.zero_add] at this;exact h this
     have HFt:Hid ((Yw x.gives.xs k=1↔y.text.size=0)->Yw x.gives.xs k<=1->∀(j:Nat) (p:PartG),x.parts.xs[j]? = some p->j<k+1->(Yw x.gives.xs (0+j)=1↔p.text.size=0)/\Yw x.gives.xs (0+j)<=1):=by
      intro h1 h2 j p hj hlt;by_cases e:j<k
      ·exact HR.out j p hj e
      ·obtain rfl:j=k:=by omega
       rw[hget] at hj;cases hj;rw[Nat.zero_add];exact⟨h1,h2⟩
     clear hc hA hy HR HF2;obtain⟨W2,hW2⟩:∃W2,wr.alloc (.cells #[.string y.cat,.int .i64 y.no,.string y.text] 81)=W2:=⟨_,rfl⟩
     have hb2:Below wr.heap.size wr W2:=(by subst hW2;exact ba_q);have hy2:W2.heap[wr.heap.size]? = some (.cells #[.string y.cat,.int .i64 y.no,.string y.text] 81 (0,0)):=(by subst hW2;exact World.alloc_heap_new _ _);have e2:W2.cell? ⟨wr.heap.size,2,none⟩=some (.string y.text):=gblk hy2 2;have hm2:=((Xb hB9 hb2).block _ (Xd Hm.out)).trans Hm.out;have q0:W2.cell? ⟨w5.heap.size,0+k,none⟩=some (.int .i64 (Yw x.gives.xs k:Nat)):=(by rw[Nat.zero_add];exact(gblk hm2 k).trans (Xfm _ hlt));have q1:W2.cell? ⟨w5.heap.size,k,none⟩=some (.int .i64 (Yw x.gives.xs k:Nat)):=(gblk hm2 k).trans (Xfm _ hlt);have hB29:=Xb hB9 hb2;have hcl:=HGl.out k;generalize Yw x.gives.xs k=c at *;clear hm2 hy2 hb2 hget;by_cases ht:y.text.size=0
     ·have n0:=Up (s:=y.text) (by omega)
      by_cases hc1:c=1
      ·subst hc1
       have HR2:=Xa (HFt.out (by simp[ht]) (by omega));clear HFt HFf ht;go_wp2_with fail
       go_still (by kernel_rfl)
       go_wp2
       go_roundw
       case rel=>exact⟨k+1,by omega,by go_num,hB29.drew,HR2⟩
       case measure=>simp[intOf];omega
      ·have HR2:=Xa (HFf.out (fun h=>hc1 (h.1.2 ht)))
       have g1:((c:Int) == 1)=false:=(by simp;omega);clear HFt HFf ht hc1;go_wp2_with fail
       go_still (by kernel_rfl)
       go_wp2
       go_ret;exact⟨by rw[HR2.out];rfl,Xb hBw (hB29.drew)⟩
     ·have n0:=Uo (s:=y.text) (by omega)
      by_cases hc1:c=0
      ·subst hc1
       have HR2:=Xa (HFt.out (by simp[ht]) (by omega));clear HFt HFf ht;go_wp2_with fail
       go_still (by kernel_rfl)
       go_wp2
       go_roundw
       case rel=>exact⟨k+1,by omega,by go_num,hB29.drew,HR2⟩
       case measure=>simp[intOf];omega
      ·have HR2:=Xa (HFf.out (fun h=>by
        have h1:c=1:=(by omega);exact ht (h.1.1 h1)))
       have g2:∃g,((c:Int) == 1)=g:=⟨_,rfl⟩
       obtain⟨g,g1⟩:=g2;have g3:g=false->(1:Int)<c:=(by intro h;rw[h] at g1;simp at g1;omega);clear HFt HFf ht hc1;cases g
       ·have g4:=g3 rfl
        clear g3;go_wp2_with fail
        go_still (by kernel_rfl)
        go_wp2
        go_ret;exact⟨by rw[HR2.out];rfl,Xb hBw (hB29.drew)⟩
       ·clear g3
        go_wp2_with fail
        go_still (by kernel_rfl)
        go_wp2
        go_ret;exact⟨by rw[HR2.out];rfl,Xb hBw (hB29.drew)⟩
    ·have HE:Hid (Vh cats x=true):=by
      show _=_;rw[HF2.out];refine(Xa0 _ _ _).2 fun j p hj=>HR.out j p hj ?_;have:=(List.getElem?_eq_some_iff.1 hj).1;omega
     clear HR HF2;go_wp2_with fail
     go_ret;exact⟨by rw[HE.out];rfl,Xb hBw hB9⟩
structure Gram.short (g:Gram):Prop where
 cats:∀s∈g.cats.xs,s.size<=maxLen
 start:g.start.size<=maxLen
 entry:∀x∈g.entries.xs,x.cat.size<=maxLen
 rule:∀x∈g.rules.xs,x.cat.size<=maxLen
 part:∀x∈g.rules.xs,∀p∈x.parts.xs,p.cat.size<=maxLen
theorem Xql (bc bf bi bm:Nat) (cats:List ByteArray) (es:SlS EntryG) (W:World) (hT:TabsG W) (hc:CatBox W bc bf bi bm cats) (hs:es.lies EntryG.cells W) (hx:∀x∈es.xs,x.lies W) (hl:∀x∈es.xs,x.cat.size<=maxLen) :
  Calls Tryz.prog 235 #[.func (.func 228) #[] #[.pointer (some ⟨bc,0,none⟩)],.slice (some ⟨W.heap.size,0,none⟩) 1 1] (W.alloc (.cells #[.slice es.addr es.xs.length es.cap] 23)) fun e w'=>e = .returned (.bool (es.xs.all (Uz cats)))/\Below W.heap.size W w':=by
 have hB:Below W.heap.size W (W.alloc (.cells #[.slice es.addr es.xs.length es.cap] 23)):=ba_q;refine(Xyl W.heap.size es.addr es.cap es.xs 228 #[.pointer (some ⟨bc,0,none⟩)] (Uz cats) _ (World.alloc_heap_new _ _) (hs.ext hB).rd (Nat.le_trans hs.cap hs.max) (enters_of Tryz.func228 (by kernel_rfl) rfl) ?_).mono fun _ _ ⟨h1,h2⟩=>⟨h1,Xb hB h2⟩
 intro V hV x hm;exact Xmx bc bf bi bm cats x V (hT.ext (Xb hB hV)) (hc.ext (Xb hB hV)) ((hx x hm).ext (Xb hB hV)) (hl x hm)
theorem Xyq (bp bc bf bi bm:Nat) (cats:List ByteArray) (rs:SlS RuleG) (W:World) (hT:TabsG W) (hc:CatBox W bc bf bi bm cats) (hp:FnBox W bp 288 232 #[.pointer (some ⟨bc,0,none⟩)]) (hs:rs.lies RuleG.cells W) (hx:∀x∈rs.xs,x.lies W) (hl:∀x∈rs.xs,x.cat.size<=maxLen) (hlp:∀x∈rs.xs,∀p∈x.parts.xs,p.cat.size<=maxLen) :
  Calls Tryz.prog 236 #[.func (.func 233) #[] #[.pointer (some ⟨bc,0,none⟩),.pointer (some ⟨bp,0,none⟩)],.slice (some ⟨W.heap.size,0,none⟩) 1 1] (W.alloc (.cells #[.slice rs.addr rs.xs.length rs.cap] 24)) fun e w'=>e = .returned (.bool (rs.xs.all (Vh cats)))/\Below W.heap.size W w':=by
 have hB:Below W.heap.size W (W.alloc (.cells #[.slice rs.addr rs.xs.length rs.cap] 24)):=ba_q;refine(Xyp W.heap.size rs.addr rs.cap rs.xs 233 #[.pointer (some ⟨bc,0,none⟩),.pointer (some ⟨bp,0,none⟩)] (Vh cats) _ (World.alloc_heap_new _ _) (hs.ext hB).rd (Nat.le_trans hs.cap hs.max) (enters_of Tryz.func233 (by kernel_rfl) rfl) ?_).mono fun _ _ ⟨h1,h2⟩=>⟨h1,Xb hB h2⟩
 intro V hV x hm;exact Xpm bp bc bf bi bm cats x V (hT.ext (Xb hB hV)) (hc.ext (Xb hB hV)) ((hx x hm).ext (Xb hB hV)) (hp.ext (Xb hB hV)) (hl x hm) (hlp x hm)
def Xdv (g:Gram):Bool:=Zc g.name && decide (0<g.cats.xs.length) && g.cats.xs.all Zc && catB g.cats.xs g.start && g.entries.xs.all (Uz g.cats.xs) && g.rules.xs.all (Vh g.cats.xs)
theorem X06 (g:Gram):Yk g=(decide g.cats.xs.Nodup && Xdv g):=by
 unfold Yk Xdv;rw[show decide (1<=g.cats.xs.length)=decide (0<g.cats.xs.length) from rfl];cases Zc g.name<;>cases decide (0<g.cats.xs.length)<;>cases catB g.cats.xs g.start<;>cases g.cats.xs.all Zc<;>cases decide g.cats.xs.Nodup<;>cases g.entries.xs.all (Uz g.cats.xs)<;>rfl
theorem Xne (bi bm:Nat) (g:Gram) (w:World) (hT:TabsG w) (hg:g.lies w) (hs:g.short) (hm:IdxMap w bi bm g.cats.xs) :
  Calls Tryz.prog 192 #[.agg #[.string g.name,.slice g.cats.addr g.cats.xs.length g.cats.cap,.string g.start,.int .i64 g.startNo,.slice g.entries.addr g.entries.xs.length g.entries.cap,.slice g.rules.addr g.rules.xs.length g.rules.cap],.func (.func 191) #[] #[.pointer (some ⟨bi,0,none⟩)]] w fun e w'=>e = .returned (.bool (Xdv g))/\Below w.heap.size w w':=by
 obtain⟨W1,hW1⟩:∃W1,w.alloc (.cells #[.string g.name,.slice g.cats.addr g.cats.xs.length g.cats.cap,.string g.start,.int .i64 g.startNo,.slice g.entries.addr g.entries.xs.length g.entries.cap,.slice g.rules.addr g.rules.xs.length g.rules.cap] 26)=W1:=⟨_,rfl⟩
 obtain⟨W2,hW2⟩:∃W2,W1.alloc (.cells #[.func (.func 191) #[] #[.pointer (some ⟨bi,0,none⟩)]] 254)=W2:=⟨_,rfl⟩
 obtain⟨W3,hW3⟩:∃W3,W2.alloc (.cells #[.func (.func 227) #[] #[.pointer (some ⟨w.heap.size+1,0,none⟩)]] 50)=W3:=⟨_,rfl⟩
 obtain⟨W4,hW4⟩:∃W4,W3.alloc (.cells #[.func (.func 232) #[] #[.pointer (some ⟨W2.heap.size,0,none⟩)]] 288)=W4:=⟨_,rfl⟩
 have z1:W1.heap.size=w.heap.size+1:=by subst hW1;simp
 have b1:Below w.heap.size w W1:=by subst hW1;exact ba_q
 have b2:Below W1.heap.size W1 W2:=by subst hW2;exact ba_q
 have b3:Below W2.heap.size W2 W3:=by subst hW3;exact ba_q
 have b4:Below W3.heap.size W3 W4:=by subst hW4;exact ba_q
 have k1:W1.heap[w.heap.size]? = some (.cells #[.string g.name,.slice g.cats.addr g.cats.xs.length g.cats.cap,.string g.start,.int .i64 g.startNo,.slice g.entries.addr g.entries.xs.length g.entries.cap,.slice g.rules.addr g.rules.xs.length g.rules.cap] 26 (0,0)):=by subst hW1;exact World.alloc_heap_new _ _
 have k2:W2.heap[w.heap.size+1]? = some (.cells #[.func (.func 191) #[] #[.pointer (some ⟨bi,0,none⟩)]] 254 (0,0)):=by subst hW2;rw[<- z1];exact World.alloc_heap_new _ _
 have k3:W3.heap[W2.heap.size]? = some (.cells #[.func (.func 227) #[] #[.pointer (some ⟨w.heap.size+1,0,none⟩)]] 50 (0,0)):=by subst hW3;exact World.alloc_heap_new _ _
 have k4:FnBox W4 W3.heap.size 288 232 #[.pointer (some ⟨W2.heap.size,0,none⟩)]:=by subst hW4;exact World.alloc_heap_new _ _
 have hB:Below w.heap.size w W4:=Xb (Xb (Xb b1 b2) b3) b4;have hk:=((Xb (Xb b2 b3) b4).block _ (Xd k1)).trans k1;have hC:CatBox W4 W2.heap.size (w.heap.size+1) bi bm g.cats.xs:=⟨Xi b4 k3,((Xb b3 b4).block _ (Xd k2)).trans k2,hm.ext hB⟩
 have HT:=Xa (hT.ext hB);have HC:=Xa hC;have HG:=Xa (hg.ext hB);have HP:=Xa k4;have eg:=enters_of Tryz.func227 (by kernel_rfl) rfl;have hmf:∀(fn:Fn) (first cap:Array Value) (w:World),(Instr.makeFunc fn first cap).run Tryz.prog w = .ok (.func fn first cap) w:=fun _ _ _ _=>rfl;have cF:=Xa (fun W (hW:Below W4.heap.size W4 W)=>Xbs g.name W (HT.out.ext hW));have cS:=Xa (fun W (hW:Below W4.heap.size W4 W)=>Xtp g.cats W (HT.out.ext hW) (HG.out.cats.ext hW));have cC:=Xa (fun W (hW:Below W4.heap.size W4 W)=>Xcg (w.heap.size+1) bi bm g.cats.xs g.start W ((HC.out.ext hW).2.1) ((HC.out.ext hW).2.2) hs.start);have cE:=Xa (fun W (hW:Below W4.heap.size W4 W)=>Xql W2.heap.size (w.heap.size+1) bi bm g.cats.xs g.entries W (HT.out.ext hW) (HC.out.ext hW) (HG.out.entries.ext hW) (fun x hx=>(HG.out.entry x hx).ext hW) hs.entry);have cR:=Xa (fun W (hW:Below W4.heap.size W4 W)=>Xyq W3.heap.size W2.heap.size (w.heap.size+1) bi bm g.cats.xs g.rules W (HT.out.ext hW) (HC.out.ext hW) (HP.out.ext hW) (HG.out.rules.ext hW) (fun x hx=>(HG.out.rule x hx).ext hW) hs.rule hs.part);have HE:Hid (Xdv g=(Zc g.name && decide (0<g.cats.xs.length) && g.cats.xs.all Zc && catB g.cats.xs g.start && g.entries.xs.all (Uz g.cats.xs) && g.rules.xs.all (Vh g.cats.xs))):=rfl;have Hkc:=Xa hC.1;have HW2:(w.alloc (.cells #[.string g.name,.slice g.cats.addr g.cats.xs.length g.cats.cap,.string g.start,.int .i64 g.startNo,.slice g.entries.addr g.entries.xs.length g.entries.cap,.slice g.rules.addr g.rules.xs.length g.rules.cap] 26)).alloc (.cells #[.func (.func 191) #[] #[.pointer (some ⟨bi,0,none⟩)]] 254)=W2:=by rw[hW1,hW2]
 generalize Zc g.name=f1 at *;generalize hl0:g.cats.xs.length=n0 at *;generalize g.cats.xs.all Zc=f3 at *;generalize catB g.cats.xs g.start=f4 at *;generalize g.entries.xs.all (Uz g.cats.xs)=f5 at *;generalize g.rules.xs.all (Vh g.cats.xs)=f6 at *;have Hk:=Xa hk;obtain⟨a0,a1,a2,a3,a4,a5⟩:=gb6 hk;clear hT hg hs hm k1 k2 k3 k4 b1 b2 b3 b4 z1 hW1 hW2 hk hC hl0;go_enter Tryz.func192,Tryz.ntmps192
 go_wp2_with fail
 clear HW2 hW3 hW4;refine(cF.out W4 bo_q).mono ?_;rintro e w5 ⟨rfl,hb5⟩;have hB5:=Xb hB hb5;cases f1
 ·go_wp2_with fail
  go_ret;exact⟨by rw[HE.out];rfl,hB5⟩
 by_cases hn:0<n0
 rotate_left
 ·have HF:Hid (Xdv g=false):=by show _=_;rw[HE.out,decide_eq_false hn];rfl
  have q1:¬(0:Int)<(n0:Int):=by omega
  have hk5:=Xi hb5 Hk.out;obtain⟨b0,b1,b2,b3,b4,b5⟩:=gb6 hk5;clear hn HE a0 a1 a2 a3 a4 a5;go_wp2_with fail
  go_ret;exact⟨by rw[HF.out];rfl,hB5⟩
 have HE2:Hid (Xdv g=(f3 && f4 && f5 && f6)):=by show _=_;rw[HE.out,decide_eq_true hn];rfl
 have q1:(0:Int)<(n0:Int):=by omega
 have hk5:=Xi hb5 Hk.out;have Hk5:=Xa hk5;obtain⟨b0,b1,b2,b3,b4,b5⟩:=gb6 hk5;clear hn HE a0 a1 a2 a3 a4 a5 hk5 cF;go_wp2_with fail
 refine(cS.out w5 hb5).mono ?_;rintro e w6 ⟨rfl,hb6⟩;have hB6:=Xb hB5 hb6;have hb46:=Xb hb5 hb6;cases f3
 ·go_wp2_with fail
  go_ret;exact⟨by rw[HE2.out];rfl,hB6⟩
 have hk6:=Xi hb6 Hk5.out;have Hk6:=Xa hk6;have c6:=Xe (Xi hb46 Hkc.out);clear b0 b1 b2 b3 b4 b5;obtain⟨b0,b1,b2,b3,b4,b5⟩:=gb6 hk6;clear hk6 cS;go_wp2_with fail
 refine(cC.out w6 hb46).mono ?_;rintro e w' ⟨rfl,rfl⟩;cases f4
 ·go_wp2_with fail
  go_ret;exact⟨by rw[HE2.out];rfl,hB6⟩
 clear cC c6;go_wp2_with fail
 refine(cE.out w6 hb46).mono ?_;rintro e w7 ⟨rfl,hb7⟩;have hB7:=Xb hB6 hb7;have hb47:=Xb hb46 hb7;cases f5
 ·go_wp2_with fail
  go_ret;exact⟨by rw[HE2.out];rfl,hB7⟩
 have hk7:=Xi hb7 Hk6.out;clear b0 b1 b2 b3 b4 b5;obtain⟨b0,b1,b2,b3,b4,b5⟩:=gb6 hk7;clear hk7 cE;go_wp2_with fail
 refine(cR.out w7 hb47).mono ?_;rintro e w8 ⟨rfl,hb8⟩;go_wp2_with fail
 go_ret;exact⟨by rw[HE2.out];simp,Xb hB7 hb8⟩
theorem Xxs (x y:Bool) (h:Value.bool x=Value.bool y):x=y:=by cases h;rfl
def Xx7:Type:=Bool
def Xhu:ElemShape Xx7:=⟨Value.bool,Xxs⟩
theorem zeroB (w:World):(zeroValue 4).run Tryz.prog w = .ok (.bool false) w:=by kernel_rfl
def Xg9 (w:World) (bm n:Nat) (f:ByteArray->Option Bool):Prop:=MapF w (k:=9) (P:=Tryz.prog) (β:=Xx7) strK Xhu bm n f
theorem Xo0 (x:RuleG) (bc bl bm n:Nat) (c:ByteArray) (f:ByteArray->Option Bool) (w:World) (hx:x.lies w) (hc:w.heap[bc]? = some (.cells #[.string c] 9 (0,0))) (hl:w.heap[bl]? = some (.cells #[.map (some bm)] 293 (0,0))) (hm:Xg9 w bm n f)
  (hf:∀y,(f y).isSome->f y=some true) (hs:∀p∈x.parts.xs,p.cat.size<=maxLen) :
  Calls Tryz.prog 237 #[x.vl,.pointer (some ⟨bc,0,none⟩),.pointer (some ⟨bl,0,none⟩)] w fun e w'=>e = .returned (.bool (Zt f c x))/\Below w.heap.size w w':=by
 obtain⟨W1,hW1⟩:∃W1,w.alloc x.ob=W1:=⟨_,rfl⟩
 have hB1:Below w.heap.size w W1:=by subst hW1;exact ba_q
 have hk:W1.heap[w.heap.size]? = some x.ob:=by subst hW1;exact World.alloc_heap_new _ _
 have hc1:=Xi hB1 hc;have hl1:=Xi hB1 hl;have c0:∀p:Xbd W1,p.wt.cell? ⟨bc,0,none⟩=some (.string c):=fun p=>Xd9 (Xd hc1) (gblk hc1 0) p;have l0:∀p:Xbd W1,p.wt.cell? ⟨bl,0,none⟩=some (.map (some bm)):=fun p=>Xd9 (Xd hl1) (gblk hl1 0) p;have a0:∀p:Xbd W1,p.wt.cell? ⟨w.heap.size,0,none⟩=some (.string x.cat):=fun p=>Xd9 (Xd hk) (gblk hk 0) p;have a2:∀p:Xbd W1,p.wt.cell? ⟨w.heap.size,2,none⟩=some (.slice x.parts.addr x.parts.xs.length x.parts.cap):=fun p=>Xd9 (Xd hk) (gblk hk 2) p;have hX:=hx.ext hB1;have HW1:=Xa hW1;by_cases h1:x.cat=c
 rotate_left
 ·have HF:Hid (Zt f c x=false):=by
   show _=_;unfold Zt;split
   ·rw[decide_eq_false h1];rfl
   ·rfl
  have g1:(x.cat.toList == c.toList)=false:=by simpa using fun h=>h1 (Xub h)
  clear h1 hx hc hl hm hf hs hk hc1 hl1 hX hW1;go_enter Tryz.func237,Tryz.ntmps237
  go_wp2_with fail
  rw[HW1.out];refine Th (by kernel_rfl) (by kernel_rfl) ?_;repeat (go_big_quiet_step (fail))
  refine wpQuiet_nil ?_;intro _ hw';obtain⟨p,rfl⟩:=hw';go_wp2_with fail
  go_ret;exact⟨by rw[HF.out];rfl,Xb hB1 p.ext⟩
 have g1:(x.cat.toList == c.toList)=true:=by simp[h1]
 by_cases h2:x.parts.xs.length=1
 rotate_left
 ·have HF:Hid (Zt f c x=false):=by
   show _=_;unfold Zt;split
   ·rename_i h;rw[h] at h2;simp at h2
   ·rfl
  have g2:((x.parts.xs.length:Int) == 1)=false:=by simp;omega
  clear h1 h2 hx hc hl hm hf hs hk hc1 hl1 hX hW1;go_enter Tryz.func237,Tryz.ntmps237
  go_wp2_with fail
  rw[HW1.out];refine Th (by kernel_rfl) (by kernel_rfl) ?_;repeat (go_big_quiet_step (fail))
  refine wpQuiet_nil ?_;intro _ hw';obtain⟨p,rfl⟩:=hw';go_wp2_with fail
  go_ret;exact⟨by rw[HF.out];rfl,Xb hB1 p.ext⟩
 obtain⟨q,hq⟩:=List.length_eq_one_iff.1 h2;obtain⟨b,off,hA,hb,hcl⟩:=hX.1.at_ PartG.size_cells (by omega) (k:=0) (by omega);have hq0:x.parts.xs[0]'(by omega)=q:=by simp[hq]
 have d0:∀p:Xbd W1,p.wt.cell? ⟨b,off,none⟩=some (.string q.cat):=fun p=>by
  have:=hcl 0 (by omega) p.wt p.ext 0 _ rfl;rw[hq0] at this
  simpa using this
 have d2:∀p:Xbd W1,p.wt.cell? ⟨b,off+2,none⟩=some (.string q.text):=fun p=>by
  have:=hcl 0 (by omega) p.wt p.ext 2 _ rfl;rw[hq0] at this
  simpa using this
 have g2:((1:Nat):Int) == 1:=rfl;rw[hA,h2] at a2;have HE:Hid (Zt f c x=(decide (q.text.size=0) && (f q.cat).isSome)):=by show _=_;unfold Zt;rw[hq];simp[h1]
 have hqs:=hs q (by rw[hq];simp);by_cases h3:q.text.size=0
 rotate_left
 ·have HF:Hid (Zt f c x=false):=by show _=_;rw[HE.out,decide_eq_false h3];rfl
  have n0:=Uo (s:=q.text) (by omega);clear h1 h2 h3 hx hc hl hm hf hs hk hc1 hl1 hX hW1 hA hq hq0 hcl HE;go_enter Tryz.func237,Tryz.ntmps237
  go_wp2_with fail
  rw[HW1.out];refine Th (by kernel_rfl) (by kernel_rfl) ?_;repeat (go_big_quiet_step (fail))
  refine wpQuiet_nil ?_;intro _ hw';obtain⟨p,rfl⟩:=hw';go_wp2_with fail
  go_ret;exact⟨by rw[HF.out];rfl,Xb hB1 p.ext⟩
 have n0:=Up (s:=q.text) (by omega)
 have hlk:∀p:Xbd W1,(Instr.lookup 293 (.map (some bm)) (.string q.cat) false).run Tryz.prog p.wt = .ok (.bool ((f q.cat).isSome)) p.wt:=fun p=>by
  have hmp:Xg9 p.wt bm n f:=MapF.of_block hm ((Xb hB1 p.ext).block _ (MapF.lt hm));have:=Xdr Ts Tryz.underlying293 strK Xhu false (zeroB p.wt) hmp q.cat hqs
  have e:(f q.cat).getD false=(f q.cat).isSome:=by
   cases h:f q.cat with
   | none=>rfl
   | some v=>have:=hf q.cat (by rw[h];rfl);rw[h] at this;cases this;rfl
  change _=Result.ok (Value.bool (Option.getD (α:=Bool) (f q.cat) false)) _ at this;rw[e] at this;exact this
 have HF:Hid (Zt f c x=(f q.cat).isSome):=by show _=_;rw[HE.out,decide_eq_true h3];rfl
 generalize (f q.cat).isSome=r at *;clear h1 h2 h3 hx hc hl hm hf hs hk hc1 hl1 hX hW1 hA hq hq0 hcl HE;go_enter Tryz.func237,Tryz.ntmps237
 go_wp2_with fail
 rw[HW1.out];refine Th (by kernel_rfl) (by kernel_rfl) ?_;repeat (go_big_quiet_step (fail))
 refine wpQuiet_nil ?_;intro _ hw';obtain⟨p,rfl⟩:=hw';go_wp2_with fail
 go_ret;exact⟨by rw[HF.out];rfl,Xb hB1 p.ext⟩
def Xbf (cats:List ByteArray) (y:ByteArray):Option Bool:=if (cats.any fun z=>decide (z=y))=true then some true else none
theorem Xro (l:List ByteArray) (x y:ByteArray):Xbf (l++[x]) y=if y=x then some true else Xbf l y:=by
 unfold Xbf;rw[List.any_append];by_cases h:y=x
 ·subst h;simp
 ·have h2:¬x=y:=fun e=>h e.symm
  have h3:([x].any fun z=>decide (z=y))=false:=by simp[h2]
  rw[h3,Bool.or_false,if_neg h]
theorem Xwb (cats:List ByteArray) (x:ByteArray):(x∈cats->Xbf cats x=some true)/\(x∉cats->Xbf cats x=none):=by
 unfold Xbf;exact⟨fun h=>if_pos ((Xam x cats).2 h),fun h=>if_neg (fun h'=>h ((Xam x cats).1 h'))⟩
structure Xkl (W:World) (bl bm n:Nat) (f:ByteArray->Option Bool) (wr:World):Prop where
 map:Xg9 wr bm n f
 box:wr.heap[bl]? = some (.cells #[.map (some bm)] 293 (0,0))
 below:Below W.heap.size W wr
theorem Xhx (g:Gram) (w:World) (hg:g.lies w) (hs:g.short) (ht:Yk g=true) (hfew:g.cats.xs.length<=32):Calls Tryz.prog 193 #[g.vl] w fun e w'=>e = .returned (.bool (T8 g))/\Below w.heap.size w w':=by
 obtain⟨W1,hW1⟩:∃W1,w.alloc g.ob=W1:=⟨_,rfl⟩
 have hB1:Below w.heap.size w W1:=by subst hW1;exact ba_q
 have hk:W1.heap[w.heap.size]? = some g.ob:=by subst hW1;exact World.alloc_heap_new _ _
 obtain⟨W2,hW2⟩:∃W2,(W1.alloc (.map #[] 0)).alloc (.cells #[.map (some W1.heap.size)] 293)=W2:=⟨_,rfl⟩
 have hb2:Below W1.heap.size W1 W2:=by subst hW2;exact Xg ba_q _
 have hM0:Xg9 W2 W1.heap.size 0 (fun _=>none):=by subst hW2;exact MapF.of_block (MapF.made _ _ _) (Below.heap_alloc _ _ _ (by simp))
 have hbx:W2.heap[W1.heap.size+1]? = some (.cells #[.map (some W1.heap.size)] 293 (0,0)):=by subst hW2;exact Xo _ _ _ (by simp)
 have hmm:=@run_makeMap Tryz.prog;have hmf:∀(fn:Fn) (first cap:Array Value) (w:World),(Instr.makeFunc fn first cap).run Tryz.prog w = .ok (.func fn first cap) w:=fun _ _ _ _=>rfl;have HG:=Xa (hg.ext hB1);have Hk:=Xa hk;have HB1:=Xa hB1;have Hs:=Xa hs;have Htn:=Xa (Xg0 ht);have H0:Hid (Xkl W1 (W1.heap.size+1) W1.heap.size 0 (Xbf []) W2):=⟨MapF.congr hM0 (fun x _=>by simp[Xbf];rfl),hbx,hb2⟩
 have hm1:g.cats.xs.length<=9223372036854775807:=by omega
 have c1:=(hb2.cell (p:=⟨w.heap.size,1,none⟩) (Xd hk)).trans (gblk hk 1);have c1:W2.cell? ⟨w.heap.size,1,none⟩=some (.slice g.cats.addr g.cats.xs.length g.cats.cap):=c1;clear hg hs ht hk hb2 hM0 hbx hB1;go_enter Tryz.func193,Tryz.ntmps193
 go_wp2_with fail
 clear hmm hW1 hW2;clear c1;go_loopw [12] (fun i wr=>∃k:Nat,k<=g.cats.xs.length/\i = .int .i64 k/\Xkl W1 (W1.heap.size+1) W1.heap.size k (Xbf (g.cats.xs.take k)) wr) (fun i _=>g.cats.xs.length-(intOf i).toNat)
 case atStart=>exact⟨0,Nat.zero_le _,rfl,H0.out⟩
 case round =>
  obtain⟨k,hk,rfl,hM,hbx,hB⟩:=hrel;by_cases hlt:k<g.cats.xs.length
  ·obtain⟨b,off,hA,hb,hc⟩:=StrS.at_ HG.out.cats (k:=k) hlt
   have e0:wr.cell? ⟨b,off+k,none⟩=some (.string g.cats.xs[k]):=(hB.cell (p:=⟨b,off+k,none⟩) hb).trans (hc k hlt);have htk:g.cats.xs.take (k+1)=g.cats.xs.take k++[g.cats.xs[k]]:=List.take_succ_eq_append_getElem hlt;have hgood:g.cats.xs[k].size<=maxLen:=Hs.out.cats _ (List.getElem_mem hlt);have hbc:=Xe hbx;have hkm:k<maxLen:=(by unfold maxLen;omega);rw[hA];have Htk:=Xa htk;have Hbx:=Xa hbx;have HB:=Xa hB;clear hc hA htk hbx hB;generalize g.cats.xs[k]=y at *;generalize g.cats.xs.take k=l at *;go_wp2_with (at_mapUpdate;refine Vz _ rfl _ _ _ 293 rfl 4 Ts Tryz.underlying293 strK Xhu W1.heap.size k _ rfl hM hkm y true rfl rfl hgood ?_;intro w9 hm9 hg9 hs9)
   have HF:Hid (Xkl W1 (W1.heap.size+1) W1.heap.size (k+1) (Xbf (g.cats.xs.take (k+1))) w9):=by
    refine⟨?_,(hg9.block _ (Xd Hbx.out) (by simp)).trans Hbx.out,HB.out.grown hg9 HB.out.size (fun j hj=>by cases hj;exact Nat.le_refl _)⟩;rw[Htk.out];exact MapF.congr hm9 (fun z _=>by rw[Xro];rfl)
   clear hm9 hg9 hs9 hM e0 hbc;go_wp2_with fail
   go_roundw
   case rel=>exact⟨k+1,by omega,by go_num,HF.out⟩
   case measure=>simp[intOf];omega
  ·obtain rfl:k=g.cats.xs.length:=by omega
   rw[List.take_length] at hM;have hLI:LeftInv g.rules.xs g.cats.xs 0 (Xbf g.cats.xs) (fun x=>(Xbf g.cats.xs x).isSome):=LeftInv.start _ _ (Xwb g.cats.xs);have H1:Hid (∃n f,Xkl W1 (W1.heap.size+1) W1.heap.size n f wr/\LeftInv g.rules.xs g.cats.xs 0 f (fun x=>(f x).isSome)):=⟨_,_,⟨hM,hbx,hB⟩,hLI⟩
   have c1:wr.cell? ⟨w.heap.size,1,none⟩=some (.slice g.cats.addr g.cats.xs.length g.cats.cap):=(hB.cell (p:=⟨w.heap.size,1,none⟩) (Xd Hk.out)).trans (gblk Hk.out 1);clear hM hbx hB hLI;go_wp2_with fail
   clear c1 hk hlt;go_loopw [22] (fun i wr=>∃k:Nat,k<=g.cats.xs.length/\i = .int .i64 k/\∃n f,Xkl W1 (W1.heap.size+1) W1.heap.size n f wr/\LeftInv g.rules.xs g.cats.xs k f (fun x=>(f x).isSome)) (fun i _=>g.cats.xs.length-(intOf i).toNat)
   case atStart=>exact⟨0,Nat.zero_le _,rfl,H1.out⟩
   case round =>
    clear H1;obtain⟨k,hk,rfl,n,f,⟨hM,hbx,hB⟩,hLI⟩:=hrel
    rename World=>wr
    by_cases hlt:k<g.cats.xs.length
    ·have hbc:=Xe hbx
     have hz:=hM.lt;have hbl:=Xd hbx;have hzB:=hB.size;obtain⟨w3,hw3⟩:∃w3,w3=wr:=⟨_,rfl⟩
     subst hw3;go_wp2_with (at_range;refine Xjo _ rfl _ 293 rfl 4 Ts Tryz.underlying293 strK Xhu W1.heap.size n _ rfl hM ?_;intro w7 cnt0 hrg0 hg0 hs0)
     go_frame
     go_loopw [26] (fun _ wr=>∃left cnt f,RangeF wr strK Xhu W1.heap.size w3.heap.size n f left cnt/\LeftInv g.rules.xs g.cats.xs k f left/\wr.heap[W1.heap.size+1]? = some (.cells #[.map (some W1.heap.size)] 293 (0,0))/\Below W1.heap.size W1 wr) (fun _ wr=>wr.rangeLeft W1.heap.size w3.heap.size)
     case atStart =>
      exact⟨_,_,_,hrg0,hLI,(hg0.block _ (Xd hbx) (by simp)).trans hbx,hB.grown hg0 hB.size (fun j hj=>by cases hj)⟩
     case round =>
      clear hLI hbx hB hbc hrg0 hg0 hs0 hM;obtain⟨left,cnt,f,hrg,hLI,hbx,hB⟩:=hrel
      rename World=>wr
      go_wp2_with (at_next;refine Xkk _ rfl _ rfl Ts strK Xhu W1.heap.size w3.heap.size n _ left cnt (fun x => .string x) (fun c:Xx7=>Value.bool c) (fun _=>rfl) (fun _=>rfl) rfl hrg ?_ ?_)
      ·intro hl0
       have HF:Hid (∃n f,Xkl W1 (W1.heap.size+1) W1.heap.size n f wr/\LeftInv g.rules.xs g.cats.xs (k+1) f (fun x=>(f x).isSome)) :=
        ⟨n,f,⟨hrg.owns,hbx,hB⟩,hLI.next fun x hx=>hl0 x (Hs.out.cats x hx)⟩
       clear hl0 hrg hLI hbx hB;go_wp2_with fail
       go_roundw
       case rel=>exact⟨k+1,by omega,by go_num,HF.out⟩
       case measure=>simp[intOf];omega
      ·intro x c w8 cnt1 hgx hlx hfx hrg1 hlt1 hg1 hs1 hen
       have hrlt:=hrg.lt;have hB8:Below W1.heap.size W1 w8:=hB.grown hg1 hB.size (fun j hj=>by cases hj;omega);have hbx8:=(hg1.block _ (Xd hbx) (by simp;omega)).trans hbx;obtain⟨w9,hw9⟩:∃w9,w8.alloc (.cells #[.string x] 9)=w9:=⟨_,rfl⟩
       have hb9:Below w8.heap.size w8 w9:=(by subst hw9;exact ba_q);have hc9:w9.heap[w8.heap.size]? = some (.cells #[.string x] 9 (0,0)):=(by subst hw9;exact World.alloc_heap_new _ _);have hbx9:=Xi hb9 hbx8;have hB9:=Xb hB8 hb9;have hrg9:=hrg1.kept (Xau hb9 none) (by simp) (by simp);have hkg9:=Xi hB9 Hk.out
       have cC:=Xa (Xkv g.rules.addr g.rules.cap g.rules.xs 237 #[.pointer (some ⟨w8.heap.size,0,none⟩),.pointer (some ⟨W1.heap.size+1,0,none⟩)] (Zt f x) w9 (HG.out.rules.ext hB9).rd (Nat.le_trans HG.out.rules.cap HG.out.rules.max) (enters_of Tryz.func237 (by kernel_rfl) rfl)
        (fun V hV y hy=>Xo0 y w8.heap.size (W1.heap.size+1) W1.heap.size n x f V ((HG.out.rule y hy).ext (Xb hB9 hV)) (Xi hV hc9) (Xi hV hbx9) (MapF.of_block hrg9.owns (hV.block _ hrg9.owns.lt)) (fun z hz=>(hLI.sub z hz).2) (Hs.out.part y hy)))
       have d5:w9.cell? ⟨w.heap.size,5,none⟩=some (.slice g.rules.addr g.rules.xs.length g.rules.cap):=gblk hkg9 5;have Hc9:=Xa hc9;have Hbx9:=Xa hbx9;have HB9:=Xa hB9;have Hrg9:=Xa hrg9;have HLI:=Xa hLI;have Hlt1:=Xa hlt1;have Hrl:=Xa hrg.left_eq;have Hgx:=Xa hgx;clear hrg hrg1 hlt1 hg1 hs1 hlx hfx hgx hLI hbx hB hB8 hbx8 hb9 hc9 hbx9 hB9 hrg9 hkg9;go_wp2_with fail
       clear hw9;refine cC.out.mono ?_;rintro e w10 ⟨rfl,hb10⟩;have hc10:=Xi hb10 Hc9.out;have hbx10:=Xi hb10 Hbx9.out;have hB10:=Xb HB9.out hb10;have hrg10:=Hrg9.out.kept (Xau hb10 none) (by simp) (by simp);cases hany:g.rules.xs.any (Zt f x)
       ·have hst:=HLI.out.strike (c:=x) (fun y z ⟨r,hr,hc⟩=>by
         obtain⟨hgc,hcy,p,hp,rfl⟩:=Xhw.1 hc;unfold Xqv at hgc;split at hgc
         ·rename_i p' hp'
          rw[hp'] at hp;simp at hp;subst hp;exact Htn.out.1 r hr p' hp' (of_decide_eq_true hgc)
         ·cases hgc) hany
        have Hst:=Xa hst;have x0:=Xe hbx10;have y0:=Xe hc10;have Hbx10:=Xa hbx10;have HB10:=Xa hB10;clear hst hany hc10 hbx10 hB10 hb10;go_wp2_with (at_delete;refine Xg6 rfl _ _ 293 rfl 4 Ts Tryz.underlying293 strK Xhu W1.heap.size w3.heap.size n _ _ _ rfl hrg10 x rfl Hgx.out ?_;intro w11 cnt2 hrg11 hle11 hturn)
        have hgr:=hturn.grown
        have hf2:(fun y=>(left y && !decide (y=x)) && !decide (y=x))=(fun y=>left y && !decide (y=x)):=by
         funext y
         cases left y<;>cases decide (y=x)<;>rfl
        rw[hf2] at hrg11
        have HF:Hid (LeftInv g.rules.xs g.cats.xs k (fun y=>if y=x then none else f y) (fun y=>left y && !decide (y=x))/\w11.heap[W1.heap.size+1]? = some (.cells #[.map (some W1.heap.size)] 293 (0,0))/\Below W1.heap.size W1 w11) :=
         ⟨Hst.out,(hgr.block _ (Xd Hbx10.out) (by simp)).trans Hbx10.out,HB10.out.grown hgr HB10.out.size (fun j hj=>by cases hj;exact Nat.le_refl _)⟩
        go_frame
        go_roundw
        case rel=>exact⟨_,cnt2,_,hrg11,HF.out⟩
        case measure=>rw[hrg11.left_eq,Hrl.out];have:=Hlt1.out;omega
       ·have hst:=HLI.out.stay hany
        have HF:Hid (LeftInv g.rules.xs g.cats.xs k f (fun y=>left y && !decide (y=x))/\w10.heap[W1.heap.size+1]? = some (.cells #[.map (some W1.heap.size)] 293 (0,0))/\Below W1.heap.size W1 w10):=⟨hst,hbx10,hB10⟩
        clear hst hany hc10 hbx10 hB10 hb10;go_wp2_with fail
        go_roundw
        case rel=>exact⟨_,cnt1,f,hrg10,HF.out⟩
        case measure=>rw[hrg10.left_eq,Hrl.out];exact Hlt1.out
    ·obtain rfl:k=g.cats.xs.length:=by omega
     have hbc:=Xe hbx;have hsz:=hM.size Ts (T6 f g.cats.xs) (Qn _) (fun x hx=>Hs.out.cats x (hLI.sub x ((Tf (fun y hy=>(hLI.sub y hy).1) x).2 hx)).1) (fun x _=>Tf (fun y hy=>(hLI.sub y hy).1) x) Tryz.underlying293 3
     have HF:Hid (decide (0<(T6 f g.cats.xs).length)=T8 g):=by
      show _=_;rw[Bool.eq_iff_iff,Xkh (fun y hy=>(hLI.sub y hy).1),hLI.last Htn.out.1 Htn.out.2]
     have HB:=Xa hB;generalize (T6 f g.cats.xs).length=m at *;clear hM hbx hB hLI;go_wp2_with fail
     go_ret;exact⟨by rw[<- HF.out];simp,Xb HB1.out HB.out⟩
end Go.Proofs.YtolpbjjapodmnaaGreatDoor
