/- Texts of this claim, one after the other: Term4, Term5, Row, TermZ, AddL, Term6, StandP, FindA. -/
import Derived.Test.YtolpbjjapodmnaaGreatDoorM4
import Derived.Test.YtolpbjjapodmnaaGreatDoorM3
import Derived.Test.YtolpbjjapodmnaaGreatDoorM1
import Derived.Test.YtolpbjjapodmnaaGreatDoorShelf
import Derived.Laws.CopyOwn
import Derived.Laws.CopyRow
import Derived.Deep.AppendLies
import Derived.Lib.AppendZerosOnto
import Derived.Lib.Overlaps
import Derived.StillTailTactics
import Derived.Lib.SliceRun
import Derived.Deep.RegionWith
import Derived.Deep.LoopGhost
import Derived.Lib.Join
namespace Go.Proofs.YtolpbjjapodmnaaGreatDoor
open Go.RowKit Go.Han
set_option maxRecDepth 100000
attribute [local irreducible] wpStill wpQuiet
set_option maxHeartbeats 8000000
theorem Xsh (x:Term) (w:World) (hT:Tabs w) (hx:x.lies w):Calls Tryz.prog 147 #[x.val] w fun e w'=>e = .returned (.bool x.ok)/\Below w.heap.size w w':=by
 obtain⟨no,at_,known,lang,⟨sA,sc,sx⟩,⟨tA,tc,tx⟩,cat,gone⟩:=x;have Hok:Hid (Term.ok ⟨no,at_,known,lang,⟨sA,sc,sx⟩,⟨tA,tc,tx⟩,cat,gone⟩=(noB no && tmB at_ && tmB known && Xbe lang && Zb sx && (if gone then decide (tx.length=0) && decide (cat.size=0) else Zb tx && V9 cat))):=rfl;have hv:Term.val ⟨no,at_,known,lang,⟨sA,sc,sx⟩,⟨tA,tc,tx⟩,cat,gone⟩ = .agg #[.int .i64 no,.int .i64 at_,.int .i64 known,.int .i64 lang,.slice sA sx.length sc,.slice tA tx.length tc,.string cat,.bool gone]:=rfl;obtain⟨ok,hok⟩:∃ok,Term.ok ⟨no,at_,known,lang,⟨sA,sc,sx⟩,⟨tA,tc,tx⟩,cat,gone⟩=ok:=⟨_,rfl⟩
 rw[hok] at Hok ⊢;rw[hv];obtain⟨W0,hW0⟩:∃W0,w.alloc (.cells #[.int .i64 no,.int .i64 at_,.int .i64 known,.int .i64 lang,.slice sA sx.length sc,.slice tA tx.length tc,.string cat,.bool gone] 56)=W0:=⟨_,rfl⟩
 have hB0:=X5 hW0;have hz0:W0.heap.size=w.heap.size+1:=by rw[<- hW0];simp
 have hk:Hid (∀W,Below W0.heap.size W0 W->W.cell? ⟨w.heap.size,0,none⟩=some (.int .i64 no)/\W.cell? ⟨w.heap.size,1,none⟩=some (.int .i64 at_)/\W.cell? ⟨w.heap.size,2,none⟩=some (.int .i64 known)/\W.cell? ⟨w.heap.size,3,none⟩=some (.int .i64 lang)/\W.cell? ⟨w.heap.size,4,none⟩=some (.slice sA sx.length sc)/\W.cell? ⟨w.heap.size,5,none⟩=some (.slice tA tx.length tc)/\W.cell? ⟨w.heap.size,6,none⟩=some (.string cat)/\W.cell? ⟨w.heap.size,7,none⟩=some (.bool gone)):=by
  intro W hb;have h0:=Yg hW0;have h1:=(hb.block _ (by omega)).trans h0;exact⟨gblk h1 0,gblk h1 1,gblk h1 2,gblk h1 3,gblk h1 4,gblk h1 5,gblk h1 6,gblk h1 7⟩
 have cS:Hid (∀W,Below W0.heap.size W0 W->Calls Tryz.prog 199 #[.slice sA sx.length sc] W fun e w'=>e = .returned (.bool (Zb sx))/\Below W.heap.size W w'):=fun W hb=>Xiz ⟨sA,sc,sx⟩ W (Xa8 hT (Xb hB0 hb)) (hx.1.ext (Xb hB0 hb));have cT:Hid (∀W,Below W0.heap.size W0 W->Calls Tryz.prog 199 #[.slice tA tx.length tc] W fun e w'=>e = .returned (.bool (Zb tx))/\Below W.heap.size W w'):=fun W hb=>Xiz ⟨tA,tc,tx⟩ W (Xa8 hT (Xb hB0 hb)) (hx.2.ext (Xb hB0 hb));have htl:tx.length<=9223372036854775807:=Nat.le_trans hx.2.cap hx.2.max;clear hok hv hx;by_cases n0:no<0
 ·have H:Hid (ok=false):=by show _=_;rw[Hok.out];unfold noB;rw[decide_eq_false (show ¬0<=no by omega)];rfl
  go_enter Tryz.func147,Tryz.ntmps147
  obtain⟨d0,d1,d2,d3,d4,d5,d6,d7⟩:=hk.out W0 bo_q;go_wp2_with fail
  go_ret;exact⟨by rw[H.out];rfl,hB0⟩
 by_cases n1:1048576<no
 ·have H:Hid (ok=false):=by show _=_;rw[Hok.out];unfold noB;rw[decide_eq_false (show ¬no<=1048576 by omega),Bool.and_false];rfl
  go_enter Tryz.func147,Tryz.ntmps147
  obtain⟨d0,d1,d2,d3,d4,d5,d6,d7⟩:=hk.out W0 bo_q;go_wp2_with fail
  go_ret;exact⟨by rw[H.out];rfl,hB0⟩
 have hno:noB no=true:=by unfold noB;rw[decide_eq_true (show 0<=no by omega),decide_eq_true (show no<=1048576 by omega)];rfl
 rw[hno] at Hok;clear hno;have c1:=Xa (fun w=>Xaw at_ w);have c2:=Xa (fun w=>Xaw known w);have c3:=Xa (fun w=>Xik lang w);generalize tmB at_=b1 at *;generalize tmB known=b2 at *;generalize Xbe lang=b3 at *;generalize Zb sx=b4 at *;go_enter Tryz.func147,Tryz.ntmps147
 obtain⟨d0,d1,d2,d3,d4,d5,d6,d7⟩:=hk.out W0 bo_q;go_wp2_with fail
 refine(c1.out _).mono ?_;rintro e w' ⟨rfl,rfl⟩;cases b1
 ·have H:Hid (ok=false):=by show _=_;rw[Hok.out];simp
  go_wp2_with fail
  go_ret;exact⟨by rw[H.out];rfl,hB0⟩
 go_wp2_with fail
 refine(c2.out _).mono ?_;rintro e w' ⟨rfl,rfl⟩;cases b2
 ·have H:Hid (ok=false):=by show _=_;rw[Hok.out];simp
  go_wp2_with fail
  go_ret;exact⟨by rw[H.out];rfl,hB0⟩
 go_wp2_with fail
 refine(c3.out _).mono ?_;rintro e w' ⟨rfl,rfl⟩;cases b3
 ·have H:Hid (ok=false):=by show _=_;rw[Hok.out];simp
  go_wp2_with fail
  go_ret;exact⟨by rw[H.out];rfl,hB0⟩
 go_wp2_with fail
 refine(cS.out _ bo_q).mono ?_;rintro e w1 ⟨rfl,hb1⟩;have hB1:=Xb hB0 hb1;clear d0 d1 d2 d3 d4 d5 d6 d7;obtain⟨d0,d1,d2,d3,d4,d5,d6,d7⟩:=hk.out w1 hb1;cases b4
 ·have H:Hid (ok=false):=by show _=_;rw[Hok.out];simp
  go_wp2_with fail
  go_ret;exact⟨by rw[H.out];rfl,hB1⟩
 cases gone
 ·have H:Hid (ok=(Zb tx && V9 cat)):=by show _=_;rw[Hok.out];simp
  have cN:=Xa (fun w=>Xo3 cat w);generalize Zb tx=b5 at *;generalize V9 cat=b6 at *;clear Hok;go_wp2_with fail
  refine(cT.out w1 hb1).mono ?_;rintro e w2 ⟨rfl,hb2⟩;have hB2:=Xb hB1 hb2;clear d0 d1 d2 d3 d4 d5 d6 d7;obtain⟨d0,d1,d2,d3,d4,d5,d6,d7⟩:=hk.out w2 (Xb hb1 hb2);cases b5
  ·go_wp2_with fail
   go_ret;exact⟨by rw[H.out];rfl,hB2⟩
  ·go_wp2_with fail
   refine(cN.out w2).mono ?_;rintro e w' ⟨rfl,rfl⟩;go_wp2_with fail
   go_ret;exact⟨by rw[H.out];rfl,hB2⟩
 ·have H:Hid (ok=(decide (tx.length=0) && decide (cat.size=0))):=by show _=_;rw[Hok.out];simp
  clear Hok;by_cases h1:tx.length=0
  ·have g1:((tx.length:Int) == 0)=true:=by simp[h1]
   by_cases h2:0<cat.size
   ·have g2:=Uo h2
    have H2:Hid (ok=false):=(by show _=_;rw[H.out,decide_eq_false (show ¬cat.size=0 by omega),Bool.and_false]);clear h1;go_wp2_with fail
    go_ret;exact⟨by rw[H2.out];rfl,hB1⟩
   ·have g2:=Up h2
    have H2:Hid (ok=true):=(by show _=_;rw[H.out,decide_eq_true h1,decide_eq_true (show cat.size=0 by omega)];rfl);clear h1;go_wp2_with fail
    go_ret;exact⟨by rw[H2.out];rfl,hB1⟩
  ·have g1:((tx.length:Int) == 0)=false:=beq_eq_false_iff_ne.2 (by omega)
   have H2:Hid (ok=false):=(by show _=_;rw[H.out,decide_eq_false h1];rfl);clear h1;go_wp2_with fail
   go_ret;exact⟨by rw[H2.out];rfl,hB1⟩
def tflat (l:List Term):List Value:=l.flatMap Term.cells
structure TermsAt (w:World) (A:Option Addr) (l:List Term):Prop where
 rd:Rd w A (tflat l)
 lie:∀x∈l,x.lies w
theorem TermsAt.ext {w w':World} {A:Option Addr} {l:List Term} (h:TermsAt w A l) (hb:Below w.heap.size w w'):TermsAt w' A l:=⟨h.rd.ext hb,fun x hx=>(h.lie x hx).ext hb⟩
theorem TermsAt.nil (w:World) (A:Option Addr):TermsAt w A []:=⟨Rd.nil _ _,fun x hx=>by cases hx⟩
theorem TermsAt.at_ {w:World} {A:Option Addr} {l:List Term} (h:TermsAt w A l) {k:Nat} (hk:k<l.length):∃b off,A=some ⟨b,off,none⟩/\b<w.heap.size /\
  (∀(i:Nat) (hi:i<l.length) (W:World),Below w.heap.size w W->W.cell? ⟨b,off+i*8,none⟩=some (.int .i64 l[i].no)/\W.cell? ⟨b,off+i*8+1,none⟩=some (.int .i64 l[i].at_)/\W.cell? ⟨b,off+i*8+2,none⟩=some (.int .i64 l[i].known)/\W.cell? ⟨b,off+i*8+3,none⟩=some (.int .i64 l[i].lang) /\
   W.cell? ⟨b,off+i*8+4,none⟩=some (.slice l[i].src.addr l[i].src.xs.length l[i].src.cap)/\W.cell? ⟨b,off+i*8+5,none⟩=some (.slice l[i].tgt.addr l[i].tgt.xs.length l[i].tgt.cap)/\W.cell? ⟨b,off+i*8+6,none⟩=some (.string l[i].cat)/\W.cell? ⟨b,off+i*8+7,none⟩=some (.bool l[i].gone)):=by
 obtain⟨b,off,he,hb,_⟩:=h.rd.elem Term.size_cells (by omega) hk;refine⟨b,off,he,hb,fun i hi W hW=>?_⟩;obtain⟨b',off',he',_,hc⟩:=h.rd.elem Term.size_cells (by omega) hi;rw[he] at he';cases he';have c0:=(hW.cell (p:=⟨b,off+i*8+0,none⟩) hb).trans (hc 0 _ rfl);simp only[Nat.add_zero] at c0;exact⟨c0,(hW.cell (p:=⟨b,off+i*8+1,none⟩) hb).trans (hc 1 _ rfl),(hW.cell (p:=⟨b,off+i*8+2,none⟩) hb).trans (hc 2 _ rfl),(hW.cell (p:=⟨b,off+i*8+3,none⟩) hb).trans (hc 3 _ rfl),(hW.cell (p:=⟨b,off+i*8+4,none⟩) hb).trans (hc 4 _ rfl),(hW.cell (p:=⟨b,off+i*8+5,none⟩) hb).trans (hc 5 _ rfl),(hW.cell (p:=⟨b,off+i*8+6,none⟩) hb).trans (hc 6 _ rfl),(hW.cell (p:=⟨b,off+i*8+7,none⟩) hb).trans (hc 7 _ rfl)⟩
def chkT:Int->List Term->Bool
 | _,[]=>true
 | last,x :: l=>x.ok && decide (last<x.no) && chkT x.no l
def Zi (l:List Term):Int:=if 1024<l.length then 2 else if chkT (-1) l then 0 else 270
theorem Xuz (l:List Term) (k:Nat) (h:k<l.length) (last:Int):chkT last (l.drop k)=(l[k].ok && decide (last<l[k].no) && chkT l[k].no (l.drop (k+1))):=by
 rw[List.drop_eq_getElem_cons h];rfl
theorem Xwy (x:Term) (w:World) (hT:Tabs w) (hx:x.lies w):Calls Tryz.prog 147 #[x.vl] w fun e w'=>e = .returned (.bool x.ok)/\Below w.heap.size w w':=Xsh x w hT hx
theorem Xqf (A:Option Addr) (c:Nat) (l:List Term) (w:World) (hT:Tabs w) (hr:TermsAt w A l) (hm:l.length<=9223372036854775807) :
  Calls Tryz.prog 87 #[.slice A l.length c] w fun e w'=>e = .returned (.int .i64 (Zi l))/\Below w.heap.size w w':=by
 by_cases hl:l.length<=1024
 ·have h1:¬(1024:Int)<l.length:=by omega
  go_enter Tryz.func87,Tryz.ntmps87
  go_wp2_with fail
  go_loopw [3,11] (fun t i wr=>∃(k:Nat) (last:Int),k<=l.length/\i = .int .i64 k/\t = .int .i64 last/\Below w.heap.size w wr/\Hid (chkT (-1) l=chkT last (l.drop k))) (fun _ i _=>l.length-(intOf i).toNat)
  case atStart=>exact⟨0,_,Nat.zero_le _,rfl,rfl,bo_q,rfl⟩
  case round =>
   obtain⟨k,last,hk,rfl,rfl,hB,HR⟩:=hrel;by_cases hlt:k<l.length
   ·obtain⟨b,off,rfl,hb,hc⟩:=hr.at_ hlt
    obtain⟨d0,d1,d2,d3,d4,d5,d6,d7⟩:=hc k hlt wr hB;have hx:l[k].lies wr:=(hr.lie _ (List.getElem_mem hlt)).ext hB;have Hd:=Xa (Xuz l k hlt last)
    have hfin:∀b:Bool,b=(l[k].ok && decide (last<l[k].no))->Zi l=if b then (if chkT l[k].no (l.drop (k+1)) then 0 else 270) else 270:=by
     rintro b rfl;unfold Zi;rw[if_neg (by omega),HR.out,Hd.out];cases l[k].ok<;>simp
     by_cases h:last<l[k].no<;>simp[h]
    have Hfin:=Xa hfin;clear hc hfin;generalize l[k]=x at *;have hBx:Below wr.heap.size wr (wr.alloc x.ob):=ba_q;have n0:=World.alloc_heap_new wr x.ob;have cr:=Xa (Xwy x _ (Xa8 hT (Xb hB hBx)) (hx.ext hBx));obtain⟨ok,hok⟩:∃ok,x.ok=ok:=⟨_,rfl⟩
    rw[hok] at Hd Hfin cr;have Hok:=Xa hok;clear hok hx;go_wp2_with fail
    refine cr.out.mono ?_;rintro e w2 ⟨rfl,hb2⟩;have hB2:=Xb hB (Xb hBx hb2);have n2:=(hb2.block wr.heap.size (by simp)).trans n0;have e0:=gblk n2 0;clear n0 n2 d0 d1 d2 d3 d4 d5 d6 d7 cr hBx;cases ok
    ·have HF:=Xa (Hfin.out false rfl)
     clear Hfin Hd HR;go_wp2_with fail
     go_ret;exact⟨by rw[HF.out];rfl,hB2⟩
    ·by_cases hla:last<x.no
     ·have HF:Hid (chkT (-1) l=chkT x.no (l.drop (k+1))):=by show _=_;rw[HR.out,Hd.out,decide_eq_true hla];rfl
      clear Hfin Hd HR;go_wp2_with fail
      go_roundw
      case rel=>exact⟨k+1,x.no,by omega,by go_num,rfl,hB2,HF⟩
      case measure=>simp[intOf];omega
     ·have HF:=Xa (Hfin.out false (by rw[decide_eq_false hla];rfl))
      clear Hfin Hd HR;go_wp2_with fail
      go_ret;exact⟨by rw[HF.out];rfl,hB2⟩
   ·have h5:Hid (Zi l=0):=by
     show _=_;unfold Zi;rw[if_neg (by omega),HR.out,show k=l.length by omega,List.drop_length];rfl
    clear HR;go_wp2_with fail
    go_ret;exact⟨by rw[h5.out];rfl,hB⟩
 ·have h5:Hid (Zi l=2):=by show _=_;unfold Zi;rw[if_pos (by omega)]
  have h1:(1024:Int)<l.length:=by omega
  go_enter Tryz.func87,Tryz.ntmps87
  go_wp2_with fail
  go_ret;exact⟨by rw[h5.out];rfl,bo_q⟩
end Go.Proofs.YtolpbjjapodmnaaGreatDoor
/- Rows of cells: copy, append of zero values, clear, at elements of any number of cells. No program in sight. -/
namespace Go.Han
open Go.RowKit
def Row (w:World) (g t:Nat) (cur:List Value):Prop:=w.heap[g]? = some (.cells cur.toArray t (0,0))
theorem Row.lt {w:World} {g t:Nat} {cur:List Value} (h:Row w g t cur):g<w.heap.size:=Xd h
theorem Row.cell {w:World} {g t:Nat} {cur:List Value} (h:Row w g t cur) (j:Nat):w.cell? ⟨g,j,none⟩=cur[j]? := by
 unfold Row at h;simp[World.cell?,h]
theorem Row.frozen {w:World} {g t:Nat} {cur:List Value} (h:Row w g t cur) (j:Nat):w.frozen? ⟨g,j,none⟩=false:=by
 unfold Row at h;simp[World.frozen?,h]
theorem Row.ext {w w':World} {g t:Nat} {cur:List Value} (h:Row w g t cur) (hb:Below w.heap.size w w'):Row w' g t cur:=(hb.block g h.lt).trans h
theorem Row.far {w w':World} {g t:Nat} {cur:List Value} (h:Row w g t cur) {row:Option Nat} (hg:w.grownBy w' row) (hne:some g≠row):Row w' g t cur:=(hg.block g h.lt hne).trans h
theorem Row.drew {w:World} {g t:Nat} {cur:List Value} (h:Row w g t cur):Row w.drew g t cur:=h
theorem Row.rd {w:World} {g t:Nat} {cur:List Value} (h:Row w g t cur) (off:Nat) {xs:List Value} (hx:∀(j:Nat) (u:Value),xs[j]? = some u->cur[off+j]? = some u):Rd w (some ⟨g,off,none⟩) xs :=
 .inr ⟨g,off,rfl,h.lt,fun j u hu=>(h.cell _).trans (hx j u hu)⟩
section
variable {P:Program} (w:World)
theorem Xyk (g o j:Nat):(⟨g,o,none⟩:Addr).add j=⟨g,o+j,none⟩:=by unfold Addr.add;split<;>simp_all
theorem Xcy {ops:Array Oper} {rest:List Oper} {o:Oper} {a:Act} {Q:Exit->Act->World->Prop} (hgd:o.guard=none) (s x:Operand) (t tn:TypeId) (ho:o.op = .call {callee:=.builtin .append,args:=#[s,x],argTypes:=#[t,tn]})
  (e:TypeId) (i:TypeInfo) (z:Value) (size bytes:Nat) (kq kn:IntKind) (ht:P.underlying t=some (.slice e)) (htn:P.underlying tn=some (.int kn)) (hi:P.info? e=some i) (hz:i.zero=some z) (hsize:i.size=size) (hby:i.bytes=bytes) (hzs:z.cells.size=size) (hsz:0<size)
  (A:Option Addr) (sLen sCap k:Nat) (olds:List Value) (hs:a.eval s = .slice A sLen sCap) (hx:a.eval x = .int kq k) (hl:olds.length=sLen*size) (hold:Rd w A olds)
  (h0:0<k) (hg:sCap<sLen+k) (h63:sLen+k<=maxLen) (hbytes:(sLen+k)*bytes<=140737488355328)
  (h:∀cap w' R,Row w' w.heap.size e (olds++R)->(olds++R).length=cap*size->sLen+k<=cap->cap<=maxLen->Below w.heap.size w w'->w'.heap.size=w.heap.size+1->wpList P ops Q rest (a.put o.dst (.slice (some ⟨w.heap.size,0,none⟩) (sLen+k) cap)) w') :
  wpList P ops Q (o :: rest) a w:=by
 refine wpList_plain hgd fun K hK=>?_;subst hsize;subst hby;have hsmall:sLen+k<=9223372036854775807:=by simp only[maxLen] at h63;omega
 have hfc:(Builtin.firstCells i.size sLen (.slice A sLen sCap)).run P w.drew = .ok olds.toArray w.drew:=by
  rcases hold with rfl|⟨b,off,rfl,_,hc⟩
  ·cases A with
   | none=>exact run_firstCells_none w.drew _ _ _ _
   | some a=>exact run_firstCells_some w.drew _ _ a sLen sCap [] (by simpa using hl) (by simp)
  ·exact run_firstCells_some w.drew _ _ ⟨b,off,none⟩ sLen sCap olds hl (fun j v hv=>by rw[Xyk];exact hc j v hv)
 have hr:=Lib.run_append_grow_zeros (P:=P) w t tn o.type e i z kq kn ht htn hi hz A sLen sCap olds hfc k h0 hsz hg (by omega) (by have:=Nat.mul_le_mul_right i.bytes (show k<=sLen+k by omega);omega) (growslice_fits (by omega) hbytes);have hge:=grownCap_ge w (sLen+k) sCap e;have hcm:=grownCap_le_maxLen w (sLen+k) sCap e h63;unfold Oper.wp execOp;simp only[ho,resolve,invoke,builtin,Sem.run_bind,Sem.run_pure,Result.andThen_ok,List.map_toArray,List.map_cons,List.map_nil,hs,hx,hr];refine hK _ _ (h (grownCap w (sLen+k) sCap e) _ ((Builtin.zeroCells z.cells k).toList++(Builtin.zeroCells z.cells (grownCap w (sLen+k) sCap e-(sLen+k))).toList) ?_ ?_ hge hcm ?_ (by simp))
 ·unfold Row
  rw[show w.heap.size=w.drew.heap.size from rfl,World.alloc_heap_new]
  congr 2
  apply Array.ext';simp
 ·simp only[List.length_append,hl,Array.length_toList,size_zeroCells,hzs,<- Nat.add_mul]
  congr 1
  omega
 ·exact bo_q.drew.alloc (Nat.le_refl _) _
end
end Go.Han
/- The type Term: its sizes. -/
namespace Go.Proofs.YtolpbjjapodmnaaGreatDoor
open Go.RowKit Go.Han
theorem Xv1:(Tryz.prog.info? 56).map (fun i=>(i.size,i.bytes))=some (8,104):=by kernel_rfl
theorem Xrj:((Tryz.prog.info? 56).bind (·.zero)).map (·.cells.size)=some 8:=by kernel_rfl
theorem Xsc:∃i z,Tryz.prog.info? 56=some i/\i.zero=some z/\i.size=8/\i.bytes=104/\z.cells.size=8:=by
 have h1:=Xv1;have h2:=Xrj;cases hi:Tryz.prog.info? 56 with
 | none=>rw[hi] at h1;cases h1
 | some i =>
  rw[hi] at h1 h2;simp only[Option.map_some,Option.some.injEq,Prod.mk.injEq,Option.bind_some] at h1 h2;cases hz:i.zero with
  | none=>rw[hz] at h2;cases h2
  | some z =>
   rw[hz] at h2;exact⟨i,z,rfl,hz,h1.1,h1.2,by simpa using h2⟩
end Go.Proofs.YtolpbjjapodmnaaGreatDoor
namespace Go.Proofs.YtolpbjjapodmnaaGreatDoor
open Go.RowKit Go.Han
set_option maxRecDepth 100000
attribute [local irreducible] wpStill wpQuiet
set_option maxHeartbeats 8000000
def OwnT (w:World) (base:Nat) (v:Value) (l:List Term):Prop:=OwnL Term.cells 56 8 w base v l
/-! ### plain -/
theorem Xtr:∀(last:Int) (l:List Term),chkT last l=true->(∀x∈l,last<x.no)/\l.Pairwise (fun x y=>x.no<y.no)
 | _,[],_=>⟨by simp,List.Pairwise.nil⟩
 | last,x :: l,h=>by
  unfold chkT at h;simp only[Bool.and_eq_true,decide_eq_true_eq] at h;obtain⟨h1,h2⟩:=Xtr x.no l h.2
  exact⟨fun y hy=>by
   rcases List.mem_cons.1 hy with rfl|hy
   ·exact h.1.2
   ·have:=h1 y hy;omega,List.pairwise_cons.2 ⟨h1,h2⟩⟩
theorem Xtt:∀(last:Int) (l:List Term),chkT last l=true->∀x∈l,x.ok=true
 | _,[],_=>by simp
 | last,x :: l,h=>by
  unfold chkT at h;simp only[Bool.and_eq_true,decide_eq_true_eq] at h;intro y hy;rcases List.mem_cons.1 hy with rfl|hy
  ·exact h.1.1
  ·exact Xtt x.no l h.2 y hy
theorem Qi {l:List Term} (h:Zi l=0):l.length<=1024/\(∀x∈l,x.ok=true)/\l.Pairwise (fun x y=>x.no<y.no):=by
 unfold Zi at h;split at h
 ·cases h
 ·split at h
  ·rename_i h1 h2
   exact⟨by omega,Xtt _ l h2,(Xtr _ l h2).2⟩
  ·cases h
def Vr (x:Term) (at_ known:Int):Bool:=decide (x.at_<=at_) && decide (x.known<=known)
def Uh (a b:Term):Bool:=decide (b.at_<a.at_) || (decide (a.at_=b.at_) && decide (b.no<a.no))
def Qr (a b:Term):Bool:=decide (a.lang=b.lang) && decide (a.src.xs=b.src.xs)
theorem Xy9 (A:Option Addr) (c:Nat) (l:List Term) (w:World) (hm:l.length<=9223372036854775807):Calls Tryz.prog 101 #[.slice A l.length c] w fun e w'=>e = .returned (.bool (decide (l.length<=30) || (decide (1024<l.length) && decide (l.length<=1100))))/\w=w':=by
 obtain⟨q,hq⟩:∃q,(decide (l.length<=30) || (decide (1024<l.length) && decide (l.length<=1100)))=q:=⟨_,rfl⟩
 rw[hq];go_enter Tryz.func101,Tryz.ntmps101
 by_cases h1:l.length<=30
 ·have H:Hid (q=true):=by show _=_;rw[<- hq];simp[h1]
  have i1:(l.length:Int)<=30:=by omega
  clear hq;go_wp2_with fail
  go_ret;exact⟨by rw[H.out];first|rfl|(simp;done)|(simp;omega),rfl⟩
 ·have i1:¬(l.length:Int)<=30:=by omega
  by_cases h2:1024<l.length
  ·have i2:(1024:Int)<l.length:=by omega
   by_cases h3:l.length<=1100
   ·have H:Hid (q=true):=by show _=_;rw[<- hq];simp[h2,h3]
    have i3:(l.length:Int)<=1100:=(by omega);clear hq;go_wp2_with fail
    go_ret;exact⟨by rw[H.out];first|rfl|(simp;done)|(simp;omega),rfl⟩
   ·have H:Hid (q=false):=by show _=_;rw[<- hq];simp[h1,h3]
    have i3:¬(l.length:Int)<=1100:=(by omega);clear hq;go_wp2_with fail
    go_ret;exact⟨by rw[H.out];first|rfl|(simp;done)|(simp;omega),rfl⟩
  ·have H:Hid (q=false):=by show _=_;rw[<- hq];simp[h1,h2]
   have i2:¬(1024:Int)<l.length:=(by omega);clear hq;go_wp2_with fail
   go_ret;exact⟨by rw[H.out];first|rfl|(simp;done)|(simp;omega),rfl⟩
end Go.Proofs.YtolpbjjapodmnaaGreatDoor
/- Standing terms, in plain lists: words have no line feed; keys; the last terms. No program in sight. -/
namespace Go.Proofs.YtolpbjjapodmnaaGreatDoor
open Go.RowKit Go.Han
/-! ### line feeds -/
theorem Xtu (l:List UInt8) (h:Yq l 0<128):dec l=(Yq l 0,1):=by
 unfold dec Lib.decodeN;rw[if_pos h]
theorem Xu7 (n b0 b1 b2 b3:Nat) (h:128<=b0):(2<=(Lib.decodeN n b0 b1 b2 b3).2->128<=b1)/\(3<=(Lib.decodeN n b0 b1 b2 b3).2->128<=b2)/\(4<=(Lib.decodeN n b0 b1 b2 b3).2->128<=b3)/\(Lib.decodeN n b0 b1 b2 b3).2<=4:=by
 unfold Lib.decodeN;rw[if_neg (by omega)];repeat' split
 all_goals (refine⟨?_,?_,?_,?_⟩<;>simp<;>omega)
theorem Xn9 (l:List UInt8) (h:128<=Yq l 0):∀i,i<(dec l).2->128<=Yq l i:=by
 obtain⟨h1,h2,h3,h4⟩:=Xu7 l.length (Yq l 0) (Yq l 1) (Yq l 2) (Yq l 3) h;intro i hi;change i<(Lib.decodeN l.length (Yq l 0) (Yq l 1) (Yq l 2) (Yq l 3)).2 at hi;rcases(show i=0\/i=1\/i=2\/i=3 by omega) with rfl|rfl|rfl|rfl
 ·exact h
 ·exact h1 (by omega)
 ·exact h2 (by omega)
 ·exact h3 (by omega)
theorem Xpp:∀(n:Nat) (l:List UInt8),l.length<=n->(Yt l).2=true->(10:UInt8)∈l->10∈(Yt l).1
 | 0,l,hn,_,h=>by
  have:l=[]:=List.eq_nil_of_length_eq_zero (by omega);rw[this] at h;cases h
 | n+1,l,hn,hr,h=>by
  have hne:l≠[]:=by rintro rfl;cases h
  have hge:=Xci l;have hlen:0<l.length:=List.length_pos_iff.2 hne;cases hb:badB (dec l)
  ·rw[Xi7 l hne hb] at hr ⊢
   simp only at hr ⊢
   have key:(10:UInt8)∈l.drop (dec l).2\/(dec l).1=10:=by
    by_cases h128:Yq l 0<128
    ·rw[Xtu l h128]
     cases l with
     | nil=>cases h
     | cons c t =>
      rcases List.mem_cons.1 h with e|h
      ·right;subst e;rfl
      ·left;exact h
    ·left
     have hh:=Xn9 l (by omega);rw[<- List.take_append_drop (dec l).2 l] at h;rcases List.mem_append.1 h with h|h
     ·exfalso
      obtain⟨i,hi,he⟩:=List.getElem_of_mem h;have hi2:i<(dec l).2/\i<l.length:=(by rw[List.length_take] at hi;omega);have:=hh i hi2.1;unfold Yq at this;rw[List.getElem?_eq_getElem hi2.2] at this;rw[List.getElem_take] at he;rw[he] at this;exact absurd this (by decide)
     ·exact h
   rcases key with h1|h1
   ·exact List.mem_cons_of_mem _ (Xpp n _ (by simp;omega) hr h1)
   ·rw[h1];exact List.mem_cons_self ..
  ·rw[Xlu l hne hb] at hr;cases hr
theorem Xuh {s:ByteArray} (h:Xq s=true):(10:UInt8)∉s.data.toList:=by
 unfold Xq at h;simp only[Bool.and_eq_true,Bool.not_eq_true',decide_eq_true_eq] at h;intro h10;have:=Xpp _ _ (Nat.le_refl _) h.1.2 h10;have h2:=h.2;rw[List.any_eq_false] at h2;exact h2 10 this (by decide)
theorem Xl6 {s:ByteArray} (h:Xq s=true):s.data.toList.length<=64:=by
 unfold Xq at h;simp only[Bool.and_eq_true,decide_eq_true_eq] at h;rw[<- Lib.size_eq];exact h.1.1.1
/-! ### joining with line feeds -/
theorem Xgt {a b p q:List UInt8} (ha:(10:UInt8)∉a) (hb:(10:UInt8)∉b) (hp:p=[]\/∃p',p=10 :: p') (hq:q=[]\/∃q',q=10 :: q') (h:a++p=b++q):a=b/\p=q:=by
 induction a generalizing b with
 | nil =>
  cases b with
  | nil=>exact⟨rfl,h⟩
  | cons y b =>
   simp only[List.nil_append,List.cons_append] at h;rcases hp with rfl|⟨p',rfl⟩
   ·cases h
   ·simp only[List.cons.injEq] at h
    exact absurd (h.1 ▸ List.mem_cons_self ..) hb
 | cons x a ih =>
  cases b with
  | nil =>
   simp only[List.nil_append,List.cons_append] at h;rcases hq with rfl|⟨q',rfl⟩
   ·cases h
   ·simp only[List.cons.injEq] at h
    exact absurd (h.1 ▸ List.mem_cons_self ..) ha
  | cons y b =>
   simp only[List.cons_append,List.cons.injEq] at h;obtain⟨h1,h2⟩:=ih (fun h=>ha (List.mem_cons_of_mem _ h)) (fun h=>hb (List.mem_cons_of_mem _ h)) h.2;exact⟨by rw[h.1,h1],h2⟩
theorem Xct (r:List (List UInt8)):Lib.joinTail [10] r=[]\/∃p',Lib.joinTail [10] r=10 :: p':=by
 cases r with
 | nil=>exact .inl rfl
 | cons x r=>exact .inr ⟨_,rfl⟩
theorem Xpz:∀(r r':List (List UInt8)),(∀x∈r,(10:UInt8)∉x)->(∀x∈r',(10:UInt8)∉x)->Lib.joinTail [10] r=Lib.joinTail [10] r'->r=r'
 | [],[],_,_,_=>rfl
 | [],x :: r',_,_,h=>by cases h
 | x :: r,[],_,_,h=>by cases h
 | x :: r,y :: r',h1,h2,h=>by
  have e:x++Lib.joinTail [10] r=y++Lib.joinTail [10] r':=by
   simpa[Lib.joinTail] using h
  obtain⟨hx,hr⟩:=Xgt (h1 x (List.mem_cons_self ..)) (h2 y (List.mem_cons_self ..)) (Xct r) (Xct r') e;rw[hx,Xpz r r' (fun z hz=>h1 z (List.mem_cons_of_mem _ hz)) (fun z hz=>h2 z (List.mem_cons_of_mem _ hz)) hr]
theorem Xzs {r r':List (List UInt8)} (h1:∀x∈r,(10:UInt8)∉x) (h2:∀x∈r',(10:UInt8)∉x) (n1:r≠[]) (n2:r'≠[]) (h:Lib.join r [10]=Lib.join r' [10]):r=r':=by
 cases r with
 | nil=>exact absurd rfl n1
 | cons x r =>
  cases r' with
  | nil=>exact absurd rfl n2
  | cons y r' =>
   rw[Lib.join_cons,Lib.join_cons] at h;obtain⟨hx,hr⟩:=Xgt (h1 x (List.mem_cons_self ..)) (h2 y (List.mem_cons_self ..)) (Xct r) (Xct r') h;rw[hx,Xpz r r' (fun z hz=>h1 z (List.mem_cons_of_mem _ hz)) (fun z hz=>h2 z (List.mem_cons_of_mem _ hz)) hr]
theorem Xow (r:List (List UInt8)) (n:Nat) (h:∀x∈r,x.length<=n):(Lib.join r [10]).length<=r.length*(n+1):=by
 cases r with
 | nil=>simp[Lib.join_nil]
 | cons x r =>
  rw[Lib.join_cons]
  have ht:∀q:List (List UInt8),(∀x∈q,x.length<=n)->(Lib.joinTail [10] q).length<=q.length*(n+1):=by
   intro q
   induction q with
   | nil=>intro _;simp[Lib.joinTail]
   | cons y q ih =>
    intro hq;have h1:=ih (fun z hz=>hq z (List.mem_cons_of_mem _ hz));have h2:=hq y (List.mem_cons_self ..);have e:Lib.joinTail [10] (y :: q)=10 :: (y++Lib.joinTail [10] q):=(by simp[Lib.joinTail]);rw[e];simp only[List.length_cons,List.length_append,Nat.add_mul,Nat.one_mul];omega
  have h1:=ht r (fun z hz=>h z (List.mem_cons_of_mem _ hz));have h2:=h x (List.mem_cons_self ..);simp only[List.length_cons,List.length_append,Nat.add_mul,Nat.one_mul];omega
/-! ### keys -/
structure GKey where
 lang:Int
 src:ByteArray
 deriving DecidableEq
def U8 (xs:List ByteArray):List UInt8:=Lib.join (xs.map (fun s=>s.data.toList)) [10]
def Xu (x:Term):GKey:=⟨x.lang,⟨(U8 x.src.xs).toArray⟩⟩
theorem Xfn {x:Term} (h:x.ok=true):1<=x.src.xs.length/\x.src.xs.length<=4/\∀s∈x.src.xs,Xq s=true:=by
 unfold Term.ok Zb at h;simp only[Bool.and_eq_true,decide_eq_true_eq,List.all_eq_true] at h;exact⟨h.1.2.1.1,h.1.2.1.2,h.1.2.2⟩
theorem Xa1:∀ {xs ys:List ByteArray},xs.map (fun s=>s.data.toList)=ys.map (fun s=>s.data.toList)->xs=ys
 | [],[],_=>rfl
 | [],_ :: _,h=>by cases h
 | _ :: _,[],h=>by cases h
 | x :: xs,y :: ys,h=>by
  simp only[List.map_cons,List.cons.injEq] at h;rw[WideShapes.bytes_inj h.1,Xa1 h.2]
theorem Xhq {a b:Term} (ha:a.ok=true) (hb:b.ok=true):Xu a=Xu b↔Qr a b=true:=by
 obtain⟨a1,_,a3⟩:=Xfn ha;obtain⟨b1,_,b3⟩:=Xfn hb;unfold Qr Xu;simp only[GKey.mk.injEq,Bool.and_eq_true,decide_eq_true_eq];refine and_congr_right fun _=>⟨fun h=>?_,fun h=>by rw[h]⟩
 have h':U8 a.src.xs=U8 b.src.xs:=by
  have:=congrArg (fun s:ByteArray=>s.data.toList) h
  simpa using this
 refine Xa1 (Xzs ?_ ?_ ?_ ?_ h')
 ·intro x hx
  obtain⟨s,hs,rfl⟩:=List.mem_map.1 hx;exact Xuh (a3 s hs)
 ·intro x hx
  obtain⟨s,hs,rfl⟩:=List.mem_map.1 hx;exact Xuh (b3 s hs)
 ·intro h0;rw[List.map_eq_nil_iff] at h0;rw[h0] at a1;simp at a1
 ·intro h0;rw[List.map_eq_nil_iff] at h0;rw[h0] at b1;simp at b1
theorem Xc5 {x:Term} (h:x.ok=true):(U8 x.src.xs).length<=260:=by
 obtain⟨_,h2,h3⟩:=Xfn h
 have:=Xow (x.src.xs.map (fun s=>s.data.toList)) 64 (fun y hy=>by
  obtain⟨s,hs,rfl⟩:=List.mem_map.1 hy;exact Xl6 (h3 s hs))
 unfold U8;simp at this;omega
/-! ### the last terms -/
def cntB (lang t u:Int) (x:Term):Bool:=decide (x.lang=lang) && Vr x t u
def Ug (lang t u:Int) (K:GKey) (o:Option Term) (y:Term):Option Term :=
 if cntB lang t u y=true/\Xu y=K then (match o with|none=>some y|some z=>if z.at_<=y.at_ then some y else some z) else o
def Yi (lang t u:Int) (p:List Term) (K:GKey):Option Term:=p.foldl (Ug lang t u K) none
theorem Vw (lang t u:Int) (p:List Term) (y:Term) (K:GKey):Yi lang t u (p++[y]) K=Ug lang t u K (Yi lang t u p K) y:=by
 unfold Yi;rw[List.foldl_append];rfl
theorem Xip (lang t u:Int) (K:GKey):∀(q p:List Term),(p++q).Pairwise (fun a b=>a.no<b.no) ->
  (match Yi lang t u p K with|none=>∀c∈p,¬(cntB lang t u c=true/\Xu c=K)|some z=>z∈p/\cntB lang t u z=true/\Xu z=K/\∀c∈p,cntB lang t u c=true->Xu c=K->Uh c z=false) ->
  (match Yi lang t u (p++q) K with|none=>∀c∈p++q,¬(cntB lang t u c=true/\Xu c=K)|some z=>z∈p++q/\cntB lang t u z=true/\Xu z=K/\∀c∈p++q,cntB lang t u c=true->Xu c=K->Uh c z=false)
 | [],p,_,h=>by simpa using h
 | y :: q,p,hp,h=>by
  have e:p++y :: q=(p++[y])++q:=by simp
  rw[e] at hp ⊢;refine Xip lang t u K q (p++[y]) hp ?_
  have hy:∀c∈p,c.no<y.no:=by
   rw[List.append_assoc,List.pairwise_append] at hp;exact fun c hc=>hp.2.2 c hc y (by simp)
  rw[Vw];unfold Ug;by_cases hc:cntB lang t u y=true/\Xu y=K
  ·rw[if_pos hc]
   cases hl:Yi lang t u p K with
   | none =>
    rw[hl] at h;refine⟨by simp,hc.1,hc.2,fun c hcm h1 h2=>?_⟩;rcases List.mem_append.1 hcm with hcm|hcm
    ·exact absurd ⟨h1,h2⟩ (h c hcm)
    ·simp at hcm;subst hcm;simp[Uh]
   | some z =>
    rw[hl] at h;obtain⟨z1,z2,z3,z4⟩:=h;by_cases hz:z.at_<=y.at_
    ·simp only[if_pos hz]
     refine⟨by simp,hc.1,hc.2,fun c hcm h1 h2=>?_⟩;rcases List.mem_append.1 hcm with hcm|hcm
     ·have h3:=z4 c hcm h1 h2
      have h4:=hy c hcm;unfold Uh at h3 ⊢;simp at h3 ⊢;omega
     ·simp at hcm;subst hcm;simp[Uh]
    ·simp only[if_neg hz]
     refine⟨List.mem_append_left _ z1,z2,z3,fun c hcm h1 h2=>?_⟩;rcases List.mem_append.1 hcm with hcm|hcm
     ·exact z4 c hcm h1 h2
     ·simp at hcm;subst hcm
      unfold Uh;simp;omega
  ·rw[if_neg hc]
   cases hl:Yi lang t u p K with
   | none =>
    rw[hl] at h;intro c hcm;rcases List.mem_append.1 hcm with hcm|hcm
    ·exact h c hcm
    ·simp at hcm;subst hcm;exact hc
   | some z =>
    rw[hl] at h;obtain⟨z1,z2,z3,z4⟩:=h;refine⟨List.mem_append_left _ z1,z2,z3,fun c hcm h1 h2=>?_⟩;rcases List.mem_append.1 hcm with hcm|hcm
    ·exact z4 c hcm h1 h2
    ·simp at hcm;subst hcm;exact absurd ⟨h1,h2⟩ hc
def Xes (l:List Term) (t u:Int) (x:Term):Bool := !x.gone && Vr x t u && !(l.any fun z=>Qr z x && Vr z t u && Uh z x)
def Yh (l:List Term) (lang t u:Int):List Term:=l.filter (fun x=>decide (x.lang=lang) && Xes l t u x)
def Zs (lang t u:Int) (l:List Term) (y:Term):Bool:=match Yi lang t u l (Xu y) with|some z=>z.no == y.no && !y.gone|none=>false
theorem X0d {l:List Term} (hs:l.Pairwise (fun a b=>a.no<b.no)) {a b:Term} (ha:a∈l) (hb:b∈l) (h:a.no=b.no):a=b:=by
 obtain⟨i,hi,rfl⟩:=List.getElem_of_mem ha;obtain⟨j,hj,rfl⟩:=List.getElem_of_mem hb;rw[List.pairwise_iff_getElem] at hs;rcases Nat.lt_trichotomy i j with h1|h1|h1
 ·have:=hs i j hi hj h1;omega
 ·subst h1;rfl
 ·have:=hs j i hj hi h1;omega
theorem Xpd {l:List Term} (hs:l.Pairwise (fun a b=>a.no<b.no)) (hok:∀x∈l,x.ok=true) (lang t u:Int) {y:Term} (hy:y∈l):Zs lang t u l y=(decide (y.lang=lang) && Xes l t u y):=by
 have hsp:=Xip lang t u (Xu y) l [] (by simpa using hs) (fun c hc=>by cases hc);simp only[List.nil_append] at hsp;unfold Zs Xes;have lang_of:∀c,Xu c=Xu y->c.lang=y.lang:=fun c h=>congrArg GKey.lang h;cases hl:Yi lang t u l (Xu y) with
 | none =>
  rw[hl] at hsp;have h1:=hsp y hy;simp only[and_true,cntB,Bool.and_eq_true,decide_eq_true_eq,not_and] at h1;by_cases h2:y.lang=lang
  ·have h3:=h1 h2
   have h4:Vr y t u=false:=(by simpa using h3);simp[h4]
  ·simp[h2]
 | some z =>
  rw[hl] at hsp;obtain⟨z1,z2,z3,z4⟩:=hsp;simp only[cntB,Bool.and_eq_true,decide_eq_true_eq] at z2;by_cases hzy:z.no=y.no
  ·have e:=X0d hs z1 hy hzy
   subst e
   have hany:(l.any fun c=>Qr c z && Vr c t u && Uh c z)=false:=by
    rw[List.any_eq_false];intro c hc;by_cases h1:Qr c z=true
    ·by_cases h2:Vr c t u=true
     ·have h3:=(Xhq (hok c hc) (hok z z1)).2 h1
      have h4:=z4 c hc (by simp[cntB,lang_of c h3,z2.1,h2]) h3;simp[h4]
     ·simp[h2]
    ·simp[h1]
   simp[z2.1,z2.2,hany]
  ·have hb:(z.no == y.no)=false:=by simpa using hzy
   show (z.no == y.no && !y.gone)=_;rw[hb,Bool.false_and]
   symm
   by_cases hyl:y.lang=lang
   ·by_cases hyc:Vr y t u=true
    ·have h5:=z4 y hy (by simp[cntB,hyl,hyc]) rfl
     have h6:Uh z y=true:=by
      unfold Uh at h5 ⊢;simp at h5 ⊢;omega
     have hany:(l.any fun c=>Qr c y && Vr c t u && Uh c y)=true :=
      List.any_eq_true.2 ⟨z,z1,by rw[(Xhq (hok z z1) (hok y hy)).1 z3,z2.2,h6];rfl⟩
     simp[hany]
    ·simp[hyc]
   ·simp[hyl]
theorem Xog {l:List Term} (hs:l.Pairwise (fun a b=>a.no<b.no)) (hok:∀x∈l,x.ok=true) (lang t u:Int):l.filter (Zs lang t u l)=Yh l lang t u:=by
 unfold Yh;exact List.filter_congr fun y hy=>Xpd hs hok lang t u hy
def Zj (l:List Term) (lang t u:Int):Int:=if Zi l≠0 then Zi l else if (Xbe lang && tmB t && tmB u)=false then 1 else 0
end Go.Proofs.YtolpbjjapodmnaaGreatDoor
namespace Go.Proofs.YtolpbjjapodmnaaGreatDoor
open Go.RowKit Go.Han
set_option maxRecDepth 100000
attribute [local irreducible] wpStill wpQuiet
set_option maxHeartbeats 8000000
def StrS.sub (s:StrS) (i n:Nat):StrS:=⟨if s.cap=i then s.addr else s.addr.map (·.add (i*1)),s.cap-i,(s.xs.drop i).take n⟩
theorem StrS.sub_len {s:StrS} {i n:Nat} (h:i+n<=s.xs.length):(s.sub i n).xs.length=n:=by
 show ((s.xs.drop i).take n).length=n;simp;omega
theorem StrS.sub_lies {w:World} {s:StrS} (hs:s.lies w) {i n:Nat} (h:i+n<=s.xs.length):(s.sub i n).lies w:=by
 have hcap:=hs.cap;have hmax:=hs.max;have hn:=StrS.sub_len h;refine⟨?_,by rw[hn];show n<=s.cap-i;omega,by show s.cap-i<=_;omega,?_⟩
 ·show Rd w (if s.cap=i then s.addr else s.addr.map (·.add (i*1))) (strs ((s.xs.drop i).take n))
  by_cases hc:s.cap=i
  ·obtain rfl:n=0:=by omega
   exact Rd.nil _ _
  ·rw[if_neg hc]
   rcases hs.rd with h0|⟨b,off,he,hb,hcl⟩
   ·have h1:s.xs=[]:=by simpa[strs] using h0
    rw[h1];simp only[List.drop_nil,List.take_nil];exact Rd.nil _ _
   ·refine .inr ⟨b,off+i,by rw[he];simp[Addr.add],hb,fun j u hu=>?_⟩
    have hj:j<n:=by
     obtain⟨hlt,_⟩:=List.getElem?_eq_some_iff.1 hu;simp[strs] at hlt;omega
    rw[Nat.add_assoc];refine hcl (i+j) u ?_;rw[<- hu];simp[strs,hj]
 ·intro h0
  have h1:s.addr=none:=by
   change (if s.cap=i then s.addr else s.addr.map (·.add (i*1)))=none at h0;split at h0
   ·exact h0
   ·simpa using h0
  show (s.xs.drop i).take n=[];rw[hs.nil h1];simp
theorem X2f (s:StrS) (i n:Nat) (w:World) (h:i+n<=s.xs.length) (hc:s.xs.length<=s.cap) :
  (Instr.slice 22 (.slice s.addr s.xs.length s.cap) (some (.int .i64 i)) (some (.int .i64 ((i:Int)+(n:Int)))) none).run Tryz.prog w = .ok (.slice (s.sub i n).addr n (s.sub i n).cap) w:=by
 have e:=run_slice_lh (P:=Tryz.prog) (w:=w) 22 s.addr s.xs.length s.cap (by rw[Tryz.underlying22];rfl) .i64 .i64 (i:Int) ((i:Int)+(n:Int)) (by omega) (by omega) (by omega);rw[e];have h1:((i:Int)+(n:Int)).toNat=i+n:=by omega
 have h2:((i:Int)).toNat=i:=by omega
 rw[h1,h2];have h3:(Go.sizeOf (Tryz.prog.elem 22)).run Tryz.prog w = .ok 1 w:=by kernel_rfl
 rw[h3];show Result.ok (sliced s.addr i (i+n) s.cap 1) w=_;unfold sliced StrS.sub;rw[show i+n-i=n by omega]
theorem X0q (s:StrS) (i:Nat) (w:World) (h:i<=s.xs.length) :
  (Instr.slice 22 (.slice s.addr s.xs.length s.cap) (some (.int .i64 i)) none none).run Tryz.prog w = .ok (.slice (s.sub i (s.xs.length-i)).addr (s.xs.length-i) (s.sub i (s.xs.length-i)).cap) w:=by
 have e:=run_slice_l (P:=Tryz.prog) (w:=w) 22 s.addr s.xs.length s.cap (by rw[Tryz.underlying22];rfl) .i64 (i:Int) (by omega) (by omega);rw[e];have h2:((i:Int)).toNat=i:=by omega
 rw[h2];have h3:(Go.sizeOf (Tryz.prog.elem 22)).run Tryz.prog w = .ok 1 w:=by kernel_rfl
 rw[h3];rfl
theorem X0r (s:StrS) (n:Nat) (w:World) (h:n<=s.xs.length) (hc:s.xs.length<=s.cap) :
  (Instr.slice 22 (.slice s.addr s.xs.length s.cap) none (some (.int .i64 n)) none).run Tryz.prog w = .ok (.slice (s.sub 0 n).addr n (s.sub 0 n).cap) w:=by
 have e:=run_slice_h (P:=Tryz.prog) (w:=w) 22 s.addr s.xs.length s.cap (by rw[Tryz.underlying22];rfl) .i64 (n:Int) (by omega) (by omega);rw[e];have h2:((n:Int)).toNat=n:=by omega
 rw[h2];have h3:(Go.sizeOf (Tryz.prog.elem 22)).run Tryz.prog w = .ok 1 w:=by kernel_rfl
 rw[h3];rfl
def Un (x:Term) (ws:List ByteArray):Bool:=decide (ws.take x.src.xs.length=x.src.xs)
end Go.Proofs.YtolpbjjapodmnaaGreatDoor
