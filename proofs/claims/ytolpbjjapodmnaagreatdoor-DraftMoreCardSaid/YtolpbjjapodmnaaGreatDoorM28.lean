/- Texts of this claim, one after the other: R30, Law30c, RangeZ, DraC, DraP, TgC, DraB, DraD, DraR. -/
import Derived.Test.YtolpbjjapodmnaaGreatDoorM18
import Derived.Test.YtolpbjjapodmnaaGreatDoorM13
import Derived.Test.YtolpbjjapodmnaaGreatDoorM27
import Derived.Test.YtolpbjjapodmnaaGreatDoorM1
import Derived.Test.YtolpbjjapodmnaaGreatDoorM10
import Derived.Test.YtolpbjjapodmnaaGreatDoorM16
import Derived.Test.YtolpbjjapodmnaaGreatDoorM8
namespace Go.Proofs.YtolpbjjapodmnaaGreatDoor
open Go.RowKit Go.Han
set_option maxRecDepth 100000
attribute [local irreducible] wpStill wpQuiet
set_option maxHeartbeats 8000000
def NumAt (w:World) (A:Option Addr) (l:List Int):Prop:=∀k,k<l.length->∃b off,A=some ⟨b,off,none⟩/\b<w.heap.size/\∀(j:Nat) (hj:j<l.length),w.cell? ⟨b,off+j,none⟩=some (.int .i64 l[j])
theorem NumAt.ext {w w':World} {A:Option Addr} {l:List Int} (h:NumAt w A l) (hb:Below w.heap.size w w'):NumAt w' A l:=fun k hk=>by
 obtain⟨b,off,e,h1,h2⟩:=h k hk;exact⟨b,off,e,Nat.lt_of_lt_of_le h1 hb.size,fun j hj=>(hb.cell (p:=⟨b,off+j,none⟩) h1).trans (h2 j hj)⟩
theorem DepsAt.num {own:Nat->Prop} {V:World} {A:Option Addr} {cp:Nat} {l:List Int} (h:DepsAt own V A cp l):NumAt V A l:=fun k hk=>by
 obtain⟨_,b,cs,fr,h2,h3,_,h5⟩:=h;refine⟨b,0,h2,Xd h3,fun j hj=>?_⟩;rw[Nat.zero_add,gblk h3 j];exact h5 j _ (List.getElem?_eq_getElem hj)
theorem Xp1 {l l':List Int} {k:Nat} (h:k<l.length) (h':k<l'.length) (e:l=l'):l[k]=l'[k]:=by subst e;rfl
theorem Xi9 (A B:Option Addr) (c d:Nat) (l l':List Int) (w:World) (hm:l.length<=9223372036854775807) (hs:NumAt w A l) (ht:NumAt w B l'):Calls Tryz.prog 45 #[.slice A l.length c,.slice B l'.length d] w fun e w'=>e = .returned (.bool (decide (l=l')))/\Below w.heap.size w w':=by
 have hat:=Xa hs;have hat':=Xa ht;clear hs ht;by_cases hl:l.length=l'.length
 ·have hne:((l.length:Int) != (l'.length:Int))=false:=by simp[hl]
  have Hl:=Xa hl;clear hl;go_enter Tryz.func45,Tryz.ntmps45
  go_wp2_with fail
  go_loopw [5] (fun i wr=>∃k:Nat,k<=l.length/\i = .int .i64 k/\Below w.heap.size w wr/\Hid (l.take k=l'.take k)) (fun i _=>l.length-(intOf i).toNat)
  case atStart=>exact⟨0,Nat.zero_le _,rfl,bo_q,rfl⟩
  case round =>
   obtain⟨k,hk,rfl,hB,HR⟩:=hrel;by_cases hlt:k<l.length
   ·have hlt':k<l'.length:=by have:=Hl.out;omega
    obtain⟨b,off,he,hb,hc⟩:=hat.out k hlt;obtain⟨b',off',he',hb',hc'⟩:=hat'.out k hlt';subst he he';have h1:=(hB.cell (p:=⟨b,off+k,none⟩) hb).trans (hc k hlt);have h2:=(hB.cell (p:=⟨b',off'+k,none⟩) hb').trans (hc' k hlt');have Htk:=Xa (show l.take (k+1)=l.take k++[l[k]] from List.take_succ_eq_append_getElem hlt);have Htk':=Xa (show l'.take (k+1)=l'.take k++[l'[k]] from List.take_succ_eq_append_getElem hlt');have hf:=Xa (fun e=>Xp1 hlt hlt' e);clear hc hc';generalize l[k]=x at *;generalize l'[k]=y at *;by_cases hxy:x=y
    ·subst hxy
     have g1:(x != x)=false:=(by simp);go_wp2_with fail
     go_still (by kernel_rfl)
     go_wp2
     go_roundw
     case rel=>exact⟨k+1,by omega,by go_num,hB.drew,by show _=_;rw[Htk.out,Htk'.out,HR.out]⟩
     case measure=>simp[intOf];omega
    ·have HF:Hid (decide (l=l')=false):=decide_eq_false (fun h=>hxy (hf.out h))
     have g1:(x != y)=true:=(by simpa using hxy);clear hxy;go_wp2_with fail
     go_still (by kernel_rfl)
     go_wp2
     go_ret;exact⟨by rw[HF.out];rfl,hB.drew⟩
   ·have HF:Hid (decide (l=l')=true):=by
     refine decide_eq_true ?_;obtain rfl:k=l.length:=by omega
     have h:=HR.out;rw[List.take_length,List.take_of_length_le (by have:=Hl.out;omega)] at h;exact h
    clear HR;go_wp2_with fail
    go_ret;exact⟨by rw[HF.out];rfl,hB⟩
 ·have hne:((l.length:Int) != (l'.length:Int))=true:=by simp;omega
  have HF:Hid (decide (l=l')=false):=decide_eq_false (fun h=>hl (by rw[h]));clear hl;go_enter Tryz.func45,Tryz.ntmps45
  go_wp2_with fail
  go_ret;exact⟨by rw[HF.out];rfl,bo_q⟩
structure TgOk (w:World) (x:TgG):Prop where
 num:NumAt w x.dA x.deps
 few:x.deps.length<=9223372036854775807
theorem TgOk.ext {w w':World} {x:TgG} (h:TgOk w x) (hb:Below w.heap.size w w'):TgOk w' x:=⟨h.num.ext hb,h.few⟩
theorem Xpu (a b:ByteArray):(a.toList == b.toList)=decide (a=b):=by
 by_cases h:a=b
 ·subst h;simp
 ·have:¬a.toList=b.toList:=fun e=>h (by rw[ByteArray.toList_eq,ByteArray.toList_eq] at e;cases a with|mk a=>cases b with|mk b=>cases a;cases b;simp at e;rw[e])
  rw[decide_eq_false h];simpa using this
theorem Xot (a b:Int):(a == b)=decide (a=b):=by by_cases h:a=b<;>simp[h]
theorem Xb9 {x y:TgG}:x.c=y.c↔x.text=y.text/\x.term=y.term/\x.deps=y.deps:=by
 unfold TgG.c;constructor
 ·intro h
  injection h with h1 h2 h3;exact⟨h1,h3,h2⟩
 ·rintro⟨h1,h2,h3⟩
  rw[h1,h2,h3]
theorem Xfv (x y:TgG) (w:World) (hx:TgOk w x) (hy:TgOk w y):Calls Tryz.prog 54 #[.agg #[.string x.text,.slice x.dA x.deps.length x.dc,.int .i64 x.term],.agg #[.string y.text,.slice y.dA y.deps.length y.dc,.int .i64 y.term]] w fun e w'=>e = .returned (.bool (decide (x.c=y.c)))/\Below w.heap.size w w':=by
 obtain⟨w1,hw1⟩:∃w1,w.alloc (.cells #[.string x.text,.slice x.dA x.deps.length x.dc,.int .i64 x.term] 75)=w1:=⟨_,rfl⟩
 obtain⟨w2,hw2⟩:∃w2,w1.alloc (.cells #[.string y.text,.slice y.dA y.deps.length y.dc,.int .i64 y.term] 75)=w2:=⟨_,rfl⟩
 have hb1:=X5 hw1;have hb2:=X5 hw2;have hk1:=Yg hw1;have hk2:=Yg hw2;have hk3:=Xi hb2 hk1;have hB:=Xa (Xb hb1 hb2);have HI:=Xa (Xi9 x.dA y.dA x.dc y.dc x.deps y.deps w2 hx.few (hx.num.ext hB.out) (hy.num.ext hB.out));obtain⟨a0,a1,a2⟩:=gb3 hk3;obtain⟨b0,b1,b2⟩:=gb3 hk2;have k1:=Xpu x.text y.text;have k2:=Xot x.term y.term;clear hx hy hb1 hb2 hk1 hk2 hk3;by_cases h1:x.text=y.text
 rotate_left
 ·have HF:Hid (decide (x.c=y.c)=false):=decide_eq_false fun h=>h1 (Xb9.1 h).1
  rw[decide_eq_false h1] at k1;clear h1;go_enter Tryz.func54,Tryz.ntmps54
  go_wp2_with fail
  go_ret;exact⟨by rw[HF.out];rfl,hB.out⟩
 rw[decide_eq_true h1] at k1;by_cases h2:x.term=y.term
 rotate_left
 ·have HF:Hid (decide (x.c=y.c)=false):=decide_eq_false fun h=>h2 (Xb9.1 h).2.1
  rw[decide_eq_false h2] at k2;clear h1 h2;go_enter Tryz.func54,Tryz.ntmps54
  go_wp2_with fail
  go_ret;exact⟨by rw[HF.out];rfl,hB.out⟩
 rw[decide_eq_true h2] at k2
 have HF:Hid (decide (x.c=y.c)=decide (x.deps=y.deps)):=by
  show _=_;by_cases h3:x.deps=y.deps
  ·rw[decide_eq_true h3,decide_eq_true (Xb9.2 ⟨h1,h2,h3⟩)]
  ·rw[decide_eq_false h3,decide_eq_false fun h=>h3 (Xb9.1 h).2.2]
 obtain⟨q,hq⟩:∃q,decide (x.deps=y.deps)=q:=⟨_,rfl⟩
 rw[hq] at HI HF;clear h1 h2 hq;go_enter Tryz.func54,Tryz.ntmps54
 go_wp2_with fail
 refine HI.out.mono ?_;rintro e w3 ⟨rfl,hb3⟩;have HB:=Xa (Xb hB.out hb3);clear hb3;go_wp2_with fail
 go_ret;exact⟨by rw[HF.out];cases q<;>rfl,HB.out⟩
structure TgsAt (w:World) (s:SlS TgG):Prop where
 lies:s.lies TgG.cells w
 ok:∀x∈s.xs,TgOk w x
theorem TgsAt.ext {w w':World} {s:SlS TgG} (h:TgsAt w s) (hb:Below w.heap.size w w'):TgsAt w' s:=⟨h.lies.ext hb,fun x hx=>(h.ok x hx).ext hb⟩
theorem Xi8 (s t:SlS TgG) (w:World) (hs:TgsAt w s) (ht:TgsAt w t):Calls Tryz.prog 39 #[.slice s.addr s.xs.length s.cap,.slice t.addr t.xs.length t.cap] w fun e w'=>e = .returned (.bool (decide (s.xs.map TgG.c=t.xs.map TgG.c)))/\Below w.heap.size w w':=by
 have hm:s.xs.length<=9223372036854775807:=Nat.le_trans hs.lies.cap hs.lies.max;have Hs:=Xa hs;have Ht:=Xa ht;clear hs ht;by_cases hl:s.xs.length=t.xs.length
 rotate_left
 ·have hne:((s.xs.length:Int) != (t.xs.length:Int))=true:=by simp;omega
  have HF:Hid (decide (s.xs.map TgG.c=t.xs.map TgG.c)=false):=decide_eq_false (fun h=>hl (by have:=congrArg List.length h;simpa using this));clear hl;go_enter Tryz.func39,Tryz.ntmps39
  go_wp2_with fail
  go_ret;exact⟨by rw[HF.out];rfl,bo_q⟩
 have hne:((s.xs.length:Int) != (t.xs.length:Int))=false:=by simp[hl]
 have Hl:=Xa hl;clear hl;go_enter Tryz.func39,Tryz.ntmps39
 go_wp2_with fail
 go_loopw [5] (fun i wr=>∃k:Nat,k<=s.xs.length/\i = .int .i64 k/\Below w.heap.size w wr/\Hid ((s.xs.map TgG.c).take k=(t.xs.map TgG.c).take k)) (fun i _=>s.xs.length-(intOf i).toNat)
 case atStart=>exact⟨0,Nat.zero_le _,rfl,bo_q,rfl⟩
 case round =>
  obtain⟨k,hk,rfl,hB,HR⟩:=hrel;by_cases hlt:k<s.xs.length
  ·have hlt':k<t.xs.length:=by have:=Hl.out;omega
   obtain⟨b,off,he,hb,hc⟩:=(Hs.out.lies.ext hB).at_ TgG.size_cells (by omega) hlt;obtain⟨b',off',he',hb',hc'⟩:=(Ht.out.lies.ext hB).at_ TgG.size_cells (by omega) hlt';have hx:=(Hs.out.ok _ (List.getElem_mem hlt)).ext hB;have hy:=(Ht.out.ok _ (List.getElem_mem hlt')).ext hB;have e1:(s.xs.map TgG.c)[k]? = some s.xs[k].c:=(by rw[List.getElem?_map,List.getElem?_eq_getElem hlt];rfl);have e2:(t.xs.map TgG.c)[k]? = some t.xs[k].c:=(by rw[List.getElem?_map,List.getElem?_eq_getElem hlt'];rfl);have Htk:Hid ((s.xs.map TgG.c).take (k+1)=(s.xs.map TgG.c).take k++[s.xs[k].c]):=(by show _=_;rw[List.take_add_one,e1];rfl);have Htk':Hid ((t.xs.map TgG.c).take (k+1)=(t.xs.map TgG.c).take k++[t.xs[k].c]):=by show _=_;rw[List.take_add_one,e2];rfl
   have hf:Hid (s.xs.map TgG.c=t.xs.map TgG.c->s.xs[k].c=t.xs[k].c):=fun e=>by
    rw[e,e2] at e1;exact(Option.some.inj e1).symm
   have HC:Hid (∀V,Below wr.heap.size wr V->(V.cell? ⟨b,off+k*3,none⟩=some (.string s.xs[k].text)/\V.cell? ⟨b,off+k*3+1,none⟩=some (.slice s.xs[k].dA s.xs[k].deps.length s.xs[k].dc)/\V.cell? ⟨b,off+k*3+2,none⟩=some (.int .i64 s.xs[k].term))/\V.cell? ⟨b',off'+k*3,none⟩=some (.string t.xs[k].text)/\V.cell? ⟨b',off'+k*3+1,none⟩=some (.slice t.xs[k].dA t.xs[k].deps.length t.xs[k].dc)/\V.cell? ⟨b',off'+k*3+2,none⟩=some (.int .i64 t.xs[k].term)) :=
    fun V hV=>⟨⟨hc k hlt V hV 0 _ rfl,hc k hlt V hV 1 _ rfl,hc k hlt V hV 2 _ rfl⟩,hc' k hlt' V hV 0 _ rfl,hc' k hlt' V hV 1 _ rfl,hc' k hlt' V hV 2 _ rfl⟩
   have HS:=Xa (fun V (hV:Below wr.heap.size wr V)=>Xfv s.xs[k] t.xs[k] V (hx.ext hV) (hy.ext hV));rw[he,he'];have HE:=Xa he;have HE':=Xa he';clear hc hc' hx hy e1 e2 he he';generalize s.xs[k]=x at *;generalize t.xs[k]=y at *;obtain⟨q,hq⟩:∃q,decide (x.c=y.c)=q:=⟨_,rfl⟩
   have Hq:=Xa hq;rw[hq] at HS;clear hq;go_wp2_with fail
   refine wpIn_wide (n:=0) |>.1 ?_
   refine Yz _ ?_ (fun _ _ h=>h);refine Xn (fun V=>Below wr.heap.size wr V) (by kernel_rfl) ?_;have hv:=Xr (Below.refl wr.heap.size wr);refine Xc (i:=0) ?_;refine Xc (i:=1) ?_;refine Xc (i:=2) ?_;refine Xc (i:=3) (v:=.agg #[.string x.text,.slice x.dA x.deps.length x.dc,.int .i64 x.term]) (hy:=fun V hV=>(by obtain⟨⟨d0,d1,d2⟩,d3,d4,d5⟩:=HC.out V hV;go_simp)) ?_;refine Xc (i:=4) ?_;refine Xc (i:=5) ?_;refine Xc (i:=6) ?_;refine Xc (i:=7) (v:=.agg #[.string y.text,.slice y.dA y.deps.length y.dc,.int .i64 y.term]) (hy:=fun V hV=>(by obtain⟨⟨d0,d1,d2⟩,d3,d4,d5⟩:=HC.out V hV;go_simp)) ?_;refine Xh (i:=8) hv fun K hK=>?_;go_simp
   refine⟨trivial,rfl,callsIn_wide.2 ((HS.out _ hv).mono ?_)⟩;rintro e v1 ⟨rfl,hv1⟩;refine hK _ _ ?_;clear hK K
   replace hv:=Xb hv hv1
   refine Xc (i:=9) ?_;refine Xk hv (by kernel_rfl) ?_ _;clear HC HS;cases q;rotate_left
   ·have hxy:=Xa (of_decide_eq_true Hq.out)
    go_wp2_with fail
    try rw[<- HE.out,<- HE'.out]
    go_roundw
    case rel=>exact⟨k+1,by omega,by go_num,Xb hB hv,by show _=_;rw[Htk.out,Htk'.out,HR.out,hxy.out]⟩
    case measure=>simp[intOf];omega
   ·have hxy:=of_decide_eq_false Hq.out
    have HF:Hid (decide (s.xs.map TgG.c=t.xs.map TgG.c)=false):=decide_eq_false (fun h=>hxy (hf.out h));clear hxy;go_wp2_with fail
    go_ret;exact⟨by rw[HF.out];rfl,Xb hB hv⟩
  ·have HF:Hid (decide (s.xs.map TgG.c=t.xs.map TgG.c)=true):=by
    refine decide_eq_true ?_;obtain rfl:k=s.xs.length:=by omega
    have h:=HR.out;rw[List.take_of_length_le (by simp),List.take_of_length_le (by have:=Hl.out;simp;omega)] at h;exact h
   clear HR;go_wp2_with fail
   go_ret;exact⟨by rw[HF.out];rfl,hB⟩
theorem RowT.tgsK {base:Nat} {A:Option Addr} {n c:Nat} {L:List TgG} {V:World} (h:RowT base (.slice A n c) L V):n=L.length/\TgsAt V ⟨A,c,L⟩:=by
 have hok:∀x∈L,TgOk V x:=fun x hx=>⟨(h.deps x hx).num,(h.deps x hx).few⟩
 obtain⟨h1,h2|⟨g,cap,cur,h2,h3,h4,h5,h6,h7,h8⟩⟩:=h.own
 ·obtain⟨h2,h3⟩:=h2
  cases h2;have:L=[]:=List.eq_nil_of_length_eq_zero h3;subst this;exact⟨rfl,⟨Rd.nil _ _,Nat.le_refl _,by simp,fun _=>rfl⟩,hok⟩
 ·cases h2
  obtain⟨A',c',he,hr,hn⟩:=h.own.form (by decide);cases he;refine⟨rfl,⟨hr,h5,?_,hn⟩,hok⟩;have h6:=h6;unfold maxLen at h6;exact h6
theorem RowT.tgs {base:Nat} {A:Option Addr} {n c:Nat} {L:List TgG} {V:World} {L0:List TgP} (h:RowT base (.slice A n c) L V) (_hm:L.map TgG.c=L0) (_hf:∀p∈L0,p.deps.length<=1000000):n=L.length/\TgsAt V ⟨A,c,L⟩:=h.tgsK
end Go.Proofs.YtolpbjjapodmnaaGreatDoor
/- A range over a function whose rounds may panic, and that yields values which read as told in the world of the yield (a slice that is not to be kept): the iterator's contract, the caller's law. Plain theorems about the machine's steps. -/
namespace Go.Han
open Go.RowKit
variable {P:Program}
def IterZ {α:Type} (P:Program) (g:Nat) (lb:Array Value) (Enc:α->Array Value->World->Prop) (R M:Nat->Prop) (xs:List α) (w0:World):Prop :=
 ∀(l B0:Nat) (J Jx:(Nat->Prop)->List α->World->Prop) (Jp:List PanicEntry->World->Prop) (own₀:Nat->Prop) (W:World),
  (∀k,R k->k<B0/\W.heap[k]? = w0.heap[k]?)->(∀k,own₀ k->¬R k)->B0<=W.heap.size->(∀k,own₀ k->k<W.heap.size) ->
  Yp B0 M J->Yp B0 M Jx ->
  (∀own pre x vs W1,J own pre W1->pre++[x] <+: xs->Enc x vs W1->(∀k,own k->¬R k)->(∀k,own k->k<W1.heap.size)->YieldAt Fence.wide 0 P l vs W1 (V0 J Jx Jp own (pre++[x]) W1)) ->
  J own₀ [] W ->
  Calls P g (#[.func (.yield l) #[] #[]]++lb) W (Xd2 J Jx Jp xs none)
theorem Xx1 {α:Type} {f:FuncId} {fn:Func} (hfn:P.funcs[f]? = some fn) {g:Operand} {ps:Array Tmp} {assign body:Code} {Q:Exit->Act->World->Prop} {a:Act} {w:World}
  {gf:Nat} {lb:Array Value} (hg:a.eval g = .func (.func gf) #[] lb) (eg:∀args w,(callFunc gf args).run P w = .ok (.enter gf args) w)
  {Enc:α->Array Value->World->Prop} {R M:Nat->Prop} {xs:List α} {w0:World} (hit:IterZ P gf lb Enc R M xs w0)
  (hR:∀k,R k->k<w.heap.size/\w.heap[k]? = w0.heap[k]?) (hps:∀x vs W,Enc x vs W->vs.size=ps.size)
  (I:(Nat->Prop)->List α->World->Prop) (Ix:Code->(Nat->Prop)->List α->World->Prop) (Ip:List PanicEntry->World->Prop)
  (hI:Yp w.heap.size M I) (hIx:∀c,Yp w.heap.size M (Ix c))
  (own₀:Nat->Prop) (hown:∀k,own₀ k->k<w.heap.size/\¬R k) (h0:I own₀ [] w)
  (Ia:α->Act->(Nat->Prop)->List α->World->Prop) (hIa:∀x a' own pre A B,Ia x a' own pre A->(∃k,w.heap.size<k/\B.os=A.os/\B.tape=A.tape/\B.output=A.output/\B.heap.size=A.heap.size/\¬own k/\(∃L,A.heap[k]? = some (.loop L))/\∀j,j≠k->B.heap[j]? = A.heap[j]?)->Ia x a' own pre B)
  (hassign:∀(l:Nat) (own:Nat->Prop) (pre:List α) (x:α) (vs:Array Value) (W:World),I own pre W->Enc x vs W->w.heap.size<l->l<W.heap.size->Xkm R l own W->pre++[x] <+: xs ->
   assign.wpIn (Fence.wide.inRound l) 0 P (Exit.then (fun a' W'=>∃own',BodyStep own own' W W'/\Ia x a' own' pre W') (fun _ _ _=>False))
    {tmps:=(ps.zip vs).foldl (fun t (p,v)=>t.setIfInBounds p v) a.tmps,defers:=[]} W)
  (hbody:∀(l:Nat) (own:Nat->Prop) (pre:List α) (x:α) (a':Act) (W:World),Ia x a' own pre W->w.heap.size<l->l<W.heap.size->Xkm R l own W->pre++[x] <+: xs ->
   body.wpIn (Fence.wide.inRound l) 0 P (Xi5 I Ix Ip own (pre++[x]) W) a' W)
  (hdone:∀(D:Nat) (own:Nat->Prop) (W:World),w.heap.size<=D->(∀k,own k->¬R k/\k<W.heap.size/\k≠D)->I own xs W->W.heap[D]? = some (.deferred (some []))->Q .normal {a with defers:={target:=.collected D,args:=#[]} :: a.defers} W)
  (hstop:∀(D:Nat) (own:Nat->Prop) (c:Code) (pre:List α) (W:World),w.heap.size<=D->(∀k,own k->¬R k/\k<W.heap.size/\k≠D)->pre <+: xs->Ix c own pre W->W.heap[D]? = some (.deferred (some []))->wpAt P f c Q {a with defers:={target:=.collected D,args:=#[]} :: a.defers} W)
  (hpan:∀(D:Nat) (ch:List PanicEntry) (W:World),w.heap.size<=D->Ip ch W->W.heap[D]? = some (.deferred (some []))->Q (.panic ch) {a with defers:={target:=.collected D,args:=#[]} :: a.defers} W) :
  wpAt P f (Code.rangeFunc g ps assign body) Q a w:=by
 obtain⟨rec,hrec⟩:∃rec:LoopState->Option Code->Loop,rec=fun st pe=>{state:=st,pending:=pe,fn:=f,tmps:=a.tmps,params:=ps,assign,body,defers:=w.heap.size}:=⟨_,rfl⟩
 obtain⟨W1,hW1⟩:∃W1,(w.alloc (.deferred (some []))).alloc (.loop (rec .ready none))=W1:=⟨_,rfl⟩
 have hsz:W1.heap.size=w.heap.size+2:=by rw[<- hW1];simp
 have hL1:W1.heap[w.heap.size+1]? = some (.loop (rec .ready none)):=by
  rw[<- hW1];have:=World.alloc_heap_new (w.alloc (.deferred (some []))) (.loop (rec .ready none));rwa [World.size_alloc] at this
 have hK1:W1.heap[w.heap.size]? = some (.deferred (some [])):=by
  rw[<- hW1];exact(Below.heap_alloc _ _ _ (by simp)).trans (World.alloc_heap_new w _)
 have hB1:∀k,k<w.heap.size->W1.heap[k]? = w.heap[k]? := by
  intro k hk;rw[<- hW1];exact(Below.heap_alloc _ _ _ (by simp;omega)).trans (Below.heap_alloc _ _ _ hk)
 have hI1:I own₀ [] W1:=hI own₀ [] w W1 h0 ⟨by rw[<- hW1];rfl,by rw[<- hW1];rfl,by rw[<- hW1];rfl,by omega,fun k hk _=>hB1 k hk⟩
 -- the caller's own blocks, with the loop's two
 have both:∀own:Nat->Prop,(∀k,own k->¬R k/\k≠w.heap.size/\k≠w.heap.size+1)->∀k,(own k\/k=w.heap.size\/k=w.heap.size+1)->¬R k:=by
  intro own h k hk hr;rcases hk with hk|hk|hk
  ·exact(h k hk).1 hr
  ·have:=(hR k hr).1;omega
  ·have:=(hR k hr).1;omega
 refine Vc (l:=w.heap.size+1) (mark:=[{target:=.collected w.heap.size,args:=#[]}]) (w₁:=W1) (w₁':=W1) (w₂:=W1)
  (d:={target:=.fn (.func gf) lb,args:=#[.func (.yield (w.heap.size+1)) #[] #[]]}) (gf:=gf) (args:=#[.func (.yield (w.heap.size+1)) #[] #[]]++lb) ?_ ?_ ?_ ?_
 ·rw[<- hW1,hrec];exact run_enterLoop_outer _ _ _ _ _
 ·simp only[resolve,hg];simp[go_sem]
 ·simp[invoke,go_sem,eg]
 refine(hit (w.heap.size+1) w.heap.size
  (fun own pre W=>∃o1,(∀k,own k↔(o1 k\/k=w.heap.size\/k=w.heap.size+1))/\(∀k,o1 k->¬R k/\k<W.heap.size/\k≠w.heap.size+1/\k+1≠w.heap.size+1)/\I o1 pre W/\W.heap[w.heap.size+1]? = some (.loop (rec .ready none))/\W.heap[w.heap.size]? = some (.deferred (some [])))
  (fun own pre W=>∃o1,(∀k,own k↔(o1 k\/k=w.heap.size\/k=w.heap.size+1))/\(∀k,o1 k->¬R k/\k<W.heap.size/\k≠w.heap.size+1/\k+1≠w.heap.size+1)/\∃c,Ix c o1 pre W/\W.heap[w.heap.size+1]? = some (.loop (rec .done (some c)))/\W.heap[w.heap.size]? = some (.deferred (some [])))
  (fun ch W=>Ip ch W/\W.heap[w.heap.size]? = some (.deferred (some [])))
  (fun k=>own₀ k\/k=w.heap.size\/k=w.heap.size+1) W1 (fun k hk=>⟨(hR k hk).1,(hB1 k (hR k hk).1).trans (hR k hk).2⟩)
  (both own₀ (fun k hk=>⟨(hown k hk).2,by have:=(hown k hk).1;omega,by have:=(hown k hk).1;omega⟩)) (by omega)
  (fun k hk=>by rcases hk with h|h|h;have:=(hown k h).1;omega;omega;omega) ?_ ?_ ?_ ⟨own₀,fun _=>Iff.rfl,fun k hk=>⟨(hown k hk).2,by have:=(hown k hk).1;omega,by have:=(hown k hk).1;omega,by have:=(hown k hk).1;omega⟩,hI1,hL1,hK1⟩).mono ?_
 ·rintro own pre A B ⟨o1,ho,hn,hi,hl,hk⟩ st
  have hlt:=(Array.getElem?_eq_some_iff.1 hl).1;have hlt':=(Array.getElem?_eq_some_iff.1 hk).1
  exact⟨o1,ho,fun k hk'=>⟨(hn k hk').1,Nat.lt_of_lt_of_le (hn k hk').2.1 st.size,(hn k hk').2.2⟩,hI o1 pre A B hi ⟨st.os,st.tape,st.output,st.size,fun k hk' h=>st.block k hk' (h.imp id (fun h=>(ho k).2 (.inl h)))⟩,
   (st.block _ hlt (.inr ((ho _).2 (.inr (.inr rfl))))).trans hl,(st.block _ hlt' (.inr ((ho _).2 (.inr (.inl rfl))))).trans hk⟩
 ·rintro own pre A B ⟨o1,ho,hn,c,hi,hl,hk⟩ st
  have hlt:=(Array.getElem?_eq_some_iff.1 hl).1;have hlt':=(Array.getElem?_eq_some_iff.1 hk).1
  exact⟨o1,ho,fun k hk'=>⟨(hn k hk').1,Nat.lt_of_lt_of_le (hn k hk').2.1 st.size,(hn k hk').2.2⟩,c,hIx c o1 pre A B hi ⟨st.os,st.tape,st.output,st.size,fun k hk' h=>st.block k hk' (h.imp id (fun h=>(ho k).2 (.inl h)))⟩,
   (st.block _ hlt (.inr ((ho _).2 (.inr (.inr rfl))))).trans hl,(st.block _ hlt' (.inr ((ho _).2 (.inr (.inl rfl))))).trans hk⟩
 ·-- ONE ROUND
  rintro own pre x vs W ⟨o1,ho,hn,hi,hl,hk⟩ hpre henc hnR hlive;have hlt:w.heap.size+1<W.heap.size:=(Array.getElem?_eq_some_iff.1 hl).1;have hy:=run_yield (P:=P) (args:=vs) hl (by rw[hrec];exact hps x vs W henc);rw[hrec] at hy;refine⟨f,_,assign,body,hy,Zq hfn (wpIn_mono (hassign (w.heap.size+1) o1 pre x vs W hi henc (by omega) hlt hn hpre) ?_)⟩;rintro e a' Wa hp;cases e with
  | normal =>
   obtain⟨o2,hb2,hia⟩:=hp
   have hn2:∀k,o2 k->¬R k/\k<Wa.heap.size/\k≠w.heap.size+1/\k+1≠w.heap.size+1:=by
    intro k hk';refine⟨?_,hb2.live k hk',?_⟩
    ·intro hr
     rcases hb2.owns k hk' with h|h
     ·exact(hn k h).1 hr
     ·have:=(hR k hr).1;omega
    ·rcases hb2.owns k hk' with h|h
     ·exact(hn k h).2.2
     ·omega
   have hla:=hb2.same hl (fun h=>(hn _ h).2.2.1 rfl);have hka:=hb2.same hk (fun h=>(hn _ h).2.2.2 rfl);have hlta:w.heap.size+1<Wa.heap.size:=(Array.getElem?_eq_some_iff.1 hla).1;refine⟨_,run_beginRound hla (by rw[hrec]),?_⟩;obtain⟨Wb,hWb⟩:∃Wb,Wa.putObj (w.heap.size+1) (.loop {rec .ready none with state:=.busy})=Wb:=⟨_,rfl⟩
   rw[hWb];have hszb:Wb.heap.size=Wa.heap.size:=(by rw[<- hWb];simp);have hob:∀k,k≠w.heap.size+1->Wb.heap[k]? = Wa.heap[k]? := fun k hk'=>by rw[<- hWb];exact World.putObj_heap_other hk'
   have hlb:Wb.heap[w.heap.size+1]? = some (.loop {rec .ready none with state:=.busy}):=(by rw[<- hWb];exact World.putObj_heap_same hlta);have hkb:Wb.heap[w.heap.size]? = some (.deferred (some [])):=(hob _ (by omega)).trans hka;have hib:Ia x a' o2 pre Wb:=hIa x a' o2 pre Wa Wb hia ⟨w.heap.size+1,by omega,by rw[<- hWb];rfl,by rw[<- hWb];rfl,by rw[<- hWb];rfl,hszb,fun h=>(hn2 _ h).2.2.1 rfl,⟨_,hla⟩,hob⟩;refine wpIn_mono (hbody (w.heap.size+1) o2 pre x a' Wb hib (by omega) (by omega) (fun k hk'=>⟨(hn2 k hk').1,by have:=(hn2 k hk').2.1;omega,(hn2 k hk').2.2⟩) hpre) ?_
   -- what the round's end comes to
   have fin:∀(jump:Option Code) (o3:Nat->Prop) (W3:World),BodyStep o2 o3 Wb W3 ->
     ∃W4,(Instr.endRound (w.heap.size+1) jump).run P W3 = .ok (.bool jump.isNone) W4/\W4.heap.size=W3.heap.size/\(∀k,k≠w.heap.size+1->W4.heap[k]? = W3.heap[k]?)/\W4.os=W3.os/\W4.tape=W3.tape/\W4.output=W3.output /\
     W4.heap[w.heap.size+1]? = some (.loop (rec (if jump.isNone then .ready else .done) jump))/\W4.heap[w.heap.size]? = some (.deferred (some []))/\¬o3 (w.heap.size+1)/\¬o3 w.heap.size /\
     BodyStep own (fun k=>o3 k\/k=w.heap.size\/k=w.heap.size+1) W W4/\(∀k,o3 k->¬R k/\k<W4.heap.size/\k≠w.heap.size+1/\k+1≠w.heap.size+1):=by
    intro jump o3 W3 hb3;have hl3:=hb3.same hlb (fun h=>(hn2 _ h).2.2.1 rfl);have hk3:=hb3.same hkb (fun h=>(hn2 _ h).2.2.2 rfl);have hlt3:=(Array.getElem?_eq_some_iff.1 hl3).1;have hrun:=run_endRound (P:=P) jump hl3
    have no1:¬o3 (w.heap.size+1):=fun h=>by
     rcases hb3.owns _ h with h|h
     ·exact(hn2 _ h).2.2.1 rfl
     ·omega
    have no2:¬o3 w.heap.size:=fun h=>by
     rcases hb3.owns _ h with h|h
     ·exact(hn2 _ h).2.2.2 rfl
     ·omega
    have hsub:∀k,o3 k->o1 k\/W.heap.size<=k:=by
     intro k h;rcases hb3.owns k h with h|h
     ·exact hb2.owns k h
     ·exact .inr (by have:=hb2.size;omega)
    refine⟨_,hrun,by simp,fun k hk'=>World.putObj_heap_other hk',rfl,rfl,rfl,?_,(World.putObj_heap_other (by omega)).trans hk3,no1,no2,?_,?_⟩
    ·rw[World.putObj_heap_same hlt3,hrec]
    ·refine⟨?_,?_,?_,?_,?_,?_,?_⟩
     ·exact hb3.os.trans ((by rw[<- hWb];rfl:Wb.os=Wa.os).trans hb2.os)
     ·exact hb3.tape.trans ((by rw[<- hWb];rfl:Wb.tape=Wa.tape).trans hb2.tape)
     ·exact hb3.output.trans ((by rw[<- hWb];rfl:Wb.output=Wa.output).trans hb2.output)
     ·have:=hb2.size;have:=hb3.size;simp;omega
     ·intro k hk' hno
      have h1:k≠w.heap.size+1:=fun e=>hno ((ho k).2 (.inr (.inr e)));have h2:¬o1 k:=fun e=>hno ((ho k).2 (.inl e))
      have h3:¬o2 k:=fun e=>by
       rcases hb2.owns k e with h|h
       ·exact h2 h
       ·omega
      rw[World.putObj_heap_other h1,hb3.block k (by have:=hb2.size;omega) h3,hob k h1];exact hb2.block k hk' h2
     ·intro k hk'
      rcases hk' with h|h|h
      ·rcases hsub k h with h|h
       ·exact .inl ((ho k).2 (.inl h))
       ·exact .inr h
      ·exact .inl ((ho k).2 (.inr (.inl h)))
      ·exact .inl ((ho k).2 (.inr (.inr h)))
     ·intro k hk'
      rw[World.putObj_size];rcases hk' with h|h|h
      ·exact hb3.live k h
      ·omega
      ·omega
    ·intro k h
     refine⟨?_,by rw[World.putObj_size];exact hb3.live k h,fun e=>no1 (e ▸ h),fun e=>no2 ((show k=w.heap.size by omega) ▸ h)⟩;intro hr;rcases hsub k h with h|h
     ·exact(hn k h).1 hr
     ·have:=(hR k hr).1;omega
   have turn:∀(W3 W4:World) (o3:Nat->Prop),W4.heap.size=W3.heap.size->(∀k,k≠w.heap.size+1->W4.heap[k]? = W3.heap[k]?)->W4.os=W3.os->W4.tape=W3.tape->W4.output=W3.output->¬o3 (w.heap.size+1)->IterStep w.heap.size M o3 W3 W4 :=
    fun W3 W4 o3 h1 h2 h3 h4 h5 h6=>⟨h3,h4,h5,by omega,fun k _ h=>h2 k (by rintro rfl;rcases h with h|h;omega;exact h6 h)⟩
   rintro e a3 W3 hp;cases e with
   | normal =>
    obtain⟨o3,hb3,hi3⟩:=hp;obtain⟨W4,hr,h1,h2,h3,h4,h5,h6,h7,h8,h9,h10,h11⟩:=fin none o3 W3 hb3;exact⟨_,W4,hr,.inl ⟨_,h10,.inl ⟨rfl,o3,fun _=>Iff.rfl,h11,hI o3 _ W3 W4 hi3 (turn W3 W4 o3 h1 h2 h3 h4 h5 h8),h6,h7⟩⟩⟩
   | ret =>
    obtain⟨o3,hb3,hi3⟩:=hp;obtain⟨W4,hr,h1,h2,h3,h4,h5,h6,h7,h8,h9,h10,h11⟩:=fin (some .ret) o3 W3 hb3;exact⟨_,W4,hr,.inl ⟨_,h10,.inr ⟨rfl,o3,fun _=>Iff.rfl,h11,_,hIx _ o3 _ W3 W4 hi3 (turn W3 W4 o3 h1 h2 h3 h4 h5 h8),h6,h7⟩⟩⟩
   | exit id =>
    obtain⟨o3,hb3,hi3⟩:=hp;obtain⟨W4,hr,h1,h2,h3,h4,h5,h6,h7,h8,h9,h10,h11⟩:=fin (some (.exit id)) o3 W3 hb3;exact⟨_,W4,hr,.inl ⟨_,h10,.inr ⟨rfl,o3,fun _=>Iff.rfl,h11,_,hIx _ o3 _ W3 W4 hi3 (turn W3 W4 o3 h1 h2 h3 h4 h5 h8),h6,h7⟩⟩⟩
   | goto t =>
    obtain⟨o3,hb3,hi3⟩:=hp;obtain⟨W4,hr,h1,h2,h3,h4,h5,h6,h7,h8,h9,h10,h11⟩:=fin (some (.goto t)) o3 W3 hb3;exact⟨_,W4,hr,.inl ⟨_,h10,.inr ⟨rfl,o3,fun _=>Iff.rfl,h11,_,hIx _ o3 _ W3 W4 hi3 (turn W3 W4 o3 h1 h2 h3 h4 h5 h8),h6,h7⟩⟩⟩
   | panic ch =>
    obtain⟨hd,⟨o3,hb3⟩,hp3⟩:=hp;exact⟨hd,.inr ⟨ch,rfl,hp3,hb3.same hkb (fun h=>(hn2 _ h).2.2.2 rfl)⟩⟩
   | outgrown=>exact hp.elim
  | exit id=>exact hp.elim
  | goto t=>exact hp.elim
  | ret=>exact hp.elim
  | panic ch=>exact hp.elim
  | outgrown=>exact hp.elim
 ·-- BEHIND THE ITERATOR
  rintro e W2 h
  have own_put:∀(o1:Nat->Prop) (X:World) (o:Obj),(∀k,o1 k->¬R k/\k<X.heap.size/\k≠w.heap.size+1/\k+1≠w.heap.size+1)->∀k,o1 k->¬R k/\k<(X.putObj (w.heap.size+1) o).heap.size/\k≠w.heap.size :=
   fun o1 X o hn k hk=>⟨(hn k hk).1,by rw[World.putObj_size];exact(hn k hk).2.1,by have:=(hn k hk).2.2.2;omega⟩
  rcases h with ⟨hpn,⟨v,rfl⟩,own,o1,ho,hn,hi,hl,hk⟩|⟨⟨v,rfl⟩,own,pre,hpre,o1,ho,hn,c,hi,hl,hk⟩|⟨ch,rfl,hp,hk⟩|⟨ch,hpn,rfl,own,o1,ho,hn,hi,hl,hk⟩
  ·have hrun:=run_endLoop (P:=P) hl (by rw[hrec];simp)
   refine⟨none,_,by rw[hrec] at hrun;exact hrun,?_⟩;exact hdone _ o1 _ (Nat.le_refl _) (own_put o1 _ _ hn) (hI o1 _ W2 _ hi (IterStep.of_putObj _ (by omega) (fun h=>(hn _ h).2.2.1 rfl))) ((World.putObj_heap_other (by omega)).trans hk)
  ·have hrun:=run_endLoop (P:=P) hl (by rw[hrec];simp)
   refine⟨some c,_,by rw[hrec] at hrun;exact hrun,?_⟩;exact hstop _ o1 c pre _ (Nat.le_refl _) (own_put o1 _ _ hn) hpre (hIx c o1 pre W2 _ hi (IterStep.of_putObj _ (by omega) (fun h=>(hn _ h).2.2.1 rfl))) ((World.putObj_heap_other (by omega)).trans hk)
  ·exact hpan _ ch W2 (Nat.le_refl _) hp hk
  ·cases hpn
end Go.Han
namespace Go.Proofs.YtolpbjjapodmnaaGreatDoor
open Go.RowKit Go.Han
set_option maxRecDepth 100000
attribute [local irreducible] wpStill wpQuiet
set_option maxHeartbeats 8000000
def strD (b:ByteArray):List Value:=[.string b]
theorem Xpt (b:ByteArray):∀u∈strD b,u.oneCell'=true:=by intro u hu;simp[strD] at hu;subst hu;rfl
theorem Tb (xs:List ByteArray):xs.flatMap strD=strs xs:=by
 induction xs with
 | nil=>rfl
 | cons x l ih=>rw[List.flatMap_cons,ih];rfl
theorem Xff:(Tryz.prog.info? 9).map (fun i=>(i.zero,i.size,i.bytes))=some (some (.string ⟨#[]⟩),1,16):=by kernel_rfl
theorem Xn0 (A:Option Addr) (c:Nat) (l:List TgG) (w:World) (hr:Rd w A (l.flatMap TgG.cells)) (hA:A=none->l=[]) (hm:l.length<=1000000) :
  Calls Tryz.prog 171 #[.slice A l.length c] w (Uu TgG.cells 75 3 l w):=by
 obtain⟨i0,hi0,hz0,hz1,hz2⟩:=info_parts Xij;have hfl:(l.flatMap TgG.cells).length=l.length*3:=Y0 TgG.cells 3 (fun _=>rfl) l
 have hone:∀u∈l.flatMap TgG.cells,u.oneCell'=true:=by
  intro u hu;obtain⟨x,_,hx⟩:=List.mem_flatMap.1 hu;exact Xnc x u hx
 have q22:∀(w:World) (a:Option Addr) (n c n' c':Nat),(binOp .eql 65 (.slice a n c) (.slice none n' c')).run Tryz.prog w = .ok (.bool a.isNone) w:=fun w a n c n' c'=>Lib.run_eql_slice_nil w _ _ a n c n' c' Tryz.underlying65;cases A with
 | none =>
  have hl:=hA rfl;subst hl;go_enter Tryz.func171,Tryz.ntmps171
  go_wp2
  go_ret;exact⟨_,rfl,OwnL.nil _ _ _ _ _,bo_q⟩
 | some a =>
  have hcs:∀(j:Nat) (u:Value),(l.flatMap TgG.cells)[j]? = some u->w.cell? (a.add j)=some u:=by
   intro j u hu;rcases hr with h|⟨b,off,he,_,hc⟩
   ·rw[h] at hu;cases hu
   ·cases he
    rw[show (⟨b,off,none⟩:Addr).add j=⟨b,off+j,none⟩ from by unfold Addr.add;split<;>simp_all];exact hc j u hu
  have Hcs:=Xa hcs;clear hcs hr hA;go_enter Tryz.func171,Tryz.ntmps171
  go_wp2_with (at_builtin;refine wpList_append_own _ rfl _ _ 65 rfl w.heap.size 75 i0 (.agg #[.string ⟨#[]⟩,.slice none 0 0,.int .i64 0]) 3 48 Tryz.underlying65 hi0 hz0 hz1 hz2 (by kernel_rfl) (by decide) _ _ _ rfl (World.ownsRow_made w #[] 0 (Nat.le_refl _) (Nat.zero_le _) rfl) a l.length c (l.flatMap TgG.cells) rfl hfl (fun j u hu=>Lib.cell?_alloc_some _ (Hcs.out j u hu)) hone (by unfold maxLen;omega) (by omega) (by simp) ?_)
  intro v' w1 hown hgrow hnil;go_wp2
  go_ret;refine⟨v',rfl,by simpa[OwnL] using hown,?_⟩;exact((Below.refl _ w).alloc (Nat.le_refl _) _).grown hgrow (by simp) (by intro k hk;simp[Value.ownBlock] at hk;omega)
theorem Xf7 (A:Option Addr) (c:Nat) (l:List ByteArray) (w:World) (hr:Rd w A (l.flatMap strD)) (hA:A=none->l=[]) (hm:l.length<=1000000) :
  Calls Tryz.prog 119 #[.slice A l.length c] w (Uu strD 9 1 l w):=by
 obtain⟨i0,hi0,hz0,hz1,hz2⟩:=info_parts Xff;have hfl:(l.flatMap strD).length=l.length*1:=Y0 strD 1 (fun _=>rfl) l
 have hone:∀u∈l.flatMap strD,u.oneCell'=true:=by
  intro u hu;obtain⟨x,_,hx⟩:=List.mem_flatMap.1 hu;exact Xpt x u hx
 have q22:∀(w:World) (a:Option Addr) (n c n' c':Nat),(binOp .eql 22 (.slice a n c) (.slice none n' c')).run Tryz.prog w = .ok (.bool a.isNone) w:=fun w a n c n' c'=>Lib.run_eql_slice_nil w _ _ a n c n' c' Tryz.underlying22;cases A with
 | none =>
  have hl:=hA rfl;subst hl;go_enter Tryz.func119,Tryz.ntmps119
  go_wp2
  go_ret;exact⟨_,rfl,OwnL.nil _ _ _ _ _,bo_q⟩
 | some a =>
  have hcs:∀(j:Nat) (u:Value),(l.flatMap strD)[j]? = some u->w.cell? (a.add j)=some u:=by
   intro j u hu;rcases hr with h|⟨b,off,he,_,hc⟩
   ·rw[h] at hu;cases hu
   ·cases he
    rw[show (⟨b,off,none⟩:Addr).add j=⟨b,off+j,none⟩ from by unfold Addr.add;split<;>simp_all];exact hc j u hu
  have Hcs:=Xa hcs;clear hcs hr hA;go_enter Tryz.func119,Tryz.ntmps119
  go_wp2_with (at_builtin;refine wpList_append_own _ rfl _ _ 22 rfl w.heap.size 9 i0 (.string ⟨#[]⟩) 1 16 Tryz.underlying22 hi0 hz0 hz1 hz2 (by kernel_rfl) (by decide) _ _ _ rfl (World.ownsRow_made w #[] 0 (Nat.le_refl _) (Nat.zero_le _) rfl) a l.length c (l.flatMap strD) rfl hfl (fun j u hu=>Lib.cell?_alloc_some _ (Hcs.out j u hu)) hone (by unfold maxLen;omega) (by omega) (by simp) ?_)
  intro v' w1 hown hgrow hnil;go_wp2
  go_ret;refine⟨v',rfl,by simpa[OwnL] using hown,?_⟩;exact((Below.refl _ w).alloc (Nat.le_refl _) _).grown hgrow (by simp) (by intro k hk;simp[Value.ownBlock] at hk;omega)
end Go.Proofs.YtolpbjjapodmnaaGreatDoor
/- Common beginnings of lists, and continuations. Conditions: none; plain facts. -/
namespace Go.Proofs.YtolpbjjapodmnaaGreatDoor
open Go.RowKit Go.Han
section
variable {α:Type} [DecidableEq α]
def Z3:List α->List α->List α
 | a :: l,b :: m=>if a=b then a :: Z3 l m else []
 | _,_=>[]
def Yl:List (List α)->List α
 | []=>[]
 | x :: L=>L.foldl Z3 x
theorem Xe4 (a:List α):Z3 a []=[]:=by cases a<;>rfl
theorem Xhv:∀(a b:List α),Z3 a b <+: a
 | [],b=>by unfold Z3;exact List.nil_prefix
 | a :: l,[]=>by rw[Xe4];exact List.nil_prefix
 | a :: l,b :: m=>by
  unfold Z3;split
  ·exact List.cons_prefix_cons.2 ⟨rfl,Xhv l m⟩
  ·exact List.nil_prefix
theorem Xf5:∀(a b:List α),Z3 a b <+: b
 | [],b=>by unfold Z3;exact List.nil_prefix
 | a :: l,[]=>by rw[Xe4];exact List.nil_prefix
 | a :: l,b :: m=>by
  unfold Z3;split
  ·rename_i h;exact List.cons_prefix_cons.2 ⟨h,Xf5 l m⟩
  ·exact List.nil_prefix
theorem Xku:∀ {p a b:List α},p <+: a->p <+: b->p <+: Z3 a b
 | [],a,b,_,_=>List.nil_prefix
 | x :: p,[],b,h,_=>absurd h (by simp)
 | x :: p,a :: l,[],_,h=>absurd h (by simp)
 | x :: p,a :: l,b :: m,h,k=>by
  have h1:=List.cons_prefix_cons.1 h;have k1:=List.cons_prefix_cons.1 k;unfold Z3;rw[if_pos (h1.1.symm.trans k1.1)];exact List.cons_prefix_cons.2 ⟨h1.1,Xku h1.2 k1.2⟩
theorem Xia:∀(L:List (List α)) (x:List α),L.foldl Z3 x <+: x/\∀y∈L,L.foldl Z3 x <+: y
 | [],x=>⟨List.prefix_refl _,by simp⟩
 | y :: L,x=>by
  obtain⟨h1,h2⟩:=Xia L (Z3 x y);refine⟨h1.trans (Xhv x y),fun z hz=>?_⟩;rcases List.mem_cons.1 hz with rfl|hz
  ·exact h1.trans (Xf5 x z)
  ·exact h2 z hz
theorem Xkz:∀(L:List (List α)) {x p:List α},p <+: x->(∀y∈L,p <+: y)->p <+: L.foldl Z3 x
 | [],_,_,h,_=>h
 | y :: L,_,_,h,k=>Xkz L (Xku h (k y (List.mem_cons_self ..))) fun z hz=>k z (List.mem_cons_of_mem _ hz)
theorem Xhy {L:List (List α)} {x:List α} (h:x∈L):Yl L <+: x:=by
 cases L with
 | nil=>cases h
 | cons y L =>
  rcases List.mem_cons.1 h with rfl|h
  ·exact(Xia L x).1
  ·exact(Xia L y).2 x h
theorem Xn4 {L:List (List α)} (h0:L≠[]) {p:List α} (h:∀x∈L,p <+: x):p <+: Yl L:=by
 cases L with
 | nil=>exact absurd rfl h0
 | cons y L=>exact Xkz L (h y (List.mem_cons_self ..)) fun z hz=>h z (List.mem_cons_of_mem _ hz)
theorem Xaq {L M:List (List α)} (h0:M≠[]) (h:∀x∈M,x∈L):Yl L <+: Yl M:=Xn4 h0 fun x hx=>Xhy (h x hx)
theorem Xmr {L M:List (List α)} (h:∀x,x∈L↔x∈M):Yl L=Yl M:=by
 cases L with
 | nil =>
  cases M with
  | nil=>rfl
  | cons y M=>exact absurd ((h y).2 (List.mem_cons_self ..)) (by simp)
 | cons x L =>
  cases M with
  | nil=>exact absurd ((h x).1 (List.mem_cons_self ..)) (by simp)
  | cons y M=>exact(Xaq (by simp) fun z hz=>(h z).2 hz).eq_of_length_le (Xaq (by simp) fun z hz=>(h z).1 hz).length_le
theorem Xms (L:List (List α)) (x:List α) (h:L≠[]):Yl (L++[x])=Z3 (Yl L) x:=by
 cases L with
 | nil=>exact absurd rfl h
 | cons y L=>show (L++[x]).foldl Z3 y=_;rw[List.foldl_append];rfl
/-! ### continuations -/
def Ue (more:List α):Nat->List (List α)
 | 0=>[[]]
 | n+1=>(Ue more n).flatMap fun c=>more.map fun w=>c++[w]
def Xe7 (more:List α) (k:Nat):List (List α):=(List.range (k+1)).flatMap (Ue more)
def genL (more:List α):Nat->List α->List (List α)
 | 0,l=>[l]
 | n+1,l=>more.flatMap fun w=>genL more n (l++[w])
omit [DecidableEq α]
theorem Qz (more:List α):∀(n:Nat) (c:List α),c∈Ue more n↔c.length=n/\∀w∈c,w∈more
 | 0,c=>by
  unfold Ue;rw[List.mem_singleton];constructor
  ·rintro rfl;simp
  ·rintro⟨h,_⟩;exact List.eq_nil_of_length_eq_zero h
 | n+1,c=>by
  unfold Ue;rw[List.mem_flatMap];constructor
  ·rintro⟨d,hd,hc⟩
   obtain⟨w,hw,rfl⟩:=List.mem_map.1 hc;obtain⟨h1,h2⟩:=(Qz more n d).1 hd;refine⟨by rw[List.length_append,h1];rfl,fun v hv=>?_⟩;rcases List.mem_append.1 hv with h|h
   ·exact h2 v h
   ·rw[List.mem_singleton.1 h];exact hw
  ·rintro⟨h1,h2⟩
   have hne:c≠[]:=(by rintro rfl;simp at h1);refine⟨c.dropLast,(Qz more n _).2 ⟨by rw[List.length_dropLast,h1];rfl,fun w hw=>h2 w (List.dropLast_subset _ hw)⟩,List.mem_map.2 ⟨c.getLast hne,h2 _ (List.getLast_mem hne),List.dropLast_concat_getLast hne⟩⟩
theorem Xdi (more:List α) (k:Nat) (c:List α):c∈Xe7 more k↔c.length<=k/\∀w∈c,w∈more:=by
 unfold Xe7;rw[List.mem_flatMap];constructor
 ·rintro⟨n,hn,hc⟩
  have:=List.mem_range.1 hn;obtain⟨h1,h2⟩:=(Qz more n c).1 hc;exact⟨by omega,h2⟩
 ·rintro⟨h1,h2⟩
  exact⟨c.length,List.mem_range.2 (by omega),(Qz more _ c).2 ⟨rfl,h2⟩⟩
theorem Xu5 (more:List α) (k:Nat):Xe7 more k≠[]:=by
 intro h;have:=(Xdi more k []).2 ⟨Nat.zero_le _,by simp⟩;rw[h] at this;cases this
theorem Tv (more:List α):∀n,(Ue more n).length=more.length ^ n
 | 0=>by simp[Ue]
 | n+1=>by
  unfold Ue
  have:∀L:List (List α),(L.flatMap fun c=>more.map fun w=>c++[w]).length=L.length*more.length:=by
   intro L
   induction L with
   | nil=>simp
   | cons c L ih=>rw[List.flatMap_cons,List.length_append,List.length_map,ih,List.length_cons,Nat.succ_mul];omega
  rw[this,Tv more n,Nat.pow_succ]
theorem Xh0 (more:List α):∀n,Ue more (n+1)=more.flatMap fun w=>(Ue more n).map fun c=>w :: c
 | 0=>by
  show ([[]]:List (List α)).flatMap (fun c=>more.map fun w=>c++[w])=more.flatMap fun w=>[[w]]
  rw[List.flatMap_cons,List.flatMap_nil,List.append_nil]
  induction more with
  | nil=>rfl
  | cons w l ih=>rw[List.map_cons,List.flatMap_cons,ih];rfl
 | n+1=>by
  show (Ue more (n+1)).flatMap (fun c=>more.map fun w=>c++[w])=_
  conv=>lhs;rw[Xh0 more n]
  rw[List.flatMap_assoc]
  congr 1
  funext w
  show _=List.map (fun c=>w :: c) ((Ue more n).flatMap fun c=>more.map fun w=>c++[w]);rw[List.flatMap_map,List.map_flatMap]
  congr 1
  funext c
  rw[List.map_map];rfl
theorem Xef (more:List α):∀(n:Nat) (l:List α),genL more n l=(Ue more n).map fun c=>l++c
 | 0,l=>by simp[genL,Ue]
 | n+1,l=>by
  rw[genL,Xh0,List.map_flatMap]
  congr 1
  funext w
  rw[Xef more n,List.map_map]
  congr 1
  funext c
  simp
end
end Go.Proofs.YtolpbjjapodmnaaGreatDoor
namespace Go.Proofs.YtolpbjjapodmnaaGreatDoor
open Go.RowKit Go.Han
set_option maxRecDepth 100000
attribute [local irreducible] wpStill wpQuiet
set_option maxHeartbeats 8000000
def SlS.uptoT (s:SlS TgG) (i:Nat):SlS TgG:=⟨subA s.addr s.cap 0 3,s.cap,s.xs.take i⟩
theorem TgsAt.upto {w:World} {s:SlS TgG} (hs:TgsAt w s) {i:Nat} (h:i<=s.xs.length):TgsAt w (s.uptoT i):=by
 have hcap:=hs.lies.cap;have hmax:=hs.lies.max;have hr:=Rd.cut (s:=3) (by decide) TgG.size_cells hs.lies.rd (cp:=s.cap) (i:=0) (n:=i) (by omega) hcap;rw[List.drop_zero] at hr;refine⟨⟨hr,by show (s.xs.take i).length<=s.cap;rw[List.length_take];omega,hmax,fun h0=>?_⟩,fun x hx=>hs.ok x (List.mem_of_mem_take hx)⟩
 have h1:s.addr=none:=by
  change subA s.addr s.cap 0 3=none at h0;unfold subA at h0;split at h0
  ·exact h0
  ·simpa using h0
 show s.xs.take i=[];rw[hs.lies.nil h1];simp
theorem Xfu (s:SlS TgG) (i:Nat) (w:World) (hc:s.xs.length<=s.cap) (h:i<=s.xs.length) :
  (Instr.slice 65 (.slice s.addr s.xs.length s.cap) none (some (.int .i64 i)) none).run Tryz.prog w = .ok (.slice (s.uptoT i).addr (s.uptoT i).xs.length (s.uptoT i).cap) w:=by
 have e:=run_slice_h (P:=Tryz.prog) (w:=w) 65 s.addr s.xs.length s.cap (by rw[Tryz.underlying65];rfl) .i64 (i:Int) (by omega) (by omega);rw[e];have h2:((i:Int)).toNat=i:=by omega
 rw[h2];have h3:(Go.sizeOf (Tryz.prog.elem 65)).run Tryz.prog w = .ok 3 w:=by kernel_rfl
 rw[h3];have h4:(s.uptoT i).xs.length=i:=by show (s.xs.take i).length=i;rw[List.length_take];omega
 rw[h4];rfl
def slC (s:SlS TgG):List Value:=[.slice s.addr s.xs.length s.cap]
theorem Xq7 (A B:Option Addr) (c d:Nat) (l l':List Int) (w:World) (hm:l.length<=9223372036854775807) (hs:NumAt w A l) (ht:NumAt w B l'):Calls Tryz.prog 172 #[.slice A l.length c,.slice B l'.length d] w fun e w'=>e = .returned (.bool (decide (l=l')))/\Below w.heap.size w w':=by
 have hat:=Xa hs;have hat':=Xa ht;clear hs ht;by_cases hl:l.length=l'.length
 ·have hne:((l.length:Int) != (l'.length:Int))=false:=by simp[hl]
  have Hl:=Xa hl;clear hl;go_enter Tryz.func172,Tryz.ntmps172
  go_wp2_with fail
  go_loopw [13] (fun i wr=>∃k:Nat,k<=l.length/\i = .int .i64 k/\Below w.heap.size w wr/\Hid (l.take k=l'.take k)) (fun i _=>l.length-(intOf i).toNat)
  case atStart=>exact⟨0,Nat.zero_le _,rfl,bo_q,rfl⟩
  case round =>
   obtain⟨k,hk,rfl,hB,HR⟩:=hrel;by_cases hlt:k<l.length
   ·have hlt':k<l'.length:=by have:=Hl.out;omega
    obtain⟨b,off,he,hb,hc⟩:=hat.out k hlt;obtain⟨b',off',he',hb',hc'⟩:=hat'.out k hlt';subst he he';have h1:=(hB.cell (p:=⟨b,off+k,none⟩) hb).trans (hc k hlt);have h2:=(hB.cell (p:=⟨b',off'+k,none⟩) hb').trans (hc' k hlt');have Htk:=Xa (show l.take (k+1)=l.take k++[l[k]] from List.take_succ_eq_append_getElem hlt);have Htk':=Xa (show l'.take (k+1)=l'.take k++[l'[k]] from List.take_succ_eq_append_getElem hlt');have hf:=Xa (fun e=>Xp1 hlt hlt' e);clear hc hc';generalize l[k]=x at *;generalize l'[k]=y at *;by_cases hxy:x=y
    ·subst hxy
     have g1:(x != x)=false:=(by simp);go_wp2_with fail
     go_still (by kernel_rfl)
     go_wp2
     go_roundw
     case rel=>exact⟨k+1,by omega,by go_num,hB.drew,by show _=_;rw[Htk.out,Htk'.out,HR.out]⟩
     case measure=>simp[intOf];omega
    ·have HF:Hid (decide (l=l')=false):=decide_eq_false (fun h=>hxy (hf.out h))
     have g1:(x != y)=true:=(by simpa using hxy);clear hxy;go_wp2_with fail
     go_still (by kernel_rfl)
     go_wp2
     go_ret;exact⟨by rw[HF.out];rfl,hB.drew⟩
   ·have HF:Hid (decide (l=l')=true):=by
     refine decide_eq_true ?_;obtain rfl:k=l.length:=by omega
     have h:=HR.out;rw[List.take_length,List.take_of_length_le (by have:=Hl.out;omega)] at h;exact h
    clear HR;go_wp2_with fail
    go_ret;exact⟨by rw[HF.out];rfl,hB⟩
 ·have hne:((l.length:Int) != (l'.length:Int))=true:=by simp;omega
  have HF:Hid (decide (l=l')=false):=decide_eq_false (fun h=>hl (by rw[h]));clear hl;go_enter Tryz.func172,Tryz.ntmps172
  go_wp2_with fail
  go_ret;exact⟨by rw[HF.out];rfl,bo_q⟩
theorem Xsu (x y:TgG) (w:World) (hx:TgOk w x) (hy:TgOk w y):Calls Tryz.prog 110 #[.agg #[.string x.text,.slice x.dA x.deps.length x.dc,.int .i64 x.term],.agg #[.string y.text,.slice y.dA y.deps.length y.dc,.int .i64 y.term]] w fun e w'=>e = .returned (.bool (decide (x.c=y.c)))/\Below w.heap.size w w':=by
 obtain⟨w1,hw1⟩:∃w1,w.alloc (.cells #[.string x.text,.slice x.dA x.deps.length x.dc,.int .i64 x.term] 75)=w1:=⟨_,rfl⟩
 obtain⟨w2,hw2⟩:∃w2,w1.alloc (.cells #[.string y.text,.slice y.dA y.deps.length y.dc,.int .i64 y.term] 75)=w2:=⟨_,rfl⟩
 have hb1:=X5 hw1;have hb2:=X5 hw2;have hk1:=Yg hw1;have hk2:=Yg hw2;have hk3:=Xi hb2 hk1;have hB:=Xa (Xb hb1 hb2);have HI:=Xa (Xq7 x.dA y.dA x.dc y.dc x.deps y.deps w2 hx.few (hx.num.ext hB.out) (hy.num.ext hB.out));obtain⟨a0,a1,a2⟩:=gb3 hk3;obtain⟨b0,b1,b2⟩:=gb3 hk2;have k1:=Xpu x.text y.text;have k2:=Xot x.term y.term;clear hx hy hb1 hb2 hk1 hk2 hk3;by_cases h1:x.text=y.text
 rotate_left
 ·have HF:Hid (decide (x.c=y.c)=false):=decide_eq_false fun h=>h1 (Xb9.1 h).1
  rw[decide_eq_false h1] at k1;clear h1;go_enter Tryz.func110,Tryz.ntmps110
  go_wp2_with fail
  go_ret;exact⟨by rw[HF.out];rfl,hB.out⟩
 rw[decide_eq_true h1] at k1;by_cases h2:x.term=y.term
 rotate_left
 ·have HF:Hid (decide (x.c=y.c)=false):=decide_eq_false fun h=>h2 (Xb9.1 h).2.1
  rw[decide_eq_false h2] at k2;clear h1 h2;go_enter Tryz.func110,Tryz.ntmps110
  go_wp2_with fail
  go_ret;exact⟨by rw[HF.out];rfl,hB.out⟩
 rw[decide_eq_true h2] at k2
 have HF:Hid (decide (x.c=y.c)=decide (x.deps=y.deps)):=by
  show _=_;by_cases h3:x.deps=y.deps
  ·rw[decide_eq_true h3,decide_eq_true (Xb9.2 ⟨h1,h2,h3⟩)]
  ·rw[decide_eq_false h3,decide_eq_false fun h=>h3 (Xb9.1 h).2.2]
 obtain⟨q,hq⟩:∃q,decide (x.deps=y.deps)=q:=⟨_,rfl⟩
 rw[hq] at HI HF;clear h1 h2 hq;go_enter Tryz.func110,Tryz.ntmps110
 go_wp2_with fail
 refine HI.out.mono ?_;rintro e w3 ⟨rfl,hb3⟩;have HB:=Xa (Xb hB.out hb3);clear hb3;go_wp2_with fail
 go_ret;exact⟨by rw[HF.out];cases q<;>rfl,HB.out⟩
theorem Xvx (A:Option Addr) (cp:Nat) (xs:List (SlS TgG)) (fid:Nat) (lb:Array Value) (P:SlS TgG->Bool) (w:World) (hr:Rd w A (xs.flatMap slC)) (hm:xs.length<=9223372036854775807) (eg:∀args w,(callFunc fid args).run Tryz.prog w = .ok (.enter fid args) w)
  (hf:∀W,Below w.heap.size w W->∀x∈xs,Calls Tryz.prog fid (#[.slice x.addr x.xs.length x.cap]++lb) W fun e w'=>e = .returned (.bool (P x))/\Below W.heap.size W w') :
  Calls Tryz.prog 170 #[.slice A xs.length cp,.func (.func fid) #[] lb] w fun e w'=>∃k:Int,e = .returned (.int .i64 k)/\decide (0<=k)=xs.any P/\Below w.heap.size w w':=by
 have Hf:=Xa hf;have HS:=Xa hr;clear hf hr;go_enter Tryz.func170,Tryz.ntmps170
 go_wp2_with fail
 go_loopw [8] (fun i wr=>∃k:Nat,k<=xs.length/\i = .int .i64 k/\Below w.heap.size w wr/\Hid ((xs.take k).any P=false)) (fun i _=>xs.length-(intOf i).toNat)
 case atStart=>exact⟨0,Nat.zero_le _,rfl,bo_q,rfl⟩
 case round =>
  obtain⟨k,hk,rfl,hB,HR⟩:=hrel;by_cases hlt:k<xs.length
  ·obtain⟨b,off,rfl,hb,hc⟩:=HS.out.elem (s:=1) (fun _=>rfl) (by omega) (k:=k) hlt
   have d0:wr.cell? ⟨b,off+k,none⟩=some (.slice xs[k].addr xs[k].xs.length xs[k].cap):=by
    have h:=hc 0 _ rfl;rw[Nat.mul_one] at h;exact(hB.cell (p:=⟨b,off+k,none⟩) hb).trans h
   have cF:=Xa (Hf.out wr hB xs[k] (List.getElem_mem hlt));have Htk:=Xa (Qw (P:=P) hlt);have hmem:=List.getElem_mem hlt;have Hmem:=Xa hmem;clear hc hmem;generalize xs[k]=x at *;go_wp2_with fail
   refine cF.out.mono ?_;rintro e w1 ⟨rfl,hb1⟩;have hB1:=Xb hB hb1;cases hP:P x
   ·have HN:Hid ((xs.take (k+1)).any P=false):=by show _=_;rw[Htk.out,HR.out,hP];rfl
    clear hP;go_wp2_with fail
    go_roundw
    case rel=>exact⟨k+1,by omega,by go_num,hB1,HN⟩
    case measure=>simp[intOf];omega
   ·have HN:Hid (xs.any P=true):=List.any_eq_true.2 ⟨x,Hmem.out,hP⟩
    clear hP;go_wp2_with fail
    go_ret;exact⟨k,rfl,by rw[HN.out];exact decide_eq_true (by omega),hB1⟩
  ·have HN:Hid (xs.any P=false):=by
    have h:=HR.out;rw[List.take_of_length_le (by omega)] at h;exact h
   go_wp2_with fail
   go_ret;exact⟨-1,rfl,by rw[HN.out];rfl,hB⟩
theorem Xu4 (A:Option Addr) (cp:Nat) (xs:List (SlS TgG)) (fid:Nat) (lb:Array Value) (P:SlS TgG->Bool) (w:World) (hr:Rd w A (xs.flatMap slC)) (hm:xs.length<=9223372036854775807) (eg:∀args w,(callFunc fid args).run Tryz.prog w = .ok (.enter fid args) w)
  (hf:∀W,Below w.heap.size w W->∀x∈xs,Calls Tryz.prog fid (#[.slice x.addr x.xs.length x.cap]++lb) W fun e w'=>e = .returned (.bool (P x))/\Below W.heap.size W w') :
  Calls Tryz.prog 108 #[.slice A xs.length cp,.func (.func fid) #[] lb] w fun e w'=>e = .returned (.bool (xs.any P))/\Below w.heap.size w w':=by
 have cI:=Xa (Xvx A cp xs fid lb P w hr hm eg hf);clear hr hf eg;go_enter Tryz.func108,Tryz.ntmps108
 go_wp2_with fail
 refine cI.out.mono ?_;rintro e w1 ⟨k,rfl,hk,hb1⟩;cases hP:xs.any P
 ·rw[hP] at hk
  have g1:decide (k≥0)=false:=hk;have g2:k<0:=by have:=of_decide_eq_false hk;omega
  clear hk;go_wp2_with fail
  go_ret;exact⟨by first|rfl|(rw[hP];rfl)|(rw[hP];simp;omega),hb1⟩
 ·rw[hP] at hk
  have g1:decide (k≥0)=true:=hk;have g2:0<=k:=of_decide_eq_true hk;clear hk;go_wp2_with fail
  go_ret;exact⟨by first|rfl|(rw[hP];rfl)|(rw[hP];simp;omega),hb1⟩
theorem Xrs (s:SlS TgG) (w:World):Calls Tryz.prog 107 #[.slice s.addr s.xs.length s.cap] w fun e w'=>e = .returned (.bool (decide (4096<s.xs.length)))/\Below w.heap.size w w':=by
 have k:decide ((4096:Int)<(s.xs.length:Int))=decide (4096<s.xs.length):=by
  by_cases h:4096<s.xs.length
  ·rw[decide_eq_true h];exact decide_eq_true (by omega)
  ·rw[decide_eq_false h];exact decide_eq_false (by omega)
 go_enter Tryz.func107,Tryz.ntmps107
 go_wp2_with fail
 go_ret;exact⟨by first|rfl|(simp[k])|(rw[<- k];rfl),bo_q⟩
def tgL (s:SlS TgG):List TgP:=s.xs.map TgG.c
theorem Xe5 {α:Type} [DecidableEq α]:∀(a b:List α) (n:Nat),n<=a.length->n<=b.length->a.take n=b.take n->(n<a.length->n<b.length->a[n]? ≠ b[n]?)->Z3 a b=a.take n
 | [],b,n,_,_,_,_=>by unfold Z3;simp
 | x :: a,[],n,_,h,_,_=>by
  obtain rfl:n=0:=by simpa using h
  rw[Xe4];rfl
 | x :: a,y :: b,0,_,_,_,h=>by
  have:=h (by simp) (by simp);unfold Z3;rw[if_neg (by simpa using this)];rfl
 | x :: a,y :: b,n+1,h1,h2,h3,h4=>by
  rw[List.take_succ_cons,List.take_succ_cons] at h3;obtain⟨e1,e2⟩:=List.cons.inj h3;unfold Z3;rw[if_pos e1,List.take_succ_cons,Xe5 a b n (by simpa using h1) (by simpa using h2) e2 (fun g1 g2=>by simpa using h4 (by simpa using g1) (by simpa using g2))]
theorem Xn5 {LL:List (SlS TgG)} {k:Nat} (h:k<LL.length):Yl ((LL.take (k+1)).map tgL)=if k=0 then tgL LL[k] else Z3 (Yl ((LL.take k).map tgL)) (tgL LL[k]):=by
 rw[List.take_succ_eq_append_getElem h,List.map_append];by_cases hk:k=0
 ·subst hk
  rw[if_pos rfl];rfl
 ·rw[if_neg hk]
  refine Xms _ _ fun e=>?_;have:=congrArg List.length e;rw[List.length_map,List.length_take,List.length_nil] at this;omega
theorem Xs0 {s t:SlS TgG} {n:Nat} (h1:n<s.xs.length) (h2:n<t.xs.length) (h:(tgL s).take n=(tgL t).take n) (he:s.xs[n].c=t.xs[n].c):(tgL s).take (n+1)=(tgL t).take (n+1):=by
 rw[List.take_add_one,List.take_add_one,h];unfold tgL;rw[List.getElem?_map,List.getElem?_map,List.getElem?_eq_getElem h1,List.getElem?_eq_getElem h2,Option.map_some,Option.map_some,he]
def Xqh (w:World) (X:List TgP) (S:TgG->Prop) (e:Ending) (w':World):Prop:=∃(A:Option Addr) (c:Nat) (L:List TgG),e = .returned (.slice A L.length c)/\L.map TgG.c=X/\TgsAt w' ⟨A,c,L⟩/\OwnL TgG.cells 75 3 w' w.heap.size (.slice A L.length c) L/\(∀x∈L,S x)/\Below w.heap.size w w'
def InL (LL:List (SlS TgG)) (x:TgG):Prop:=∃s∈LL,x∈s.xs
theorem Xq1 (s:SlS TgG) (w:World) (hs:TgsAt w s) (hm:s.xs.length<=1000000):Calls Tryz.prog 171 #[.slice s.addr s.xs.length s.cap] w (Xqh w (tgL s) (fun x=>x∈s.xs)):=by
 refine(Xn0 s.addr s.cap s.xs w hs.lies.rd hs.lies.nil hm).mono ?_;rintro e w' ⟨v,rfl,ho,hb⟩;obtain⟨_,h2|⟨g,cap,cur,h2,h3,h4,h5,h6,h7,h8⟩⟩:=id ho
 ·obtain⟨h2,h3⟩:=h2
  subst h2;have:s.xs=[]:=List.eq_nil_of_length_eq_zero h3;exact⟨none,0,[],rfl,by unfold tgL;rw[this],⟨⟨Rd.nil _ _,Nat.le_refl _,by simp,fun _=>rfl⟩,fun x hx=>by cases hx⟩,OwnL.nil _ _ _ _ _,(fun x hx=>(by cases hx)),hb⟩
 ·subst h2
  have ho2:=ho;obtain⟨A',c',he,hr,hn⟩:=ho.form (by decide);cases he;exact⟨_,_,s.xs,rfl,rfl,⟨⟨hr,h5,by unfold maxLen at h6;exact h6,hn⟩,fun x hx=>(hs.ok x hx).ext hb⟩,ho2,fun x hx=>hx,hb⟩
theorem Xc0 (A:Option Addr) (cp:Nat) (LL:List (SlS TgG)) (w:World) (hr:Rd w A (LL.flatMap slC)) (hm:LL.length<=9223372036854775807) (ht:∀s∈LL,TgsAt w s/\s.xs.length<=1000000) :
  Calls Tryz.prog 109 #[.func (.func 110) #[] #[],.slice A LL.length cp] w (Xqh w (Yl (LL.map tgL)) (InL LL)):=by
 have Ht:=Xa ht;have Hr:=Xa hr;have eg:∀args w,(callFunc 110 args).run Tryz.prog w = .ok (.enter 110 args) w:=fun _ _=>rfl;clear ht hr;go_enter Tryz.func109,Tryz.ntmps109
 go_wp2_with fail
 go_loopw [4,10] (fun lv iv wr=>∃(k:Nat) (M:SlS TgG),k<=LL.length/\lv = .slice M.addr M.xs.length M.cap/\iv = .int .i64 k/\Hid (TgsAt w M/\tgL M=Yl ((LL.take k).map tgL)/\M.xs.length<=1000000/\∀x∈M.xs,InL LL x)/\Hid (Below w.heap.size w wr)) (fun _ iv _=>LL.length-(intOf iv).toNat)
 case atStart=>exact⟨0,⟨none,0,[]⟩,Nat.zero_le _,rfl,rfl,⟨⟨⟨Rd.nil _ _,Nat.le_refl _,by simp,fun _=>rfl⟩,fun x hx=>by cases hx⟩,rfl,by simp,(fun x hx=>(by cases hx))⟩,bo_q⟩
 case round =>
  obtain⟨k,M,hk,rfl,rfl,HM,HB⟩:=hrel;by_cases hlt:k<LL.length
  ·obtain⟨b,off,he,hb,hc⟩:=Hr.out.elem (s:=1) (fun _=>rfl) (by omega) (k:=k) hlt
   have d0:wr.cell? ⟨b,off+k,none⟩=some (.slice LL[k].addr LL[k].xs.length LL[k].cap):=by
    have h:=hc 0 _ rfl;rw[Nat.mul_one] at h;exact(HB.out.cell (p:=⟨b,off+k,none⟩) hb).trans h
   have Hy:=Xa (Ht.out LL[k] (List.getElem_mem hlt));have Hin:Hid (∀x∈LL[k].xs,InL LL x):=fun x hx=>⟨_,List.getElem_mem hlt,hx⟩
   have Htk:=Xa (Xn5 hlt);rw[he];have HE:=Xa he;clear hc he;generalize LL[k]=y at *;by_cases h0:k=0
   ·have g0:((k:Int) == 0)=true:=by simp[h0]
    have HN:Hid (tgL y=Yl ((LL.take (k+1)).map tgL)):=(by show _=_;rw[Htk.out,if_pos h0]);clear h0;go_wp2_with fail
    try rw[<- HE.out]
    go_roundw
    case rel=>exact⟨k+1,y,by omega,rfl,by go_num,⟨Hy.out.1,HN.out,Hy.out.2,Hin.out⟩,HB⟩
    case measure=>simp[intOf];omega
   have g0:((k:Int) == 0)=false:=(by simp;omega);rw[if_neg h0,<- HM.out.2.1] at Htk;clear h0;go_wp2_with fail
   go_loopw [7] (fun nv wz=>∃n:Nat,nv = .int .i64 n/\n<=M.xs.length/\n<=y.xs.length/\Hid ((tgL M).take n=(tgL y).take n)/\Hid (Below wr.heap.size wr wz)) (fun nv _=>M.xs.length-(intOf nv).toNat)
   case atStart=>exact⟨0,rfl,Nat.zero_le _,Nat.zero_le _,rfl,bo_q⟩
   case round =>
    rename World=>wz
    obtain⟨n,rfl,hn1,hn2,HT,HZ⟩:=hrel;have HBz:=Xa (Xb HB.out HZ.out);have hsl:M.xs.length<=M.cap:=HM.out.1.lies.cap;have hv:=Xr (Below.refl wz.heap.size wz);by_cases hnn:n<M.xs.length/\n<y.xs.length
    rotate_left
    ·have HS:Hid (Z3 (tgL M) (tgL y)=(tgL M).take n):=Xe5 _ _ n (by unfold tgL;rw[List.length_map];exact hn1) (by unfold tgL;rw[List.length_map];exact hn2) HT.out (fun g1 g2=>by unfold tgL at g1 g2;rw[List.length_map] at g1 g2;exact absurd ⟨g1,g2⟩ hnn)
     have km:decide ((n:Int)<min (M.xs.length:Int) (y.xs.length:Int))=false:=decide_eq_false (by omega);have HU:=Xa (HM.out.1.upto hn1);have Hrun:=Xa (fun V=>Xfu M n V hsl hn1);clear hnn
     have HN:Hid (tgL (M.uptoT n)=Yl ((LL.take (k+1)).map tgL)):=by
      show _=_;rw[Htk.out,HS.out];exact List.map_take
     have HMl:Hid ((M.uptoT n).xs.length<=1000000):=by
      show (M.xs.take n).length<=_;rw[List.length_take];have:=HM.out.2.2.1;omega
     go_wp2_with fail
     refine wpIn_wide (n:=0) |>.1 ?_
     refine Yz _ ?_ (fun _ _ h=>h);refine Xn (fun V=>Below wz.heap.size wz V) (by kernel_rfl) ?_;refine Xc (i:=0) ?_;refine Xc (i:=1) ?_;refine Xc (i:=2) ?_;refine Xc (i:=3) ?_;refine Xc (i:=4) ?_;refine Xc (i:=5) ?_;refine Xc (i:=6) ?_;refine Xc (i:=7) ?_;refine Xv (by go_simp;rfl) ?_;refine Xj (i:=8) ?_;refine Xj (i:=9) ?_;refine Xj (i:=10) ?_;refine Xj (i:=11) ?_;refine Xj (i:=12) ?_;refine Xj (i:=13) ?_;refine Xj (i:=14) ?_;refine Xj (i:=15) ?_;refine Xj (i:=16) ?_;refine Xj (i:=17) ?_;refine Xv (by go_simp;rfl) ?_;refine Xc (i:=18) ?_;refine Xk hv (by kernel_rfl) ?_ _;have hrun:=fun V=>Hrun.out V;go_wp2_with fail
     try rw[<- HE.out]
     go_roundw
     case rel=>exact⟨k+1,M.uptoT n,by omega,rfl,by go_num,⟨HU.out,HN.out,HMl.out,fun x hx=>HM.out.2.2.2 x (List.mem_of_mem_take hx)⟩,Xb HBz.out hv⟩
     case measure=>simp[intOf];omega
    obtain⟨hm1,hm2⟩:=hnn;have km:decide ((n:Int)<min (M.xs.length:Int) (y.xs.length:Int))=true:=decide_eq_true (by omega);obtain⟨b1,o1,hA1,hb1,hc1⟩:=(HM.out.1.ext HBz.out).lies.at_ TgG.size_cells (by omega) hm1;obtain⟨b2,o2,hA2,hb2,hc2⟩:=(Hy.out.1.ext HBz.out).lies.at_ TgG.size_cells (by omega) hm2;have hx:=(HM.out.1.ok _ (List.getElem_mem hm1)).ext HBz.out;have hz:=(Hy.out.1.ok _ (List.getElem_mem hm2)).ext HBz.out
    have HC:Hid (∀V,Below wz.heap.size wz V->(V.cell? ⟨b1,o1+n*3,none⟩=some (.string M.xs[n].text)/\V.cell? ⟨b1,o1+n*3+1,none⟩=some (.slice M.xs[n].dA M.xs[n].deps.length M.xs[n].dc)/\V.cell? ⟨b1,o1+n*3+2,none⟩=some (.int .i64 M.xs[n].term))/\V.cell? ⟨b2,o2+n*3,none⟩=some (.string y.xs[n].text)/\V.cell? ⟨b2,o2+n*3+1,none⟩=some (.slice y.xs[n].dA y.xs[n].deps.length y.xs[n].dc)/\V.cell? ⟨b2,o2+n*3+2,none⟩=some (.int .i64 y.xs[n].term)) :=
     fun V hV=>⟨⟨hc1 n hm1 V hV 0 _ rfl,hc1 n hm1 V hV 1 _ rfl,hc1 n hm1 V hV 2 _ rfl⟩,hc2 n hm2 V hV 0 _ rfl,hc2 n hm2 V hV 1 _ rfl,hc2 n hm2 V hV 2 _ rfl⟩
    have HS:=Xa (fun V (hV:Below wz.heap.size wz V)=>Xsu M.xs[n] y.xs[n] V (hx.ext hV) (hz.ext hV));have Hsn:=Xa (fun e=>Xs0 hm1 hm2 HT.out e);have Hne:Hid (¬M.xs[n].c=y.xs[n].c->Z3 (tgL M) (tgL y)=(tgL M).take n):=fun h=>Xe5 _ _ n (by unfold tgL;rw[List.length_map];exact hn1) (by unfold tgL;rw[List.length_map];exact hn2) HT.out (fun _ _=>by unfold tgL;rw[List.getElem?_map,List.getElem?_map,List.getElem?_eq_getElem hm1,List.getElem?_eq_getElem hm2];simpa using h);have HA1:=Xa hA1;have HA2:=Xa hA2;have HU:=Xa (HM.out.1.upto hn1);have Hrun:=Xa (fun V=>Xfu M n V hsl hn1)
    have HMl:Hid ((M.uptoT n).xs.length<=1000000):=by
     show (M.xs.take n).length<=_;rw[List.length_take];have:=HM.out.2.2.1;omega
    rw[hA1,hA2];clear hc1 hc2 hx hz hA1 hA2;generalize M.xs[n]=x at *;generalize y.xs[n]=z at *;obtain⟨q,hq⟩:∃q,decide (x.c=z.c)=q:=⟨_,rfl⟩
    have Hq:=Xa hq;rw[hq] at HS;clear hq;go_wp2_with fail
    refine wpIn_wide (n:=0) |>.1 ?_
    refine Yz _ ?_ (fun _ _ h=>h);refine Xn (fun V=>Below wz.heap.size wz V) (by kernel_rfl) ?_;refine Xc (i:=0) ?_;refine Xc (i:=1) ?_;refine Xc (i:=2) ?_;refine Xc (i:=3) ?_;refine Xc (i:=4) ?_;refine Xc (i:=5) ?_;refine Xc (i:=6) ?_;refine Xc (i:=7) ?_;refine Xv (by go_simp;rfl) ?_;refine Xc (i:=8) ?_;refine Xc (i:=9) ?_;refine Xc (i:=10) ?_;refine Xc (i:=11) ?_;refine Xc (i:=12) (v:=.agg #[.string x.text,.slice x.dA x.deps.length x.dc,.int .i64 x.term]) (hy:=fun V hV=>(by obtain⟨⟨d0,d1,d2⟩,d3,d4,d5⟩:=HC.out V hV;go_simp)) ?_;refine Xc (i:=13) ?_;refine Xc (i:=14) ?_;refine Xc (i:=15) ?_;refine Xc (i:=16) (v:=.agg #[.string z.text,.slice z.dA z.deps.length z.dc,.int .i64 z.term]) (hy:=fun V hV=>(by obtain⟨⟨d0,d1,d2⟩,d3,d4,d5⟩:=HC.out V hV;go_simp)) ?_;refine Xv (by go_simp;rfl) ?_;refine Xh (i:=17) hv fun K hK=>?_;go_simp
    refine⟨trivial,rfl,callsIn_wide.2 ((HS.out _ hv).mono ?_)⟩;rintro e v1 ⟨rfl,hv1⟩;refine hK _ _ ?_;clear hK K
    replace hv:=Xb hv hv1
    refine Xc (i:=18) ?_;refine Xk hv (by kernel_rfl) ?_ _;clear HC HS;cases q
    ·have HN:Hid (tgL (M.uptoT n)=Yl ((LL.take (k+1)).map tgL)):=by
      show _=_;rw[Htk.out,Hne.out (of_decide_eq_false Hq.out)];exact List.map_take
     rw[<- HA1.out,<- HA2.out];have hrun:=fun V=>Hrun.out V;go_wp2_with fail
     try rw[<- HE.out]
     go_roundw
     case rel=>exact⟨k+1,M.uptoT n,by omega,rfl,by go_num,⟨HU.out,HN.out,HMl.out,fun x hx=>HM.out.2.2.2 x (List.mem_of_mem_take hx)⟩,Xb HBz.out hv⟩
     case measure=>simp[intOf];omega
    ·have HN:=Xa (Hsn.out (of_decide_eq_true Hq.out))
     have hnb:n<=1000000:=by have:=HM.out.2.2.1;omega
     go_wp2_with fail
     go_roundw
     case rel=>exact⟨n+1,by go_num,by omega,by omega,HN.out,Xb HZ.out hv⟩
     case measure=>simp[intOf];omega
  ·obtain rfl:k=LL.length:=by omega
   rw[List.take_length] at HM;have HC:=Xa (Xq1 M wr (HM.out.1.ext HB.out) HM.out.2.2.1);clear Hr;go_wp2_with fail
   refine HC.out.mono ?_;rintro e w9 ⟨A9,c9,L9,rfl,h1,h2,h4,h5,h3⟩;have H4:=Xa (h4.mono (show w.heap.size<=wr.heap.size from HB.out.size));have H5:Hid (∀x∈L9,InL LL x):=fun x hx=>HM.out.2.2.2 x (h5 x hx);have H1:Hid (L9.map TgG.c=Yl (LL.map tgL)):=(by show _=_;rw[h1,HM.out.2.1]);have H2:=Xa h2;have H3:=Xa (Xb HB.out h3);clear h1 h2 h3 h4 h5 HC;go_wp2_with fail
   go_ret;exact⟨A9,c9,L9,rfl,H1.out,H2.out,H4.out,H5.out,H3.out⟩
structure KeepT (V V':World):Prop where
 size:V.heap.size<=V'.heap.size
 block:∀(b:Nat) (cs:Array Value) (t:TypeId) (fr:Nat×Nat),V.heap[b]? = some (.cells cs t fr)->(t=75\/t=3)->V'.heap[b]? = V.heap[b]?
theorem KeepT.below {V V':World} (h:Below V.heap.size V V'):KeepT V V':=⟨h.size,fun b _ _ _ hb _=>h.block b (Xd hb)⟩
theorem KeepT.refl (V:World):KeepT V V:=⟨Nat.le_refl _,fun _ _ _ _ _ _=>rfl⟩
theorem KeepT.trans {A B C:World} (h:KeepT A B) (k:KeepT B C):KeepT A C:=⟨Nat.le_trans h.size k.size,fun b cs t fr hb ht=>(k.block b cs t fr ((h.block b cs t fr hb ht).trans hb) ht).trans (h.block b cs t fr hb ht)⟩
theorem KeepT.set {V:World} {b:Nat} {cs:Array Value} {t:TypeId} {fr:Nat×Nat} (h:V.heap[b]? = some (.cells cs t fr)) (ht:¬(t=75\/t=3)) (i:Nat) (v:Value):KeepT V (V.setCell ⟨b,i,none⟩ v) :=
 ⟨by simp[World.setCell],fun k _ _ _ hk hkt=>Below.heap_setCell _ _ _ _ (by rintro rfl;rw[h] at hk;simp only[Option.some.injEq,Obj.cells.injEq] at hk;exact ht (hk.2.1 ▸ hkt))⟩
theorem KeepT.grown {V V':World} {g:Option Nat} (h:V.grownBy V' g) (hg:∀k,g=some k->∀cs t fr,V.heap[k]? = some (.cells cs t fr)->¬(t=75\/t=3)):KeepT V V' :=
 ⟨h.size,fun b cs t fr hb ht=>h.block b (Xd hb) fun e=>hg b e.symm cs t fr hb ht⟩
theorem KeepT.step {own own':Nat->Prop} {V V':World} (h:BodyStep own own' V V') (ho:∀k,own k->∀cs t fr,V.heap[k]? = some (.cells cs t fr)->¬(t=75\/t=3)):KeepT V V' :=
 ⟨h.size,fun b cs t fr hb ht=>h.block b (Xd hb) fun e=>ho b e cs t fr hb ht⟩
structure RowG (G:Nat->Prop) (V:World) (s:SlS TgG):Prop where
 lie:(s.addr=none/\s.xs=[])\/∃(b:Nat) (cs:Array Value) (fr:Nat×Nat),s.addr=some ⟨b,0,none⟩/\G b/\V.heap[b]? = some (.cells cs 75 fr)/\∀(j:Nat) (u:Value),(s.xs.flatMap TgG.cells)[j]? = some u->cs[j]? = some u
 cap:s.xs.length<=s.cap
 max:s.cap<=9223372036854775807
 deps:∀x∈s.xs,DepsAt (fun b=>¬G b) V x.dA x.dc x.deps
abbrev RowF (B:Nat) (V:World) (s:SlS TgG):Prop:=RowG (fun b=>B<=b) V s
theorem RowG.over {G G':Nat->Prop} {V V':World} {s:SlS TgG} (h:RowG G V s) (hk:∀(b:Nat) (cs:Array Value) (t:TypeId) (fr:Nat×Nat),V.heap[b]? = some (.cells cs t fr)->G b->(t=75\/t=3)->V'.heap[b]? = V.heap[b]? /\ G' b):RowG G' V' s:=by
 refine⟨?_,h.cap,h.max,fun x hx=>?_⟩
 ·rcases h.lie with h1|⟨b,cs,fr,h1,h0,h2,h3⟩
  ·exact .inl h1
  ·have hh:=hk b cs _ fr h2 h0 (.inl rfl)
   exact .inr ⟨b,cs,fr,h1,hh.2,hh.1.trans h2,h3⟩
 ·exact(h.deps x hx).same fun b cs fr hb hn=>by
   have hh:=hk b cs _ fr hb (Classical.not_not.1 hn) (.inr rfl);exact⟨hh.1,fun hc=>hc hh.2⟩
theorem RowG.ext {G:Nat->Prop} {V V':World} {s:SlS TgG} (h:RowG G V s) (hb:Below V.heap.size V V'):RowG G V' s:=h.over fun b _ _ _ hc hg _=>⟨hb.block b (Xd hc),hg⟩
theorem RowG.tgs {G:Nat->Prop} {V:World} {s:SlS TgG} (h:RowG G V s):TgsAt V s:=by
 refine⟨⟨?_,h.cap,h.max,fun e=>?_⟩,fun x hx=>⟨(h.deps x hx).num,(h.deps x hx).few⟩⟩
 ·rcases h.lie with ⟨h1,h2⟩|⟨b,cs,fr,h1,_,h2,h3⟩
  ·rw[h2,h1];exact Rd.nil _ _
  ·rw[h1]
   refine .inr ⟨b,0,rfl,Xd h2,fun j u hu=>?_⟩;rw[Nat.zero_add,gblk h2 j];exact h3 j u hu
 ·rcases h.lie with ⟨h1,h2⟩|⟨b,cs,fr,h1,_,h2,h3⟩
  ·exact h2
  ·rw[h1] at e;cases e
theorem Xpj {B base:Nat} {A:Option Addr} {c:Nat} {L:List TgG} {V:World} (h:OwnL TgG.cells 75 3 V base (.slice A L.length c) L) (hB:B<=base) (hd:∀x∈L,DepsAt (fun b=>¬B<=b) V x.dA x.dc x.deps):RowF B V ⟨A,c,L⟩:=by
 obtain⟨_,h2|⟨g,cap,cur,h2,h3,h4,h5,h6,h7,h8⟩⟩:=h
 ·obtain⟨h2,h3⟩:=h2
  injection h2 with e1 e2 e3;subst e1 e3;obtain rfl:L=[]:=List.eq_nil_of_length_eq_zero h3;exact⟨.inl ⟨rfl,rfl⟩,Nat.le_refl _,by simp,fun x hx=>(by cases hx)⟩
 ·injection h2 with e1 _ e3
  subst e1 e3;refine⟨.inr ⟨g,cur,_,rfl,Nat.le_trans hB h3,h4,fun j u hu=>?_⟩,h5,?_,hd⟩
  ·have hj:=(List.getElem?_eq_some_iff.1 hu).1
   rw[Xok] at hj;rw[<- h8,List.getElem?_take,if_pos hj] at hu;rw[<- Array.getElem?_toList];exact hu
  ·unfold maxLen at h6
   exact h6
theorem FarL.nle {B:Nat} {L:List TgG} {V:World} (h:FarL B L V):∀x∈L,DepsAt (fun b=>¬B<=b) V x.dA x.dc x.deps:=fun x hx=>(h x hx).sub fun k (hk:¬B<=k)=>Nat.lt_of_not_le hk
end Go.Proofs.YtolpbjjapodmnaaGreatDoor
