/- Texts of this claim, one after the other: R30, Law30c, Chwo, Chwl, Chwn, Try. -/
import Derived.Test.YtolpbjjapodmnaaGreatDoorM18
import Derived.Test.YtolpbjjapodmnaaGreatDoorM13
import Derived.Test.YtolpbjjapodmnaaGreatDoorM27
import Derived.Test.YtolpbjjapodmnaaGreatDoorM14
namespace Go.Proofs.YtolpbjjapodmnaaGreatDoor
open Go.RowKit Go.Han
attribute [local irreducible] wpStill wpQuiet
set_option maxRecDepth 100000
def NumAt (w:World) (A:Option Addr) (l:List Int):Prop:=∀k,k<l.length→∃b off,A=some ⟨b,off,none⟩∧b<w.heap.size∧∀(j:Nat) (hj:j<l.length),w.cell? ⟨b,off+j,none⟩=some (.int .i64 l[j])
theorem NumAt.ext {w w':World} {A:Option Addr} {l:List Int} (h:NumAt w A l) (hb:Below w.heap.size w w'):NumAt w' A l:=fun k hk=>by
 obtain⟨b,off,e,h1,h2⟩:=h k hk
 exact⟨b,off,e,Nat.lt_of_lt_of_le h1 hb.size,fun j hj=>(hb.cell (p:=⟨b,off+j,none⟩) h1).trans (h2 j hj)⟩
theorem DepsAt.num {own:Nat→Prop} {V:World} {A:Option Addr} {cp:Nat} {l:List Int} (h:DepsAt own V A cp l):NumAt V A l:=fun k hk=>by
 obtain⟨_,b,cs,fr,h2,h3,_,h5⟩:=h
 refine⟨b,0,h2,Xc h3,fun j hj=>?_⟩
 rw[Nat.zero_add,gblk h3 j]
 exact h5 j _ (List.getElem?_eq_getElem hj)
theorem X8x {l l':List Int} {k:Nat} (h:k<l.length) (h':k<l'.length) (e:l=l'):l[k]=l'[k]:=by subst e;rfl
set_option maxHeartbeats 1000000 in
theorem X11 (A B:Option Addr) (c d:Nat) (l l':List Int) (w:World) (hm:l.length≤9223372036854775807) (hs:NumAt w A l) (ht:NumAt w B l'):Calls Tryz.prog 45 #[.slice A l.length c,.slice B l'.length d] w fun e w'=>e = .returned (.bool (decide (l=l')))∧Below w.heap.size w w':=by
 have hat:=Xa hs
 have hat':=Xa ht
 clear hs ht
 by_cases hl:l.length=l'.length
 ·have hne:((l.length:Int) != (l'.length:Int))=false:=by simp[hl]
  have Hl:=Xa hl
  clear hl
  go_enter Tryz.func45,Tryz.ntmps45
  go_wp2_with fail
  go_loopw [5] (fun i wr=>∃k:Nat,k≤l.length∧i = .int .i64 k∧Below w.heap.size w wr∧Hid (l.take k=l'.take k)) (fun i _=>l.length-(intOf i).toNat)
  case atStart=>exact⟨0,Nat.zero_le _,rfl,Below.refl _ _,rfl⟩
  case round =>
   obtain⟨k,hk,rfl,hB,HR⟩:=hrel
   by_cases hlt:k<l.length
   ·have hlt':k<l'.length:=by have:=Hl.out;omega
    obtain⟨b,off,he,hb,hc⟩:=hat.out k hlt
    obtain⟨b',off',he',hb',hc'⟩:=hat'.out k hlt'
    subst he he'
    have h1:=(hB.cell (p:=⟨b,off+k,none⟩) hb).trans (hc k hlt)
    have h2:=(hB.cell (p:=⟨b',off'+k,none⟩) hb').trans (hc' k hlt')
    have Htk:=Xa (show l.take (k+1)=l.take k++[l[k]] from List.take_succ_eq_append_getElem hlt)
    have Htk':=Xa (show l'.take (k+1)=l'.take k++[l'[k]] from List.take_succ_eq_append_getElem hlt')
    have hf:=Xa (fun e=>X8x hlt hlt' e)
    clear hc hc'
    generalize l[k]=x at *
    generalize l'[k]=y at *
    by_cases hxy:x=y
    ·subst hxy
     have g1:(x != x)=false:=by simp
     go_wp2_with fail
     go_still (by kernel_rfl)
     go_wp2
     go_roundw
     case rel=>exact⟨k+1,by omega,by go_num,hB.drew,by show _=_;rw[Htk.out,Htk'.out,HR.out]⟩
     case measure=>simp[intOf];omega
    ·have HF:Hid (decide (l=l')=false):=decide_eq_false (fun h=>hxy (hf.out h))
     have g1:(x != y)=true:=by simpa using hxy
     clear hxy
     go_wp2_with fail
     go_still (by kernel_rfl)
     go_wp2
     go_ret
     exact⟨by rw[HF.out];rfl,hB.drew⟩
   ·have HF:Hid (decide (l=l')=true):=by
     refine decide_eq_true ?_
     obtain rfl:k=l.length:=by omega
     have h:=HR.out
     rw[List.take_length,List.take_of_length_le (by have:=Hl.out;omega)] at h
     exact h
    clear HR
    go_wp2_with fail
    go_ret
    exact⟨by rw[HF.out];rfl,hB⟩
 ·have hne:((l.length:Int) != (l'.length:Int))=true:=by simp;omega
  have HF:Hid (decide (l=l')=false):=decide_eq_false (fun h=>hl (by rw[h]))
  clear hl
  go_enter Tryz.func45,Tryz.ntmps45
  go_wp2_with fail
  go_ret
  exact⟨by rw[HF.out];rfl,Below.refl _ _⟩
structure TgOk (w:World) (x:TgG):Prop where
 num:NumAt w x.dA x.deps
 few:x.deps.length≤9223372036854775807
theorem TgOk.ext {w w':World} {x:TgG} (h:TgOk w x) (hb:Below w.heap.size w w'):TgOk w' x:=⟨h.num.ext hb,h.few⟩
theorem X8w (a b:ByteArray):(a.toList == b.toList)=decide (a=b):=by
 by_cases h:a=b
 ·subst h;simp
 ·have:¬a.toList=b.toList:=fun e=>h (by rw[ByteArray.toList_eq,ByteArray.toList_eq] at e;cases a with|mk a=>cases b with|mk b=>cases a;cases b;simp at e;rw[e])
  rw[decide_eq_false h];simpa using this
theorem X8c (a b:Int):(a == b)=decide (a=b):=by by_cases h:a=b<;>simp[h]
theorem X3t {x y:TgG}:x.c=y.c↔x.text=y.text∧x.term=y.term∧x.deps=y.deps:=by
 unfold TgG.c
 constructor
 ·intro h
  injection h with h1 h2 h3
  exact⟨h1,h3,h2⟩
 ·rintro⟨h1,h2,h3⟩
  rw[h1,h2,h3]
set_option maxHeartbeats 1000000 in
theorem X0h (x y:TgG) (w:World) (hx:TgOk w x) (hy:TgOk w y):Calls Tryz.prog 54 #[.agg #[.string x.text,.slice x.dA x.deps.length x.dc,.int .i64 x.term],.agg #[.string y.text,.slice y.dA y.deps.length y.dc,.int .i64 y.term]] w fun e w'=>e = .returned (.bool (decide (x.c=y.c)))∧Below w.heap.size w w':=by
 obtain⟨w1,hw1⟩:∃w1,w.alloc (.cells #[.string x.text,.slice x.dA x.deps.length x.dc,.int .i64 x.term] 75)=w1:=⟨_,rfl⟩
 obtain⟨w2,hw2⟩:∃w2,w1.alloc (.cells #[.string y.text,.slice y.dA y.deps.length y.dc,.int .i64 y.term] 75)=w2:=⟨_,rfl⟩
 have hb1:=Yn hw1
 have hb2:=Yn hw2
 have hk1:=Yv hw1
 have hk2:=Yv hw2
 have hk3:=Xh hb2 hk1
 have hB:=Xa (Xb hb1 hb2)
 have HI:=Xa (X11 x.dA y.dA x.dc y.dc x.deps y.deps w2 hx.few (hx.num.ext hB.out) (hy.num.ext hB.out))
 obtain⟨a0,a1,a2⟩:=gb3 hk3
 obtain⟨b0,b1,b2⟩:=gb3 hk2
 have k1:=X8w x.text y.text
 have k2:=X8c x.term y.term
 clear hx hy hb1 hb2 hk1 hk2 hk3
 by_cases h1:x.text=y.text
 rotate_left
 ·have HF:Hid (decide (x.c=y.c)=false):=decide_eq_false fun h=>h1 (X3t.1 h).1
  rw[decide_eq_false h1] at k1
  clear h1
  go_enter Tryz.func54,Tryz.ntmps54
  go_wp2_with fail
  go_ret
  exact⟨by rw[HF.out];rfl,hB.out⟩
 rw[decide_eq_true h1] at k1
 by_cases h2:x.term=y.term
 rotate_left
 ·have HF:Hid (decide (x.c=y.c)=false):=decide_eq_false fun h=>h2 (X3t.1 h).2.1
  rw[decide_eq_false h2] at k2
  clear h1 h2
  go_enter Tryz.func54,Tryz.ntmps54
  go_wp2_with fail
  go_ret
  exact⟨by rw[HF.out];rfl,hB.out⟩
 rw[decide_eq_true h2] at k2
 have HF:Hid (decide (x.c=y.c)=decide (x.deps=y.deps)):=by
  show _=_
  by_cases h3:x.deps=y.deps
  ·rw[decide_eq_true h3,decide_eq_true (X3t.2 ⟨h1,h2,h3⟩)]
  ·rw[decide_eq_false h3,decide_eq_false fun h=>h3 (X3t.1 h).2.2]
 obtain⟨q,hq⟩:∃q,decide (x.deps=y.deps)=q:=⟨_,rfl⟩
 rw[hq] at HI HF
 clear h1 h2 hq
 go_enter Tryz.func54,Tryz.ntmps54
 go_wp2_with fail
 refine HI.out.mono ?_
 rintro e w3 ⟨rfl,hb3⟩
 have HB:=Xa (Xb hB.out hb3)
 clear hb3
 go_wp2_with fail
 go_ret
 exact⟨by rw[HF.out];cases q<;>rfl,HB.out⟩
structure TgsAt (w:World) (s:SlS TgG):Prop where
 lies:s.lies TgG.cells w
 ok:∀x∈s.xs,TgOk w x
theorem TgsAt.ext {w w':World} {s:SlS TgG} (h:TgsAt w s) (hb:Below w.heap.size w w'):TgsAt w' s:=⟨h.lies.ext hb,fun x hx=>(h.ok x hx).ext hb⟩
set_option maxHeartbeats 2000000 in
theorem X5u (s t:SlS TgG) (w:World) (hs:TgsAt w s) (ht:TgsAt w t):Calls Tryz.prog 39 #[.slice s.addr s.xs.length s.cap,.slice t.addr t.xs.length t.cap] w fun e w'=>e = .returned (.bool (decide (s.xs.map TgG.c=t.xs.map TgG.c)))∧Below w.heap.size w w':=by
 have hm:s.xs.length≤9223372036854775807:=Nat.le_trans hs.lies.cap hs.lies.max
 have Hs:=Xa hs
 have Ht:=Xa ht
 clear hs ht
 by_cases hl:s.xs.length=t.xs.length
 rotate_left
 ·have hne:((s.xs.length:Int) != (t.xs.length:Int))=true:=by simp;omega
  have HF:Hid (decide (s.xs.map TgG.c=t.xs.map TgG.c)=false):=decide_eq_false (fun h=>hl (by have:=congrArg List.length h;simpa using this))
  clear hl
  go_enter Tryz.func39,Tryz.ntmps39
  go_wp2_with fail
  go_ret
  exact⟨by rw[HF.out];rfl,Below.refl _ _⟩
 have hne:((s.xs.length:Int) != (t.xs.length:Int))=false:=by simp[hl]
 have Hl:=Xa hl
 clear hl
 go_enter Tryz.func39,Tryz.ntmps39
 go_wp2_with fail
 go_loopw [5] (fun i wr=>∃k:Nat,k≤s.xs.length∧i = .int .i64 k∧Below w.heap.size w wr∧Hid ((s.xs.map TgG.c).take k=(t.xs.map TgG.c).take k)) (fun i _=>s.xs.length-(intOf i).toNat)
 case atStart=>exact⟨0,Nat.zero_le _,rfl,Below.refl _ _,rfl⟩
 case round =>
  obtain⟨k,hk,rfl,hB,HR⟩:=hrel
  by_cases hlt:k<s.xs.length
  ·have hlt':k<t.xs.length:=by have:=Hl.out;omega
   obtain⟨b,off,he,hb,hc⟩:=(Hs.out.lies.ext hB).at_ TgG.size_cells (by omega) hlt
   obtain⟨b',off',he',hb',hc'⟩:=(Ht.out.lies.ext hB).at_ TgG.size_cells (by omega) hlt'
   have hx:=(Hs.out.ok _ (List.getElem_mem hlt)).ext hB
   have hy:=(Ht.out.ok _ (List.getElem_mem hlt')).ext hB
   have e1:(s.xs.map TgG.c)[k]? = some s.xs[k].c:=by rw[List.getElem?_map,List.getElem?_eq_getElem hlt];rfl
   have e2:(t.xs.map TgG.c)[k]? = some t.xs[k].c:=by rw[List.getElem?_map,List.getElem?_eq_getElem hlt'];rfl
   have Htk:Hid ((s.xs.map TgG.c).take (k+1)=(s.xs.map TgG.c).take k++[s.xs[k].c]):=by show _=_;rw[List.take_add_one,e1];rfl
   have Htk':Hid ((t.xs.map TgG.c).take (k+1)=(t.xs.map TgG.c).take k++[t.xs[k].c]):=by show _=_;rw[List.take_add_one,e2];rfl
   have hf:Hid (s.xs.map TgG.c=t.xs.map TgG.c→s.xs[k].c=t.xs[k].c):=fun e=>by
    rw[e,e2] at e1
    exact(Option.some.inj e1).symm
   have HC:Hid (∀V,Below wr.heap.size wr V→(V.cell? ⟨b,off+k*3,none⟩=some (.string s.xs[k].text)∧V.cell? ⟨b,off+k*3+1,none⟩=some (.slice s.xs[k].dA s.xs[k].deps.length s.xs[k].dc)∧V.cell? ⟨b,off+k*3+2,none⟩=some (.int .i64 s.xs[k].term))∧V.cell? ⟨b',off'+k*3,none⟩=some (.string t.xs[k].text)∧V.cell? ⟨b',off'+k*3+1,none⟩=some (.slice t.xs[k].dA t.xs[k].deps.length t.xs[k].dc)∧V.cell? ⟨b',off'+k*3+2,none⟩=some (.int .i64 t.xs[k].term)) :=
    fun V hV=>⟨⟨hc k hlt V hV 0 _ rfl,hc k hlt V hV 1 _ rfl,hc k hlt V hV 2 _ rfl⟩,hc' k hlt' V hV 0 _ rfl,hc' k hlt' V hV 1 _ rfl,hc' k hlt' V hV 2 _ rfl⟩
   have HS:=Xa (fun V (hV:Below wr.heap.size wr V)=>X0h s.xs[k] t.xs[k] V (hx.ext hV) (hy.ext hV))
   rw[he,he']
   have HE:=Xa he
   have HE':=Xa he'
   clear hc hc' hx hy e1 e2 he he'
   generalize s.xs[k]=x at *
   generalize t.xs[k]=y at *
   obtain⟨q,hq⟩:∃q,decide (x.c=y.c)=q:=⟨_,rfl⟩
   have Hq:=Xa hq
   rw[hq] at HS
   clear hq
   go_wp2_with fail
   refine wpIn_wide (n:=0) |>.1 ?_
   refine Y4 _ ?_ (fun _ _ h=>h)
   refine Xo (fun V=>Below wr.heap.size wr V) (by kernel_rfl) ?_
   have hv:=Xi (Below.refl wr.heap.size wr)
   refine Xd (i:=0) rfl (by kernel_rfl) (fun _ _ _ h=>h) (fun V hV=>(by skip;go_simp<;>rfl)) ?_
   refine Xd (i:=1) rfl (by kernel_rfl) (fun _ _ _ h=>h) (fun V hV=>(by skip;go_simp<;>rfl)) ?_
   refine Xd (i:=2) rfl (by kernel_rfl) (fun _ _ _ h=>h) (fun V hV=>(by skip;go_simp<;>rfl)) ?_
   refine Xd (i:=3) (v:=.agg #[.string x.text,.slice x.dA x.deps.length x.dc,.int .i64 x.term]) rfl (by kernel_rfl) (fun _ _ _ h=>h) (fun V hV=>(by obtain⟨⟨d0,d1,d2⟩,d3,d4,d5⟩:=HC.out V hV;go_simp)) ?_
   refine Xd (i:=4) rfl (by kernel_rfl) (fun _ _ _ h=>h) (fun V hV=>(by skip;go_simp<;>rfl)) ?_
   refine Xd (i:=5) rfl (by kernel_rfl) (fun _ _ _ h=>h) (fun V hV=>(by skip;go_simp<;>rfl)) ?_
   refine Xd (i:=6) rfl (by kernel_rfl) (fun _ _ _ h=>h) (fun V hV=>(by skip;go_simp<;>rfl)) ?_
   refine Xd (i:=7) (v:=.agg #[.string y.text,.slice y.dA y.deps.length y.dc,.int .i64 y.term]) rfl (by kernel_rfl) (fun _ _ _ h=>h) (fun V hV=>(by obtain⟨⟨d0,d1,d2⟩,d3,d4,d5⟩:=HC.out V hV;go_simp)) ?_
   refine Xg (i:=8) hv (by kernel_rfl) rfl (fun K hK=>?_)
   go_simp
   refine⟨trivial,rfl,callsIn_wide.2 ((HS.out _ hv).mono ?_)⟩
   rintro e v1 ⟨rfl,hv1⟩
   refine hK _ _ ?_
   clear hK K
   replace hv:=Xb hv hv1
   refine Xd (i:=9) rfl (by kernel_rfl) (fun _ _ _ h=>h) (fun V hV=>(by skip;go_simp<;>rfl)) ?_
   refine Xl hv (by kernel_rfl) ?_ _
   clear HC HS
   cases q
   rotate_left
   ·have hxy:=Xa (of_decide_eq_true Hq.out)
    go_wp2_with fail
    try rw[← HE.out,← HE'.out]
    go_roundw
    case rel=>exact⟨k+1,by omega,by go_num,Xb hB hv,by show _=_;rw[Htk.out,Htk'.out,HR.out,hxy.out]⟩
    case measure=>simp[intOf];omega
   ·have hxy:=of_decide_eq_false Hq.out
    have HF:Hid (decide (s.xs.map TgG.c=t.xs.map TgG.c)=false):=decide_eq_false (fun h=>hxy (hf.out h))
    clear hxy
    go_wp2_with fail
    go_ret
    exact⟨by rw[HF.out];rfl,Xb hB hv⟩
  ·have HF:Hid (decide (s.xs.map TgG.c=t.xs.map TgG.c)=true):=by
    refine decide_eq_true ?_
    obtain rfl:k=s.xs.length:=by omega
    have h:=HR.out
    rw[List.take_of_length_le (by simp),List.take_of_length_le (by have:=Hl.out;simp;omega)] at h
    exact h
   clear HR
   go_wp2_with fail
   go_ret
   exact⟨by rw[HF.out];rfl,hB⟩
theorem RowT.tgs {base:Nat} {A:Option Addr} {n c:Nat} {L:List TgG} {V:World} {L0:List TgP} (h:RowT base (.slice A n c) L V) (hm:L.map TgG.c=L0) (hf:∀p∈L0,p.deps.length≤1000000):n=L.length∧TgsAt V ⟨A,c,L⟩:=by
 have hok:∀x∈L,TgOk V x:=fun x hx=>⟨(h.deps x hx).num,by
  have:=hf x.c (by rw[← hm];exact List.mem_map_of_mem hx)
  change x.deps.length≤1000000 at this
  omega⟩
 obtain⟨h1,h2|⟨g,cap,cur,h2,h3,h4,h5,h6,h7,h8⟩⟩:=h.own
 ·obtain⟨h2,h3⟩:=h2
  cases h2
  have:L=[]:=List.eq_nil_of_length_eq_zero h3
  subst this
  exact⟨rfl,⟨Rd.nil _ _,Nat.le_refl _,by simp,fun _=>rfl⟩,hok⟩
 ·cases h2
  obtain⟨A',c',he,hr,hn⟩:=h.own.form (by decide)
  cases he
  refine⟨rfl,⟨hr,h5,?_,hn⟩,hok⟩
  have h6:=h6
  unfold maxLen at h6
  exact h6
def Is30 (G:Gram):Prop:=∃b,G=g30 b
theorem Xzq (w:World):Calls Tryz.prog 94 #[] w fun e w'=>∃G:Gram,e = .returned (.agg #[.string G.name,.slice G.cats.addr G.cats.xs.length G.cats.cap,.string G.start,.int .i64 G.startNo,.slice G.entries.addr G.entries.xs.length G.entries.cap,.slice G.rules.addr G.rules.xs.length G.rules.cap])∧Is30 G∧G.lies w'∧Below w.heap.size w w' :=
 (X4w w).mono fun _ _ ⟨h1,h2⟩=>⟨g30 w.heap.size,h1,⟨_,rfl⟩,h2 ▸ X8b w,h2 ▸ Xyc _ _⟩
theorem X05 {G:Gram} (h:Is30 G):G.short:=by
 obtain⟨b,rfl⟩:=h
 have k:∀n:Nat,n≤10→n≤maxLen:=fun n h=>by unfold maxLen;omega
 have kS:bS.size≤maxLen:=k _ (by decide)
 have kN:bN.size≤maxLen:=k _ (by decide)
 have k0:b0.size≤maxLen:=k _ (by decide)
 refine⟨fun s hs=>?_,kS,fun x hx=>?_,fun x hx=>?_,fun x hx p hp=>?_⟩
 ·simp only[g30,List.mem_cons,List.not_mem_nil,or_false] at hs
  rcases hs with rfl|rfl<;>first|exact kS|exact kN|exact k0
 ·simp only[g30,en30,List.mem_cons,List.not_mem_nil,or_false] at hx
  rcases hx with rfl|rfl<;>first|exact kS|exact kN|exact k0
 ·simp only[g30,List.mem_cons,List.not_mem_nil,or_false] at hx
  subst hx
  first|exact kS|exact kN|exact k0
 ·simp only[g30,List.mem_cons,List.not_mem_nil,or_false] at hx
  subst hx
  simp only[ru30,List.mem_cons,List.not_mem_nil,or_false] at hp
  rcases hp with rfl|rfl|rfl<;>first|exact kS|exact kN|exact k0
theorem shortS (b:Nat):(s30 b).short:=by
 have k:∀n:Nat,n≤10→n≤maxLen:=fun n h=>by unfold maxLen;omega
 have kS:bS.size≤maxLen:=k _ (by decide)
 have kN:bN.size≤maxLen:=k _ (by decide)
 have k0:b0.size≤maxLen:=k _ (by decide)
 refine⟨fun s hs=>?_,kS,fun x hx=>(by cases hx),fun x hx=>(by cases hx),fun x hx=>(by cases hx)⟩
 simp only[s30,List.mem_cons,List.not_mem_nil,or_false] at hs
 subst hs
 first|exact kS|exact kN|exact k0
theorem X6j {G:Gram} {ws:StrS} {L0:List TgP} {wh:Bool} (hE:Xwu G [] 1 ws.xs 0 0=0) (hR:trE G [] 1 ws.xs 0 0=(L0,wh)) (hf:∀p∈L0,p.deps.length≤1000000) (V:World) (hT:TabsG V) (hg:G.lies V) (hs:G.short) (hw:ws.lies V) :
  Calls Tryz.prog 41 #[.agg #[.string G.name,.slice G.cats.addr G.cats.xs.length G.cats.cap,.string G.start,.int .i64 G.startNo,.slice G.entries.addr G.entries.xs.length G.entries.cap,.slice G.rules.addr G.rules.xs.length G.rules.cap],.slice none 0 0,.int .i64 1,.slice ws.addr ws.xs.length ws.cap,.int .i64 0,.int .i64 0] V fun e w'=>∃(A:Option Addr) (c:Nat) (L:List TgG),e = .returned (.tuple #[.slice A L.length c,.bool wh,.int .i64 0])∧L.map TgG.c=L0∧TgsAt w' ⟨A,c,L⟩∧Below V.heap.size V w':=by
 refine(Xy0 G none 0 [] 1 ws 0 0 V hT hg hs (TermsAt.nil V none) (by simp) hw).mono ?_
 rintro e w' ⟨hb,A,n,c,L,rfl,rfl,hr,hl⟩
 rw[hR] at hl ⊢
 rw[hE]
 exact⟨A,c,L,rfl,hl,(hr.tgs hl hf).2,hb⟩
theorem Xbu:∀ {l:List TreeV} {t:TreeV},t∈l→X5 t≤Xp l
 | x :: l,t,h=>by
  unfold Xp
  rcases List.mem_cons.1 h with rfl|h
  ·omega
  ·have:=Xbu h;omega
set_option maxHeartbeats 8000000 in
theorem Xpt {g:Gram} {its:SlS ItemG} {N:Nat} (hg:Yu g) (hI:Zr N g.cats.xs.length its.xs) {e0:World} (hgl:g.lies e0) (cb kb wb top:Nat) (P:Nat→Prop) (rn:Nat) (hlt:rn<g.rules.xs.length) (xi xu:Int) (l:List TreeV) (xa:Option Addr) (xc:Nat) (css:List (List Value)) (c:Int) (w:World) (hE:ChEnv e0 cb kb wb top g its N w)
  (hno:g.rules.xs[rn].no=c) (hcap1:l.length≤xc) (hr:Rd w xa css.flatten) (hkids:KidsAt w P l css) (fi:I6 xi) (fu:I6 xu) (fl:Ve l) (hnod:1+Xp l≤1024)
  (ih:∀t∈l,∀(x:TreeG) (c:Int) (w:World),ChEnv e0 cb kb wb top g its N w→TreeAt w P t [.int .i64 x.rule,.int .i64 x.item,.int .i64 x.frm,.int .i64 x.unt,.slice x.kids.addr x.kids.len x.kids.cap]→Z6 t→X5 t≤1024→Calls Tryz.prog 69 #[.pointer (some ⟨cb,0,none⟩),.agg #[.int .i64 x.rule,.int .i64 x.item,.int .i64 x.frm,.int .i64 x.unt,.slice x.kids.addr x.kids.len x.kids.cap],.int .i64 c] w (T5 g its.xs t c w)) :
  Calls Tryz.prog 69 #[.pointer (some ⟨cb,0,none⟩),.agg #[.int .i64 (rn:Int),.int .i64 (-1),.int .i64 xi,.int .i64 xu,.slice xa l.length xc],.int .i64 c] w (T5 g its.xs (.node (rn:Int) (-1) xi xu l) c w):=by
 obtain⟨w1,hw1⟩:∃w1,w.alloc (.cells #[.int .i64 (rn:Int),.int .i64 (-1),.int .i64 xi,.int .i64 xu,.slice xa l.length xc] 37)=w1:=⟨_,rfl⟩
 have hB1:=Yn hw1
 have hz1:=Yv hw1
 obtain⟨y0,y1,y2,y3,y4⟩:=gb5 hz1
 have hE1:=hE.ext hB1
 have hch:=hE1.chart
 obtain⟨c0,c1,c2,c3,c4,c5,c6,c7,c8⟩:=gb9 hch
 have c9:=gblk hch 9
 have HE1:=Xa hE1
 have HB1:=Xa hB1
 have Hz1:=Xa hz1
 have hlz:=Xc hz1
 clear hz1 hB1 hch hE
 have k0:((rn:Int) == -1)=false:=by simp
 have q1:decide ((rn:Int)<0)=false:=decide_eq_false (by omega)
 have q3:decide ((g.rules.xs.length:Int)≤(rn:Int))=false:=decide_eq_false (by omega)
 have HR0:X6 g its.xs (.node (rn:Int) (-1) xi xu l) c=Z9 (Xm its.xs) g.rules.xs[rn].parts.xs (Yl g its.xs l) xi xu g.rules.xs[rn].cost:=by
  rw[X6,if_neg (by omega),if_neg (by omega),show ((rn:Int)).toNat=rn by omega,List.getElem?_eq_getElem hlt]
  exact if_pos hno
 have Hih:=Xa ih
 have Hr:=Xa hr
 have Hkids:=Xa hkids
 have Hfl:=Xa fl
 have Hnod:=Xa hnod
 clear ih hr hkids fl hnod
 obtain⟨bR,oR,hRa,hbR,hRc⟩:=hgl.rules.at_ RuleG.size_cells (by omega) hlt
 have d0:w1.cell? ⟨bR,oR+rn*5,none⟩=some (.string g.rules.xs[rn].cat):=hRc rn hlt w1 HE1.out.low 0 _ rfl
 have d1:w1.cell? ⟨bR,oR+rn*5+1,none⟩=some (.int .i64 g.rules.xs[rn].no):=hRc rn hlt w1 HE1.out.low 1 _ rfl
 have d2:w1.cell? ⟨bR,oR+rn*5+2,none⟩=some (.slice g.rules.xs[rn].parts.addr g.rules.xs[rn].parts.xs.length g.rules.xs[rn].parts.cap):=hRc rn hlt w1 HE1.out.low 2 _ rfl
 have d3:w1.cell? ⟨bR,oR+rn*5+3,none⟩=some (.slice g.rules.xs[rn].gives.addr g.rules.xs[rn].gives.xs.length g.rules.xs[rn].gives.cap):=hRc rn hlt w1 HE1.out.low 3 _ rfl
 have d4:w1.cell? ⟨bR,oR+rn*5+4,none⟩=some (.int .i64 g.rules.xs[rn].cost):=hRc rn hlt w1 HE1.out.low 4 _ rfl
 have hrl:=hgl.rule _ (List.getElem_mem hlt)
 have hgr:=hg.rule _ (List.getElem_mem hlt)
 have hbR1:bR<w1.heap.size:=Nat.lt_of_lt_of_le hbR HE1.out.low.size
 rw[hRa] at c5
 clear hRc
 generalize g.rules.xs[rn]=ru at *
 have Hgr:=Xa hgr
 clear hgr
 have k1:(ru.no != c)=false:=by simpa using hno
 have k1b:(ru.no == c)=true:=by simpa using hno
 have HR1:=HR0
 have hcap0:l.length≤xc:=hcap1
 have hst0:=LiesSt.start (g:=g) (items:=its.xs) (ps:=ru.parts.xs) (l:=l) (k:=xu) Hgr.out.2.2.1 Hgr.out.2.2.2.1 fi
 rw[← HR1] at hst0
 have hpl:=Hgr.out.2.2.2.2
 obtain⟨R,hR⟩:∃R,X6 g its.xs (.node (rn:Int) (-1) xi xu l) c=R:=⟨_,rfl⟩
 rw[hR] at hst0
 have HR:=Xa hR
 have Hst0:=Xa hst0
 obtain⟨bP,oP,hPa,hbP,hPc⟩:=hrl.1.at_ PartG.size_cells (by omega) (k:=0) (by omega)
 have HPc:=Xa hPc
 rw[hPa] at d2
 have hpn:ru.parts.xs.length≤4:=hpl.2
 have HC:Hid (∀V,Below w1.heap.size w1 V→V.cell? ⟨cb,5,none⟩=some (.slice (some ⟨bR,oR,none⟩) g.rules.xs.length g.rules.cap)∧(V.cell? ⟨w.heap.size,0,none⟩=some (.int .i64 (rn:Int))∧V.cell? ⟨w.heap.size,2,none⟩=some (.int .i64 xi)∧V.cell? ⟨w.heap.size,4,none⟩=some (.slice xa l.length xc))∧V.cell? ⟨bR,oR+rn*5,none⟩=some (.string ru.cat)∧V.cell? ⟨bR,oR+rn*5+1,none⟩=some (.int .i64 ru.no)∧V.cell? ⟨bR,oR+rn*5+2,none⟩=some (.slice (some ⟨bP,oP,none⟩) ru.parts.xs.length ru.parts.cap)∧V.cell? ⟨bR,oR+rn*5+3,none⟩=some (.slice ru.gives.addr ru.gives.xs.length ru.gives.cap)∧V.cell? ⟨bR,oR+rn*5+4,none⟩=some (.int .i64 ru.cost)):=fun V hV=>by
  have hh:=(HE1.out.ext hV).chart
  have hz:=Xh hV Hz1.out
  refine⟨by rw[← hRa];exact gblk hh 5,⟨gblk hz 0,gblk hz 2,gblk hz 4⟩,?_⟩
  have hcl:=fun k=>hV.cell (p:=⟨bR,oR+rn*5+k,none⟩) hbR1
  exact⟨(hcl 0).trans d0,(hcl 1).trans d1,(hcl 2).trans d2,(hcl 3).trans d3,(hcl 4).trans d4⟩
 have hlw:=Xa (Xi (Xi (Below.refl w1.heap.size w1)))
 clear HR0 HR1 hR hst0 hPc hPa hrl hpl hRa hbR1
 go_enter Tryz.func69,Tryz.ntmps69
 go_wp2_with fail
 go_still (by kernel_rfl)
 go_wp2_with fail
 refine wpIn_wide (n:=0) |>.1 ?_
 refine Y4 _ ?_ (fun _ _ h=>h)
 refine Xo (fun V=>Below w1.heap.size w1 V) (by kernel_rfl) ?_
 refine Xd (i:=0) rfl (by kernel_rfl) (fun _ _ _ h=>h) (fun V hV=>(by obtain⟨m0,⟨m1,m2,m3⟩,r0,r1,r2,r3,r4⟩:=HC.out V hV;go_simp<;>rfl)) ?_
 refine Xd (i:=1) rfl (by kernel_rfl) (fun _ _ _ h=>h) (fun V hV=>(by obtain⟨m0,⟨m1,m2,m3⟩,r0,r1,r2,r3,r4⟩:=HC.out V hV;go_simp<;>rfl)) ?_
 refine Xd (i:=2) rfl (by kernel_rfl) (fun _ _ _ h=>h) (fun V hV=>(by obtain⟨m0,⟨m1,m2,m3⟩,r0,r1,r2,r3,r4⟩:=HC.out V hV;go_simp<;>rfl)) ?_
 refine Xd (i:=3) rfl (by kernel_rfl) (fun _ _ _ h=>h) (fun V hV=>(by obtain⟨m0,⟨m1,m2,m3⟩,r0,r1,r2,r3,r4⟩:=HC.out V hV;go_simp<;>rfl)) ?_
 refine Xd (i:=4) rfl (by kernel_rfl) (fun _ _ _ h=>h) (fun V hV=>(by obtain⟨m0,⟨m1,m2,m3⟩,r0,r1,r2,r3,r4⟩:=HC.out V hV;go_simp<;>rfl)) ?_
 refine Xd (i:=5) rfl (by kernel_rfl) (fun _ _ _ h=>h) (fun V hV=>(by obtain⟨m0,⟨m1,m2,m3⟩,r0,r1,r2,r3,r4⟩:=HC.out V hV;go_simp<;>rfl)) ?_
 refine Xd (i:=6) rfl (by kernel_rfl) (fun _ _ _ h=>h) (fun V hV=>(by obtain⟨m0,⟨m1,m2,m3⟩,r0,r1,r2,r3,r4⟩:=HC.out V hV;go_simp<;>rfl)) ?_
 refine Xd (i:=7) rfl (by kernel_rfl) (fun _ _ _ h=>h) (fun V hV=>(by obtain⟨m0,⟨m1,m2,m3⟩,r0,r1,r2,r3,r4⟩:=HC.out V hV;go_simp<;>rfl)) ?_
 refine Xd (i:=8) (v:=.agg #[.string ru.cat,.int .i64 ru.no,.slice (some ⟨bP,oP,none⟩) ru.parts.xs.length ru.parts.cap,.slice ru.gives.addr ru.gives.xs.length ru.gives.cap,.int .i64 ru.cost]) rfl (by kernel_rfl) (fun _ _ _ h=>h) (fun V hV=>(by obtain⟨m0,⟨m1,m2,m3⟩,r0,r1,r2,r3,r4⟩:=HC.out V hV;go_simp)) ?_
 refine Xg (i:=9) hlw.out (by kernel_rfl) rfl (fun K hK=>?_)
 go_simp
 refine hK _ _ ?_
 clear hK K
 have hB8:=Xe hlw.out (.cells #[.string ⟨#[]⟩,.int .i64 0,.slice none 0 0,.slice none 0 0,.int .i64 0] 79)
 refine Xg (i:=10) hB8 (by kernel_rfl) rfl (fun K hK=>?_)
 go_simp
 refine hK _ _ ?_
 clear hK K
 obtain⟨w2,hw2⟩:∃w2,(w1.alloc (.cells #[.string ru.cat,.int .i64 c,.slice (some ⟨bP,oP,none⟩) ru.parts.xs.length ru.parts.cap,.slice ru.gives.addr ru.gives.xs.length ru.gives.cap,.int .i64 ru.cost] 79)).drew.drew=w2:=⟨_,rfl⟩
 have hb2:Below w1.heap.size w1 w2:=by rw[← hw2];exact Xi (Xi (Xe (Below.refl _ _) _))
 have hz2:w2.heap[w1.heap.size]? = some (.cells #[.string ru.cat,.int .i64 c,.slice (some ⟨bP,oP,none⟩) ru.parts.xs.length ru.parts.cap,.slice ru.gives.addr ru.gives.xs.length ru.gives.cap,.int .i64 ru.cost] 79 (0,0)):=by rw[← hw2];exact World.alloc_heap_new _ _
 rw[hw2]
 refine Xl hb2 (by kernel_rfl) ?_ _
 have hz12:=Xh hb2 Hz1.out
 clear hw2 hB8 hlw HC y0 y1 y2 y3 y4 c0 c1 c2 c3 c4 c5 c6 c7 c8 c9 d0 d1 d2 d3 d4
 obtain⟨e0,e1,e2,e3,e4⟩:=gb5 hz2
 obtain⟨v0,v1,v2,v3,v4⟩:=gb5 hz12
 have HB2:=Xa (Xb HB1.out hb2)
 have Hb12:=Xa hb2
 have HE2:=Xa (HE1.out.ext hb2)
 clear hz2 hz12 hb2
 go_wp2_with fail
 go_still (by kernel_rfl)
 go_wp2_with fail
 go_loopw [6,10,11,117] (fun va vb vd iv wr=>∃(p:Nat) (ks:List TreeV) (B:Option Addr) (cB:Nat) (css':List (List Value)) (at_ cost:Int),p≤ru.parts.xs.length∧va = .int .i64 cost∧vb = .int .i64 at_∧vd = .slice B ks.length cB∧iv = .int .i64 p∧Below w2.heap.size w2 wr∧Hid (LiesSt g its.xs R ru.parts.xs l xu p ks at_ cost)∧Hid (KidsAt w P ks css'∧Rd w B css'.flatten∧ks.length≤cB)) (fun _ _ _ iv _=>ru.parts.xs.length-(intOf iv).toNat)
 case atStart=>exact⟨0,l,xa,xc,css,xi,ru.cost,Nat.zero_le _,rfl,rfl,rfl,rfl,Xi (Below.refl _ _),Hst0.out,Hkids.out,Hr.out,hcap0⟩
 case round =>
  obtain⟨p,ks,B,cB,css',at_,cost,hp,rfl,rfl,rfl,rfl,hB,Hst,Hk⟩:=hrel
  have hBw:=Xb HB2.out hB
  by_cases hlt:p<ru.parts.xs.length
  ·have hmarkP:=hlt
   have f0:wr.cell? ⟨bP,oP+p*3,none⟩=some (.string ru.parts.xs[p].cat):=HPc.out p hlt wr (Xb HE2.out.low hB) 0 _ rfl
   have f1:wr.cell? ⟨bP,oP+p*3+1,none⟩=some (.int .i64 ru.parts.xs[p].no):=HPc.out p hlt wr (Xb HE2.out.low hB) 1 _ rfl
   have f2:wr.cell? ⟨bP,oP+p*3+2,none⟩=some (.string ru.parts.xs[p].text):=HPc.out p hlt wr (Xb HE2.out.low hB) 2 _ rfl
   have S1:=Xa (fun ht hn=>Hst.out.text_no hlt ht hn)
   have S2:=Xa (fun ht hn hw=>Hst.out.text hlt ht hn hw fu)
   have S3:=Xa (fun (e:ks=[]) ht=>(show R=(0,false) by have h:=Hst.out;rw[e] at h;exact h.none hlt ht))
   have S4:=Xa (fun t ks' (e:ks=t :: ks') ht hn=>(show R=(0,false) by have h:=Hst.out;rw[e] at h;exact h.cat_frm hlt ht hn))
   have S5:=Xa (fun t ks' (e:ks=t :: ks') ht hf hn=>(show R=(0,false) by have h:=Hst.out;rw[e] at h;exact h.cat_no hlt ht hf hn))
   have S6:=Xa (fun t ks' (e:ks=t :: ks') ht hf cc hn=>(show LiesSt g its.xs R ru.parts.xs l xu (p+1) ks' t.unt (cost+cc) by have h:=Hst.out;rw[e] at h;exact h.cat hg hI (Qb Hfl.out) hlt ht hf hn))
   have hfa:=Hst.out.fit
   have hlo:=Hst.out.lo
   have hhi:=Hst.out.hi
   have hsub:=Xa Hst.out.sub
   generalize ru.parts.xs[p]=q at *
   obtain⟨w3,hw3⟩:∃w3,wr.alloc (.cells #[.string q.cat,.int .i64 q.no,.string q.text] 81)=w3:=⟨_,rfl⟩
   have hb3:=Yn hw3
   have hz3:=Yv hw3
   obtain⟨s0,s1,s2⟩:=gb3 hz3
   have hz3l:=Xc hz3
   have hB3:=Xb hB hb3
   have HE3:=Xa (HE2.out.ext hB3)
   have hch3:=HE3.out.chart
   have c9:=gblk hch3 9
   have hz13:=((Xb Hb12.out hB3).block _ (Xc Hz1.out)).trans Hz1.out
   obtain⟨v0,v1,v2,v3,v4⟩:=gb5 hz13
   have Hb3:=Xa (Xb hBw hb3)
   have HB3:=Xa hB3
   clear hz3 hz13 hB hb3 hB3 hch3
   by_cases ht:q.text.size≠0
   ·have k2:=Xkb ht
    have k3:=Zp (s:=q.text) (by omega)
    have k4:¬q.text.toList=[]:=by intro h;rw[h] at k3;cases k3
    by_cases ha:at_<xu
    rotate_left
    ·have g1:decide (xu≤at_)=true:=decide_eq_true (by omega)
     have HR9:=Xa (HR.out.trans (S1.out ht (fun h=>ha h.1)))
     clear S1 S2 S3 S4 S5 S6 hfa hlo hhi ha
     go_wp2_with fail
     go_still (by kernel_rfl)
     go_wp2_with fail
     exact bodyPost_ret (v:=.tuple #[.int .i64 0,.bool false]) (by simp[results,Tryz.results69,go_sem]) rfl ⟨by rw[HR9.out],Xb Hb3.out (Xi (Below.refl _ _))⟩
    ·have g1:decide (xu≤at_)=false:=decide_eq_false (by omega)
     obtain⟨A2,cp2,xs2,hlook,hlie,hany⟩:=HE3.out.words.lookW hfa
     have hlk:=hlook w3.drew rfl
     have hl2:=hlie w3.drew (fun _ _=>rfl) (Nat.le_refl _)
     have hC:=Xcw A2 cp2 xs2 q.text w3.drew (by have h:=hl2.rd;rwa [show strs xs2=xs2.flatMap (fun b:ByteArray=>[Value.string b]) from by unfold strs;rw[List.map_eq_flatMap]] at h) (Nat.le_trans hl2.cap hl2.max)
     rw[hany q.text] at hC
     cases hst:Xm its.xs at_ q.text
     ·rw[hst] at hC
      have HC:=Xa hC
      have HR9:=Xa (HR.out.trans (S1.out ht (fun h=>by rw[hst] at h;exact absurd h.2 (by simp))))
      clear S1 S2 S3 S4 S5 S6 hfa hlo hhi ha hC hlie hlook hl2 hany hst
      go_wp2_with fail
      refine wp_region_still_lit (by kernel_rfl) (by kernel_rfl) ?_
      repeat still_step
      still_call HC.out
      repeat still_step
      refine wpStill_nil ?_
      go_wp2_with fail
      exact bodyPost_ret (v:=.tuple #[.int .i64 0,.bool false]) (by simp[results,Tryz.results69,go_sem]) rfl ⟨by rw[HR9.out],Xb Hb3.out (Xi (Below.refl _ _))⟩
     ·rw[hst] at hC
      have HC:=Xa hC
      have Hnx:=Xa (S2.out ht ha hst)
      have hwa:IntKind.i64.wrap (at_+1)=at_+1:=IntWalk.i64_in _ (by unfold I6 at hfa fu;omega)
      clear S1 S2 S3 S4 S5 S6 hfa hlo hhi ha hC hlie hlook hl2 hany hst
      go_wp2_with fail
      refine wp_region_still_lit (by kernel_rfl) (by kernel_rfl) ?_
      repeat still_step
      still_call HC.out
      repeat still_step
      refine wpStill_nil ?_
      go_wp2_with fail
      go_roundw
      case rel=>exact⟨p+1,ks,B,cB,css',at_+1,cost,by omega,by go_num,by go_num,rfl,by go_num,Xi HB3.out,Hnx.out,Hk.out⟩
      case measure=>simp[intOf];omega
   ·have k2:=Xka ht
    have k3:=Zq (s:=q.text) (by omega)
    have k4:q.text.toList=[]:=List.isEmpty_iff.1 k3
    cases ks with
    | nil =>
     have HR9:=Xa (HR.out.trans (S3.out rfl ht))
     clear S1 S2 S3 S4 S5 S6 hfa hlo hhi
     go_wp2_with fail
     exact bodyPost_ret (v:=.tuple #[.int .i64 0,.bool false]) (by simp[results,Tryz.results69,go_sem]) rfl ⟨by rw[HR9.out],Hb3.out⟩
    | cons t ks' =>
     obtain⟨b0,off0,B',cp',rfl,hb0,ht0,n0,n1,n2,n3,n4⟩:=Uz Hk.out.2.1 Hk.out.1 (n:=0) (by simp)
     simp only[List.getElem_cons_zero,Nat.zero_mul,Nat.add_zero] at ht0 n0 n1 n2 n3 n4
     have hbl:=Hb3.out.block b0 hb0
     have m0:=(World.cell?_of_block (a:=⟨b0,off0,none⟩) hbl).trans n0
     have m1:=(World.cell?_of_block (a:=⟨b0,off0+1,none⟩) hbl).trans n1
     have m2:=(World.cell?_of_block (a:=⟨b0,off0+2,none⟩) hbl).trans n2
     have m3:=(World.cell?_of_block (a:=⟨b0,off0+3,none⟩) hbl).trans n3
     have m4:=(World.cell?_of_block (a:=⟨b0,off0+4,none⟩) hbl).trans n4
     have l0:(((ks'.length:Nat):Int)+1 == 0)=false:=by simp;omega
     have hb3w:b0<w3.heap.size:=Nat.lt_of_lt_of_le hb0 Hb3.out.size
     have HC:Hid (∀V,Below w3.heap.size w3 V→(V.cell? ⟨b0,off0,none⟩=some (.int .i64 t.rule)∧V.cell? ⟨b0,off0+1,none⟩=some (.int .i64 t.item)∧V.cell? ⟨b0,off0+2,none⟩=some (.int .i64 t.frm)∧V.cell? ⟨b0,off0+3,none⟩=some (.int .i64 t.unt)∧V.cell? ⟨b0,off0+4,none⟩=some (.slice B' t.kids.length cp'))∧V.cell? ⟨wr.heap.size,1,none⟩=some (.int .i64 q.no)):=fun V hV=>by
      have hbV:=hV.block b0 hb3w
      exact⟨⟨(World.cell?_of_block (a:=⟨b0,off0,none⟩) hbV).trans m0,(World.cell?_of_block (a:=⟨b0,off0+1,none⟩) hbV).trans m1,(World.cell?_of_block (a:=⟨b0,off0+2,none⟩) hbV).trans m2,(World.cell?_of_block (a:=⟨b0,off0+3,none⟩) hbV).trans m3,(World.cell?_of_block (a:=⟨b0,off0+4,none⟩) hbV).trans m4⟩,(World.cell?_of_block (a:=⟨wr.heap.size,1,none⟩) (hV.block _ hz3l)).trans s1⟩
     clear n0 n1 n2 n3 n4 hbl
     by_cases hf:t.frm=at_
     rotate_left
     ·have g1:(t.frm != at_)=true:=by simpa using hf
      have g2:(t.frm == at_)=false:=by simpa using hf
      have HR9:=Xa (HR.out.trans (S4.out t ks' rfl ht hf))
      clear S1 S2 S3 S4 S5 S6 hfa hlo hhi hf ht0 hsub
      generalize t.rule=a0 at *
      generalize t.item=a1 at *
      generalize t.frm=a2 at *
      generalize t.unt=a3 at *
      generalize t.kids.length=a4 at *
      go_wp2_with fail
      exact bodyPost_ret (v:=.tuple #[.int .i64 0,.bool false]) (by simp[results,Tryz.results69,go_sem]) rfl ⟨by rw[HR9.out],Hb3.out⟩
     ·have g1:(t.frm != at_)=false:=by simpa using hf
      have g2:(t.frm == at_)=true:=by simpa using hf
      have htl:=hsub.out t (List.mem_cons_self ..)
      have hc:=Hih.out t htl ⟨t.rule,t.item,t.frm,t.unt,⟨B',t.kids.length,cp'⟩⟩ q.no w3.drew (HE3.out.ext (Xi (Below.refl _ _))) (ht0.ext (Xb Hb3.out (Xi (Below.refl _ _)))) (Qb Hfl.out t htl) (by have:=Xbu htl;have:=Hnod.out;omega)
      obtain⟨⟨cc,bb⟩,hcc⟩:∃x,X6 g its.xs t q.no=x:=⟨_,rfl⟩
      unfold T5 at hc
      rw[hcc] at hc
      have Hc:=Xa hc
      clear hc ht0
      cases bb
      ·have HR9:=Xa (HR.out.trans (S5.out t ks' rfl ht hf (by rw[hcc])))
       clear S1 S2 S3 S4 S5 S6 hfa hlo hhi hf hcc htl hsub
       generalize t.rule=a0 at *
       generalize t.item=a1 at *
       generalize t.frm=a2 at *
       generalize t.unt=a3 at *
       generalize t.kids.length=a4 at *
       go_wp2_with fail
       refine wpIn_wide (n:=0) |>.1 ?_
       refine Y4 _ ?_ (fun _ _ h=>h)
       refine Xo (fun V=>Below w3.heap.size w3 V) (by kernel_rfl) ?_
       refine Xd (i:=0) rfl (by kernel_rfl) (fun _ _ _ h=>h) (fun V hV=>(by skip;go_simp<;>rfl)) ?_
       refine Xd (i:=1) rfl (by kernel_rfl) (fun _ _ _ h=>h) (fun V hV=>(by skip;go_simp<;>rfl)) ?_
       refine Xd (i:=2) rfl (by kernel_rfl) (fun _ _ _ h=>h) (fun V hV=>(by skip;go_simp<;>rfl)) ?_
       refine Xd (i:=3) (v:=.agg #[.int .i64 a0,.int .i64 a1,.int .i64 a2,.int .i64 a3,.slice B' a4 cp']) rfl (by kernel_rfl) (fun _ _ _ h=>h) (fun V hV=>(by obtain⟨⟨m0,m1,m2,m3,m4⟩,m5⟩:=HC.out V hV;go_simp)) ?_
       refine Xd (i:=4) rfl (by kernel_rfl) (fun _ _ _ h=>h) (fun V hV=>(by obtain⟨⟨m0,m1,m2,m3,m4⟩,m5⟩:=HC.out V hV;go_simp<;>rfl)) ?_
       refine Xd (i:=5) rfl (by kernel_rfl) (fun _ _ _ h=>h) (fun V hV=>(by obtain⟨⟨m0,m1,m2,m3,m4⟩,m5⟩:=HC.out V hV;go_simp<;>rfl)) ?_
       refine Xg (i:=6) (Xi (Below.refl _ _)) (by kernel_rfl) rfl (fun K hK=>?_)
       go_simp
       refine⟨trivial,rfl,callsIn_wide.2 (Hc.out.mono ?_)⟩
       rintro e w4 ⟨rfl,hB4⟩
       refine hK _ _ ?_
       clear hK K
       have hB4':=Xb (Xi (Below.refl w3.heap.size w3)) hB4
       refine Xd (i:=7) rfl (by kernel_rfl) (fun _ _ _ h=>h) (fun V hV=>(by skip;go_simp<;>rfl)) ?_
       refine Xd (i:=8) rfl (by kernel_rfl) (fun _ _ _ h=>h) (fun V hV=>(by skip;go_simp<;>rfl)) ?_
       refine Xd (i:=9) rfl (by kernel_rfl) (fun _ _ _ h=>h) (fun V hV=>(by skip;go_simp<;>rfl)) ?_
       refine Xd (i:=10) rfl (by kernel_rfl) (fun _ _ _ h=>h) (fun V hV=>(by skip;go_simp<;>rfl)) ?_
       refine Xd (i:=11) rfl (by kernel_rfl) (fun _ _ _ h=>h) (fun V hV=>(by skip;go_simp<;>rfl)) ?_
       refine Xl hB4' (by kernel_rfl) ?_ _
       go_wp2_with fail
       exact bodyPost_ret (v:=.tuple #[.int .i64 0,.bool false]) (by simp[results,Tryz.results69,go_sem]) rfl ⟨by rw[HR9.out],Xb Hb3.out (Xb (Xi (Below.refl _ _)) hB4)⟩
      ·have hbd:=Xdp hg hI hcc
       have Hnx:=Xa (S6.out t ks' rfl ht hf cc hcc)
       have hwc:IntKind.i64.wrap (cost+cc)=cost+cc:=by
        have h1:=Hnx.out.lo
        have h2:=Hnx.out.hi
        have h3:=Hnod.out
        exact IntWalk.i64_in _ (by omega)
       have hrs:∀V:World,_:=fun V=>Xoh (some ⟨b0,off0,none⟩) cB (ks'.length+1) V (by omega)
       clear S1 S2 S3 S4 S5 S6 hfa hlo hhi hf hcc htl hbd hsub
       generalize t.rule=a0 at *
       generalize t.item=a1 at *
       generalize t.frm=a2 at *
       generalize t.unt=a3 at *
       generalize t.kids.length=a4 at *
       go_wp2_with fail
       refine wpIn_wide (n:=0) |>.1 ?_
       refine Y4 _ ?_ (fun _ _ h=>h)
       refine Xo (fun V=>Below w3.heap.size w3 V) (by kernel_rfl) ?_
       refine Xd (i:=0) rfl (by kernel_rfl) (fun _ _ _ h=>h) (fun V hV=>(by skip;go_simp<;>rfl)) ?_
       refine Xd (i:=1) rfl (by kernel_rfl) (fun _ _ _ h=>h) (fun V hV=>(by skip;go_simp<;>rfl)) ?_
       refine Xd (i:=2) rfl (by kernel_rfl) (fun _ _ _ h=>h) (fun V hV=>(by skip;go_simp<;>rfl)) ?_
       refine Xd (i:=3) (v:=.agg #[.int .i64 a0,.int .i64 a1,.int .i64 a2,.int .i64 a3,.slice B' a4 cp']) rfl (by kernel_rfl) (fun _ _ _ h=>h) (fun V hV=>(by obtain⟨⟨m0,m1,m2,m3,m4⟩,m5⟩:=HC.out V hV;go_simp)) ?_
       refine Xd (i:=4) rfl (by kernel_rfl) (fun _ _ _ h=>h) (fun V hV=>(by obtain⟨⟨m0,m1,m2,m3,m4⟩,m5⟩:=HC.out V hV;go_simp<;>rfl)) ?_
       refine Xd (i:=5) rfl (by kernel_rfl) (fun _ _ _ h=>h) (fun V hV=>(by obtain⟨⟨m0,m1,m2,m3,m4⟩,m5⟩:=HC.out V hV;go_simp<;>rfl)) ?_
       refine Xg (i:=6) (Xi (Below.refl _ _)) (by kernel_rfl) rfl (fun K hK=>?_)
       go_simp
       refine⟨trivial,rfl,callsIn_wide.2 (Hc.out.mono ?_)⟩
       rintro e w4 ⟨rfl,hB4⟩
       refine hK _ _ ?_
       clear hK K
       have hB4':=Xb (Xi (Below.refl w3.heap.size w3)) hB4
       refine Xd (i:=7) rfl (by kernel_rfl) (fun _ _ _ h=>h) (fun V hV=>(by skip;go_simp<;>rfl)) ?_
       refine Xd (i:=8) rfl (by kernel_rfl) (fun _ _ _ h=>h) (fun V hV=>(by skip;go_simp<;>rfl)) ?_
       refine Xd (i:=9) rfl (by kernel_rfl) (fun _ _ _ h=>h) (fun V hV=>(by skip;go_simp<;>rfl)) ?_
       refine Xd (i:=10) rfl (by kernel_rfl) (fun _ _ _ h=>h) (fun V hV=>(by skip;go_simp<;>rfl)) ?_
       refine Xd (i:=11) rfl (by kernel_rfl) (fun _ _ _ h=>h) (fun V hV=>(by skip;go_simp<;>rfl)) ?_
       refine Xl hB4' (by kernel_rfl) ?_ _
       have o3:=(World.cell?_of_block (a:=⟨b0,off0+3,none⟩) (hB4'.block b0 hb3w)).trans m3
       have HB4:=Xa hB4'
       clear m0 m1 m2 m3 m4 hB4 hB4'
       go_wp2_with fail
       go_still (by kernel_rfl)
       go_wp2_with fail
       go_roundw
       case rel =>
        obtain⟨css2,hk2,hr2⟩:=Xqn (cp:=cB) Hk.out.2.1 Hk.out.1 (by have:=Hk.out.2.2;simpa using this)
        exact⟨p+1,ks',subA (some ⟨b0,off0,none⟩) cB 1 5,cB-1,css2,a3,cost+cc,by omega,by go_num,rfl,rfl,by go_num,Xi (Xb HB3.out HB4.out),Hnx.out,hk2,hr2,by have:=Hk.out.2.2;simp at this;omega⟩
       case measure=>simp[intOf];omega
  ·have hpl:p=ru.parts.xs.length:=by omega
   subst hpl
   have hdn:=Hst.out.done
   have HRd:=Xa (HR.out.trans hdn)
   have hz19:=((Xb Hb12.out hB).block _ (Xc Hz1.out)).trans Hz1.out
   obtain⟨v0,v1,v2,v3,v4⟩:=gb5 hz19
   have HBw:=Xa hBw
   clear hz19 hdn hB hBw
   cases ks with
   | nil =>
    by_cases ha:at_=xu
    ·have g1:(at_ == xu)=true:=by simpa using ha
     have HR9:=Xa (show X6 g its.xs (.node (rn:Int) (-1) xi xu l) c=(cost,true) by rw[HRd.out,decide_eq_true ha];rfl)
     clear HRd ha
     go_wp2_with fail
     go_still (by kernel_rfl)
     go_wp2_with fail
     exact bodyPost_ret (v:=.tuple #[.int .i64 cost,.bool true]) (by simp[results,Tryz.results69,go_sem]) rfl ⟨by rw[HR9.out],Xb HBw.out (Xi (Below.refl _ _))⟩
    ·have g1:(at_ == xu)=false:=by simpa using ha
     have HR9:=Xa (show X6 g its.xs (.node (rn:Int) (-1) xi xu l) c=(cost,false) by rw[HRd.out,decide_eq_false ha];rfl)
     clear HRd ha
     go_wp2_with fail
     go_still (by kernel_rfl)
     go_wp2_with fail
     exact bodyPost_ret (v:=.tuple #[.int .i64 cost,.bool false]) (by simp[results,Tryz.results69,go_sem]) rfl ⟨by rw[HR9.out],Xb HBw.out (Xi (Below.refl _ _))⟩
   | cons t ks' =>
    have l0:(((ks'.length:Nat):Int)+1 == 0)=false:=by simp;omega
    have HR9:=Xa (show X6 g its.xs (.node (rn:Int) (-1) xi xu l) c=(cost,false) by rw[HRd.out];rfl)
    clear HRd
    go_wp2_with fail
    go_still (by kernel_rfl)
    go_wp2_with fail
    exact bodyPost_ret (v:=.tuple #[.int .i64 cost,.bool false]) (by simp[results,Tryz.results69,go_sem]) rfl ⟨by rw[HR9.out],Xb HBw.out (Xi (Below.refl _ _))⟩
theorem Xiq {g:Gram} {its:SlS ItemG} {N:Nat} (hg:Yu g) (hI:Zr N g.cats.xs.length its.xs) {e0:World} (hgl:g.lies e0) (hil:ItemsAt e0 its) (hfew:its.xs.length≤16384) (cb kb wb top:Nat) (P:Nat→Prop) :
  ∀(t:TreeV) (x:TreeG) (c:Int) (w:World),ChEnv e0 cb kb wb top g its N w→TreeAt w P t [.int .i64 x.rule,.int .i64 x.item,.int .i64 x.frm,.int .i64 x.unt,.slice x.kids.addr x.kids.len x.kids.cap]→Z6 t→X5 t≤1024 →
  Calls Tryz.prog 69 #[.pointer (some ⟨cb,0,none⟩),.agg #[.int .i64 x.rule,.int .i64 x.item,.int .i64 x.frm,.int .i64 x.unt,.slice x.kids.addr x.kids.len x.kids.cap],.int .i64 c] w (T5 g its.xs t c w) :=
 TreeV.ind fun r j i u l ih x c w hE ht hfit hnod=>by
  unfold TreeAt at ht
  obtain⟨A,cap,css,e,hcap1,hcap2,hA0,hIn,hr,hkids⟩:=ht
  obtain⟨xr,xj,xi,xu,⟨xa,xl,xc⟩⟩:=x
  simp only[List.cons.injEq,Value.int.injEq,Value.slice.injEq,true_and,and_true] at e
  obtain⟨rfl,rfl,rfl,rfl,rfl,rfl,rfl⟩:=e
  unfold Z6 at hfit
  obtain⟨fr,fj,fi,fu,fl⟩:=hfit
  rw[X5] at hnod
  by_cases hr1:xr = -1
  ·subst hr1
   exact Xpr hil hfew cb kb wb top xj xi xu l xa xc c w hE
  ·by_cases hok:xj = -1∧∃(rn:Nat) (h:rn<g.rules.xs.length),xr=(rn:Int)∧g.rules.xs[rn].no=c
   ·obtain⟨rfl,rn,hlt,rfl,hno⟩:=hok
    exact Xpt hg hI hgl cb kb wb top P rn hlt xi xu l xa xc css c w hE hno hcap1 hr hkids fi fu fl hnod fun t ht x c w=>ih t ht x c w
   ·exact Xre hgl cb kb wb top xr xj xi xu l xa xc c w hE hr1 fun rn h h1 h2 h3=>hok ⟨h1,rn,h,h2,h3⟩
def Xgj (t:TreeV) (k nb:Nat) (w:World) (e:Ending) (w':World):Prop :=
 Only (fun b=>b=nb) w w'∧((k+X5 t≤1024∧e = .returned (.tuple #[])∧w'.heap[nb]? = some (.cells #[.int .i64 ((k+X5 t:Nat):Int)] 3 (0,0)))∨(1024<k+X5 t∧e = .panicked (Q1 2)))
theorem Xcg (l:List TreeV) (m:Nat) (h:m<l.length):Xp (l.take (m+1))=Xp (l.take m)+X5 l[m]:=by
 induction l generalizing m with
 | nil=>simp at h
 | cons t l ih =>
  cases m with
  | zero=>simp[Xp]
  | succ m =>
   have:=ih m (by simpa using h)
   simp only[List.take_succ_cons,Xp,List.getElem_cons_succ,this]
   omega
theorem Xfk (l:List TreeV) (m:Nat):Xp (l.take m)≤Xp l:=by
 induction l generalizing m with
 | nil=>simp
 | cons t l ih =>
  cases m with
  | zero=>simp[Xp]
  | succ m =>
   have:=ih m
   simp only[List.take_succ_cons,Xp]
   omega
set_option maxHeartbeats 1000000 in
theorem Xn5 (P:Nat→Prop) (nb:Nat) (hP:∀b,P b→b≠nb):∀(t:TreeV) (x:TreeG) (k:Nat) (w:World),TreeAt w P t [.int .i64 x.rule,.int .i64 x.item,.int .i64 x.frm,.int .i64 x.unt,.slice x.kids.addr x.kids.len x.kids.cap]→w.heap[nb]? = some (.cells #[.int .i64 (k:Int)] 3 (0,0))→k≤1024 →
  Calls Tryz.prog 68 #[.agg #[.int .i64 x.rule,.int .i64 x.item,.int .i64 x.frm,.int .i64 x.unt,.slice x.kids.addr x.kids.len x.kids.cap],.pointer (some ⟨nb,0,none⟩)] w (Xgj t k nb w) :=
 TreeV.ind fun r j i u l ih x k w ht hn hk=>by
  unfold TreeAt at ht
  obtain⟨A,cap,css,e,hcap1,hcap2,hA0,hIn,hr,hkids⟩:=ht
  obtain⟨xr,xj,xi,xu,⟨xa,xl,xc⟩⟩:=x
  simp only[List.cons.injEq,Value.int.injEq,Value.slice.injEq,true_and,and_true] at e
  obtain⟨rfl,rfl,rfl,rfl,rfl,rfl,rfl⟩:=e
  have hnV:X5 (.node xr xj xi xu l)=1+Xp l:=by rw[X5]
  have HnV:=Xa hnV
  have Hr:=Xa hr
  have Hkids:=Xa hkids
  have HIn:=Xa hIn
  have Hih:=Xa ih
  have hnl:=Xc hn
  obtain⟨w1,hw1⟩:∃w1,w.alloc (.cells #[.int .i64 xr,.int .i64 xj,.int .i64 xi,.int .i64 xu,.slice xa l.length xc] 37)=w1:=⟨_,rfl⟩
  have hn1:w1.heap[nb]? = some (.cells #[.int .i64 (k:Int)] 3 (0,0)):=by rw[← hw1];exact(Below.heap_alloc _ _ _ hnl).trans hn
  have c1:=Xj hn1
  have f1:=Xf hn1 0
  clear hnV hr hkids hIn ih hA0
  go_enter Tryz.func68,Tryz.ntmps68
  go_wp2_with fail
  obtain⟨w2,hw2⟩:∃w2,w1.setCell ⟨nb,0,none⟩ (.int .i64 ((k:Int)+1))=w2:=⟨_,rfl⟩
  have hO1:Only (fun b=>b=nb) w w1:=by rw[← hw1];exact Only.alloc (Only.refl _ _) _
  have hO2:Only (fun b=>b=nb) w w2:=by rw[← hw2];exact Only.setCell (M:=fun j=>j=nb) hO1 (p:=⟨nb,0,none⟩) (.inl rfl) _
  have hn2:w2.heap[nb]? = some (.cells #[.int .i64 (((k+1+Xp (l.take 0):Nat)):Int)] 3 (0,0)):=by rw[← hw2];exact Xr hn1 0 _
  have hz1:=Yv hw1
  have hz2:w2.heap[w.heap.size]? = some (.cells #[.int .i64 xr,.int .i64 xj,.int .i64 xi,.int .i64 xu,.slice xa l.length xc] 37 (0,0)):=by
   rw[← hw2]
   exact((Only.setCell (M:=fun j=>j=nb) (Only.refl _ w1) (p:=⟨nb,0,none⟩) (.inl rfl) _).block _ (Xc hz1) (by show w.heap.size≠nb;omega)).trans hz1
  have y4:=gblk hz2 4
  rw[hw2]
  clear c1 f1 hw1 hw2 hn1 hz1 hO1 hz2
  by_cases hk1:k+1≤1024
  rotate_left
  ·refine(Yg _ _ _ (by simp;omega)).mono ?_
   rintro e w' ⟨rfl,rfl⟩
   exact⟨rfl,hO2,.inr ⟨by rw[HnV.out];omega,rfl⟩⟩
  ·refine(Zz _ _ _ (by simp;omega)).mono ?_
   rintro e w' ⟨rfl,rfl⟩
   go_wp2_with fail
   have Hk1:=Xa hk1
   clear hk1
   go_loopw [19] (fun iv wr=>∃m:Nat,m≤l.length∧iv = .int .i64 m∧Only (fun b=>b=nb) w wr∧wr.heap[nb]? = some (.cells #[.int .i64 ((k+1+Xp (l.take m):Nat):Int)] 3 (0,0))∧Hid (k+1+Xp (l.take m)≤1024)) (fun iv _=>l.length-(intOf iv).toNat)
   case atStart=>exact⟨0,Nat.zero_le _,rfl,hO2,hn2,by show k+1+Xp (l.take 0)≤1024;simpa[Xp] using Hk1.out⟩
   case round =>
    obtain⟨m,hm,rfl,hO,hnm,Hle⟩:=hrel
    by_cases hlt:m<l.length
    ·obtain⟨b,off,B,cp,rfl,hb,htm,q0,q1,q2,q3,q4⟩:=Uz Hr.out Hkids.out hlt
     obtain⟨b',off',e',hPb⟩:=HIn.out (by omega)
     cases e'
     have hbl:=hO.block b hb (hP b hPb)
     have z0:=(World.cell?_of_block (a:=⟨b,off+m*5,none⟩) hbl).trans q0
     have z1:=(World.cell?_of_block (a:=⟨b,off+m*5+1,none⟩) hbl).trans q1
     have z2:=(World.cell?_of_block (a:=⟨b,off+m*5+2,none⟩) hbl).trans q2
     have z3:=(World.cell?_of_block (a:=⟨b,off+m*5+3,none⟩) hbl).trans q3
     have z4:=(World.cell?_of_block (a:=⟨b,off+m*5+4,none⟩) hbl).trans q4
     obtain⟨w3,hw3⟩:∃w3,wr.alloc (.cells #[.int .i64 l[m].rule,.int .i64 l[m].item,.int .i64 l[m].frm,.int .i64 l[m].unt,.slice B l[m].kids.length cp] 37)=w3:=⟨_,rfl⟩
     have hO3:Only (fun b=>b=nb) w w3:=by rw[← hw3];exact hO.alloc _
     have hn3:w3.heap[nb]? = some (.cells #[.int .i64 ((k+1+Xp (l.take m):Nat):Int)] 3 (0,0)):=by rw[← hw3];exact(Below.heap_alloc _ _ _ (Xc hnm)).trans hnm
     have hz3:=Yv hw3
     obtain⟨p0,p1,p2,p3,p4⟩:=gb5 hz3
     have hc:=Hih.out l[m] (List.getElem_mem hlt) ⟨l[m].rule,l[m].item,l[m].frm,l[m].unt,⟨B,l[m].kids.length,cp⟩⟩ (k+1+Xp (l.take m)) w3 (htm.keep (fun b hb' hlt=>hO3.block b hlt (hP b hb')) hO3.size fun _ h=>h) hn3 Hle.out
     have Hc:=Xa hc
     have Htk:=Xa (Xcg l m hlt)
     have HO3:=Xa hO3
     clear q0 q1 q2 q3 q4 hbl htm hc hO3 hn3 hnm hPb hz3
     generalize l[m].rule=a0 at *
     generalize l[m].item=a1 at *
     generalize l[m].frm=a2 at *
     generalize l[m].unt=a3 at *
     generalize l[m].kids.length=a4 at *
     go_wp2_with fail
     refine Hc.out.mono ?_
     rintro e w4 ⟨hO4,h4⟩
     have hOw:Only (fun b=>b=nb) w w4:=HO3.out.trans hO4
     rcases h4 with ⟨h5,rfl,h6⟩|⟨h5,rfl⟩
     ·go_wp2
      go_roundw
      case rel =>
       refine⟨m+1,by omega,by go_num,hOw,?_,?_⟩
       ·rw[Htk.out,← Nat.add_assoc];exact h6
       ·show k+1+Xp (l.take (m+1))≤1024
        rw[Htk.out,← Nat.add_assoc];exact h5
      case measure=>simp[intOf];omega
     ·refine⟨rfl,hOw,.inr ⟨?_,rfl⟩⟩
      rw[HnV.out]
      have h7:=Xfk l (m+1)
      have h8:=Htk.out
      omega
    ·have hm':m=l.length:=by omega
     have Hm:=Xa hm'
     have HO:=Xa hO
     have Hnm:=Xa hnm
     clear hm' hO hnm hm
     go_wp2
     go_end0
     have h1:l.take m=l:=by rw[Hm.out];exact List.take_length
     have h2:=Hnm.out
     have h3:=Hle.out
     rw[h1] at h2 h3
     refine⟨HO.out,.inl ⟨by rw[HnV.out];omega,rfl,?_⟩⟩
     rw[HnV.out,← Nat.add_assoc]
     exact h2
def Xej (g:Gram) (its:SlS ItemG) (n:Int) (t:TreeV) (w:World) (e:Ending) (w':World):Prop :=
 e = .returned (.tuple #[.int .i64 (Vv g its.xs n t).1,.bool (Vv g its.xs n t).2.1,.int .i64 (Vv g its.xs n t).2.2])∧Below w.heap.size w w'
theorem Xct {s k:Nat} {A B:World} (h:Below s A B) (hk:s≤k) (v:Value):Below s A (B.setCell ⟨k,0,none⟩ v):=h.setCell (p:=⟨k,0,none⟩) hk v
set_option maxHeartbeats 4000000 in
theorem Xo7 (g:Gram) (its:SlS ItemG) (n:Int) (P:Nat→Prop) (t:TreeV) (x:TreeG) (w:World) (hT:TabsG w) (hg:g.lies w) (hs:g.short) (hi:ItemsAt w its) (hP:∀b,P b→b<w.heap.size) (ht:TreeAt w P t [.int .i64 x.rule,.int .i64 x.item,.int .i64 x.frm,.int .i64 x.unt,.slice x.kids.addr x.kids.len x.kids.cap]) (hfit:Z6 t) :
  Calls Tryz.prog 21 #[.agg #[.string g.name,.slice g.cats.addr g.cats.xs.length g.cats.cap,.string g.start,.int .i64 g.startNo,.slice g.entries.addr g.entries.xs.length g.entries.cap,.slice g.rules.addr g.rules.xs.length g.rules.cap],.slice its.addr its.xs.length its.cap,.int .i64 n,.agg #[.int .i64 x.rule,.int .i64 x.item,.int .i64 x.frm,.int .i64 x.unt,.slice x.kids.addr x.kids.len x.kids.cap]] w (Xej g its n t w):=by
 obtain⟨W1,hW1⟩:∃W1,((w.alloc (.cells #[.string g.name,.slice g.cats.addr g.cats.xs.length g.cats.cap,.string g.start,.int .i64 g.startNo,.slice g.entries.addr g.entries.xs.length g.entries.cap,.slice g.rules.addr g.rules.xs.length g.rules.cap] 26)).alloc (.cells #[.int .i64 x.rule,.int .i64 x.item,.int .i64 x.frm,.int .i64 x.unt,.slice x.kids.addr x.kids.len x.kids.cap] 37)).alloc (.cells #[.int .i64 0] 33)=W1:=⟨_,rfl⟩
 have hB1:Below w.heap.size w W1:=by rw[← hW1];exact Xe (Xe (Xe (Below.refl _ _) _) _) _
 have hk:W1.heap[w.heap.size]? = some (.cells #[.string g.name,.slice g.cats.addr g.cats.xs.length g.cats.cap,.string g.start,.int .i64 g.startNo,.slice g.entries.addr g.entries.xs.length g.entries.cap,.slice g.rules.addr g.rules.xs.length g.rules.cap] 26 (0,0)):=by rw[← hW1];exact(Below.heap_alloc _ _ _ (by simp;omega)).trans ((Below.heap_alloc _ _ _ (by simp)).trans (World.alloc_heap_new _ _))
 have hx:W1.heap[w.heap.size+1]? = some (.cells #[.int .i64 x.rule,.int .i64 x.item,.int .i64 x.frm,.int .i64 x.unt,.slice x.kids.addr x.kids.len x.kids.cap] 37 (0,0)):=by rw[← hW1];exact(Below.heap_alloc _ _ _ (by simp)).trans (X0 _ _ _ (by simp))
 have he:W1.heap[w.heap.size+2]? = some (.cells #[.int .i64 0] 33 (0,0)):=by rw[← hW1];exact X0 _ _ _ (by simp)
 have HBo:=Xa (fun h0=>Xeo g its n W1 (hT.ext hB1) (hg.ext hB1) hs (hi.ext hB1) h0)
 have HBe:=Xa (fun h0=>Xen g its n W1 (hT.ext hB1) (hg.ext hB1) hs (hi.ext hB1) h0)
 have HG:=Xa (hg.ext hB1)
 have HI:=Xa (hi.ext hB1)
 have Ht:=Xa ht
 have HB1:=Xa hB1
 have He:=Xa he
 have Hk:=Xa hk
 have Hx:=Xa hx
 have hz1:w.heap.size+2<W1.heap.size:=Xc he
 obtain⟨c0,c1,c2,c3,c4,c5⟩:=gb6 hk
 clear hT hg hs hi hk hx he hB1 ht
 by_cases h0:errC g its.xs n=0
 rotate_left
 ·have HR:=Xa (show Vv g its.xs n t=(0,false,errC g its.xs n) by unfold Vv;rw[if_pos h0])
  have H0:=Xa h0
  clear h0
  go_enter_defers Tryz.func21,Tryz.ntmps21
  go_wp2_with fail
  refine(HBe.out H0.out).mono ?_
  rintro e w2 ⟨rfl,hB2⟩
  refine leaves_cons (f:=65) (args:=#[.pointer (some ⟨w.heap.size+2,0,none⟩)]) (by simp) (by simp[go_sem]) ?_
  have hev:w2.heap[w.heap.size+2]? = some (.cells #[.int .i64 0] 33 (0,0)):=(hB2.block _ hz1).trans He.out
  refine(Us _ _ _ _ hev).mono ?_
  rintro e u' w'' ⟨rfl,rfl,rfl⟩
  simp[Leaves,settle,results,Tryz.results21,go_sem,Xj hev]
  refine⟨by rw[HR.out],?_⟩
  exact Xct (Xb HB1.out hB2) (by omega) _
 ·have hA:=Vz h0
  have HA:=Xa hA
  have H0:=Xa h0
  have HR0:=Xa (show Vv g its.xs n t=(if 1024<X5 t then (0,false,2) else if (X6 g its.xs t g.startNo).2=false∨t.frm≠0∨t.unt≠n then (0,false,0) else ((X6 g its.xs t g.startNo).1,true,0)) by unfold Vv;rw[if_neg (by simp[h0])])
  clear h0 hA
  go_enter_defers Tryz.func21,Tryz.ntmps21
  go_wp2_with fail
  refine(HBo.out H0.out).mono ?_
  rintro e w2 ⟨cb,kb,wb,top,rfl,hE,hK2,hB2⟩
  obtain⟨w3,hw3⟩:∃w3,w2.alloc (.cells #[.int .i64 0] 3)=w3:=⟨_,rfl⟩
  have hb3:=Yn hw3
  have hn3:=Yv hw3
  have hB3:=Xb hB2 hb3
  have hx3:=Xh hB3 Hx.out
  obtain⟨d0,d1,d2,d3,d4⟩:=gb5 hx3
  have hsz:=hB2.size
  have hN:=Xn5 P w2.heap.size (fun b hb=>by have:=hP b hb;omega) t x 0 w3 (Ht.out.keep (fun b hb hlt=>(Xb HB1.out hB3).block b hlt) (Xb HB1.out hB3).size fun _ h=>h) hn3 (by omega)
  have HN:Hid (Calls Tryz.prog 68 #[.agg #[.int .i64 x.rule,.int .i64 x.item,.int .i64 x.frm,.int .i64 x.unt,.slice x.kids.addr x.kids.len x.kids.cap],.pointer (some ⟨w2.heap.size,0,none⟩)] (w2.alloc (.cells #[.int .i64 0] 3)) (Xgj t 0 w2.heap.size w3)):=by
   show Calls _ _ _ _ _
   rw[hw3]
   exact hN
  rw[← hw3] at d0 d1 d2 d3 d4
  have HE3:=Xa (hE.ext hb3)
  have HB3:=Xa hB3
  have htop:=hE.top
  clear hw3
  clear hN hE hK2 hB2 hb3 hn3 hx3 hB3
  go_wp2_with fail
  refine HN.out.mono ?_
  rintro e w4 ⟨hO,h4⟩
  have he4:w4.heap[w.heap.size+2]? = some (.cells #[.int .i64 0] 33 (0,0)):=(hO.block _ (Nat.lt_of_lt_of_le hz1 HB3.out.size) (by show w.heap.size+2≠w2.heap.size;omega)).trans ((HB3.out.block _ hz1).trans He.out)
  have hb4:Below w.heap.size w w4:=Yf (Xb HB1.out HB3.out) (Xb HB1.out HB3.out).size hO (by omega)
  rcases h4 with ⟨hle,rfl,hcell⟩|⟨hgt,rfl⟩
  rotate_left
  ·have HR:=Xa (HR0.out.trans (if_pos (by omega)))
   refine leaves_cons (f:=65) (args:=#[.pointer (some ⟨w.heap.size+2,0,none⟩)]) (by simp) (by simp[go_sem]) ?_
   refine(Us _ _ _ _ he4).mono ?_
   rintro e u' w'' ⟨rfl,rfl,rfl⟩
   simp[Leaves,settle,results,Tryz.results21,go_sem,Xj he4]
   exact⟨by rw[HR.out],Xct hb4 (by omega) _⟩
  have HR1:=HR0.out.trans (if_neg (by omega))
  obtain⟨es,cl,hkm⟩:=HE3.out.kmap
  have hE4:=HE3.out.only hO (fun b hb => .inr (by rw[show b=w2.heap.size from hb];exact htop)) ⟨es,cl,(hO.block _ (Xc hkm) (by have:=HE3.out.hk;show kb≠w2.heap.size;omega)).trans hkm⟩
  have hD:=Xiq HA.out.gram HA.out.items HG.out HI.out HA.out.few cb kb wb top P t x g.startNo w4 hE4 (Ht.out.keep (fun b hb hlt=>hb4.block b hlt) hb4.size fun _ h=>h) hfit (by omega)
  unfold T5 at hD
  have HD:=Xa hD
  have hx4:=(hO.block _ (Nat.lt_of_lt_of_le (Xc Hx.out) HB3.out.size) (by show w.heap.size+1≠w2.heap.size;omega)).trans (Xh HB3.out Hx.out)
  have hk4:=(hO.block _ (Nat.lt_of_lt_of_le (Xc Hk.out) HB3.out.size) (by show w.heap.size≠w2.heap.size;omega)).trans (Xh HB3.out Hk.out)
  obtain⟨y0,y1,y2,y3,y4⟩:=gb5 hx4
  have z3:=gblk hk4 3
  have hxf:x.frm=t.frm∧x.unt=t.unt:=by
   have h:=Ht.out
   cases t
   unfold TreeAt at h
   obtain⟨_,_,_,e,_⟩:=h
   simp at e
   exact⟨e.2.2.1,e.2.2.2.1⟩
  obtain⟨hx1,hx2⟩:=hxf
  obtain⟨⟨cc,bb⟩,hcc⟩:∃y,X6 g its.xs t g.startNo=y:=⟨_,rfl⟩
  rw[hcc] at HD HR1
  rw[← hx1,← hx2] at HR1
  have Hx4:=Xa hx4
  have He4:=Xa he4
  have Hb4:=Xa hb4
  have HR1:=Xa HR1
  clear hx4 hk4 he4 hb4 hcell hle hE4 hD hcc hx1 hx2 hO d0 d1 d2 d3 d4 c0 c1 c2 c3 c4 c5 hkm
  go_wp2_with fail
  refine HD.out.mono ?_
  rintro e w5 ⟨rfl,hB5⟩
  have hx5:=Xh hB5 Hx4.out
  obtain⟨v0,v1,v2,v3,v4⟩:=gb5 hx5
  have hev:w5.heap[w.heap.size+2]? = some (.cells #[.int .i64 0] 33 (0,0)):=Xh hB5 He4.out
  have ce:=Xj hev
  have fe:=Xf hev 0
  have HB9:=Xa (Xb Hb4.out hB5)
  have Hev:=Xa hev
  clear hx5 hev hB5 HD y0 y1 y2 y3 y4 z3
  have hend:∀(v:Value) (ok:Bool) (c:Int),Vv g its.xs n t=(c,ok,0)→Xej g its n t w (.returned (.tuple #[.int .i64 c,.bool ok,.int .i64 0])) (w5.setCell ⟨w.heap.size+2,0,none⟩ (.int .i64 0)):=fun _ ok c h=>⟨by rw[h],Xct HB9.out (by omega) _⟩
  have Hend:=Xa hend
  clear hend
  cases bb
  ·have HR:=Xa (HR1.out.trans (if_pos (.inl rfl)))
   clear HR1
   go_wp2_with fail
   refine leaves_cons (f:=65) (args:=#[.pointer (some ⟨w.heap.size+2,0,none⟩)]) (by simp) (by simp[go_sem]) ?_
   refine(Zd _ _).mono ?_
   rintro e u' w'' ⟨rfl,rfl,rfl⟩
   have cs:=Xj (Xr Hev.out 0 (.int .i64 0))
   simp[Leaves,settle,results,Tryz.results21,go_sem,ce]
   exact Hend.out undef _ _ HR.out
  by_cases h1:x.frm=0
  rotate_left
  ·have HR:=Xa (HR1.out.trans (if_pos (.inr (.inl h1))))
   have g1:(x.frm != 0)=true:=by simpa using h1
   have g2:(x.frm == 0)=false:=by simpa using h1
   clear HR1
   go_wp2_with fail
   refine leaves_cons (f:=65) (args:=#[.pointer (some ⟨w.heap.size+2,0,none⟩)]) (by simp) (by simp[go_sem]) ?_
   refine(Zd _ _).mono ?_
   rintro e u' w'' ⟨rfl,rfl,rfl⟩
   have cs:=Xj (Xr Hev.out 0 (.int .i64 0))
   simp[Leaves,settle,results,Tryz.results21,go_sem,ce]
   exact Hend.out undef _ _ HR.out
  have g1:(x.frm != 0)=false:=by simpa using h1
  have g2:(x.frm == 0)=true:=by simpa using h1
  by_cases h2:x.unt=n
  rotate_left
  ·have HR:=Xa (HR1.out.trans (if_pos (.inr (.inr h2))))
   have g3:(x.unt != n)=true:=by simpa using h2
   have g4:(x.unt == n)=false:=by simpa using h2
   clear HR1
   go_wp2_with fail
   refine leaves_cons (f:=65) (args:=#[.pointer (some ⟨w.heap.size+2,0,none⟩)]) (by simp) (by simp[go_sem]) ?_
   refine(Zd _ _).mono ?_
   rintro e u' w'' ⟨rfl,rfl,rfl⟩
   have cs:=Xj (Xr Hev.out 0 (.int .i64 0))
   simp[Leaves,settle,results,Tryz.results21,go_sem,ce]
   exact Hend.out undef _ _ HR.out
  have g3:(x.unt != n)=false:=by simpa using h2
  have g4:(x.unt == n)=true:=by simpa using h2
  have HR:=Xa (HR1.out.trans (if_neg (by simp[h1,h2])))
  clear HR1 h1 h2
  go_wp2_with fail
  refine leaves_cons (f:=65) (args:=#[.pointer (some ⟨w.heap.size+2,0,none⟩)]) (by simp) (by simp[go_sem]) ?_
  refine(Zd _ _).mono ?_
  rintro e u' w'' ⟨rfl,rfl,rfl⟩
  have cs:=Xj (Xr Hev.out 0 (.int .i64 0))
  simp[Leaves,settle,results,Tryz.results21,go_sem,ce]
  exact Hend.out undef _ _ HR.out
def Xx9 (g:Gram) (its:List ItemG) (n:Int) (t:TreeV):List TgP×Int :=
 if (Vv g its n t).2.2≠0 then ([],(Vv g its n t).2.2) else if (Vv g its n t).2.1=false then ([],290) else (Xwm g its t [],0)
def YiPost (g:Gram) (its:List ItemG) (n:Int) (t:TreeV) (w:World) (e:Ending) (w':World):Prop :=
 Below w.heap.size w w'∧∃A k c L,e = .returned (.tuple #[.slice A k c,.int .i64 (Xx9 g its n t).2])∧k=L.length∧RowT w.heap.size (.slice A k c) L w'∧L.map TgG.c=(Xx9 g its n t).1
theorem X7y {g:Gram} {its:List ItemG} {n:Int} {t:TreeV} (h:(Vv g its n t).2.2≠0):Xx9 g its n t=([],(Vv g its n t).2.2):=by unfold Xx9;rw[if_pos h]
theorem X89 {g:Gram} {its:List ItemG} {n:Int} {t:TreeV} (h:(Vv g its n t).2.2=0) (h2:(Vv g its n t).2.1=false):Xx9 g its n t=([],290):=by unfold Xx9;rw[if_neg (fun e=>e h),if_pos h2]
theorem X9a {g:Gram} {its:List ItemG} {n:Int} {t:TreeV} (h:(Vv g its n t).2.2=0) (h2:(Vv g its n t).2.1=true):Xx9 g its n t=(Xwm g its t [],0):=by unfold Xx9;rw[if_neg (fun e=>e h),if_neg (by rw[h2];simp)]
theorem X6w {g:Gram} {its:List ItemG} {n:Int} {t:TreeV} (h:(Vv g its n t).2.2=0) (h2:(Vv g its n t).2.1=true):T3 g its n∧WellT g its t∧X5 t≤1024:=by
 unfold Vv at h h2
 split at h
 ·rename_i he;exact absurd h he
 rename_i he
 rw[if_neg he] at h2
 have ha:=Vz (by simpa using he:errC g its n=0)
 split at h
 ·simp at h
 rename_i hn
 rw[if_neg hn] at h2
 split at h2
 ·simp at h2
 rename_i hd
 have hd2:(X6 g its t g.startNo).2=true:=by
  cases hq:(X6 g its t g.startNo).2 with
  | true=>rfl
  | false=>exact absurd (.inl hq) hd
 exact⟨ha,X42 ha.gram (Xxh ha.check) (by have:=ha.n16;omega) ha.items t g.startNo hd2,by omega⟩
theorem X7f {g:Gram} {n:Int} {x:ItemG} (h:Zo g n x=true):x.tgt.xs.length≤8:=by
 unfold Zo at h
 simp only[Bool.and_eq_true,decide_eq_true_eq] at h
 have:=h.1.1.2.2
 omega
set_option maxHeartbeats 4000000 in
theorem X6p (g:Gram) (its:SlS ItemG) (n:Int) (P:Nat→Prop) (t:TreeV) (x:TreeG) (w:World) (hT:TabsG w) (hg:g.lies w) (hs:g.short) (hi:ItemsAt w its) (hP:∀b,P b→b<w.heap.size) (ht:TreeAt w P t [.int .i64 x.rule,.int .i64 x.item,.int .i64 x.frm,.int .i64 x.unt,.slice x.kids.addr x.kids.len x.kids.cap]) (hfit:Z6 t) :
  Calls Tryz.prog 37 #[.agg #[.string g.name,.slice g.cats.addr g.cats.xs.length g.cats.cap,.string g.start,.int .i64 g.startNo,.slice g.entries.addr g.entries.xs.length g.entries.cap,.slice g.rules.addr g.rules.xs.length g.rules.cap],.slice its.addr its.xs.length its.cap,.int .i64 n,.agg #[.int .i64 x.rule,.int .i64 x.item,.int .i64 x.frm,.int .i64 x.unt,.slice x.kids.addr x.kids.len x.kids.cap]] w (YiPost g its.xs n t w):=by
 obtain⟨W1,hW1⟩:∃W1,w.alloc (.cells #[.string g.name,.slice g.cats.addr g.cats.xs.length g.cats.cap,.string g.start,.int .i64 g.startNo,.slice g.entries.addr g.entries.xs.length g.entries.cap,.slice g.rules.addr g.rules.xs.length g.rules.cap] 26)=W1:=⟨_,rfl⟩
 obtain⟨W2,hW2⟩:∃W2,W1.alloc (.cells #[.int .i64 x.rule,.int .i64 x.item,.int .i64 x.frm,.int .i64 x.unt,.slice x.kids.addr x.kids.len x.kids.cap] 37)=W2:=⟨_,rfl⟩
 have hb1:=Yn hW1
 have hb2:=Yn hW2
 have hk1:=Yv hW1
 have hk2:=Yv hW2
 have hk3:=Xh hb2 hk1
 have hB:=Xb hb1 hb2
 have FC:=Xa (Xo7 g its n P t x W2 (hT.ext hB) (hg.ext hB) hs (hi.ext hB) (fun b hb=>Nat.lt_of_lt_of_le (hP b hb) hB.size) (TreeAt.ext ht hB) hfit)
 have HT:=Xa (TreeAt.ext ht hB)
 have HI:=Xa (hi.ext hB)
 have HG:=Xa (hg.ext hB)
 have HB:=Xa hB
 have Hk2:=Xa hk2
 have Hk3:=Xa hk3
 obtain⟨c0,c1,c2,c3,c4,c5⟩:=gb6 hk3
 obtain⟨d0,d1,d2,d3,d4⟩:=gb5 hk2
 clear hT hg hs hi hP ht hfit hb1 hb2 hk1 hk2 hk3 hB
 go_enter Tryz.func37,Tryz.ntmps37
 go_wp2_with fail
 refine FC.out.mono ?_
 rintro e W3 ⟨rfl,hb3⟩
 have HB3:=Xa (Xb HB.out hb3)
 have hk3:=Xh hb3 Hk3.out
 have hk2:=Xh hb3 Hk2.out
 have hT3:=TreeAt.ext HT.out hb3
 have hI3:=HI.out.ext hb3
 have hG3:=HG.out.ext hb3
 clear c0 c1 c2 c3 c4 c5 d0 d1 d2 d3 d4 FC hW1 hW2 hb3
 by_cases he:(Vv g its.xs n t).2.2=0
 rotate_left
 ·have k1:((Vv g its.xs n t).2.2 != 0)=true:=by simpa using he
  have HY:=Xa (X7y he)
  clear he hk3 hk2 hT3 hI3 hG3
  go_wp2_with fail
  refine bodyPost_ret (v:=.tuple #[.slice none 0 0,.int .i64 (Vv g its.xs n t).2.2]) (by simp[results,Tryz.results37,go_sem]) rfl ?_
  exact⟨HB3.out,none,0,0,[],by rw[HY.out],rfl,RowT.nil _ _,by rw[HY.out];rfl⟩
 cases ho:(Vv g its.xs n t).2.1 with
 | false =>
  have HY:=Xa (X89 he ho)
  rw[he]
  clear he ho hk3 hk2 hT3 hI3 hG3
  go_wp2_with fail
  refine bodyPost_ret (v:=.tuple #[.slice none 0 0,.int .i64 290]) (by simp[results,Tryz.results37,go_sem]) rfl ?_
  exact⟨HB3.out,none,0,0,[],by rw[HY.out],rfl,RowT.nil _ _,by rw[HY.out];rfl⟩
 | true =>
  have HY:=Xa (X9a he ho)
  obtain⟨ha,hw,hn⟩:=X6w he ho
  have hru:=X4s ha.check
  have HP:Hid (∀y∈its.xs,0≤y.frm∧y.frm<y.unt∧y.unt≤16):=fun y hy=>by
   have:=ha.items.place y hy
   have:=ha.n16
   omega
  have HTg:Hid (∀y∈its.xs,y.tgt.xs.length≤8):=fun y hy=>X7f (ha.right y hy)
  have FX:=Xa (fun w5 hw5=>Xx8 (w3:=w5) hG3 hI3 hT3 hw hn HP.out HTg.out hru.1 hru.2 hw5)
  rw[he]
  obtain⟨c0,c1,c2,c3,c4,c5⟩:=gb6 hk3
  obtain⟨d0,d1,d2,d3,d4⟩:=gb5 hk2
  clear he ho ha hw hn hru hk3 hk2 hT3 hI3 hG3
  go_wp2_with fail
  refine(Xzf g its x W3).mono ?_
  rintro e w5 ⟨rfl,hw5⟩
  have hb5:Below W3.heap.size W3 w5:=by rw[← hw5];exact Xe (Xe (Xe (Below.refl _ _) _) _) _
  have FC:=Xa (FX.out w5 hw5)
  clear hw5 c0 c1 c2 c3 c4 c5 d0 d1 d2 d3 d4 FX
  go_wp2_with fail
  refine FC.out.mono ?_
  intro e w6 h6
  obtain⟨A6,n6,c6,L,rfl,hn6,hr6,hl6,hb6⟩:=X1d h6
  have HB6:=Xa (Xb HB3.out (Xb hb5 hb6))
  have Hr6:=Xa (hr6.mono (show w.heap.size≤w5.heap.size from Nat.le_trans HB3.out.size hb5.size))
  have Hl6:=Xa hl6
  have Hn6:=Xa hn6
  clear h6 hr6 hl6 hn6 hb6 hb5 FC
  go_wp2_with fail
  refine bodyPost_ret (v:=.tuple #[.slice A6 n6 c6,.int .i64 0]) (by simp[results,Tryz.results37,go_sem]) rfl ?_
  exact⟨HB6.out,_,_,_,L,by rw[HY.out],Hn6.out,Hr6.out,by rw[HY.out];exact Hl6.out⟩
end Go.Proofs.YtolpbjjapodmnaaGreatDoor
