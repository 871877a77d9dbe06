/- Texts of this claim, one after the other: DraW, GrpP, Law33h, DraV, Law33i, Law33j. -/
import Derived.Test.YtolpbjjapodmnaaGreatDoorM31
import Derived.Test.YtolpbjjapodmnaaGreatDoorM28
import Derived.Test.YtolpbjjapodmnaaGreatDoorM9
import Derived.Test.YtolpbjjapodmnaaGreatDoorM13
import Derived.Test.YtolpbjjapodmnaaGreatDoorM29
namespace Go.Proofs.YtolpbjjapodmnaaGreatDoor
open Go.RowKit Go.Han
set_option maxRecDepth 100000
attribute [local irreducible] wpStill wpQuiet
set_option maxHeartbeats 8000000
def RowS (base:Nat) (v:Value) (L:List ByteArray) (V:World):Prop:=OwnL strD 9 1 V base v L
theorem RowS.made (V:World):RowS V.heap.size (.slice (some ⟨V.heap.size,0,none⟩) 0 0) [] (V.alloc (.cells #[] 9)):=Xwu (World.alloc_heap_new _ _) (Nat.le_refl _)
theorem RowS.append {base:Nat} {v:Value} {L:List ByteArray} {V:World} (h:RowS base v L V) {s:StrS} (hs:s.lies V) (hb:base<=V.heap.size) (hl:L.length+s.xs.length<=1000000) (ty:TypeId) :
  ∃(s':StrS) (V':World),(Builtin.append_ #[22,22] ty #[v,.slice s.addr s.xs.length s.cap]).run Tryz.prog V = .ok (.slice s'.addr s'.xs.length s'.cap) V'/\s'.xs=L++s.xs/\RowS base (.slice s'.addr s'.xs.length s'.cap) s'.xs V'/\s'.lies V'/\Below base V V'/\∀b,b<V.heap.size->v.ownBlock≠some b->V'.heap[b]? = V.heap[b]? := by
 obtain⟨i0,hi0,hz0,hz1,hz2⟩:=info_parts Xff;have hfl:(s.xs.flatMap strD).length=s.xs.length*1:=Y0 strD 1 (fun _=>rfl) s.xs
 have hone:∀u∈s.xs.flatMap strD,u.oneCell'=true:=by
  intro u hu;obtain⟨x,_,hx⟩:=List.mem_flatMap.1 hu;exact Xpt x u hx
 have hrd:Rd V s.addr (s.xs.flatMap strD):=by rw[Tb];exact hs.rd
 obtain⟨v',V',hrun,ho,hg,hat⟩:=Tg (P:=Tryz.prog) (w:=V) base 22 ty 9 i0 (.string ⟨#[]⟩) 1 16 Tryz.underlying22 hi0 hz0 hz1 hz2 rfl (by decide) v L.length (L.flatMap strD) h s.addr s.xs.length s.cap (s.xs.flatMap strD) hfl hrd hone (by unfold maxLen;omega) (by omega) hb;have hB:Below base V V':=(Below.refl base V).grown hg hb fun k hk=>(OwnL.lt h k hk).1
 have ho':OwnL strD 9 1 V' base v' (L++s.xs):=by
  show World.ownsRow _ _ _ _ _ _ _;rw[List.length_append,List.flatMap_append];exact ho
 obtain⟨A',c',rfl,hl'⟩:=Xiw ho';exact⟨⟨A',c',L++s.xs⟩,V',hrun,rfl,ho',hl',hB,fun b hb hn=>hg.block b hb fun e=>hn e.symm⟩
def oneS (b:Nat) (x:ByteArray):StrS:=⟨some ⟨b,0,none⟩,1,[x]⟩
theorem Xlg {V:World} {b:Nat} {x:ByteArray} (h:V.heap[b]? = some (.cells #[.string x] 9 (0,0))):(oneS b x).lies V:=Xaj h rfl (by show 1<=_;omega) rfl
theorem X0e {w:World} {b ty:Nat} {cs:Array Value} {fr:Nat×Nat} {l:List Int} (h:w.heap[b]? = some (.cells cs ty fr)) (hc:∀(j:Nat) (x:Int),l[j]? = some x->cs[j]? = some (.int .i64 x)):NumAt w (some ⟨b,0,none⟩) l:=fun k hk=>by
 refine⟨b,0,rfl,Xd h,fun j hj=>?_⟩;rw[Nat.zero_add,gblk h j];exact hc j _ (List.getElem?_eq_getElem hj)
theorem Xem {w:World} {b ty:Nat} {cs:Array Value} {fr:Nat×Nat} {l:List Int} (h:w.heap[b]? = some (.cells cs ty fr)) (hc:cs.toList=l.map (Value.int .i64)):NumAt w (some ⟨b,0,none⟩) l:=X0e h fun j x hx=>by
 rw[<- Array.getElem?_toList,hc,List.getElem?_map,hx];rfl
theorem Xb6 {s t:SlS TgG} {w:World} (hs:TgsAt w s) (ht:TgsAt w t) (hm:s.xs.map TgG.c=t.xs.map TgG.c):Calls Tryz.prog 39 #[.slice s.addr s.xs.length s.cap,.slice t.addr t.xs.length t.cap] w fun e w'=>e = .returned (.bool true)/\Below w.heap.size w w':=by
 have h:=Xi8 s t w hs ht;rw[decide_eq_true hm] at h;exact h
theorem Xan (s t:SlS TgG) (w:World) (hs:TgsAt w s) (ht:TgsAt w t):Calls Tryz.prog 53 #[.slice s.addr s.xs.length s.cap,.slice t.addr t.xs.length t.cap] w fun e w'=>e = .returned (.bool (decide (t.xs.map TgG.c <+: s.xs.map TgG.c)))/\Below w.heap.size w w':=by
 have hm:s.xs.length<=9223372036854775807:=Nat.le_trans hs.lies.cap hs.lies.max;have hn:t.xs.length<=9223372036854775807:=Nat.le_trans ht.lies.cap ht.lies.max;by_cases hl:t.xs.length<=s.xs.length
 rotate_left
 ·have HF:Hid (decide (t.xs.map TgG.c <+: s.xs.map TgG.c)=false):=decide_eq_false (fun h=>hl (by have:=h.length_le;simpa using this))
  clear hs ht;go_enter Tryz.func53,Tryz.ntmps53
  go_wp2_with fail
  all_goals try (exfalso;omega)
  go_ret;exact⟨by rw[HF.out];rfl,bo_q⟩
 have hrun:=fun W:World=>Xfu s t.xs.length W hs.lies.cap hl;have Hrun:=Xa hrun;have HS:=Xa (Xi8 (s.uptoT t.xs.length) t w (hs.upto hl) ht)
 have HE:Hid (decide ((s.uptoT t.xs.length).xs.map TgG.c=t.xs.map TgG.c)=decide (t.xs.map TgG.c <+: s.xs.map TgG.c)):=by
  show _=_;refine decide_eq_decide.2 ?_;rw[List.prefix_iff_eq_take,List.length_map];show (s.xs.take t.xs.length).map TgG.c=_↔_;rw[List.map_take];exact eq_comm
 clear hs ht hrun;have hrun2:=Hrun.out;go_enter Tryz.func53,Tryz.ntmps53
 go_wp2_with fail
 all_goals try (exfalso;omega)
 refine HS.out.mono ?_;rintro e w3 ⟨rfl,hb3⟩;rw[HE.out];have HB:=Xa hb3;clear hb3;go_wp2_with fail
 go_ret;exact⟨rfl,HB.out⟩
end Go.Proofs.YtolpbjjapodmnaaGreatDoor
/- A group of operations of a drawn region, as XGroupC tells it, the frame being what stands there with the group's own slots. Conditions: none. -/
namespace Go.Han
open Go.RowKit
section
variable {P:Program} {ops:Array Oper} {C:World->Prop} {Q:Exit->Act->World->Prop} {m:Nat}
def Vn (a:Act) (T:List (Nat×Nat×List Nat)) (vals:Nat->Value):Act:=T.foldl (fun b x=>b.put (some x.2.1) (vals x.1)) a
def valsG (a:Act) (T:List (Nat×Nat×List Nat)) (j:Nat):Value:=match T.find? (fun x=>x.1 == j) with
 | some x=>a.tmps.getD x.2.1 undef
 | none=>undef
def StepP (m:Nat) (P:Program) (ops:Array Oper) (C:World->Prop) (Q:Exit->Act->World->Prop) (a:Act) (T:List (Nat×Nat×List Nat)) (Phi:Nat->Value->World->Prop) (x:Nat×Nat×List Nat):Prop :=
 ∃o,ops[x.1]? = some o/\∀(vals:Nat->Value) (V:World),C V->(∀k∈x.2.2,Phi k (vals k) V)->∀K':Act->World->Prop,(∀a' u V',a'=Vn a T (updV vals x.1 u)->C V'->Below V.heap.size V V'->Phi x.1 u V'->K' a' V') ->
  Region.wanted o (yielded ops (Vn a T vals).tmps)=true/\Oper.wpIn Fence.wide m P o (Vn a T vals) V K' Q
theorem Xde {Phi:Nat->Value->World->Prop} (T:List (Nat×Nat×List Nat)) (e:Array Bool) {f n:Nat} {listed:Array Bool} {a:Act} {V:World} (ha:a=Vn a T (valsG a T)) (hP:∀i u V V',Phi i u V->Below V.heap.size V V'->Phi i u V') (hC:C V)
  (hg:Xfe ops (T.map fun x=>(x.1,x.2.2)) e n (T.map fun x=>(x.1,x.2.2)) listed=true) (hs:∀x∈T,StepP m P ops C Q a T Phi x) (hend:∀vals V,C V->(∀x∈T,Phi x.1 (vals x.1) V)->wpAnyC m P ops C Q f e (Vn a T vals) V):wpAnyC m P ops C Q (f+n) listed a V :=
 Xnl _ e (valsG a T) ha hP hC hg (fun y hy=>by
  obtain⟨x,hx,rfl⟩:=List.mem_map.1 hy;obtain⟨o,h1,h2⟩:=hs x hx;exact⟨o,h1,fun vals V hC hp K hK=>h2 vals V hC hp K fun a' u V' e hC' hb hphi=>e ▸ hK u V' hC' hb hphi⟩) fun vals V hC hF=>hend vals V hC fun x hx=>hF _ (List.mem_map_of_mem hx)
theorem Xtd {c:Code} {a a':Act} {w:World} (h:a=a') (k:c.wp P Q a' w):c.wp P Q a w:=by subst h;exact k
def Xln (js:List Nat) (y:Nat->Value) (a:Act):Act:=js.foldl (fun b j=>b.put (some j) (y j)) a
theorem Xbc {F:Fence} {n:Nat} {c:Code} {a:Act} {w:World} (js:List Nat) (Phi:(Nat->Value)->World->Prop) (h:c.wpIn F n P (Exit.then (fun a' v=>a'=Xln js (fun j=>a'.tmps.getD j undef) a/\Phi (fun j=>a'.tmps.getD j undef) v) (fun _ _ _=>False)) a w) (k:∀y v,Phi y v->Q .normal (Xln js y a) v):c.wpIn F n P Q a w :=
 wpIn_mono h (fun e a' v hh=>by
  cases e with
  | normal =>
   obtain⟨h1,h2⟩:=hh;rw[h1];exact k _ v h2
  | _=>exact hh.elim)
end
end Go.Han
namespace Go.Proofs.YtolpbjjapodmnaaGreatDoor
open Go.RowKit Go.Han
set_option maxRecDepth 100000
attribute [local irreducible] wpStill wpQuiet
set_option maxHeartbeats 8000000
def Xho:Prop:=∀W:World,TabsG W->Calls Tryz.prog 46 #[] W fun e w'=>e = .returned (.bool true)/\Below W.heap.size W w'
def DrOut (g:Gram) (l:List Term) (lang:Int) (ws mo:List ByteArray) (k t u:Int) (w:World) (y:Nat->Value) (V:World):Prop :=
 ∃(A:Option Addr) (c:Nat) (L:List TgG),y 22 = .slice A L.length c/\y 23 = .int .i64 ((Uy g l lang ws mo k t u:Nat):Int)/\y 24 = .int .i64 (X7 g l lang ws mo k t u)/\Below w.heap.size w V/\TgsAt V ⟨A,c,L⟩/\L.map TgG.c=Zo g l lang ws mo k t u
theorem X05 {α:Type} (l:List α) (i:Nat) (x:α):x∈l.drop i++l.take i↔x∈l:=by
 rw[List.mem_append,Or.comm,<- List.mem_append,List.take_append_drop]
theorem Xhl (hsane:Xho) (g:Gram) (A:Option Addr) (cp:Nat) (l:List Term) (lang:Int) (s mo:StrS) (k t u:Int) (tn:Nat) (w:World) (hT:TabsG w) (hg:g.lies w) (hgs:g.short) (hr:TermsAt w A l) (hm:l.length<=9223372036854775807) (hs:s.lies w) (hmo:mo.lies w) (hk0 : -9223372036854775808<=k/\k<=9223372036854775807) (htn:tn<=255) :
  Calls Tryz.prog 14 #[g.vl,.slice A l.length cp,.int .i64 lang,.slice s.addr s.xs.length s.cap,.slice mo.addr mo.xs.length mo.cap,.int .i64 k,.int .i64 t,.int .i64 u,.int .u8 (tn:Int)] w fun e w'=>e = .returned (.bool true)/\Below w.heap.size w w':=by
 obtain⟨W1,hW1⟩:∃W1,w.alloc g.ob=W1:=⟨_,rfl⟩
 have hB1:=X5 hW1;have hk:=Yg hW1;have F0:=Xa (hsane W1 (hT.ext hB1));have FS:Hid (∀U,Below w.heap.size w U->_):=fun U hU=>Xgs g A cp l lang s mo k t u U (hT.ext hU) (hg.ext hU) hgs (hr.ext hU) hm (StrS.lies.ext hs hU) (StrS.lies.ext hmo hU) hk0;have FD:Hid (∀(m:StrS) U,Below w.heap.size w U->m.lies U->_):=fun m U hU hmu=>Xce g A cp l lang s m k t u U (hT.ext hU) (hg.ext hU) hgs (hr.ext hU) hm (StrS.lies.ext hs hU) hmu hk0;have Hmo:=Xa hmo;have hmm:mo.xs.length<=9223372036854775807:=Nat.le_trans hmo.cap hmo.max;have Hk:=Xa hk;have HB1:=Xa hB1;clear hT hg hgs hr hm hs hmo hsane hk hB1 hk0;go_enter Tryz.func14,Tryz.ntmps14
 go_wp2_with fail
 clear hW1;refine F0.out.mono ?_;rintro e w2 ⟨rfl,hb2⟩;have HB2:=Xa (Xb HB1.out hb2);have Hk2:=Xa (Xi hb2 Hk.out);have F1:=Xa (FS.out w2 HB2.out);have hk2:=Hk2.out;obtain⟨c0,c1,c2,c3,c4,c5⟩:=gb6 hk2;clear F0 hk2 Hk hb2 HB1 FS;go_wp2_with fail
 refine F1.out.mono ?_;rintro e w3 ⟨hb3,A3,q3,L3,ok,rfl,hT3,hok⟩;have HB3:=Xa (Xb HB2.out hb3);have Hk3:=Xa (Xi hb3 Hk2.out);have HT3:=Xa hT3;have Hok:=Xa hok;clear F1 hb3 hT3 hok c0 c1 c2 c3 c4 c5 Hk2;cases ok
 ·go_wp2_with fail
  go_ret;exact⟨rfl,HB3.out⟩
 by_cases hl0:mo.xs.length=0
 ·have q0:((mo.xs.length:Int) == 0)=true:=by simp[hl0]
  clear hl0;go_wp2_with fail
  go_ret;exact⟨rfl,HB3.out⟩
 have q0:((mo.xs.length:Int) == 0)=false:=by simp;intro h;rw[h] at hl0;exact hl0 rfl
 have q1:¬(mo.xs.length:Int)=0:=by omega
 obtain⟨hn5,hE,hL⟩:=Hok.out rfl;obtain⟨hE1,hE2,hE3⟩:=Tn hE;obtain⟨hm1,hm2,hm3,hm4⟩:=Xa2 hE2
 have h256:mo.xs.length<=256:=by
  unfold Qv at hm1;simp only[Bool.and_eq_true,decide_eq_true_eq] at hm1;exact hm1.1
 have hia:(IntKind.i64.wrap (tn:Int)).tmod (mo.xs.length:Int)=((tn % mo.xs.length:Nat):Int):=by rw[IntWalk.i64_in _ (by omega)];rfl
 have hmod:(tn:Int) % (mo.xs.length:Int)=((tn % mo.xs.length:Nat):Int):=rfl;have hil:tn % mo.xs.length<mo.xs.length:=Nat.mod_lt _ (by omega);generalize tn % mo.xs.length=i at *;have Hmod:=Xa hmod;have Hia:=Xa hia;have Hwa:=Xa (show IntKind.i64.wrap (tn:Int)=(tn:Int) from IntWalk.i64_in _ (by omega));have HE:=Xa hE;have HL:=Xa hL;have Hm4:=Xa hm4;clear hia hmod hE hL hE1 hE2 hE3 hm1 hm4 Hok;have hrf:∀W:World,_:=fun W=>X0q mo i W (by omega);have hru:∀W:World,_:=fun W=>X0r mo i W (by omega) Hmo.out.cap;have Hrf:=Xa hrf;have Hru:=Xa hru;clear hrf hru;have FDc:Hid (∀(m:StrS) V,Below w3.heap.size w3 V->m.lies V->_):=fun m V hV hmv=>FD.out m V (Xb HB3.out hV) hmv;have Hmc:Hid (∀V,Below w3.heap.size w3 V->mo.lies V):=fun V hV=>StrS.lies.ext Hmo.out (Xb HB3.out hV);have hlen:(mo.sub i (mo.xs.length-i)).xs.length=mo.xs.length-i:=StrS.sub_len (by omega);have hlen2:(mo.sub 0 i).xs.length=i:=StrS.sub_len (by omega);have Hln:=Xa hlen;have Hln2:=Xa hlen2;clear FD Hmo hlen hlen2;go_wp2_with fail
 rw[Hmod.out];refine wpIn_wide (n:=0) |>.1 ?_
 refine Xbc [52,53,54,55,56,57,58,59,60,61,62,63,64,65,66,67,68,51,69,70,71,22,23,24] (fun y V=>∃X,X=mo.xs.drop i++mo.xs.take i/\DrOut g l lang s.xs X k t u w3 y V) ?_ ?_
 ·refine Xn (fun V=>Below w3.heap.size w3 V) (by kernel_rfl) ?_
  have hC0:Below w3.heap.size w3 w3.drew:=bd_q;refine Xc (i:=0) (v:=g.vl) (hy:=fun V hV=>(by have hk:=Xi hV Hk3.out;have c0:=gblk hk 0;have c1:=gblk hk 1;have c2:=gblk hk 2;have c3:=gblk hk 3;have c4:=gblk hk 4;have c5:=gblk hk 5;go_simp)) ?_;refine Xc (i:=1) ?_;refine Xc (i:=2) ?_;refine Xc (i:=3) ?_;refine Xc (i:=5) ?_;refine Xc (i:=6) ?_;refine Xc (i:=7) (v:=.slice (mo.sub i (mo.xs.length-i)).addr (mo.xs.length-i) (mo.sub i (mo.xs.length-i)).cap) (hy:=fun V hV=>(by have h7:=Hrf.out V;go_simp)) ?_;refine Xc (i:=9) ?_;refine Xc (i:=10) ?_;refine Xc (i:=11) (v:=.slice (mo.sub 0 i).addr i (mo.sub 0 i).cap) (hy:=fun V hV=>(by have h7:=Hru.out V;go_simp)) ?_;refine Xv (by go_simp;rfl) ?_;refine Xc (i:=13) ?_;refine Xc (i:=14) ?_;refine Xc (i:=15) ?_;refine Xh (i:=4) hC0 fun K hK=>?_;go_simp
  refine hK _ _ ?_;clear hK K;obtain⟨V1,hV1⟩:∃v,(w3.alloc (.cells #[] 9)).drew=v:=⟨_,rfl⟩
  have hR1:RowS w3.heap.size (.slice (some ⟨w3.heap.size,0,none⟩) 0 0) [] V1:=by rw[<- hV1];exact OwnL.ext (RowS.made w3) bd_q
  have hB1:Below w3.heap.size w3 V1:=by rw[<- hV1];exact Xr ba_q
  rw[hV1];clear hV1;obtain⟨s5,V5,hrun,hx5,hR5,hl5,hb5,_⟩:=RowS.append hR1 (StrS.sub_lies (i:=i) (n:=mo.xs.length-i) (Hmc.out _ hB1) (by omega)) hB1.size (by rw[Hln.out,List.length_nil];omega) 22;rw[Hln.out] at hrun;refine Xh (i:=8) hB1 fun K hK=>?_;refine Xt rfl _ _ _ rfl rfl rfl hrun (hK _ _ ?_);clear hK K hrun;have hB5:=hB1.trans hb5;obtain⟨s7,V7,hrun,hx7,_,hl7,hb7,_⟩:=RowS.append hR5 (StrS.sub_lies (i:=0) (n:=i) (Hmc.out _ hB5) (by omega)) hB5.size (by rw[Hln2.out,hx5,List.nil_append,Hln.out];omega) 22;rw[Hln2.out] at hrun;refine Xh (i:=12) hB5 fun K hK=>?_;refine Xt rfl _ _ _ rfl rfl rfl hrun (hK _ _ ?_);clear hK K hrun;have hB7:=hB5.trans hb7
  have hx:s7.xs=mo.xs.drop i++mo.xs.take i:=by
   rw[hx7,hx5,List.nil_append];show (mo.xs.drop i).take (mo.xs.length-i)++(mo.xs.drop 0).take i=_;rw[List.take_of_length_le (by rw[List.length_drop];omega),List.drop_zero]
  have Hx:=Xa hx;clear hx hx7 hx5;have FC:=FDc.out s7 V7 hB7 hl7;refine Xh (i:=16) hB7 fun K hK=>?_;go_simp
  refine⟨trivial,rfl,callsIn_wide.2 (FC.mono ?_)⟩;rintro e V8 ⟨hb8,A8,c8,L8,rfl,hl8,hT8⟩;refine hK _ _ ?_;clear hK K FC;refine Xc (i:=17) ?_;refine Xc (i:=18) ?_;refine Xc (i:=19) ?_;refine Xc (i:=20) ?_;refine Xc (i:=21) ?_;refine Xc (i:=22) ?_;refine Xc (i:=23) ?_;refine Xv (by go_simp;rfl) ?_;exact Xk (Xb hB7 hb8) (by kernel_rfl) ⟨by kernel_rfl,_,Hx.out,A8,c8,L8,rfl,rfl,rfl,Xb hB7 hb8,hT8,hl8⟩ _
 ·rintro y w4 ⟨_,rfl,A8,c8,L8,h22,h23,h24,hb4,hT8,hl8⟩
  obtain⟨o1,o2,o3⟩:=Xod (more':=mo.xs.drop i++mo.xs.take i) HE.out (by rw[List.length_append,List.length_drop,List.length_take];omega) (X05 _ _);rw[o3] at h23;rw[o1] at h24;have HS:=Xa (Xb6 (s:=⟨A3,q3,L3⟩) (t:=⟨A8,c8,L8⟩) (HT3.out.ext hb4) hT8 (by show L3.map _=L8.map _;rw[HL.out,hl8,o2]));have HB4:=Xa (Xb HB3.out hb4);have HM:=Xa (fun W=>Xru s mo k W (by omega) (by omega) (by omega) Hm4.out);simp only[Xln,List.foldl];rw[h22,h23,h24];clear hT8 hl8 o1 o2 o3 hb4 h22 h23 h24;obtain⟨N,hN⟩:∃N,sumP mo.xs.length (kkN s.xs.length k+1)=N:=⟨_,rfl⟩
  rw[hN]
  have HM2:Hid (∀W:World,Calls Tryz.prog 57 #[.slice s.addr s.xs.length s.cap,.slice mo.addr mo.xs.length mo.cap,.int .i64 k] W fun e w'=>e = .returned (.int .i64 (N:Int))/\w'=W):=fun W=>by
   have h:=HM.out W;rw[hN] at h;exact h
  clear hN HM;gi_wp2_with fail
  go_wp2_with fail
  refine HS.out.mono ?_;rintro e w5 ⟨rfl,hb5⟩;have HB5:=Xa (Xb HB4.out hb5);have HM5:=Xa (HM2.out w5);clear hb5 HM2 HS;go_wp2_with fail
  refine HM5.out.mono ?_;rintro e w6 ⟨rfl,rfl⟩;go_wp2_with fail
  go_ret;exact⟨by first|rfl|simp,HB5.out⟩
def Xc7 (LL:List (SlS TgG)):Bool:=decide (256<LL.length) || LL.any fun s=>decide (4096<s.xs.length)
def Xqg (LL:List (SlS TgG)) (w:World) (e:Ending) (w':World):Prop :=
 Below w.heap.size w w'/\∃(A:Option Addr) (c:Nat) (L:List TgG),e = .returned (.tuple #[.slice A L.length c,.int .i64 (if Xc7 LL then 2 else 0)])/\L.map TgG.c=(if Xc7 LL then [] else Yl (LL.map tgL))/\TgsAt w' ⟨A,c,L⟩
theorem Xhi (A:Option Addr) (cp:Nat) (LL:List (SlS TgG)) (w:World) (hr:Rd w A (LL.flatMap slC)) (hm:LL.length<=9223372036854775807) (ht:∀s∈LL,TgsAt w s) :
  Calls Tryz.prog 48 #[.slice A LL.length cp] w (Xqg LL w):=by
 have F1:=Xa (Xu4 A cp LL 107 #[] (fun s=>decide (4096<s.xs.length)) w hr hm (fun _ _=>rfl) (fun W _ x _=>Xrs x W));have hnil:∀W,TgsAt W ⟨none,0,[]⟩:=fun W=>⟨⟨Rd.nil _ _,Nat.le_refl _,by simp,fun _=>rfl⟩,fun x hx=>by cases hx⟩
 have Hnil:=Xa hnil;have Hr:=Xa hr;have Ht:=Xa ht;have hmf:∀(fn:Fn) (first cap:Array Value) (w:World),(Instr.makeFunc fn first cap).run Tryz.prog w = .ok (.func fn first cap) w:=fun _ _ _ _=>rfl;clear hr ht hnil;go_enter Tryz.func48,Tryz.ntmps48
 by_cases h:256<LL.length
 ·have hd:Hid (Xc7 LL=true):=by
   show _=_;unfold Xc7;rw[decide_eq_true h,Bool.true_or]
  go_wp2_with fail
  all_goals try (exfalso;omega)
  go_ret2
  exact⟨bo_q,none,0,[],by rw[hd.out];rfl,by rw[hd.out];rfl,Hnil.out _⟩
 have hma:Xc7 LL=LL.any fun s=>decide (4096<s.xs.length):=by
  unfold Xc7;rw[decide_eq_false h,Bool.false_or]
 have Hma:=Xa hma;clear hma;go_wp2_with fail
 all_goals try (exfalso;omega)
 refine F1.out.mono ?_;rintro e w2 ⟨rfl,hb2⟩;cases hc:LL.any fun s=>decide (4096<s.xs.length)
 ·have Hc:=Xa hc
  have F2:=Xa (Xc0 A cp LL w2 (Hr.out.ext hb2) hm fun y hy=>⟨(Ht.out y hy).ext hb2,by
   have h1:=Hc.out;rw[List.any_eq_false] at h1;have:=h1 y hy;simp at this;omega⟩)
  have HB2:=Xa hb2;clear hc hb2 F1;go_wp2_with fail
  refine F2.out.mono ?_;rintro e w3 ⟨A9,c9,L9,rfl,hl9,ht9,_,_,hb3⟩;have hB3:=Xb HB2.out hb3;have Hl9:=Xa hl9;clear hl9;go_wp2_with fail
  go_ret2
  exact⟨hB3,A9,c9,L9,by rw[Hma.out,Hc.out];rfl,by rw[Hma.out,Hc.out];exact Hl9.out,ht9⟩
 ·have Hc:=Xa hc
  clear hc F1;go_wp2_with fail
  go_ret2
  exact⟨hb2,none,0,[],by rw[Hma.out,Hc.out];rfl,by rw[Hma.out,Hc.out];rfl,Hnil.out _⟩
def Tj:ByteArray:=⟨#[116,104,101]⟩
def Qh:ByteArray:=⟨#[100,111,103]⟩
def bSl3:ByteArray:=⟨#[115,108,101,101,112,115]⟩
def bBa3:ByteArray:=⟨#[98,97,114,107,115]⟩
def P33 (s:ByteArray) (n:Int):TgP:=⟨s,[n], -1⟩
def TgS (X:List TgP) (u:Value) (V:World):Prop:=∃s:SlS TgG,u = .slice s.addr s.xs.length s.cap/\TgsAt V s/\tgL s=X
def TgV (p:TgP) (u:Value) (V:World):Prop:=∃x:TgG,u = .agg #[.string x.text,.slice x.dA x.deps.length x.dc,.int .i64 x.term]/\TgOk V x/\x.c=p
def DpV (n:Int) (u:Value) (V:World):Prop:=∃b,u = .slice (some ⟨b,0,none⟩) 1 1/\NumAt V (some ⟨b,0,none⟩) [n]
def LsV (X:List (List TgP)) (u:Value) (V:World):Prop:=∃(A:Option Addr) (c:Nat) (LL:List (SlS TgG)),u = .slice A LL.length c/\Rd V A (LL.flatMap slC)/\(∀s∈LL,TgsAt V s)/\LL.map tgL=X
def CmV (X:List TgP) (u:Value) (V:World):Prop:=∃(A:Option Addr) (c:Nat) (L:List TgG),u = .tuple #[.slice A L.length c,.int .i64 0]/\L.map TgG.c=X/\TgsAt V ⟨A,c,L⟩
section
variable {V V':World} {u:Value}
theorem TgS.ext {X:List TgP} (h:TgS X u V) (hb:Below V.heap.size V V'):TgS X u V':=let ⟨s,h1,h2,h3⟩:=h;⟨s,h1,h2.ext hb,h3⟩
theorem TgV.ext {p:TgP} (h:TgV p u V) (hb:Below V.heap.size V V'):TgV p u V':=let ⟨s,h1,h2,h3⟩:=h;⟨s,h1,h2.ext hb,h3⟩
theorem DpV.ext {n:Int} (h:DpV n u V) (hb:Below V.heap.size V V'):DpV n u V':=let ⟨b,h1,h2⟩:=h;⟨b,h1,h2.ext hb⟩
theorem LsV.ext {X:List (List TgP)} (h:LsV X u V) (hb:Below V.heap.size V V'):LsV X u V':=let ⟨A,c,LL,h1,h2,h3,h4⟩:=h;⟨A,c,LL,h1,h2.ext hb,fun s hs=>(h3 s hs).ext hb,h4⟩
theorem CmV.ext {X:List TgP} (h:CmV X u V) (hb:Below V.heap.size V V'):CmV X u V':=let ⟨A,c,L,h1,h2,h3⟩:=h;⟨A,c,L,h1,h2,h3.ext hb⟩
theorem DpV.new (n:Int) (V:World):DpV n (.slice (some ⟨V.heap.size,0,none⟩) 1 1) (V.alloc (.cells #[.int .i64 n] 3)):=⟨_,rfl,Xem (World.alloc_heap_new _ _) rfl⟩
theorem TgV.of {b:Nat} {n:Int} (s:ByteArray) (h:NumAt V (some ⟨b,0,none⟩) [n]):TgV (P33 s n) (.agg #[.string s,.slice (some ⟨b,0,none⟩) 1 1,.int .i64 (-1)]) V:=⟨⟨s,some ⟨b,0,none⟩,1,[n], -1⟩,rfl,⟨h,by show 1<=_;omega⟩,rfl⟩
theorem Xa7 {L:List TgG} {cs:Array Value} (hc:cs.toList=L.flatMap TgG.cells) (hl:∀x∈L,TgOk V x) {n:Nat} (hn:L.length=n) (hm:n<=1000):TgS (L.map TgG.c) (.slice (some ⟨V.heap.size,0,none⟩) n n) (V.alloc (.cells cs 75)):=by
 subst hn;exact⟨⟨some ⟨V.heap.size,0,none⟩,L.length,L⟩,rfl,⟨⟨Zg (World.alloc_heap_new _ _) hc,Nat.le_refl _,by show L.length<=_;omega,fun h=>by cases h⟩,fun x hx=>(hl x hx).ext ba_q⟩,rfl⟩
theorem Xz4 {LL:List (SlS TgG)} {cs:Array Value} (hc:cs.toList=LL.flatMap slC) (hl:∀s∈LL,TgsAt V s) {n:Nat} (hn:LL.length=n):LsV (LL.map tgL) (.slice (some ⟨V.heap.size,0,none⟩) n n) (V.alloc (.cells cs 65)):=by
 subst hn;exact⟨_,_,LL,rfl,Zg (World.alloc_heap_new _ _) hc,fun s hs=>(hl s hs).ext ba_q,rfl⟩
end
theorem Xq4 {X:List (List TgP)} {Y:List TgP} {u:Value} {V:World} (h:LsV X u V) (hX:X.length<=256/\∀x∈X,x.length<=4096) (hY:Yl X=Y):Calls Tryz.prog 48 #[u] V fun e w'=>∃v,e = .returned v/\CmV Y v w'/\Below V.heap.size V w':=by
 obtain⟨A,c,LL,rfl,h2,h3,h4⟩:=h;have hl:LL.length<=256:=by have:=hX.1;rw[<- h4,List.length_map] at this;exact this
 have hd:Xc7 LL=false:=by
  unfold Xc7;rw[decide_eq_false (by omega),Bool.false_or,List.any_eq_false];intro s hs;have:=hX.2 (tgL s) (by rw[<- h4];exact List.mem_map_of_mem hs);rw[show (tgL s).length=s.xs.length from List.length_map _] at this;simp;omega
 refine(Xhi A c LL V h2 (by omega) h3).mono ?_;rintro e w' ⟨hb,A9,c9,L,rfl,hl9,ht⟩;rw[hd] at hl9 ⊢;exact⟨_,rfl,⟨A9,c9,L,rfl,by rw[hl9];simp only[Bool.false_eq_true,if_false];rw[h4,hY],ht⟩,hb⟩
theorem Xtv {G:Gram} {ws mo:StrS} {k E n:Int} {L0:List TgP} (hE:X7 G [] 1 ws.xs mo.xs k 0 0=E) (hN:(Uy G [] 1 ws.xs mo.xs k 0 0:Int)=n) (hL:Zo G [] 1 ws.xs mo.xs k 0 0=L0) (hk : -9223372036854775808<=k/\k<=9223372036854775807) (V:World) (hT:TabsG V) (hg:G.lies V) (hs:G.short) (hw:ws.lies V) (hm:mo.lies V) :
  Calls Tryz.prog 51 #[G.vl,.slice none 0 0,.int .i64 1,.slice ws.addr ws.xs.length ws.cap,.slice mo.addr mo.xs.length mo.cap,.int .i64 k,.int .i64 0,.int .i64 0] V fun e w'=>∃(A:Option Addr) (c:Nat) (L:List TgG),e = .returned (.tuple #[.slice A L.length c,.int .i64 n,.int .i64 E])/\L.map TgG.c=L0/\TgsAt w' ⟨A,c,L⟩/\Below V.heap.size V w':=by
 refine(Xce G none 0 [] 1 ws mo k 0 0 V hT hg hs (TermsAt.nil V none) (by simp) hw hm hk).mono ?_;rintro e w' ⟨hb,A,c,L,rfl,hl,ht⟩;rw[hE,hN];exact⟨A,c,L,rfl,hl.trans hL,ht,hb⟩
theorem Xmu {G:Gram} {ws mo:StrS} {k E:Int} (hE:X7 G [] 1 ws.xs mo.xs k 0 0=E) (h0:E≠0) (hk : -9223372036854775808<=k/\k<=9223372036854775807) (V:World) (hT:TabsG V) (hg:G.lies V) (hs:G.short) (hw:ws.lies V) (hm:mo.lies V) :
  Calls Tryz.prog 51 #[G.vl,.slice none 0 0,.int .i64 1,.slice ws.addr ws.xs.length ws.cap,.slice mo.addr mo.xs.length mo.cap,.int .i64 k,.int .i64 0,.int .i64 0] V fun e w'=>∃(A:Option Addr) (c:Nat) (L:List TgG),e = .returned (.tuple #[.slice A L.length c,.int .i64 0,.int .i64 E])/\L.map TgG.c=[]/\TgsAt w' ⟨A,c,L⟩/\Below V.heap.size V w' :=
 Xtv hE (by unfold Uy;rw[if_pos (by rw[hE];exact h0)];rfl) (by unfold Zo;rw[if_pos (by rw[hE];exact h0)]) hk V hT hg hs hw hm
theorem mk_257 (w:World):(Instr.makeSlice 86 (.int .i64 257) (.int .i64 257)).run Tryz.prog w = .ok (.slice (some ⟨w.heap.size,0,none⟩) 257 257) (w.alloc (.cells (Array.replicate 257 (.slice none 0 0)) 65)):=by
 have h:=run_make_row' (P:=Tryz.prog) 86 65 (.slice none 0 0) 24 Tryz.underlying86 (by kernel_rfl) rfl .i64 .i64 257 (by omega) (by omega) w;rw[Xk8] at h;exact h
theorem Xz6 (w:World):Calls Tryz.prog 48 #[.slice (some ⟨w.heap.size,0,none⟩) 257 257] (w.alloc (.cells (Array.replicate 257 (.slice none 0 0)) 65)) fun e w'=>∃A c,e = .returned (.tuple #[.slice A 0 c,.int .i64 2])/\Below w.heap.size w w':=by
 have hLL:(List.replicate 257 (⟨none,0,[]⟩:SlS TgG)).length=257:=List.length_replicate
 have h:=Xhi (some ⟨w.heap.size,0,none⟩) 257 (List.replicate 257 ⟨none,0,[]⟩) (w.alloc (.cells (Array.replicate 257 (.slice none 0 0)) 65)) (Zg (World.alloc_heap_new _ _) (by kernel_rfl)) (by rw[hLL];omega) (fun s hs=>by
  rw[List.mem_replicate] at hs;rw[hs.2];exact⟨⟨Rd.nil _ _,Nat.le_refl _,by simp,fun _=>rfl⟩,fun x hx=>by cases hx⟩)
 rw[hLL] at h;refine h.mono ?_;have hd:Xc7 (List.replicate 257 (⟨none,0,[]⟩:SlS TgG))=true:=by unfold Xc7;rw[hLL];rfl
 rintro e w' ⟨hb,A,c,L,rfl,hl,_⟩;rw[hd] at hl ⊢;obtain rfl:L=[]:=List.map_eq_nil_iff.1 hl;exact⟨A,c,rfl,Xb ba_q hb⟩
def Xtk:Nat->Value->World->Prop
 | 2,u,V|7,u,V=>DpV 2 u V
 | 3,u,V=>TgV (P33 bSl3 2) u V
 | 8,u,V=>TgV (P33 bBa3 2) u V
 | 4,u,V=>TgS [P33 Tj 0,P33 Qh 1,P33 bSl3 2] u V
 | 9,u,V=>TgS [P33 Tj 0,P33 Qh 1,P33 bBa3 2] u V
 | 10,u,V=>LsV [[P33 Tj 0,P33 Qh 1,P33 bSl3 2],[P33 Tj 0,P33 Qh 1,P33 bBa3 2]] u V
 | 11,u,V=>CmV [P33 Tj 0,P33 Qh 1] u V
 | _,_,_=>True
theorem Xwv (i:Nat) (u:Value) (V V':World) (h:Xtk i u V) (hb:Below V.heap.size V V'):Xtk i u V':=by
 unfold Xtk at h ⊢;split at h<;>first|exact h.ext hb|trivial
def Xtl:Nat->Value->World->Prop
 | 2,u,V=>TgS [P33 Tj 0,P33 Qh 1] u V
 | 4,u,V=>DpV 0 u V
 | 5,u,V=>TgV (P33 Qh 0) u V
 | 6,u,V=>TgS [P33 Tj 0,P33 Qh 0] u V
 | 7,u,V=>LsV [[P33 Tj 0,P33 Qh 1],[P33 Tj 0,P33 Qh 0]] u V
 | 8,u,V=>CmV [P33 Tj 0] u V
 | _,_,_=>True
theorem Xww (i:Nat) (u:Value) (V V':World) (h:Xtl i u V) (hb:Below V.heap.size V V'):Xtl i u V':=by
 unfold Xtl at h ⊢;split at h<;>first|exact h.ext hb|trivial
theorem Vm (V:World):StrS.lies V ⟨none,0,[]⟩:=⟨Rd.nil _ _,Nat.le_refl _,by show (0:Nat)<=_;omega,fun _=>rfl⟩
theorem Xwk {V:World}:noG3.lies V :=
 ⟨Vm V,⟨Rd.nil _ _,Nat.le_refl _,by show (0:Nat)<=_;omega,fun _=>rfl⟩,fun x hx=>(by cases hx),⟨Rd.nil _ _,Nat.le_refl _,by show (0:Nat)<=_;omega,fun _=>rfl⟩,fun x hx=>(by cases hx)⟩
theorem Xr2:noG3.short :=
 ⟨fun s hs=>(by cases hs),Nat.zero_le _,fun x hx=>(by cases hx),fun x hx=>(by cases hx),fun x hx=>(by cases hx)⟩
theorem Xsv:Xho:=by
 intro W hT;have HT:=Xa (fun V (hV:Below W.heap.size W V)=>hT.ext hV);clear hT;go_enter Tryz.func46,Tryz.ntmps46
 go_wp2_with fail
 refine(Xpe W).mono ?_;rintro e p1 ⟨G,rfl,hg,hb1,A,hG⟩;have HG:=Xa hG;have Hg:=Xa hg;have HB1:=Xa hb1;clear hG hg hb1
 go_upto_region 2 with fail
 obtain⟨p2,hp2⟩:∃v,p1.alloc G.ob=v:=⟨_,rfl⟩
 obtain⟨q2,hq2⟩:∃v,p2.alloc (.cells #[.int .i64 0] 3)=v:=⟨_,rfl⟩
 have b2:=X5 hp2;have k2:=Yg hp2;have c2:=X5 hq2;have n2:NumAt q2 (some ⟨p2.heap.size,0,none⟩) [0]:=Xem (show q2.heap[p2.heap.size]? = some (.cells #[.int .i64 0] 3 (0,0)) by rw[<- hq2];exact World.alloc_heap_new _ _) rfl;have HB2:=Xa (Xb HB1.out (Xb b2 c2));have Hk2:=Xa (Xi c2 k2);have Hg2:=Xa (Hg.out.ext (Xb b2 c2));have HN:=Xa n2;clear b2 k2 c2 n2 HB1 Hg;go_wp2_with fail
 clear hp2 hq2;refine(Td ⟨#[116,104,101]⟩ (some ⟨p2.heap.size,0,none⟩) 1 1 q2).mono ?_;rintro e p3 ⟨rfl,b3⟩;obtain⟨q3,hq3⟩:∃v,p3.alloc (.cells #[.int .i64 1] 3)=v:=⟨_,rfl⟩
 have c3:=X5 hq3;have n3:NumAt q3 (some ⟨p3.heap.size,0,none⟩) [1]:=Xem (show q3.heap[p3.heap.size]? = some (.cells #[.int .i64 1] 3 (0,0)) by rw[<- hq3];exact World.alloc_heap_new _ _) rfl;have HM:=Xa n3;have HB3:=Xa (Xb HB2.out (Xb b3 c3));have Hb3:=Xa (Xb b3 c3);clear b3 c3 n3;go_wp2_with fail
 clear hq3;refine(Td ⟨#[100,111,103]⟩ (some ⟨p3.heap.size,0,none⟩) 1 1 q3).mono ?_;rintro e p4 ⟨rfl,b4⟩
 go_upto_region 3 with fail
 obtain⟨w4,hw4⟩:∃v,(p4.alloc (.cells #[.string ⟨#[116,104,101]⟩,.slice (some ⟨p2.heap.size,0,none⟩) 1 1,.int .i64 (-1)] 75)).alloc (.cells #[.string ⟨#[100,111,103]⟩,.slice (some ⟨p3.heap.size,0,none⟩) 1 1,.int .i64 (-1)] 75)=v:=⟨_,rfl⟩
 have b5:Below p4.heap.size p4 w4:=by rw[<- hw4];exact Xg ba_q _
 have k3:w4.heap[p4.heap.size]? = some (.cells #[.string ⟨#[116,104,101]⟩,.slice (some ⟨p2.heap.size,0,none⟩) 1 1,.int .i64 (-1)] 75 (0,0)):=by rw[<- hw4];exact(Below.heap_alloc _ _ _ (by simp)).trans (World.alloc_heap_new _ _)
 have k4:w4.heap[p4.heap.size+1]? = some (.cells #[.string ⟨#[100,111,103]⟩,.slice (some ⟨p3.heap.size,0,none⟩) 1 1,.int .i64 (-1)] 75 (0,0)):=by rw[<- hw4];exact Xo _ _ _ (by simp)
 have HC:Hid (∀V,Below w4.heap.size w4 V->V.heap[p4.heap.size]? = some (.cells #[.string ⟨#[116,104,101]⟩,.slice (some ⟨p2.heap.size,0,none⟩) 1 1,.int .i64 (-1)] 75 (0,0))/\V.heap[p4.heap.size+1]? = some (.cells #[.string ⟨#[100,111,103]⟩,.slice (some ⟨p3.heap.size,0,none⟩) 1 1,.int .i64 (-1)] 75 (0,0))):=fun V hV=>⟨Xi hV k3,Xi hV k4⟩
 obtain⟨x1,hx1⟩:∃x:TgG,x=⟨Tj,some ⟨p2.heap.size,0,none⟩,1,[0], -1⟩:=⟨_,rfl⟩
 obtain⟨x2,hx2⟩:∃x:TgG,x=⟨Qh,some ⟨p3.heap.size,0,none⟩,1,[1], -1⟩:=⟨_,rfl⟩
 have HX:Hid (∀V,Below w4.heap.size w4 V->TgOk V x1/\TgOk V x2):=fun V hV=>by
  subst hx1 hx2;exact⟨⟨HN.out.ext (Xb Hb3.out (Xb b4 (Xb b5 hV))),by show 1<=_;omega⟩,⟨HM.out.ext (Xb b4 (Xb b5 hV)),by show 1<=_;omega⟩⟩
 have Hx1:=Xa hx1;have Hx2:=Xa hx2;have HB4:=Xa (Xb HB3.out (Xb b4 b5))
 have Hk4:Hid (∀V,Below w4.heap.size w4 V->V.heap[p1.heap.size]? = some G.ob/\G.lies V):=fun V hV=>by
  have h:=Xb Hb3.out (Xb b4 (Xb b5 hV));exact⟨Xi h Hk2.out,Hg2.out.ext h⟩
 rw[hw4];clear hw4 b4 b5 k3 k4 hx1 hx2 HN HM Hk2 Hg2 Hb3 HB3;refine wpIn_wide (n:=0) |>.1 ?_
 refine Xbc [39,40,41,42,43,44,45,46,47,48,49,50,38,51,52,4,5] (fun y V=>∃(A:Option Addr) (c:Nat) (L:List TgG),y 4 = .slice A L.length c/\y 5 = .int .i64 0/\L.map TgG.c=[P33 Tj 0,P33 Qh 1]/\TgsAt V ⟨A,c,L⟩/\Below w4.heap.size w4 V) ?_ ?_
 ·refine Xn (fun V=>Below w4.heap.size w4 V) (by kernel_rfl) ?_
  have hC0:Below w4.heap.size w4 w4.drew:=bd_q;refine Xc (i:=0) (hy:=fun V hV=>(by obtain⟨h1,h2⟩:=HC.out V hV;have d0:=gblk h1 0;have d1:=gblk h1 1;have d2:=gblk h1 2;have f0:=gblk h2 0;have f1:=gblk h2 1;have f2:=gblk h2 2;go_simp<;>rfl)) ?_;refine Xc (i:=1) (hy:=fun V hV=>(by obtain⟨h1,h2⟩:=HC.out V hV;have d0:=gblk h1 0;have d1:=gblk h1 1;have d2:=gblk h1 2;have f0:=gblk h2 0;have f1:=gblk h2 1;have f2:=gblk h2 2;go_simp<;>rfl)) ?_;refine Xc (i:=5) (hy:=fun V hV=>(by obtain⟨h1,h2⟩:=HC.out V hV;have d0:=gblk h1 0;have d1:=gblk h1 1;have d2:=gblk h1 2;have f0:=gblk h2 0;have f1:=gblk h2 1;have f2:=gblk h2 2;go_simp<;>rfl)) ?_;refine Xc (i:=6) (hy:=fun V hV=>(by obtain⟨h1,h2⟩:=HC.out V hV;have d0:=gblk h1 0;have d1:=gblk h1 1;have d2:=gblk h1 2;have f0:=gblk h2 0;have f1:=gblk h2 1;have f2:=gblk h2 2;go_simp<;>rfl)) ?_;refine Xv (by go_simp;rfl) ?_;refine Xde (Phi:=Xtk) [(2,41,[]),(3,42,[2]),(4,43,[3]),(7,46,[]),(8,47,[7]),(9,48,[8]),(10,49,[4,9]),(11,50,[10])] #[true,true,true,true,true,true,true,true,true,true,true,true,false,false,false,false,false] (f:=5) (n:=8) (by kernel_rfl) Xwv hC0 (by kernel_rfl) ?_ ?_
  ·intro x hx
   simp only[List.mem_cons,List.not_mem_nil,or_false] at hx;rcases hx with rfl|rfl|rfl|rfl|rfl|rfl|rfl|rfl
   ·refine⟨_,rfl,fun vals V hC _ K hK=>⟨by kernel_rfl,?_⟩⟩
    simp only[Vn,List.foldl];go_simp
    exact hK _ _ _ (by kernel_rfl) (Xg hC _) ba_q (DpV.new 2 V)
   ·refine⟨_,rfl,fun vals V hC hp K hK=>⟨by kernel_rfl,?_⟩⟩
    obtain⟨b,h2,n2⟩:=hp 2 (by simp);simp only[Vn,List.foldl];rw[h2];go_simp
    refine⟨trivial,rfl,callsIn_wide.2 ((Td ⟨#[115,108,101,101,112,115]⟩ (some ⟨b,0,none⟩) 1 1 V).mono ?_)⟩;rintro e V' ⟨rfl,hb⟩;rw[<- h2];exact hK _ _ _ (by kernel_rfl) (Xb hC hb) hb (h2 ▸ TgV.of _ (n2.ext hb))
   ·refine⟨_,rfl,fun vals V hC hp K hK=>⟨by kernel_rfl,?_⟩⟩
    obtain⟨x3,h3,k3,c3⟩:=hp 3 (by simp);obtain⟨k1,k2⟩:=HX.out V hC;simp only[Vn,List.foldl];rw[h3];go_simp
    rw[<- h3];refine hK _ (.slice (some ⟨V.heap.size,0,none⟩) 3 3) _ (by kernel_rfl) (Xg hC _) ba_q ?_
    have h:=Xa7 (V:=V) (L:=[x1,x2,x3]) (n:=3) (cs:=#[.string ⟨#[116,104,101]⟩,.slice (some ⟨p2.heap.size,0,none⟩) 1 1,.int .i64 (-1),.string ⟨#[100,111,103]⟩,.slice (some ⟨p3.heap.size,0,none⟩) 1 1,.int .i64 (-1),.string x3.text,.slice x3.dA x3.deps.length x3.dc,.int .i64 x3.term]) (by rw[Hx1.out,Hx2.out];rfl) (fun x hx=>by
     simp only[List.mem_cons,List.not_mem_nil,or_false] at hx;rcases hx with rfl|rfl|rfl<;>assumption) rfl (by omega)
    simp only[List.map_cons,List.map_nil,c3] at h;rw[Hx1.out,Hx2.out] at h;exact h
   ·refine⟨_,rfl,fun vals V hC _ K hK=>⟨by kernel_rfl,?_⟩⟩
    simp only[Vn,List.foldl];go_simp
    exact hK _ _ _ (by kernel_rfl) (Xg hC _) ba_q (DpV.new 2 V)
   ·refine⟨_,rfl,fun vals V hC hp K hK=>⟨by kernel_rfl,?_⟩⟩
    obtain⟨b,h2,n2⟩:=hp 7 (by simp);simp only[Vn,List.foldl];rw[h2];go_simp
    refine⟨trivial,rfl,callsIn_wide.2 ((Td ⟨#[98,97,114,107,115]⟩ (some ⟨b,0,none⟩) 1 1 V).mono ?_)⟩;rintro e V' ⟨rfl,hb⟩;rw[<- h2];exact hK _ _ _ (by kernel_rfl) (Xb hC hb) hb (h2 ▸ TgV.of _ (n2.ext hb))
   ·refine⟨_,rfl,fun vals V hC hp K hK=>⟨by kernel_rfl,?_⟩⟩
    obtain⟨x3,h3,k3,c3⟩:=hp 8 (by simp);obtain⟨k1,k2⟩:=HX.out V hC;simp only[Vn,List.foldl];rw[h3];go_simp
    rw[<- h3];refine hK _ (.slice (some ⟨V.heap.size,0,none⟩) 3 3) _ (by kernel_rfl) (Xg hC _) ba_q ?_
    have h:=Xa7 (V:=V) (L:=[x1,x2,x3]) (n:=3) (cs:=#[.string ⟨#[116,104,101]⟩,.slice (some ⟨p2.heap.size,0,none⟩) 1 1,.int .i64 (-1),.string ⟨#[100,111,103]⟩,.slice (some ⟨p3.heap.size,0,none⟩) 1 1,.int .i64 (-1),.string x3.text,.slice x3.dA x3.deps.length x3.dc,.int .i64 x3.term]) (by rw[Hx1.out,Hx2.out];rfl) (fun x hx=>by
     simp only[List.mem_cons,List.not_mem_nil,or_false] at hx;rcases hx with rfl|rfl|rfl<;>assumption) rfl (by omega)
    simp only[List.map_cons,List.map_nil,c3] at h;rw[Hx1.out,Hx2.out] at h;exact h
   ·refine⟨_,rfl,fun vals V hC hp K hK=>⟨by kernel_rfl,?_⟩⟩
    obtain⟨s1,h1,k1,e1⟩:=hp 4 (by simp);obtain⟨s2,h2,k2,e2⟩:=hp 9 (by simp);simp only[Vn,List.foldl];rw[h1,h2];go_simp
    rw[<- h1,<- h2];refine hK _ (.slice (some ⟨V.heap.size,0,none⟩) 2 2) _ (by kernel_rfl) (Xg hC _) ba_q ?_;rw[h1,h2]
    have h:=Xz4 (V:=V) (LL:=[s1,s2]) (n:=2) (cs:=#[.slice s1.addr s1.xs.length s1.cap,.slice s2.addr s2.xs.length s2.cap]) rfl (fun s hs=>by
     simp only[List.mem_cons,List.not_mem_nil,or_false] at hs;rcases hs with rfl|rfl<;>assumption) rfl
    simp only[List.map_cons,List.map_nil,e1,e2] at h;exact h
   ·refine⟨_,rfl,fun vals V hC hp K hK=>⟨by kernel_rfl,?_⟩⟩
    have h1:LsV _ _ _:=hp 10 (by simp);simp only[Vn,List.foldl];go_simp
    refine⟨trivial,rfl,callsIn_wide.2 ((Xq4 h1 (by decide) (by decide:_=[P33 Tj 0,P33 Qh 1])).mono ?_)⟩;rintro e V' ⟨v,rfl,hv,hb⟩;exact hK _ _ _ (by kernel_rfl) (Xb hC hb) hb hv
  ·intro vals V hC hF
   obtain⟨A9,c9,L9,h9,m9,t9⟩:=hF (11,50,[10]) (by simp);simp only[Vn,List.foldl];change vals 11=_ at h9;rw[h9];refine Xv (by go_simp;rfl) ?_;refine Xc (i:=12) ?_;refine Xc (i:=13) ?_;refine Xc (i:=14) ?_;refine Xc (i:=15) ?_;refine Xc (i:=16) ?_;refine Xv (by go_simp;rfl) ?_;exact Xk hC (by kernel_rfl) ⟨by kernel_rfl,A9,c9,L9,rfl,rfl,m9,t9,hC⟩ _
 rintro y w5 ⟨A1,c1,L1,h4,h5,m1,t1,b5⟩;simp only[Xln,List.foldl];rw[h4,h5];have M1:=Xa m1;have T1:=Xa t1;have HC5:=Xa (fun V (hV:Below w5.heap.size w5 V)=>HC.out V (Xb b5 hV));have HX5:=Xa (fun V (hV:Below w5.heap.size w5 V)=>HX.out V (Xb b5 hV));have Hk5:=Xa (fun V (hV:Below w5.heap.size w5 V)=>Hk4.out V (Xb b5 hV));have HB5:=Xa (Xb HB4.out b5);clear h4 h5 m1 t1 b5 HC HX Hk4 HB4;gi_wp2_with fail
 refine Xtd (by go_simp;rfl) ?_
 go_upto_region 4 with fail
 refine wpIn_wide (n:=0) |>.1 ?_
 refine Xbc [54,55,56,57,58,59,60,61,62,53,63,64,6,7] (fun y V=>∃(A:Option Addr) (c:Nat) (L:List TgG),y 6 = .slice A L.length c/\y 7 = .int .i64 0/\L.map TgG.c=[P33 Tj 0]/\TgsAt V ⟨A,c,L⟩/\Below w5.heap.size w5 V) ?_ ?_
 ·refine Xn (fun V=>Below w5.heap.size w5 V) (by kernel_rfl) ?_
  have hC0:Below w5.heap.size w5 w5.drew:=bd_q;refine Xc (i:=0) (hy:=fun V hV=>(by obtain⟨h1,h2⟩:=HC5.out V hV;have d0:=gblk h1 0;have d1:=gblk h1 1;have d2:=gblk h1 2;have f0:=gblk h2 0;have f1:=gblk h2 1;have f2:=gblk h2 2;go_simp<;>rfl)) ?_;refine Xc (i:=1) (hy:=fun V hV=>(by obtain⟨h1,h2⟩:=HC5.out V hV;have d0:=gblk h1 0;have d1:=gblk h1 1;have d2:=gblk h1 2;have f0:=gblk h2 0;have f1:=gblk h2 1;have f2:=gblk h2 2;go_simp<;>rfl)) ?_;refine Xc (i:=3) (hy:=fun V hV=>(by obtain⟨h1,h2⟩:=HC5.out V hV;have d0:=gblk h1 0;have d1:=gblk h1 1;have d2:=gblk h1 2;have f0:=gblk h2 0;have f1:=gblk h2 1;have f2:=gblk h2 2;go_simp<;>rfl)) ?_;refine Xv (by go_simp;rfl) ?_;refine Xde (Phi:=Xtl) [(2,56,[]),(4,58,[]),(5,59,[4]),(6,60,[5]),(7,61,[2,6]),(8,62,[7])] #[true,true,true,true,true,true,true,true,true,false,false,false,false,false] (f:=5) (n:=6) (by kernel_rfl) Xww hC0 (by kernel_rfl) ?_ ?_
  ·intro x hx
   simp only[List.mem_cons,List.not_mem_nil,or_false] at hx;rcases hx with rfl|rfl|rfl|rfl|rfl|rfl
   ·refine⟨_,rfl,fun vals V hC hp K hK=>⟨by kernel_rfl,?_⟩⟩
    obtain⟨k1,k2⟩:=HX5.out V hC;simp only[Vn,List.foldl];go_simp
    refine hK _ (.slice (some ⟨V.heap.size,0,none⟩) 2 2) _ (by kernel_rfl) (Xg hC _) ba_q ?_
    have h:=Xa7 (V:=V) (L:=[x1,x2]) (n:=2) (cs:=#[.string ⟨#[116,104,101]⟩,.slice (some ⟨p2.heap.size,0,none⟩) 1 1,.int .i64 (-1),.string ⟨#[100,111,103]⟩,.slice (some ⟨p3.heap.size,0,none⟩) 1 1,.int .i64 (-1)]) (by rw[Hx1.out,Hx2.out];rfl) (fun x hx=>by
     simp only[List.mem_cons,List.not_mem_nil,or_false] at hx;rcases hx with rfl|rfl<;>assumption) rfl (by omega)
    rw[Hx1.out,Hx2.out] at h;exact h
   ·refine⟨_,rfl,fun vals V hC _ K hK=>⟨by kernel_rfl,?_⟩⟩
    simp only[Vn,List.foldl];go_simp
    exact hK _ _ _ (by kernel_rfl) (Xg hC _) ba_q (DpV.new 0 V)
   ·refine⟨_,rfl,fun vals V hC hp K hK=>⟨by kernel_rfl,?_⟩⟩
    obtain⟨b,h2,n2⟩:=hp 4 (by simp);simp only[Vn,List.foldl];rw[h2];go_simp
    refine⟨trivial,rfl,callsIn_wide.2 ((Td ⟨#[100,111,103]⟩ (some ⟨b,0,none⟩) 1 1 V).mono ?_)⟩;rintro e V' ⟨rfl,hb⟩;rw[<- h2];exact hK _ _ _ (by kernel_rfl) (Xb hC hb) hb (h2 ▸ TgV.of _ (n2.ext hb))
   ·refine⟨_,rfl,fun vals V hC hp K hK=>⟨by kernel_rfl,?_⟩⟩
    obtain⟨x3,h3,k3,c3⟩:=hp 5 (by simp);obtain⟨k1,k2⟩:=HX5.out V hC;simp only[Vn,List.foldl];rw[h3];go_simp
    rw[<- h3];refine hK _ (.slice (some ⟨V.heap.size,0,none⟩) 2 2) _ (by kernel_rfl) (Xg hC _) ba_q ?_
    have h:=Xa7 (V:=V) (L:=[x1,x3]) (n:=2) (cs:=#[.string ⟨#[116,104,101]⟩,.slice (some ⟨p2.heap.size,0,none⟩) 1 1,.int .i64 (-1),.string x3.text,.slice x3.dA x3.deps.length x3.dc,.int .i64 x3.term]) (by rw[Hx1.out];rfl) (fun x hx=>by
     simp only[List.mem_cons,List.not_mem_nil,or_false] at hx;rcases hx with rfl|rfl<;>assumption) rfl (by omega)
    simp only[List.map_cons,List.map_nil,c3] at h;rw[Hx1.out] at h;exact h
   ·refine⟨_,rfl,fun vals V hC hp K hK=>⟨by kernel_rfl,?_⟩⟩
    obtain⟨s1,h1,k1,e1⟩:=hp 2 (by simp);obtain⟨s2,h2,k2,e2⟩:=hp 6 (by simp);simp only[Vn,List.foldl];rw[h1,h2];go_simp
    rw[<- h1,<- h2];refine hK _ (.slice (some ⟨V.heap.size,0,none⟩) 2 2) _ (by kernel_rfl) (Xg hC _) ba_q ?_;rw[h1,h2]
    have h:=Xz4 (V:=V) (LL:=[s1,s2]) (n:=2) (cs:=#[.slice s1.addr s1.xs.length s1.cap,.slice s2.addr s2.xs.length s2.cap]) rfl (fun s hs=>by
     simp only[List.mem_cons,List.not_mem_nil,or_false] at hs;rcases hs with rfl|rfl<;>assumption) rfl
    simp only[List.map_cons,List.map_nil,e1,e2] at h;exact h
   ·refine⟨_,rfl,fun vals V hC hp K hK=>⟨by kernel_rfl,?_⟩⟩
    have h1:LsV _ _ _:=hp 7 (by simp);simp only[Vn,List.foldl];go_simp
    refine⟨trivial,rfl,callsIn_wide.2 ((Xq4 h1 (by decide) (by decide:_=[P33 Tj 0])).mono ?_)⟩;rintro e V' ⟨v,rfl,hv,hb⟩;exact hK _ _ _ (by kernel_rfl) (Xb hC hb) hb hv
  ·intro vals V hC hF
   obtain⟨A9,c9,L9,h9,m9,t9⟩:=hF (8,62,[7]) (by simp);simp only[Vn,List.foldl];change vals 8=_ at h9;rw[h9];refine Xv (by go_simp;rfl) ?_;refine Xc (i:=9) ?_;refine Xc (i:=10) ?_;refine Xc (i:=11) ?_;refine Xc (i:=12) ?_;refine Xc (i:=13) ?_;refine Xv (by go_simp;rfl) ?_;exact Xk hC (by kernel_rfl) ⟨by kernel_rfl,A9,c9,L9,rfl,rfl,m9,t9,hC⟩ _
 rintro y w6 ⟨A2,c2,L2,h6,h7,m2,t2,b6⟩;simp only[Xln,List.foldl];rw[h6,h7];have M2:=Xa m2;have T2:=Xa t2;have T1':=Xa (T1.out.ext b6);have HC6:=Xa (fun V (hV:Below w6.heap.size w6 V)=>HC5.out V (Xb b6 hV));have HX6:=Xa (fun V (hV:Below w6.heap.size w6 V)=>HX5.out V (Xb b6 hV));have Hk6:=Xa (fun V (hV:Below w6.heap.size w6 V)=>Hk5.out V (Xb b6 hV));have HB6:=Xa (Xb HB5.out b6);clear h6 h7 m2 t2 b6 HC5 HX5 Hk5 HB5 T1;gi_wp2_with fail
 refine Xtd (by go_simp;rfl) ?_;have F5:=Xa (Xq4 (X:=[]) (Y:=[]) (u:=.slice none 0 0) (V:=w6) ⟨none,0,[],rfl,Rd.nil _ _,fun s hs=>(by cases hs),rfl⟩ (by decide) rfl);go_wp2_with fail
 refine F5.out.mono ?_;rintro e w7 ⟨v,rfl,⟨A3,c3,L3,rfl,m3,t3⟩,b7⟩;obtain rfl:L3=[]:=List.map_eq_nil_iff.1 m3;have hmk:∀V:World,_:=fun V=>mk_257 V;have F6:=Xa (Xz6 w7);have HB7:=Xa b7;clear m3 t3 b7 F5;go_wp2_with fail
 refine F6.out.mono ?_;rintro e w8 ⟨A4,c4,rfl,b8⟩;have HB8:=Xa (Xb HB7.out b8);clear hmk b8 F6 HB7;have HTG:Hid (∀V,Below w6.heap.size w6 V->TabsG V):=fun V hV=>HT.out V (Xb HB6.out hV);have hsh:G.short:=by rw[HG.out];exact Xki A
 have Hsh:=Xa hsh;have HBw8:=HB8;clear hsh HT;have hk7:=(Hk6.out _ HBw8.out).1;obtain⟨c0,c1,c2,c3,c4,c5⟩:=gb6 hk7;clear hk7;obtain⟨q7,hq7⟩:∃v,w8.alloc (.cells #[.string ⟨#[101,114]⟩] 9)=v:=⟨_,rfl⟩
 have bq7:=X5 hq7;have kq7:=Yg hq7;have bb7:=Xb (HBw8.out) bq7;have Hc7:=Xa (bq7);have F7:=Xa (Xtv (G:=G) (ws:=⟨some ⟨w8.heap.size,0,none⟩,1,[er3]⟩) (mo:=⟨none,0,[]⟩) (k:=3) (E:=0) (n:=1) (L0:=[⟨he3,[0], -1⟩]) (by rw[HG.out];exact ex33_0 A) (by rw[HG.out];exact congrArg Int.ofNat (ex33_7 A)) (by rw[HG.out];exact X1u A) (by omega) q7 (HTG.out _ bb7) (Hk6.out _ bb7).2 Hsh.out (Xaj kq7 rfl (by show 1<=_;omega) rfl) (Vm _));have Hb7:=Xa bb7;clear bb7 bq7 kq7;go_wp2_with fail
 refine F7.out.mono ?_;rintro e w9 ⟨A7,z7,L7,rfl,m7,t7,b7⟩;have HBw9:=Xa (Xb Hb7.out b7);have M7:=Xa m7;have T7:=Xa t7;clear m7 t7;clear F7 Hb7 Hc7 b7 c0 c1 c2 c3 c4 c5 hq7;have hk8:=(Hk6.out _ HBw9.out).1;obtain⟨c0,c1,c2,c3,c4,c5⟩:=gb6 hk8;clear hk8;obtain⟨q8,hq8⟩:∃v,w9.alloc (.cells #[.string ⟨#[101,114]⟩] 9)=v:=⟨_,rfl⟩
 have bq8:=X5 hq8;have kq8:=Yg hq8;obtain⟨r8,hr8⟩:∃v,q8.alloc (.cells #[.string ⟨#[115,99,104,108,105,101,102]⟩,.string ⟨#[101,114]⟩] 9)=v:=⟨_,rfl⟩
 have br8:=X5 hr8;have kr8:=Yg hr8;have bb8:=Xb (Xb (HBw9.out) bq8) br8;have Hc8:=Xa (Xb (bq8) br8);have F8:=Xa (Xtv (G:=G) (ws:=⟨some ⟨w9.heap.size,0,none⟩,1,[er3]⟩) (mo:=⟨some ⟨q8.heap.size,0,none⟩,2,[sc3,er3]⟩) (k:=1) (E:=0) (n:=3) (L0:=[]) (by rw[HG.out];exact ex33_1 A) (by rw[HG.out];exact congrArg Int.ofNat (ex33_8 A)) (by rw[HG.out];exact X1v A) (by omega) r8 (HTG.out _ bb8) (Hk6.out _ bb8).2 Hsh.out (Xaj (Xi br8 kq8) rfl (by show 1<=_;omega) rfl) (Xaj kr8 rfl (by show 2<=_;omega) rfl));have Hb8:=Xa bb8;clear bb8 bq8 kq8 br8 kr8;go_wp2_with fail
 refine F8.out.mono ?_;rintro e w10 ⟨A8,z8,L8,rfl,m8,t8,b8⟩;have HBw10:=Xa (Xb Hb8.out b8);obtain rfl:L8=[]:=List.map_eq_nil_iff.1 m8;clear m8 t8
 replace T7:=Xa (T7.out.ext (Xb Hc8.out b8))
 clear F8 Hb8 Hc8 b8 c0 c1 c2 c3 c4 c5 hq8 hr8;have hk9:=(Hk6.out _ HBw10.out).1;obtain⟨c0,c1,c2,c3,c4,c5⟩:=gb6 hk9;clear hk9;have bb9:=HBw10.out;have Hc9:=Xa (Below.refl w10.heap.size w10);have F9:=Xa (Xtv (G:=G) (ws:=⟨none,0,[]⟩) (mo:=⟨none,0,[]⟩) (k:=0) (E:=0) (n:=1) (L0:=[]) (by rw[HG.out];exact ex33_2 A) (by rw[HG.out];exact congrArg Int.ofNat (ex33_9 A)) (by rw[HG.out];exact X1w A) (by omega) w10 (HTG.out _ bb9) (Hk6.out _ bb9).2 Hsh.out (Vm _) (Vm _));have Hb9:=Xa bb9;clear bb9;go_wp2_with fail
 refine F9.out.mono ?_;rintro e w11 ⟨A9,z9,L9,rfl,m9,t9,b9⟩;have HBw11:=Xa (Xb Hb9.out b9);obtain rfl:L9=[]:=List.map_eq_nil_iff.1 m9;clear m9 t9
 replace T7:=Xa (T7.out.ext (Xb Hc9.out b9))
 clear F9 Hb9 Hc9 b9 c0 c1 c2 c3 c4 c5;have hk10:=(Hk6.out _ HBw11.out).1;obtain⟨c0,c1,c2,c3,c4,c5⟩:=gb6 hk10;clear hk10;obtain⟨r10,hr10⟩:∃v,w11.alloc (.cells #[.string ⟨#[97,32,98]⟩] 9)=v:=⟨_,rfl⟩
 have br10:=X5 hr10;have kr10:=Yg hr10;have bb10:=Xb (HBw11.out) br10;have Hc10:=Xa (br10);have F10:=Xa (Xmu (G:=G) (ws:=⟨none,0,[]⟩) (mo:=⟨some ⟨w11.heap.size,0,none⟩,1,[ab3]⟩) (k:=0) (E:=330) (by rw[HG.out];exact ex33_3 A) (by omega) (by omega) r10 (HTG.out _ bb10) (Hk6.out _ bb10).2 Hsh.out (Vm _) (Xaj kr10 rfl (by show 1<=_;omega) rfl));have Hb10:=Xa bb10;clear bb10 br10 kr10;go_wp2_with fail
 refine F10.out.mono ?_;rintro e w12 ⟨A10,z10,L10,rfl,m10,t10,b10⟩;have HBw12:=Xa (Xb Hb10.out b10);obtain rfl:L10=[]:=List.map_eq_nil_iff.1 m10;clear m10 t10
 replace T7:=Xa (T7.out.ext (Xb Hc10.out b10))
 clear F10 Hb10 Hc10 b10 c0 c1 c2 c3 c4 c5 hr10;have hk11:=(Hk6.out _ HBw12.out).1;obtain⟨c0,c1,c2,c3,c4,c5⟩:=gb6 hk11;clear hk11;have bb11:=HBw12.out;have Hc11:=Xa (Below.refl w12.heap.size w12);have F11:=Xa (Xmu (G:=G) (ws:=⟨none,0,[]⟩) (mo:=⟨none,0,[]⟩) (k:=4) (E:=1) (by rw[HG.out];exact ex33_4 A) (by omega) (by omega) w12 (HTG.out _ bb11) (Hk6.out _ bb11).2 Hsh.out (Vm _) (Vm _));have Hb11:=Xa bb11;clear bb11;go_wp2_with fail
 refine F11.out.mono ?_;rintro e w13 ⟨A11,z11,L11,rfl,m11,t11,b11⟩;have HBw13:=Xa (Xb Hb11.out b11);obtain rfl:L11=[]:=List.map_eq_nil_iff.1 m11;clear m11 t11
 replace T7:=Xa (T7.out.ext (Xb Hc11.out b11))
 clear F11 Hb11 Hc11 b11 c0 c1 c2 c3 c4 c5;have hk12:=(Hk6.out _ HBw13.out).1;obtain⟨c0,c1,c2,c3,c4,c5⟩:=gb6 hk12;clear hk12;obtain⟨r12,hr12⟩:∃v,w13.alloc (.cells #[.string ⟨#[97]⟩,.string ⟨#[97]⟩,.string ⟨#[97]⟩,.string ⟨#[97]⟩,.string ⟨#[97]⟩,.string ⟨#[97]⟩,.string ⟨#[97]⟩,.string ⟨#[97]⟩,.string ⟨#[97]⟩,.string ⟨#[97]⟩,.string ⟨#[97]⟩,.string ⟨#[97]⟩,.string ⟨#[97]⟩,.string ⟨#[97]⟩,.string ⟨#[97]⟩,.string ⟨#[97]⟩] 9)=v:=⟨_,rfl⟩
 have br12:=X5 hr12;have kr12:=Yg hr12;have bb12:=Xb (HBw13.out) br12;have Hc12:=Xa (br12);have F12:=Xa (Xmu (G:=G) (ws:=⟨none,0,[]⟩) (mo:=⟨some ⟨w13.heap.size,0,none⟩,16,List.replicate 16 a3⟩) (k:=2) (E:=2) (by rw[HG.out];exact ex33_5 A) (by omega) (by omega) r12 (HTG.out _ bb12) (Hk6.out _ bb12).2 Hsh.out (Vm _) (Xaj kr12 (by kernel_rfl) (by show 16<=_;omega) rfl));have Hb12:=Xa bb12;clear bb12 br12 kr12;go_wp2_with fail
 refine F12.out.mono ?_;rintro e w14 ⟨A12,z12,L12,rfl,m12,t12,b12⟩;have HBw14:=Xa (Xb Hb12.out b12);obtain rfl:L12=[]:=List.map_eq_nil_iff.1 m12;clear m12 t12
 replace T7:=Xa (T7.out.ext (Xb Hc12.out b12))
 clear F12 Hb12 Hc12 b12 c0 c1 c2 c3 c4 c5 hr12;have F13:=Xa (Xmu (G:=noG3) (ws:=⟨none,0,[]⟩) (mo:=⟨none,0,[]⟩) (k:=4) (E:=260) ex33_6 (by omega) (by omega) w14 (HTG.out _ HBw14.out) Xwk Xr2 (Vm _) (Vm _));go_wp2_with fail
 refine F13.out.mono ?_;rintro e w15 ⟨A13,z13,L13,rfl,m13,t13,b13⟩;have HBw15:=Xa (Xb HBw14.out b13);obtain rfl:L13=[]:=List.map_eq_nil_iff.1 m13;have T7b:=Xa (T7.out.ext b13);clear m13 t13 b13 F13 T7;obtain⟨k15,k16⟩:=HC6.out _ HBw15.out;obtain⟨d0,d1,d2⟩:=gb3 k15;obtain⟨f0,f1,f2⟩:=gb3 k16;obtain⟨y1,hy1⟩:∃v,w15.alloc (.cells #[.string ⟨#[116,104,101]⟩,.slice (some ⟨p2.heap.size,0,none⟩) 1 1,.int .i64 (-1),.string ⟨#[100,111,103]⟩,.slice (some ⟨p3.heap.size,0,none⟩) 1 1,.int .i64 (-1)] 75)=v:=⟨_,rfl⟩
 have by1:=X5 hy1
 have ty1:TgS [P33 Tj 0,P33 Qh 1] (.slice (some ⟨w15.heap.size,0,none⟩) 2 2) y1:=by
  rw[<- hy1];obtain⟨k1,k2⟩:=HX6.out w15 HBw15.out
  have h:=Xa7 (V:=w15) (L:=[x1,x2]) (n:=2) (cs:=#[.string ⟨#[116,104,101]⟩,.slice (some ⟨p2.heap.size,0,none⟩) 1 1,.int .i64 (-1),.string ⟨#[100,111,103]⟩,.slice (some ⟨p3.heap.size,0,none⟩) 1 1,.int .i64 (-1)]) (by rw[Hx1.out,Hx2.out];rfl) (fun x hx=>by
   simp only[List.mem_cons,List.not_mem_nil,or_false] at hx;rcases hx with rfl|rfl<;>assumption) rfl (by omega)
  rw[Hx1.out,Hx2.out] at h;exact h
 have FY1:Hid (Calls Tryz.prog 39 #[.slice A1 L1.length c1,.slice (some ⟨w15.heap.size,0,none⟩) 2 2] y1 fun e w'=>e = .returned (.bool true)/\Below y1.heap.size y1 w'):=by
  obtain⟨s1,h1,k1,e1⟩:=ty1;rw[h1];exact Xb6 (s:=⟨A1,c1,L1⟩) (T1'.out.ext (Xb HBw15.out by1)) k1 (M1.out.trans e1.symm)
 have HBy1:=Xa (Xb HBw15.out by1);have Hby1:=Xa by1;clear by1 ty1 k15 k16;go_wp2_with fail
 clear hy1;refine FY1.out.mono ?_;rintro e w16 ⟨rfl,b16⟩;have HBw16:=Xa (Xb HBy1.out b16);have Hc16:=Xa (Xb Hby1.out b16);clear FY1 b16 d0 d1 d2 f0 f1 f2;obtain⟨k15,_⟩:=HC6.out _ HBw16.out;obtain⟨d0,d1,d2⟩:=gb3 k15;obtain⟨y2,hy2⟩:∃v,w16.alloc (.cells #[.string ⟨#[116,104,101]⟩,.slice (some ⟨p2.heap.size,0,none⟩) 1 1,.int .i64 (-1)] 75)=v:=⟨_,rfl⟩
 have by2:=X5 hy2
 have ty2:TgS [P33 Tj 0] (.slice (some ⟨w16.heap.size,0,none⟩) 1 1) y2:=by
  rw[<- hy2];obtain⟨k1,k2⟩:=HX6.out w16 HBw16.out;have h:=Xa7 (V:=w16) (L:=[x1]) (n:=1) (cs:=#[.string ⟨#[116,104,101]⟩,.slice (some ⟨p2.heap.size,0,none⟩) 1 1,.int .i64 (-1)]) (by rw[Hx1.out];rfl) (fun x hx=>by rw[List.mem_singleton.1 hx];exact k1) rfl (by omega);rw[Hx1.out] at h;exact h
 have FY2:Hid (Calls Tryz.prog 39 #[.slice A2 L2.length c2,.slice (some ⟨w16.heap.size,0,none⟩) 1 1] y2 fun e w'=>e = .returned (.bool true)/\Below y2.heap.size y2 w'):=by
  obtain⟨s1,h1,k1,e1⟩:=ty2;rw[h1];exact Xb6 (s:=⟨A2,c2,L2⟩) (T2.out.ext (Xb HBw16.out by2)) k1 (M2.out.trans e1.symm)
 have HBy2:=Xa (Xb HBw16.out by2);have Hby2:=Xa (Xb Hc16.out by2);clear by2 ty2 k15;go_wp2_with fail
 clear hy2;refine FY2.out.mono ?_;rintro e w17 ⟨rfl,b17⟩;have HBw17:=Xa (Xb HBy2.out b17);have Hc17:=Xa (Xb Hby2.out b17);clear FY2 b17 d0 d1 d2;obtain⟨q18,hq18⟩:∃v,w17.alloc (.cells #[.int .i64 0] 3)=v:=⟨_,rfl⟩
 have bq18:=X5 hq18;have n18:NumAt q18 (some ⟨w17.heap.size,0,none⟩) [0]:=Xem (show q18.heap[w17.heap.size]? = some (.cells #[.int .i64 0] 3 (0,0)) by rw[<- hq18];exact World.alloc_heap_new _ _) rfl;have HN18:=Xa n18;have HBq18:=Xa (Xb HBw17.out bq18);have Hc18:=Xa (Xb Hc17.out bq18);clear bq18 n18;go_wp2_with fail
 clear hq18;refine(Td ⟨#[104,101]⟩ (some ⟨w17.heap.size,0,none⟩) 1 1 q18).mono ?_;rintro e w19 ⟨rfl,b19⟩;obtain⟨y3,hy3⟩:∃v,w19.alloc (.cells #[.string ⟨#[104,101]⟩,.slice (some ⟨w17.heap.size,0,none⟩) 1 1,.int .i64 (-1)] 75)=v:=⟨_,rfl⟩
 have by3:=X5 hy3
 have FY3:Hid (Calls Tryz.prog 39 #[.slice A7 L7.length z7,.slice (some ⟨w19.heap.size,0,none⟩) 1 1] y3 fun e w'=>e = .returned (.bool true)/\Below y3.heap.size y3 w'):=by
  have h:=Xa7 (V:=w19) (L:=[⟨he3,some ⟨w17.heap.size,0,none⟩,1,[0], -1⟩]) (n:=1) (cs:=#[.string ⟨#[104,101]⟩,.slice (some ⟨w17.heap.size,0,none⟩) 1 1,.int .i64 (-1)]) rfl (fun x hx=>by rw[List.mem_singleton.1 hx];exact⟨HN18.out.ext b19,by show 1<=_;omega⟩) rfl (by omega);rw[hy3] at h;obtain⟨s1,h1,k1,e1⟩:=h;rw[h1];exact Xb6 (s:=⟨A7,z7,L7⟩) (T7b.out.ext (Xb Hc18.out (Xb b19 by3))) k1 (M7.out.trans e1.symm)
 have HBy3:=Xa (Xb HBq18.out (Xb b19 by3));clear b19 by3;go_wp2_with fail
 clear hy3;refine FY3.out.mono ?_;rintro e w20 ⟨rfl,b20⟩;have HF:=Xa (Xb HB6.out (Xb HBy3.out b20));clear b20;go_wp2_with fail
 go_ret;exact⟨rfl,HF.out⟩
def X1k (g:Gram) (l:List Term) (lang:Int) (ws mo:List ByteArray) (k t u:Int) (w:World) (y:Nat->Value) (V:World):Prop :=
 ∃(A:Option Addr) (c:Nat) (L:List TgG) (ok:Bool),y 23 = .slice A L.length c/\y 24 = .bool ok/\Below w.heap.size w V/\TgsAt V ⟨A,c,L⟩/\(ok=true->X7 g l lang ws mo k t u=0/\L.map TgG.c=Zo g l lang ws mo k t u)
theorem X1h (hsane:Xho) (g:Gram) (A:Option Addr) (cp:Nat) (l:List Term) (lang:Int) (s mo:StrS) (k:Int) (wd:ByteArray) (t u:Int) (w:World) (hT:TabsG w) (hg:g.lies w) (hgs:g.short) (hr:TermsAt w A l) (hm:l.length<=9223372036854775807) (hs:s.lies w) (hmo:mo.lies w) (hk0 : -9223372036854775808<=k/\k<=9223372036854775807) :
  Calls Tryz.prog 13 #[g.vl,.slice A l.length cp,.int .i64 lang,.slice s.addr s.xs.length s.cap,.slice mo.addr mo.xs.length mo.cap,.int .i64 k,.string wd,.int .i64 t,.int .i64 u] w fun e w'=>e = .returned (.bool true)/\Below w.heap.size w w':=by
 obtain⟨W1,hW1⟩:∃W1,w.alloc g.ob=W1:=⟨_,rfl⟩
 have hB1:=X5 hW1;have hk:=Yg hW1;have F0:=Xa (hsane W1 (hT.ext hB1));have FS:Hid (∀(m:StrS) (j:Int) U,Below w.heap.size w U->m.lies U->(-9223372036854775808<=j/\j<=9223372036854775807)->_):=fun m j U hU hmu hj=>Xgs g A cp l lang s m j t u U (hT.ext hU) (hg.ext hU) hgs (hr.ext hU) hm (StrS.lies.ext hs hU) hmu hj;have FD:Hid (∀U,Below w.heap.size w U->_):=fun U hU=>Xce g A cp l lang s mo 0 t u U (hT.ext hU) (hg.ext hU) hgs (hr.ext hU) hm (StrS.lies.ext hs hU) (StrS.lies.ext hmo hU) (by omega);have FT:Hid (∀U,Below w.heap.size w U->_):=fun U hU=>Xjr g A cp l lang s t u U (hT.ext hU) (hg.ext hU) hgs (hr.ext hU) hm (StrS.lies.ext hs hU);have Hmo:Hid (∀U,Below w.heap.size w U->mo.lies U):=fun U hU=>StrS.lies.ext hmo hU;have hmm:mo.xs.length<=9223372036854775807:=Nat.le_trans hmo.cap hmo.max;have Hk:=Xa hk;have HB1:=Xa hB1;have F1:=Xa (fun U hU=>FS.out mo k U hU (Hmo.out U hU) hk0);clear hT hg hgs hr hm hs hmo hsane hk hB1 hk0;go_enter Tryz.func13,Tryz.ntmps13
 go_wp2_with fail
 clear hW1;refine F0.out.mono ?_;rintro e w2 ⟨rfl,hb2⟩;have HB2:=Xa (Xb HB1.out hb2);have Hk2:=Xa (Xi hb2 Hk.out);have F2:=Xa (F1.out w2 HB2.out);have hk2:=Hk2.out;obtain⟨c0,c1,c2,c3,c4,c5⟩:=gb6 hk2;clear F0 hk2 Hk hb2 HB1 F1;go_wp2_with fail
 refine F2.out.mono ?_;rintro e w3 ⟨hb3,A3,q3,L3,ok,rfl,hT3,hok⟩;have HB3:=Xa (Xb HB2.out hb3);have Hk3:=Xa (Xi hb3 Hk2.out);have HT3:=Xa hT3;have Hok:=Xa hok;clear F2 hb3 hT3 hok c0 c1 c2 c3 c4 c5 Hk2;cases ok
 ·go_wp2_with fail
  go_ret;exact⟨rfl,HB3.out⟩
 obtain⟨hn5,hE,hL⟩:=Hok.out rfl;obtain⟨hm1,hm2,hm3,hm4⟩:=Xa2 (Tn hE).2.1
 have h256:mo.xs.length<=256:=by
  unfold Qv at hm1;simp only[Bool.and_eq_true,decide_eq_true_eq] at hm1;exact hm1.1
 have wk:IntKind.i64.wrap (k+1)=k+1:=IntWalk.i64_in _ (by omega);have HE:=Xa hE;have HL:=Xa hL;have HTE:=Xa (Tn hE).1;have F3:=Xa (FS.out mo (k+1) w3 HB3.out (Hmo.out _ HB3.out) (by omega));have FW:=Xa (fun m U hU hmu=>FS.out m k U hU hmu (by omega));have hk3:=Hk3.out;obtain⟨c0,c1,c2,c3,c4,c5⟩:=gb6 hk3;clear hk3 hE hL hm1 hm4 Hok FS hn5;go_wp2_with fail
 refine F3.out.mono ?_;rintro e w4 ⟨hb4,A4,q4,L4,ok4,rfl,hT4,hok4⟩;have HB4:=Xa (Xb HB3.out hb4);have Hk4:=Xa (Xi hb4 Hk3.out)
 have FB4:Hid (ok4=true->Calls Tryz.prog 53 #[.slice A3 L3.length q3,.slice A4 L4.length q4] w4 fun e w'=>e = .returned (.bool true)/\Below w4.heap.size w4 w'):=fun h=>by
  obtain⟨_,e4,l4⟩:=hok4 h;have h1:=Xan ⟨A3,q3,L3⟩ ⟨A4,q4,L4⟩ w4 (HT3.out.ext hb4) hT4;rw[decide_eq_true (by show L4.map TgG.c <+: L3.map TgG.c;rw[l4,HL.out];exact Xh6 HE.out e4 (by omega) fun x hx=>hx)] at h1;exact h1
 have HT34:=Xa (HT3.out.ext hb4);clear F3 hb4 hT4 hok4 c0 c1 c2 c3 c4 c5 Hk3 HT3
 go_upto_region 7 with fail
 go_cut [66] (fun v wx=>v = .bool false/\Below w4.heap.size w4 wx)
 case first =>
  cases ok4
  ·go_wp2_with fail
   go_meet
   exact⟨rfl,bo_q⟩
  ·go_wp2_with fail
   refine(FB4.out (by simp)).mono ?_;rintro e w5 ⟨rfl,hb5⟩;go_wp2_with fail
   go_meet
   exact⟨rfl,hb5⟩
 case rest =>
  obtain⟨rfl,hb5⟩:=hcut;have HBc:=Xa (Xb HB4.out hb5);have HKc:=Xa (Xi hb5 Hk4.out);have HT3:=Xa (HT34.out.ext hb5);have FWc:Hid (∀(m:StrS) V,Below wc.heap.size wc V->m.lies V->_):=fun m V hV hmv=>FW.out m V (Xb HBc.out hV) hmv;have Hmc:Hid (∀V,Below wc.heap.size wc V->mo.lies V):=fun V hV=>Hmo.out V (Xb HBc.out hV);clear hb5 FB4 HT34 Hk4 HB4 FW Hmo;go_wp2_with fail
  refine wpIn_wide (n:=0) |>.1 ?_
  refine Xbc [68,69,70,71,72,73,74,75,76,77,78,79,80,81,67,82,83,23,24] (X1k g l lang s.xs (mo.xs++[wd]) k t u wc) ?_ ?_
  ·refine Xn (fun V=>Below wc.heap.size wc V) (by kernel_rfl) ?_
   have hC0:Below wc.heap.size wc wc.drew:=bd_q;refine Xc (i:=0) (v:=g.vl) (hy:=fun V hV=>(by have hk:=Xi hV HKc.out;have c0:=gblk hk 0;have c1:=gblk hk 1;have c2:=gblk hk 2;have c3:=gblk hk 3;have c4:=gblk hk 4;have c5:=gblk hk 5;go_simp)) ?_;refine Xc (i:=1) ?_;refine Xc (i:=2) ?_;refine Xc (i:=3) ?_;refine Xc (i:=5) ?_;refine Xc (i:=7) ?_;refine Xc (i:=10) ?_;refine Xc (i:=11) ?_;refine Xc (i:=12) ?_;refine Xv (by go_simp;rfl) ?_;refine Xl (rs:=[4,8]) hC0 (by kernel_rfl) (by simp) (AllC.cons rfl (fun K hK=>?_) (AllC.cons rfl (fun K hK=>?_) AllC.nil));go_simp
   refine hK _ _ ?_;clear hK K;obtain⟨V1,hV1⟩:∃v,(wc.alloc (.cells #[] 9)).drew=v:=⟨_,rfl⟩
   have hR1:RowS wc.heap.size (.slice (some ⟨wc.heap.size,0,none⟩) 0 0) [] V1:=(by rw[<- hV1];exact OwnL.ext (RowS.made wc) bd_q);have hB1:Below wc.heap.size wc V1:=(by rw[<- hV1];exact Xr ba_q);have Hz1:Hid (V1.heap.size=wc.heap.size+1):=(by show _=_;rw[<- hV1];simp[World.drew]);rw[hV1];clear hV1;refine Xl (rs:=[6,8]) hB1 (by kernel_rfl) (by simp) (AllC.cons rfl (fun K hK=>?_) (AllC.cons rfl (fun K hK=>?_) AllC.nil));rotate_left;go_simp
   refine hK _ _ ?_;clear hK K;have hR2:RowS wc.heap.size (.slice (some ⟨wc.heap.size,0,none⟩) 0 0) [] (V1.alloc (.cells #[.string wd] 9)):=OwnL.ext hR1 ba_q;have hb2:(V1.alloc (.cells #[.string wd] 9)).heap[V1.heap.size]? = some (.cells #[.string wd] 9 (0,0)):=World.alloc_heap_new _ _;have hB2:Below wc.heap.size wc (V1.alloc (.cells #[.string wd] 9)):=Xg hB1 _;have hne:(Value.slice (some ⟨wc.heap.size,0,none⟩) 0 0).ownBlock≠some V1.heap.size:=(by rw[Hz1.out];simp[Value.ownBlock]);rotate_left;go_simp
   refine hK _ _ ?_;clear hK K;refine Xh (i:=4) (Xr ba_q) fun K hK=>?_;go_simp
   refine hK _ _ ?_;clear hK K;have hz2:(wc.alloc (.cells #[.string wd] 9)).heap.size=wc.heap.size+1:=World.size_alloc ..;obtain⟨V1,hV1⟩:∃v,((wc.alloc (.cells #[.string wd] 9)).alloc (.cells #[] 9)).drew=v:=⟨_,rfl⟩
   have hR2:RowS wc.heap.size (.slice (some ⟨wc.heap.size+1,0,none⟩) 0 0) [] V1:=by
    rw[<- hV1];have h:=RowS.made (wc.alloc (.cells #[.string wd] 9));rw[hz2] at h;exact OwnL.mono (OwnL.ext h bd_q) (by omega)
   have hb2:V1.heap[wc.heap.size]? = some (.cells #[.string wd] 9 (0,0)):=(by rw[<- hV1];exact(Below.heap_alloc _ _ _ (by rw[hz2];omega)).trans (World.alloc_heap_new _ _));have hB2:Below wc.heap.size wc V1:=(by rw[<- hV1];exact Xr (Xg ba_q _));have hne:(Value.slice (some ⟨wc.heap.size+1,0,none⟩) 0 0).ownBlock≠some wc.heap.size:=(by simp[Value.ownBlock]);rw[hV1];clear hV1 hz2;rotate_left;obtain⟨s5,V5,hrun,hx5,hR5,hl5,hb5,_⟩:=RowS.append hR1 (Hmc.out _ hB1) hB1.size (by rw[List.length_nil];omega) 22;refine Xt rfl _ _ _ rfl rfl rfl hrun (hK _ _ ?_);have hB5:=hB1.trans hb5;have Hx5:=Xa hx5;clear hK K hrun hx5;refine Xh (i:=8) hB5 fun K hK=>?_;go_simp
   refine hK _ _ ?_;clear hK K;obtain⟨s7,V7,hrun,hx7,_,hl7,hb7,_⟩:=RowS.append (s:=oneS V5.heap.size wd) (OwnL.ext hR5 (Xg bo_q (.cells #[.string wd] 9))) (Xlg (World.alloc_heap_new _ _)) (Nat.le_trans hB5.size (by simp)) (by rw[Hx5.out,List.nil_append];show _+1<=_;omega) 22;have hB7:=(Xg hB5 (.cells #[.string wd] 9)).trans hb7;have Hx:Hid (s7.xs=mo.xs++[wd]):=(by show _=_;rw[hx7,Hx5.out];rfl);clear hx7;refine Xh (i:=9) (Xg hB5 _) fun K hK=>?_;refine Xt rfl _ _ _ rfl rfl rfl hrun (hK _ _ ?_);clear hK K hrun;rotate_left
   iterate 2
    obtain⟨s5,V5,hrun,hx5,hR5,hl5,hb5,hk5⟩:=RowS.append hR2 (Hmc.out _ hB2) hB2.size (by rw[List.length_nil];omega) 22;have hb3:=(hk5 _ (Xd hb2) hne).trans hb2;have hB5:=hB2.trans hb5;have Hx5:=Xa hx5;refine Xh (i:=6) hB2 fun K hK=>?_;refine Xt rfl _ _ _ rfl rfl rfl hrun (hK _ _ ?_);clear hK K hrun hx5 hk5;obtain⟨s7,V7,hrun,hx7,_,hl7,hb7,_⟩:=RowS.append (s:=oneS _ wd) hR5 (Xlg hb3) hB5.size (by rw[Hx5.out,List.nil_append];show _+1<=_;omega) 22;have hB7:=hB5.trans hb7;have Hx:Hid (s7.xs=mo.xs++[wd]):=(by show _=_;rw[hx7,Hx5.out];rfl);clear hx7;refine Xh (i:=9) hB5 fun K hK=>?_;refine Xt rfl _ _ _ rfl rfl rfl hrun (hK _ _ ?_);clear hK K hrun;rotate_left
   all_goals
    have FC:=FWc.out s7 V7 hB7 hl7;refine Xh (i:=13) hB7 fun K hK=>?_;go_simp
    refine⟨trivial,rfl,callsIn_wide.2 (FC.mono ?_)⟩;rintro e V8 ⟨hb8,A8,c8,L8,ok8,rfl,hT8,hok8⟩;refine hK _ _ ?_;clear hK K FC;refine Xc (i:=14) ?_;refine Xc (i:=15) ?_;refine Xc (i:=16) ?_;refine Xc (i:=17) ?_;refine Xc (i:=18) ?_;refine Xv (by go_simp;rfl) ?_;refine Xk (Xb hB7 hb8) (by kernel_rfl) ⟨by kernel_rfl,A8,c8,L8,ok8,rfl,rfl,Xb hB7 hb8,hT8,fun h=>?_⟩ _;rw[<- Hx.out];exact(hok8 h).2
  ·rintro y w5 ⟨A5,q5,L5,ok5,h23,h24,hb5,hT5,hok5⟩
   simp only[Xln,List.foldl];rw[h23,h24];have HB5:=Xa (Xb HBc.out hb5);have Hk5:=Xa (Xi hb5 HKc.out)
   have FB5:Hid (ok5=true->Calls Tryz.prog 53 #[.slice A3 L3.length q3,.slice A5 L5.length q5] w5 fun e w'=>e = .returned (.bool true)/\Below w5.heap.size w5 w'):=fun h=>by
    obtain⟨e4,l4⟩:=hok5 h;have h1:=Xan ⟨A3,q3,L3⟩ ⟨A5,q5,L5⟩ w5 (HT3.out.ext hb5) hT5;rw[decide_eq_true (by show L5.map TgG.c <+: L3.map TgG.c;rw[l4,HL.out];exact Xh6 HE.out e4 (Int.le_refl _) fun x hx=>List.mem_append.2 (.inl hx))] at h1;exact h1
   have HT5:=Xa (HT3.out.ext hb5);clear hb5 hT5 hok5 HT3 HBc HKc h23 h24;gi_wp2_with fail
   refine Xtd (by go_simp;rfl) ?_
   go_cut [90] (fun v wx=>v = .bool false/\Below w5.heap.size w5 wx)
   case first =>
    cases ok5
    ·go_wp2_with fail
     go_meet
     exact⟨rfl,bo_q⟩
    ·go_wp2_with fail
     refine(FB5.out (by simp)).mono ?_;rintro e w6 ⟨rfl,hb6⟩;go_wp2_with fail
     go_meet
     exact⟨rfl,hb6⟩
   case rest =>
    obtain⟨rfl,hb6⟩:=hcut;have HB6:=Xa (Xb HB5.out hb6);have Hk6:=Xa (Xi hb6 Hk5.out);have HT6:=Xa (HT5.out.ext hb6);have F6:=Xa (FD.out _ HB6.out);have hk6:=Hk6.out;obtain⟨c0,c1,c2,c3,c4,c5⟩:=gb6 hk6;clear hk6 hb6 FB5 HT5 HB5 Hk5 FD;go_wp2_with fail
    refine F6.out.mono ?_;rintro e w7 ⟨hb7,A7,q7,L7,rfl,hl7,hT7⟩;obtain⟨o1,o2,o3⟩:=Xoc HE.out;rw[o1,o2];have HB7:=Xa (Xb HB6.out hb7);have Hk7:=Xa (Xi hb7 Hk6.out);have HT7:=Xa hT7;have HT3:=Xa (HT6.out.ext hb7);have Hl7:=Xa (hl7.trans o3);have F7:=Xa (FT.out _ HB7.out);have hk7:=Hk7.out;clear c0 c1 c2 c3 c4 c5 F6 hb7 hT7 hl7 o1 o2 o3 HB6 Hk6 HT6 FT;obtain⟨c0,c1,c2,c3,c4,c5⟩:=gb6 hk7;clear hk7;go_wp2_with fail
    refine F7.out.mono ?_;rintro e w8 ⟨hb8,A9,n9,c9,L9,rfl,rfl,hr9,hl9⟩;have hTg:=hr9.tgsK;have HS:=Xa (Xb6 (s:=⟨A7,q7,L7⟩) (t:=⟨A9,c9,L9⟩) (HT7.out.ext hb8) hTg.2 (Hl7.out.trans hl9.symm))
    have HBg:Hid (∀W,Below w8.heap.size w8 W->Calls Tryz.prog 53 #[.slice A9 L9.length c9,.slice A3 L3.length q3] W fun e w'=>e = .returned (.bool true)/\Below W.heap.size W w'):=fun W hW=>by
     have h1:=Xan ⟨A9,c9,L9⟩ ⟨A3,q3,L3⟩ W (hTg.2.ext hW) (HT3.out.ext (Xb hb8 hW));rw[decide_eq_true (by show L3.map TgG.c <+: L9.map TgG.c;rw[HL.out,hl9];exact Xy4 HE.out (Xs6 _ _ _))] at h1;exact h1
    have HB8:=Xa (Xb HB7.out hb8);rw[HTE.out];obtain⟨wh,hwh⟩:∃z,(trE g l lang s.xs t u).2=z:=⟨_,rfl⟩
    rw[hwh];clear c0 c1 c2 c3 c4 c5 F7 hb8 hr9 hl9 hTg hwh HT7 HT3 HB7;go_wp2_with fail
    refine HS.out.mono ?_;rintro e w9 ⟨rfl,hb9⟩;have HB9:=Xa (Xb HB8.out hb9);have HG:=Xa (HBg.out w9 hb9);clear hb9 HS HBg;go_wp2_with fail
    refine HG.out.mono ?_;rintro e w10 ⟨rfl,hb10⟩;have HBf:=Xa (Xb HB9.out hb10);clear hb10;go_wp2_with fail
    go_ret;exact⟨rfl,HBf.out⟩
end Go.Proofs.YtolpbjjapodmnaaGreatDoor
