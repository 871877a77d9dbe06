/- Texts of this claim, one after the other: TrX, R30b, Law30h, TgC. -/
import Derived.Test.YtolpbjjapodmnaaGreatDoorM29
import Derived.Test.YtolpbjjapodmnaaGreatDoorM28
import Derived.Test.YtolpbjjapodmnaaGreatDoorM4
namespace Go.Proofs.YtolpbjjapodmnaaGreatDoor
open Go.RowKit Go.Han
set_option maxRecDepth 100000
/-! ### word by word -/
structure Yan (its:List ItemG) (i:Int) (q:Nat) (b:ItemG):Prop where
 at_:its[q]? = some b
 cat:0≤b.cat
 frm:b.frm=i
 before:∀(k:Nat) (x:ItemG),its[k]? = some x→k<q→0≤x.cat→x.frm=i→x.unt<b.unt
 all:∀(k:Nat) (x:ItemG),its[k]? = some x→0≤x.cat→x.frm=i→x.unt≤b.unt
theorem Yau {its:List ItemG} {i:Int} {b:ItemG} (h:Xw8 its i=some b):∃q,Yan its i q b:=by
 have hw:=X6k its i
 rw[h] at hw
 obtain⟨pre,post,rfl,b1,b2,b3,b4⟩:=hw
 have hall:∀(k:Nat) (x:ItemG),(pre++b :: post)[k]? = some x→0≤x.cat→x.frm=i→x.unt≤b.unt∧(k<pre.length→x.unt<b.unt):=by
  intro k x hx h1 h2
  by_cases hk:k<pre.length
  ·rw[List.getElem?_append_left hk] at hx
   have:=b3 x (List.mem_of_getElem? hx) h1 h2
   exact⟨by omega,fun _=>this⟩
  ·rw[List.getElem?_append_right (by omega)] at hx
   refine⟨?_,fun h=>absurd h hk⟩
   rcases List.mem_cons.1 (List.mem_of_getElem? hx) with rfl|hx
   ·omega
   ·exact b4 x hx h1 h2
 exact⟨pre.length,by rw[List.getElem?_append_right (Nat.le_refl _),Nat.sub_self];rfl,b1,b2,fun k x hx hk h1 h2=>(hall k x hx h1 h2).2 hk,fun k x hx h1 h2=>(hall k x hx h1 h2).1⟩
structure Yad (its:List ItemG) (n:Nat):Prop where
 place:∀x∈its,0≤x.frm∧x.frm<x.unt∧x.unt≤n
 there:∀i:Int,0≤i→i<n→∃x∈its,0≤x.cat∧x.frm=i
 some_:∀x∈its,1≤x.tgt.xs.length∧x.tgt.xs.length≤8
theorem Yam {g:Gram} {l:List Term} {lang t u:Int} {ws:List ByteArray} {its:List ItemG} (h:Xwu g l lang ws t u=0) (hm:its.map ItemG.c=Xxc g (Xwo l lang t u) ws):Yad its ws.length:=by
 have hr:∀x∈its,Xz9 ws.length g.cats.xs.length x.c:=fun x hx=>Xzd h x.c (by rw[← hm];exact List.mem_map_of_mem hx)
 refine⟨fun x hx=>(hr x hx).place,fun i h0 h1=>?_,fun x hx=>?_⟩
 ·obtain⟨x,hx,h1,h2⟩:=X5x h i h0 h1
  rw[← hm] at hx
  obtain⟨y,hy,rfl⟩:=List.mem_map.1 hx
  exact⟨y,hy,h1,h2⟩
 ·have:=(hr x hx).some_
  change 1≤x.tgt.xs.length∧x.tgt.xs.length≤4 at this
  omega
structure StepW (its:List ItemG) (n i:Nat) (q:Nat) (b:ItemG) (v:Nat):Prop where
 long:Yan its i q b
 unt:b.unt=(v:Int)
 lt:i<v
 le:v≤n
 some_:1≤b.tgt.xs.length∧b.tgt.xs.length≤8
 eq:wbwT its n i=Xw3 b []++wbwT its n v
theorem Yap {its:List ItemG} {n:Nat} (h:Yad its n) {i:Nat} (hi:i<n):∃q b v,StepW its n i q b v:=by
 obtain⟨b,hb⟩:=X52 (h.there i (by omega) (by omega))
 obtain⟨q,hq⟩:=Yau hb
 have hm:=List.mem_of_getElem? hq.at_
 have hp:=h.place b hm
 have hf:=hq.frm
 refine⟨q,b,b.unt.toNat,hq,by omega,by omega,by omega,h.some_ b hm,?_⟩
 rw[X27 (fun x hx=>(h.place x hx).2.1) (by omega) hb,show ((b.unt.toNat:Nat):Int)=b.unt by omega]
theorem Yac (i k:Int):(Xwt i k).length=(k-i).toNat:=by unfold Xwt;rw[List.length_map,List.length_range]
theorem Yag (i k:Int) (j:Nat) (hj:j<(k-i).toNat):(Xwt i k)[j]? = some (i+(j:Int)):=by
 unfold Xwt
 rw[List.getElem?_map,List.getElem?_range hj];rfl
theorem Yat {b:ItemG} {j:Nat} {s:ByteArray} (h:b.tgt.xs[j]? = some s):(Xw3 b [])[j]? = some ⟨s,Xwt b.frm b.unt,b.term⟩:=by
 unfold Xw3
 rw[List.getElem?_map,h,List.append_nil,setI_inc (inc_spanL _ _)];rfl
theorem Yal {its:List ItemG} {n i:Nat} {q:Nat} {b:ItemG} {v:Nat} (h:StepW its n i q b v) {L:List TgG} (hL:L.map TgG.c=wbwT its n i) :
  b.tgt.xs.length≤L.length∧(∀(j:Nat) (s:ByteArray),b.tgt.xs[j]? = some s→∃x,L[j]? = some x∧x.text=s∧x.deps=Xwt i v∧x.term=b.term)∧(L.drop b.tgt.xs.length).map TgG.c=wbwT its n v:=by
 rw[h.eq] at hL
 have hl:(Xw3 b []).length=b.tgt.xs.length:=by unfold Xw3;rw[List.length_map]
 have hlen:=congrArg List.length hL
 rw[List.length_map,List.length_append,hl] at hlen
 refine⟨by omega,fun j s hs=>?_,?_⟩
 ·have hj:=(List.getElem?_eq_some_iff.1 hs).1
  have h1:=Yat hs
  have h2:(L.map TgG.c)[j]? = some ⟨s,Xwt b.frm b.unt,b.term⟩:=by rw[hL,List.getElem?_append_left (by omega),h1]
  rw[List.getElem?_map] at h2
  cases hx:L[j]? with
  | none=>rw[hx] at h2;cases h2
  | some x =>
   rw[hx] at h2
   simp only[Option.map_some,Option.some.injEq] at h2
   rw[h.long.frm,h.unt] at h2
   refine⟨x,rfl,?_,?_,?_⟩
   ·exact congrArg TgP.text h2
   ·exact congrArg TgP.deps h2
   ·exact congrArg TgP.term h2
 ·rw[List.map_drop,hL,List.drop_left' hl]
theorem Yar {g:Gram} {l:List Term} {lang t u:Int} {ws:List ByteArray} {its:List ItemG} (h:Xwu g l lang ws t u=0) (hm:its.map ItemG.c=Xxc g (Xwo l lang t u) ws) (hw:(trE g l lang ws t u).2=false):(trE g l lang ws t u).1=wbwT its ws.length 0:=by
 by_cases h0:ws=[]
 ·rw[X3v h0,h0];exact(X41 its (Int.le_refl _)).symm
 rw[X3u h h0 hm] at hw ⊢
 cases hb:Xdl g its ws.length with
 | none=>rw[X18 hb]
 | some y=>rw[X19 hb] at hw;cases hw
/-! ### a word that is replaced -/
theorem Yao:∀(m:List ByteArray) (k:Nat) (x:ItemC),x∈Xxo k m→∃(j:Nat) (s:ByteArray),m[j]? = some s∧x.frm=((k+j:Nat):Int)∧x.unt=((k+j:Nat):Int)+1∧x.tgt=[s]
 | [],_,_,h=>by cases h
 | s :: m,k,x,h=>by
  unfold Xxo at h
  rcases List.mem_cons.1 h with rfl|h
  ·exact⟨0,s,rfl,rfl,rfl,rfl⟩
  ·obtain⟨j,s',h1,h2,h3,h4⟩:=Yao m (k+1) x h
   exact⟨j+1,s',by simpa using h1,by rw[h2];congr 1;omega,by rw[h3];congr 2;omega,h4⟩
theorem Yaq {g:Gram} {l:List Term} {lang t u:Int} {ws:List ByteArray} (h:Xwu g l lang ws t u=0) {x:ItemC} (hx:x∈Xxc g (Xwo l lang t u) ws) (hc:x.cat = -1):∃(j:Nat) (s:ByteArray),ws[j]? = some s∧x.frm=(j:Int)∧x.unt=(j:Int)+1∧x.tgt=[s]:=by
 obtain⟨hk,hs,_⟩:=Xyi h
 have hst:=Xx5 hs
 unfold Xxc at hx
 rcases List.mem_append.1 hx with hx|hx
 ·obtain⟨j,s,h1,h2,h3,h4⟩:=Yao ws 0 x hx
  exact⟨j,s,h1,by rw[h2];simp,by rw[h3];simp,h4⟩
 ·have hfit:=(Xz7 hk (Xya hst.1 lang t u) (Xyh hst.1 lang t u) ws 0 rfl).1 x hx
  unfold Xxw X0j at hfit
  simp only[Bool.and_eq_true,decide_eq_true_eq] at hfit
  have:=hfit.1.1.1.1.1
  omega
def X9p (x:ItemG) (s:ByteArray):Bool:=match x.tgt.xs with|y :: _=>decide (y=s)|[]=>false
theorem X98 {i:Int} {s:ByteArray}:∀ {a b:List ItemG},Xxx i a b→(∀x∈a,x.cat = -1→x.frm≤i→i<x.unt→X9p x s=false)→(∀x∈b,x.cat = -1→x.frm≤i→i<x.unt→X9p x s=false)→∀m,Xm a m s=Xm b m s
 | [],[],_,_,_,_=>rfl
 | [],_ :: _,h,_,_,_=>h.elim
 | _ :: _,[],h,_,_,_=>h.elim
 | x :: a,y :: b,h,ha,hb,m=>by
  have ih:=X98 h.2 (fun z hz=>ha z (List.mem_cons_of_mem _ hz)) (fun z hz=>hb z (List.mem_cons_of_mem _ hz)) m
  obtain⟨h1,h2,h3,_,h5⟩:=h.1
  unfold Xm at ih ⊢
  rw[List.any_cons,List.any_cons,ih]
  congr 1
  show (decide (x.cat = -1) && decide (x.frm=m) && X9p x s)=(decide (y.cat = -1) && decide (y.frm=m) && X9p y s)
  rw[← h1,← h2]
  by_cases hc:x.cat = -1
  ·by_cases hin:x.frm≤i∧i<x.unt
   ·rw[ha x (List.mem_cons_self ..) hc hin.1 hin.2,hb y (List.mem_cons_self ..) (by omega) (by omega) (by omega)]
   ·have:X9p x s=X9p y s:=by unfold X9p;rw[(h5 hin).2]
    rw[this]
  ·rw[decide_eq_false hc];rfl
theorem Yab {g:Gram} {l:List Term} {lang t u:Int} {ws:List ByteArray} {its:List ItemG} (h:Xwu g l lang ws t u=0) (hm:its.map ItemG.c=Xxc g (Xwo l lang t u) ws) {i:Nat} {v s:ByteArray} (hi:ws[i]? = some v) (hv:s≠v):∀x∈its,x.cat = -1→x.frm≤(i:Int)→(i:Int)<x.unt→X9p x s=false:=by
 intro x hx hc h1 h2
 obtain⟨j,s',e1,e2,e3,e4⟩:=Yaq h (x:=x.c) (by rw[← hm];exact List.mem_map_of_mem hx) hc
 change x.frm=_ at e2
 change x.unt=_ at e3
 change x.tgt.xs=_ at e4
 obtain rfl:j=i:=by omega
 rw[hi] at e1
 cases e1
 unfold X9p
 rw[e4]
 exact decide_eq_false fun e=>hv e.symm
theorem tr_revised {g:Gram} {l:List Term} {lang t u:Int} {ws now:List ByteArray} {a b:List ItemG} (hE:Xwu g l lang ws t u=0) (hF:Xwu g l lang now t u=0) (ha:a.map ItemG.c=Xxc g (Xwo l lang t u) ws) (hb:b.map ItemG.c=Xxc g (Xwo l lang t u) now) (hl:now.length=ws.length) {i:Nat} {v other:ByteArray} (hi:ws[i]? = some v) (ho:now[i]? = some other)
  (hp:∀r∈g.rules.xs,∀p∈r.parts.xs,p.text.size≠0→p.text≠v∧p.text≠other) (hal:Xxx (i:Int) a b) :
  (trE g l lang ws t u).2=(trE g l lang now t u).2∧Xxy i (trE g l lang ws t u).1=Xxy i (trE g l lang now t u).1:=by
 have h0:ws≠[]:=by rintro rfl;simp at hi
 have h1:now≠[]:=by rintro rfl;simp at ho
 have hw:∀r∈g.rules.xs,∀p∈r.parts.xs,p.text.size≠0→∀m,Xm a m p.text=Xm b m p.text:=fun r hr p hpp ht m=>by
  obtain⟨e1,e2⟩:=hp r hr p hpp ht
  exact X98 hal (Yab hE ha hi e1) (Yab hF hb ho e2) m
 rw[X3u hE h0 ha,X3u hF h1 hb,hl]
 have hbest:=X5a (g:=g) hal hw (ws.length:Int)
 cases hx:Xdl g a ws.length with
 | none =>
  rw[X18 hx,X18 (hbest ▸ hx)]
  exact⟨rfl,X28 hal _ _ _⟩
 | some y =>
  rw[X19 hx,X19 (hbest ▸ hx)]
  exact⟨rfl,X9o hal _ _⟩
end Go.Proofs.YtolpbjjapodmnaaGreatDoor
namespace Go.Proofs.YtolpbjjapodmnaaGreatDoor
open Go.RowKit Go.Han
attribute [local irreducible] wpStill wpQuiet
set_option maxRecDepth 100000
theorem Yaa {l:List Int} {k:Nat} (h:k<l.length) (n:Int):(l.take (k+1)).contains n=((l.take k).contains n || decide (l[k]=n)):=by
 rw[List.take_succ_eq_append_getElem h,List.contains_append]
 congr 1
 by_cases e:l[k]=n
 ·subst e;simp
 ·simp[e,Ne.symm e]
set_option maxHeartbeats 1000000 in
theorem has30_any (A:Option Addr) (c:Nat) (l:List Int) (n:Int) (w:World) (hm:l.length≤9223372036854775807) (hs:NumAt w A l):Calls Tryz.prog 44 #[.slice A l.length c,.int .i64 n] w fun e w'=>e = .returned (.bool (l.contains n))∧w'=w:=by
 have hat:=Xa hs
 clear hs
 go_enter Tryz.func44,Tryz.ntmps44
 go_wp2_with fail
 go_loopw [5] (fun i wr=>∃k:Nat,k≤l.length∧i = .int .i64 k∧wr=w∧Hid ((l.take k).contains n=false)) (fun i _=>l.length-(intOf i).toNat)
 case atStart=>exact⟨0,Nat.zero_le _,rfl,rfl,rfl⟩
 case round =>
  obtain⟨k,hk,rfl,rfl,HR⟩:=hrel
  by_cases hlt:k<l.length
  ·obtain⟨b,off,he,hb,hc⟩:=hat.out k hlt
   have h1:=hc k hlt
   have Htk:=Xa (Yaa hlt n)
   have hmem:=Xa (List.getElem_mem hlt)
   rw[he]
   have HE:=Xa he
   clear hc he
   generalize l[k]=x at *
   by_cases hx:x=n
   ·have HF:Hid (l.contains n=true):=by
     have h:=hmem.out
     rw[hx] at h
     show _=_
     simpa using show n∈l from h
    have g1:(x == n)=true:=by simpa using hx
    clear hx
    go_wp2_with fail
    go_ret
    exact⟨by rw[HF.out];rfl,rfl⟩
   ·have HN:Hid ((l.take (k+1)).contains n=false):=by show _=_;rw[Htk.out,HR.out,decide_eq_false hx];rfl
    have g1:(x == n)=false:=by simpa using hx
    clear hx
    go_wp2_with fail
    try rw[← HE.out]
    go_roundw
    case rel=>exact⟨k+1,by omega,by go_num,by first|rfl|trivial,HN⟩
    case measure=>simp[intOf];omega
  ·have HF:Hid (l.contains n=false):=by
    have h:=HR.out
    rw[List.take_of_length_le (by omega)] at h
    exact h
   clear HR
   go_wp2_with fail
   go_ret
   exact⟨by rw[HF.out];rfl,rfl⟩
theorem X99 {i:Int} {x y:ItemG} (hx:Xz8 i x y):∀ {a b:List ItemG},Xxx i a b→Xxx i (a++[x]) (b++[y])
 | [],[],_=>⟨hx,trivial⟩
 | [],_ :: _,h=>h.elim
 | _ :: _,[],h=>h.elim
 | _ :: _,_ :: _,h=>⟨h.1,X99 hx h.2⟩
theorem Yah {i:Int} {a b:List ItemG} {k:Nat} (h:Xxx i (a.take k) (b.take k)) (ha:k<a.length) (hb:k<b.length) (hx:Xz8 i a[k] b[k]):Xxx i (a.take (k+1)) (b.take (k+1)):=by
 rw[List.take_succ_eq_append_getElem ha,List.take_succ_eq_append_getElem hb]
 exact X99 hx h
def X97 (i:Int) (a b:List ItemG) (w:World) (e:Ending) (w':World):Prop:=∃p:Bool,e = .returned (.bool p)∧(p=true→Xxx i a b)∧Below w.heap.size w w'
theorem X9t (a b:Int):(a != b) = !decide (a=b):=by by_cases h:a=b<;>simp[h]
set_option maxHeartbeats 4000000 in
theorem Yav (a b:SlS ItemG) (i:Int) (w:World) (ha:ItemsAt w a) (hb:ItemsAt w b):Calls Tryz.prog 43 #[.slice a.addr a.xs.length a.cap,.slice b.addr b.xs.length b.cap,.int .i64 i] w (X97 i a.xs b.xs w):=by
 have hma:a.xs.length≤9223372036854775807:=Nat.le_trans ha.lies.cap ha.lies.max
 have Ha:=Xa ha
 have Hb:=Xa hb
 clear ha hb
 by_cases hl:a.xs.length=b.xs.length
 rotate_left
 ·have hne:((a.xs.length:Int) != (b.xs.length:Int))=true:=by simp;omega
  clear hl
  go_enter Tryz.func43,Tryz.ntmps43
  go_wp2_with fail
  go_ret
  exact⟨false,rfl,by simp,Below.refl _ _⟩
 have hne:((a.xs.length:Int) != (b.xs.length:Int))=false:=by simp[hl]
 have Hl:=Xa hl
 clear hl
 go_enter Tryz.func43,Tryz.ntmps43
 go_wp2_with fail
 go_loopw [18] (fun iv wr=>∃k:Nat,k≤a.xs.length∧iv = .int .i64 k∧Below w.heap.size w wr∧Hid (Xxx i (a.xs.take k) (b.xs.take k))) (fun iv _=>a.xs.length-(intOf iv).toNat)
 case atStart=>exact⟨0,Nat.zero_le _,rfl,Below.refl _ _,trivial⟩
 case round =>
  obtain⟨k,hk,rfl,hB,HR⟩:=hrel
  by_cases hlt:k<a.xs.length
  ·have hlt':k<b.xs.length:=by have:=Hl.out;omega
   obtain⟨ba,oa,hA,hba,hca⟩:=(Ha.out.ext hB).lies.at_ ItemG.size_cells (by omega) hlt
   obtain⟨bb,ob,hA',hbb,hcb⟩:=(Hb.out.ext hB).lies.at_ ItemG.size_cells (by omega) hlt'
   have d0:wr.cell? ⟨ba,oa+k*6,none⟩=some (.int .i64 a.xs[k].cat):=hca k hlt wr (Below.refl _ _) 0 _ rfl
   have d1:wr.cell? ⟨ba,oa+k*6+1,none⟩=some (.int .i64 a.xs[k].frm):=hca k hlt wr (Below.refl _ _) 1 _ rfl
   have d2:wr.cell? ⟨ba,oa+k*6+2,none⟩=some (.int .i64 a.xs[k].unt):=hca k hlt wr (Below.refl _ _) 2 _ rfl
   have d3:wr.cell? ⟨ba,oa+k*6+3,none⟩=some (.int .i64 a.xs[k].cost):=hca k hlt wr (Below.refl _ _) 3 _ rfl
   have d4:wr.cell? ⟨ba,oa+k*6+4,none⟩=some (.slice a.xs[k].tgt.addr a.xs[k].tgt.xs.length a.xs[k].tgt.cap):=hca k hlt wr (Below.refl _ _) 4 _ rfl
   have d5:wr.cell? ⟨ba,oa+k*6+5,none⟩=some (.int .i64 a.xs[k].term):=hca k hlt wr (Below.refl _ _) 5 _ rfl
   have hE:Hid (∀V,Below wr.heap.size wr V→V.cell? ⟨bb,ob+k*6,none⟩=some (.int .i64 b.xs[k].cat)∧V.cell? ⟨bb,ob+k*6+1,none⟩=some (.int .i64 b.xs[k].frm)∧V.cell? ⟨bb,ob+k*6+2,none⟩=some (.int .i64 b.xs[k].unt)∧V.cell? ⟨bb,ob+k*6+3,none⟩=some (.int .i64 b.xs[k].cost)∧V.cell? ⟨bb,ob+k*6+4,none⟩=some (.slice b.xs[k].tgt.addr b.xs[k].tgt.xs.length b.xs[k].tgt.cap)∧V.cell? ⟨bb,ob+k*6+5,none⟩=some (.int .i64 b.xs[k].term)):=fun V hV=>⟨hcb k hlt' V hV 0 _ rfl,hcb k hlt' V hV 1 _ rfl,hcb k hlt' V hV 2 _ rfl,hcb k hlt' V hV 3 _ rfl,hcb k hlt' V hV 4 _ rfl,hcb k hlt' V hV 5 _ rfl⟩
   have hta:=(Ha.out.ext hB).tgt _ (List.getElem_mem hlt)
   have htb:=(Hb.out.ext hB).tgt _ (List.getElem_mem hlt')
   have HS:=Xa (fun V (hV:Below wr.heap.size wr V)=>Xag a.xs[k].tgt b.xs[k].tgt V (StrS.lies.ext hta hV) (StrS.lies.ext htb hV))
   have Htk:=Xa (fun hx=>Yah HR.out hlt hlt' hx)
   rw[hA,hA']
   have HA:=Xa hA
   have HA':=Xa hA'
   clear hca hcb hA hA' hta htb
   generalize a.xs[k]=x at *
   generalize b.xs[k]=y at *
   obtain⟨w6,hw6⟩:∃w6,wr.alloc (.cells #[.int .i64 x.cat,.int .i64 x.frm,.int .i64 x.unt,.int .i64 x.cost,.slice x.tgt.addr x.tgt.xs.length x.tgt.cap,.int .i64 x.term] 53)=w6:=⟨_,rfl⟩
   have hb6:=Yn hw6
   have hx6:=Yv hw6
   obtain⟨u0,u1,u2,u3,u4,u5⟩:=hE.out w6 hb6
   obtain⟨w7,hw7⟩:∃w7,w6.alloc (.cells #[.int .i64 y.cat,.int .i64 y.frm,.int .i64 y.unt,.int .i64 y.cost,.slice y.tgt.addr y.tgt.xs.length y.tgt.cap,.int .i64 y.term] 53)=w7:=⟨_,rfl⟩
   have hb7:=Yn hw7
   have hy7:=Yv hw7
   have hx7:=Xh hb7 hx6
   have HB7:=Xa (Xb hB (Xb hb6 hb7))
   have hc7:=HS.out w7 (Xb hb6 hb7)
   obtain⟨f0,f1,f2,f3,f4,f5⟩:=gb6 hx7
   obtain⟨g0,g1,g2,g3,g4,g5⟩:=gb6 hy7
   have k0:=X9t x.cat y.cat
   have k1:=X9t x.frm y.frm
   have k2:=X9t x.unt y.unt
   have k3:=X9t x.cost y.cost
   have k5:=X9t x.term y.term
   have HC7:=Xa hc7
   clear hE hx6 hx7 hy7 hb6 hb7 hc7 HS
   have out:Hid (∀e,e = .returned (.bool false)→X97 i a.xs b.xs w e w7):=fun e h=>⟨false,h,by simp,HB7.out⟩
   have hin:(decide (x.frm≤i)=true∧decide (i<x.unt)=true)∨(decide (x.frm≤i)=true∧decide (i<x.unt)=false)∨decide (x.frm≤i)=false:=by
    by_cases h1:x.frm≤i
    ·by_cases h2:i<x.unt
     ·exact .inl ⟨decide_eq_true h1,decide_eq_true h2⟩
     ·exact .inr (.inl ⟨decide_eq_true h1,decide_eq_false h2⟩)
    ·exact .inr (.inr (decide_eq_false h1))
   by_cases h0:x.cat=y.cat
   rotate_left
   ·rw[decide_eq_false h0] at k0
    clear h0
    rcases hin with ⟨e1,e2⟩|⟨e1,e2⟩|e1
    all_goals
     go_wp2_with fail
     go_ret
     exact out.out _ rfl
   rw[decide_eq_true h0] at k0
   by_cases h1:x.frm=y.frm
   rotate_left
   ·rw[decide_eq_false h1] at k1
    clear h1  h0
    rcases hin with ⟨e1,e2⟩|⟨e1,e2⟩|e1
    all_goals
     go_wp2_with fail
     go_ret
     exact out.out _ rfl
   rw[decide_eq_true h1] at k1
   by_cases h2:x.unt=y.unt
   rotate_left
   ·rw[decide_eq_false h2] at k2
    clear h2  h0 h1
    rcases hin with ⟨e1,e2⟩|⟨e1,e2⟩|e1
    all_goals
     go_wp2_with fail
     go_ret
     exact out.out _ rfl
   rw[decide_eq_true h2] at k2
   by_cases h3:x.cost=y.cost
   rotate_left
   ·rw[decide_eq_false h3] at k3
    clear h3  h0 h1 h2
    rcases hin with ⟨e1,e2⟩|⟨e1,e2⟩|e1
    all_goals
     go_wp2_with fail
     go_ret
     exact out.out _ rfl
   rw[decide_eq_true h3] at k3
   have HX:Hid (¬(x.frm≤i∧i<x.unt)∨True→(¬(x.frm≤i∧i<x.unt)→x.term=y.term∧x.tgt.xs=y.tgt.xs)→Xz8 i x y):=fun _ h=>⟨h0,h1,h2,h3,h⟩
   clear h0 h1 h2 h3
   rcases hin with ⟨e1,e2⟩|hin
   ·have HN:=Xa (Htk.out (HX.out (.inr trivial) fun h=>absurd ⟨of_decide_eq_true e1,of_decide_eq_true e2⟩ h))
    go_wp2_with fail
    try rw[← HA.out,← HA'.out]
    go_roundw
    case rel=>exact⟨k+1,by omega,by go_num,HB7.out,HN.out⟩
    case measure=>simp[intOf];omega
   by_cases h5:x.term=y.term
   rotate_left
   ·rw[decide_eq_false h5] at k5
    clear h5
    rcases hin with ⟨e1,e2⟩|e1
    all_goals
     go_wp2_with fail
     go_ret
     exact out.out _ rfl
   rw[decide_eq_true h5] at k5
   have HX2:Hid (x.tgt.xs=y.tgt.xs→Xxx i (a.xs.take (k+1)) (b.xs.take (k+1))):=fun h=>Htk.out (HX.out (.inr trivial) fun _=>⟨h5,h⟩)
   clear h5 HX Htk
   obtain⟨q,hq⟩:∃q,decide (x.tgt.xs=y.tgt.xs)=q:=⟨_,rfl⟩
   have Hq:=Xa hq
   rw[hq] at HC7
   clear hq
   have out8:Hid (∀w8,Below w7.heap.size w7 w8→X97 i a.xs b.xs w (.returned (.bool false)) w8):=fun w8 h=>⟨false,rfl,by simp,Xb HB7.out h⟩
   clear out
   rcases hin with ⟨e1,e2⟩|e1
   all_goals
    go_wp2_with fail
    refine HC7.out.mono ?_
    rintro e w8 ⟨rfl,hb8⟩
    have O8:=Xa (out8.out w8 hb8)
    have HB8:=Xa (Xb HB7.out hb8)
    clear hb8 HC7 out8
    cases q
    ·go_wp2_with fail
     go_ret
     exact O8.out
    ·have HN:=Xa (HX2.out (of_decide_eq_true Hq.out))
     go_wp2_with fail
     try rw[← HA.out,← HA'.out]
     go_roundw
     case rel=>exact⟨k+1,by omega,by go_num,HB8.out,HN.out⟩
     case measure=>simp[intOf];omega
  ·have HF:Hid (Xxx i a.xs b.xs):=by
    have h:=HR.out
    rw[List.take_of_length_le (by omega),List.take_of_length_le (by have:=Hl.out;omega)] at h
    exact h
   clear HR
   go_wp2_with fail
   go_ret
   exact⟨true,rfl,fun _=>HF.out,hB⟩
end Go.Proofs.YtolpbjjapodmnaaGreatDoor
namespace Go.Proofs.YtolpbjjapodmnaaGreatDoor
open Go.RowKit Go.Han
set_option maxRecDepth 100000
def SlS.fromT (s:SlS TgG) (i:Nat):SlS TgG:=⟨subA s.addr s.cap i 3,s.cap-i,s.xs.drop i⟩
theorem TgsAt.from_ {w:World} {s:SlS TgG} (hs:TgsAt w s) {i:Nat} (h:i≤s.xs.length):TgsAt w (s.fromT i):=by
 have hcap:=hs.lies.cap
 have hmax:=hs.lies.max
 have hr:=Rd.cut (s:=3) (by decide) TgG.size_cells hs.lies.rd (cp:=s.cap) (i:=i) (n:=s.xs.length-i) (by omega) hcap
 rw[List.take_of_length_le (by rw[List.length_drop];exact Nat.le_refl _)] at hr
 refine⟨⟨hr,by show (s.xs.drop i).length≤s.cap-i;rw[List.length_drop];omega,by show s.cap-i≤_;omega,fun h0=>?_⟩,fun x hx=>hs.ok x (List.mem_of_mem_drop hx)⟩
 have h1:s.addr=none:=by
  change subA s.addr s.cap i 3=none at h0
  unfold subA at h0
  split at h0
  ·exact h0
  ·simpa using h0
 show s.xs.drop i=[]
 rw[hs.lies.nil h1];simp
theorem Yak (s:SlS TgG) (i:Nat) (w:World) (_hc:s.xs.length≤s.cap) (h:i≤s.xs.length) :
  (Instr.slice 65 (.slice s.addr s.xs.length s.cap) (some (.int .i64 i)) none none).run Tryz.prog w = .ok (.slice (s.fromT i).addr (s.fromT i).xs.length (s.fromT i).cap) w:=by
 have e:=run_slice_l (P:=Tryz.prog) (w:=w) 65 s.addr s.xs.length s.cap (by rw[Tryz.underlying65];rfl) .i64 (i:Int) (by omega) (by omega)
 rw[e]
 have h2:((i:Int)).toNat=i:=by omega
 rw[h2]
 have h3:(Go.sizeOf (Tryz.prog.elem 65)).run Tryz.prog w = .ok 3 w:=by kernel_rfl
 rw[h3]
 have h4:(s.fromT i).xs.length=s.xs.length-i:=List.length_drop
 rw[h4]
 rfl
def SlS.uptoT (s:SlS TgG) (i:Nat):SlS TgG:=⟨subA s.addr s.cap 0 3,s.cap,s.xs.take i⟩
theorem TgsAt.upto {w:World} {s:SlS TgG} (hs:TgsAt w s) {i:Nat} (h:i≤s.xs.length):TgsAt w (s.uptoT i):=by
 have hcap:=hs.lies.cap
 have hmax:=hs.lies.max
 have hr:=Rd.cut (s:=3) (by decide) TgG.size_cells hs.lies.rd (cp:=s.cap) (i:=0) (n:=i) (by omega) hcap
 rw[List.drop_zero] at hr
 refine⟨⟨hr,by show (s.xs.take i).length≤s.cap;rw[List.length_take];omega,hmax,fun h0=>?_⟩,fun x hx=>hs.ok x (List.mem_of_mem_take hx)⟩
 have h1:s.addr=none:=by
  change subA s.addr s.cap 0 3=none at h0
  unfold subA at h0
  split at h0
  ·exact h0
  ·simpa using h0
 show s.xs.take i=[]
 rw[hs.lies.nil h1];simp
theorem run_uptoT (s:SlS TgG) (i:Nat) (w:World) (hc:s.xs.length≤s.cap) (h:i≤s.xs.length) :
  (Instr.slice 65 (.slice s.addr s.xs.length s.cap) none (some (.int .i64 i)) none).run Tryz.prog w = .ok (.slice (s.uptoT i).addr (s.uptoT i).xs.length (s.uptoT i).cap) w:=by
 have e:=run_slice_h (P:=Tryz.prog) (w:=w) 65 s.addr s.xs.length s.cap (by rw[Tryz.underlying65];rfl) .i64 (i:Int) (by omega) (by omega)
 rw[e]
 have h2:((i:Int)).toNat=i:=by omega
 rw[h2]
 have h3:(Go.sizeOf (Tryz.prog.elem 65)).run Tryz.prog w = .ok 3 w:=by kernel_rfl
 rw[h3]
 have h4:(s.uptoT i).xs.length=i:=by show (s.xs.take i).length=i;rw[List.length_take];omega
 rw[h4]
 rfl
end Go.Proofs.YtolpbjjapodmnaaGreatDoor
