/- Texts of this claim, one after the other: Srt, Chw1, Tree, Chw2, Term6b, Term7, Map, Stand, KeyT. -/
import Derived.Test.YtolpbjjapodmnaaGreatDoorM10
import Derived.Test.YtolpbjjapodmnaaGreatDoorM3
import Derived.Test.YtolpbjjapodmnaaGreatDoorShelfS
import Derived.Test.YtolpbjjapodmnaaGreatDoorM8
import Derived.Test.YtolpbjjapodmnaaGreatDoorM9
import Derived.Sort.OwnSortedInts
import Derived.Lib.OwnBridge
import Derived.Maps.RangeWalk
import Derived.Deep.RegionWith
import Derived.DeepKeys4
namespace Go.Proofs.YtolpbjjapodmnaaGreatDoor
open Go.RowKit Go.Han
set_option maxRecDepth 100000
attribute [local irreducible] wpStill wpQuiet
set_option maxHeartbeats 8000000
def Qf (l:List Int):List Int:=l.mergeSort fun x y=>decide (x<=y)
theorem Xfw (l:List Int):(Qf l).length=l.length:=List.length_mergeSort _
theorem Xo9 {W:World} {base:Nat} {v:Value} {l:List Int} (h:OwnI W base v l):W.ownsRow base 3 1 v l.length (l.map (Value.int .i64)):=by
 have:=h;unfold OwnI OwnL at this;rwa [Xt2] at this
theorem Xt6 {W:World} {base n:Nat} {v:Value} {l:List Int} (h:W.ownsRow base 3 1 v n (l.map (Value.int .i64))) (hn:l.length=n):OwnI W base v l:=by
 subst hn;unfold OwnI OwnL;rwa [Xt2]
theorem X0v {W:World} {base g cap:Nat} {l:List Int} (h0:0<l.length) (hl:l.length<=100000) (h:OwnI W base (.slice (some ⟨g,0,none⟩) l.length cap) l) :
  Calls Tryz.prog 158 #[.slice (some ⟨g,0,none⟩) l.length cap] W fun e w'=>e = .returned (.tuple #[])/\OwnI w' base (.slice (some ⟨g,0,none⟩) l.length cap) (Qf l)/\W.grownBy w' (some g):=by
 have hr:=Xo9 h;obtain⟨g',c',he,hb,hlt,hn,hm,_,hH⟩:=Lib.holds_of_ownsRow hr (by simp);cases he;refine(Tryz.slices_Sort_int g 0 cap l W hH hlt (by omega)).mono ?_;rintro e w' ⟨rfl,n,os,rfl⟩;rcases hr.2 with ⟨e0,_⟩|⟨g',cap',cur,e0,hb',hg',hn',hm',hs',ht'⟩
 ·cases e0
 ·cases e0
  exact⟨rfl,Xt6 (ownsRow_sortedI (ts:=Qf l) (ss:=l) (Xfw l) hb hg' hn hm hs') (Xfw l),grownBy_sortedI _⟩
theorem Xn6 {W:World} {base g cap n:Nat} {l:List Int} (hl:l.length=n) (hn:n<=100000) (h:OwnI W base (.slice (some ⟨g,0,none⟩) n cap) l) :
  Calls Tryz.prog 159 #[.slice (some ⟨g,0,none⟩) n cap] W fun e w'=>e = .returned (.slice (some ⟨g,0,none⟩) (Lib.compact l).length cap)/\OwnI w' base (.slice (some ⟨g,0,none⟩) (Lib.compact l).length cap) (Lib.compact l)/\W.grownBy w' (some g):=by
 subst hl;have hr:=Xo9 h;obtain⟨g',c',he,hb,hlt,hn',hm,_,hH⟩:=Lib.holds_of_ownsRow hr (by simp);cases he;have hcl:=Lib.compact_length_le l;refine(Tryz.slices_Compact_int g 0 cap l W hH (by omega) hn').mono ?_;rintro e w' ⟨rfl,q,rfl⟩;refine⟨rfl,?_,?_⟩
 ·have h1:=Lib.ownsRow_putRow (q:=q) (ys:=Lib.compact l++List.replicate (l.length-(Lib.compact l).length) 0) (k:=(Lib.compact l).length) hr (by simp;omega) hcl
  rw[List.take_left'  rfl] at h1;exact Xt6 h1 rfl
 ·have:=grownBy_sortedI (w:=W) (g:=g) (n:=q) (os:=#[]) (Lib.compact l++List.replicate (l.length-(Lib.compact l).length) 0).toArray
  simpa using this
/-! ### what comes out of it -/
theorem Xo2 {zs:List Int} {x:Int}:x∈Lib.compact zs->x∈zs:=by
 unfold Lib.compact Lib.compactUpTo;intro h;obtain⟨j,hj,rfl⟩:=List.mem_map.1 h;have hj':=List.mem_range.1 (List.mem_filter.1 hj).1;rw[getElem!_pos _ j (by simpa using hj')];simp
theorem Xhz {d:Array Int} (hs:∀i j,i<=j->j<d.size->d[i]! <= d[j]!):∀m,m<=d.size->IncI (Lib.compactUpTo d m)/\(∀x∈Lib.compactUpTo d m,∃j,j<m/\x=d[j]!)/\∀j,j<m->d[j]! ∈ Lib.compactUpTo d m
 | 0,_=>⟨List.Pairwise.nil,fun x h=>by simp[Lib.compactUpTo] at h,fun j h=>by omega⟩
 | m+1,h=>by
  obtain⟨h1,h2,h3⟩:=Xhz hs m (by omega);rw[Lib.compactUpTo_succ];by_cases hk:Lib.keeps d m=true
  ·rw[if_pos hk]
   have hne:m=0\/d[m-1]! ≠ d[m]! := by
    unfold Lib.keeps at hk;simp only[decide_eq_true_eq] at hk;rcases hk with h|h
    ·exact .inl (by omega)
    ·right;intro e;simp_all
   refine⟨List.pairwise_append.2 ⟨h1,by simp,fun x hx y hy=>?_⟩,fun x hx=>?_,fun j hj=>?_⟩
   ·obtain⟨j,hj,rfl⟩:=h2 x hx
    obtain rfl:=List.mem_singleton.1 hy;have a1:=hs j (m-1) (by omega) (by omega);have a2:=hs (m-1) m (by omega) (by omega);rcases hne with h|h
    ·omega
    ·omega
   ·rcases List.mem_append.1 hx with h|h
    ·obtain⟨j,hj,e⟩:=h2 x h;exact⟨j,by omega,e⟩
    ·obtain rfl:=List.mem_singleton.1 h
     exact⟨m,by omega,rfl⟩
   ·rcases Nat.lt_or_ge j m with hlt|hge
    ·exact List.mem_append_left _ (h3 j hlt)
    ·obtain rfl:j=m:=by omega
     exact List.mem_append_right _ (List.mem_singleton.2 rfl)
  ·rw[if_neg hk,List.append_nil]
   have he:0<m/\d[m-1]! = d[m]! := by
    unfold Lib.keeps at hk;simp only[decide_eq_true_eq] at hk;refine⟨?_,?_⟩
    ·rcases Nat.eq_zero_or_pos m with h|h
     ·exact absurd (.inl (by omega)) hk
     ·exact h
    ·apply Classical.byContradiction
     intro e;exact hk (.inr (by simp_all))
   refine⟨h1,fun x hx=>?_,fun j hj=>?_⟩
   ·obtain⟨j,hj,e⟩:=h2 x hx;exact⟨j,by omega,e⟩
   ·rcases Nat.lt_or_ge j m with hlt|hge
    ·exact h3 j hlt
    ·obtain rfl:j=m:=by omega
     rw[<- he.2];exact h3 _ (by omega)
theorem Xea (l:List Int):Lib.compact (Qf l)=setI l:=by
 have hp:(Qf l).Pairwise (fun x y=>x<=y):=by
  have:=List.pairwise_mergeSort (le:=fun x y:Int=>decide (x<=y)) (fun a b c h1 h2=>by simp at *;omega) (fun a b=>by simp;omega) l;unfold Qf;exact this.imp fun h=>by simpa using h
 have hs:∀i j,i<=j->j<(Qf l).toArray.size->(Qf l).toArray[i]! <= (Qf l).toArray[j]! := by
  intro i j hij hj;rw[getElem!_pos _ j hj,getElem!_pos _ i (by omega)];rcases Nat.lt_or_ge i j with h|h
  ·simpa using List.pairwise_iff_getElem.1 hp i j (by simpa using (by omega:i<(Qf l).toArray.size)) (by simpa using hj) h
  ·obtain rfl:i=j:=by omega
   omega
 obtain⟨h1,h2,h3⟩:=Xhz hs (Qf l).length (by simp);refine Xt0 h1 (Xzj l) fun x=>?_;rw[Xz7];have hm:x∈Qf l↔x∈l:=List.mem_mergeSort;rw[<- hm];refine⟨fun h=>Xo2 h,fun h=>?_⟩;obtain⟨j,hj,rfl⟩:=List.getElem_of_mem h;have:=h3 j hj;rw[getElem!_pos _ j (by simpa using hj)] at this;change _∈Lib.compactUpTo (Qf l).toArray (Qf l).length
 simpa using this
/-! ### Concat -/
def Xul (w:World) (e:Ending) (w':World):Prop:=∃v,e = .returned v/\OwnI w' w.heap.size v []/\Below w.heap.size w w'
theorem Xvq (n:Nat) (w:World) (h0:0<n) (hn:n<=10000):Calls Tryz.prog 207 #[.slice none 0 0,.int .i64 n] w (Xul w):=by
 obtain⟨i0,hi0,hz0,hs0,hb0⟩:=info_parts T4;have h0':(0:Int)<n:=by omega
 have h1':¬(n:Int)<0:=by omega
 go_enter Tryz.func207,Tryz.ntmps207
 go_wp2_with (at_builtin;go_loud (refine Xcy w rfl (.tmp 20) (.tmp 21) 49 3 rfl 3 i0 _ 1 8 .i64 .i64 Tryz.underlying49 Tryz.underlying3 hi0 hz0 hs0 hb0 rfl (by decide) none 0 0 n [] rfl ?hx1 rfl (Rd.nil _ _) h0 (by omega) (by unfold maxLen;omega) (by omega) ?hx3))
 case hx3 =>
  intro cap w1 R1 hR1 hl1 hc1 hm1 hb1 hz1;have hcm1:cap<=9223372036854775807:=by unfold maxLen at hm1;omega
  have Hm:=Xa hm1;clear hm1;go_wp2_with fail
  go_ret;refine⟨_,rfl,⟨by simp,.inr ⟨_,cap,_,rfl,Nat.le_refl _,hR1,by simp,Hm.out,by simpa using hl1,by simp⟩⟩,hb1⟩
def Xnn (p q:List Int) (w:World) (e:Ending) (w':World):Prop:=∃v,e = .returned v/\OwnI w' w.heap.size v (p++q)/\Below w.heap.size w w'
def Xm3 (p q:List Int) (k:Nat):Nat:=if k=0 then 0 else if k=1 then p.length else p.length+q.length
def X0k (p q:List Int) (k:Nat):List Int:=if k=0 then [] else if k=1 then p else p++q
theorem Xn7 (g:Nat) (B C:Option Addr) (c d:Nat) (p q:List Int) (w:World) (hg:w.heap[g]? = some (.cells #[.slice B p.length c,.slice C q.length d] 49 (0,0))) (hp:Rd w B (p.flatMap intC)) (hq:Rd w C (q.flatMap intC)) (h0:0<p.length+q.length) (hn:p.length+q.length<=10000) :
  Calls Tryz.prog 157 #[.slice (some ⟨g,0,none⟩) 2 2] w (Xnn p q w):=by
 obtain⟨i0,hi0,hz0,hs0,hb0⟩:=info_parts T4;obtain⟨g0,g1⟩:=gb2 hg;have hgl:=Xd hg;have hp1:p.length<=10000:=by omega
 have hq1:q.length<=10000:=by omega
 go_enter Tryz.func157,Tryz.ntmps157
 go_wp2_with fail
 go_loop [3,11] (fun s i=>∃k:Nat,k<=2/\i = .int .i64 k/\s = .int .i64 (Xm3 p q k)) (fun _ i=>2-(intOf i).toNat)
 case atStart=>exact⟨0,by omega,rfl,rfl⟩
 case round =>
  obtain⟨k,hk,rfl,rfl⟩:=hrel;rcases(show k=0\/k=1\/k=2 by omega) with rfl|rfl|rfl
  ·have e0:Xm3 p q 0=0:=rfl
   rw[e0];go_wp2_with fail
   go_round
   case rel=>exact⟨1,by omega,by go_num,by show _=Value.int .i64 (p.length:Nat);go_num⟩
   case measure=>simp[intOf]
  ·have e0:Xm3 p q 1=p.length:=rfl
   rw[e0];go_wp2_with fail
   go_round
   case rel=>exact⟨2,by omega,by go_num,by show _=Value.int .i64 ((p.length+q.length:Nat));go_num⟩
   case measure=>simp[intOf]
  ·have e0:Xm3 p q 2=p.length+q.length:=rfl
   rw[e0];go_wp2_with fail
   refine(Xvq _ w h0 hn).mono ?_;rintro e w1 ⟨v1,rfl,hv1,hb1⟩;go_wp2_with fail
   go_loopw [6,27] (fun v i wr=>∃k:Nat,k<=2/\i = .int .i64 k/\OwnI wr w.heap.size v (X0k p q k)/\Below w.heap.size w wr) (fun _ i _=>2-(intOf i).toNat)
   case atStart=>exact⟨0,by omega,rfl,hv1,hb1⟩
   case round =>
    obtain⟨k,hk,rfl,hv,hB⟩:=hrel;have hz:=hB.size;rcases(show k=0\/k=1\/k=2 by omega) with rfl|rfl|rfl
    ·have x0:=(hB.cell (p:=⟨g,0,none⟩) hgl).trans g0
     change OwnL _ _ _ _ _ _ [] at hv;go_wp2_with (at_builtin;refine Te rfl _ _ 49 rfl w.heap.size 3 i0 _ 1 8 Tryz.underlying49 hi0 hz0 hs0 hb0 rfl (by decide) _ _ _ rfl B p.length c (p.flatMap intC) rfl hv (Vj p) (hp.ext hB) (Xou p) (by unfold maxLen;simp;omega) (by simp;omega) hz ?_;intro v2 w2 hown2 hgrow2 _)
     have hB2:=Xkr hB hv (Nat.le_refl _) hgrow2;go_roundw
     case rel=>exact⟨1,by omega,by go_num,by unfold OwnI OwnL;simpa[X0k] using hown2,hB2⟩
     case measure=>simp[intOf]
    ·have x0:=(hB.cell (p:=⟨g,1,none⟩) hgl).trans g1
     change OwnL _ _ _ _ _ _ p at hv;go_wp2_with (at_builtin;refine Te rfl _ _ 49 rfl w.heap.size 3 i0 _ 1 8 Tryz.underlying49 hi0 hz0 hs0 hb0 rfl (by decide) _ _ _ rfl C q.length d (q.flatMap intC) rfl hv (Vj q) (hq.ext hB) (Xou q) (by unfold maxLen;omega) (by omega) hz ?_;intro v2 w2 hown2 hgrow2 _)
     have hB2:=Xkr hB hv (Nat.le_refl _) hgrow2;go_roundw
     case rel=>exact⟨2,by omega,by go_num,by unfold OwnI OwnL;simpa[X0k] using hown2,hB2⟩
     case measure=>simp[intOf]
    ·change OwnL _ _ _ _ _ _ (p++q) at hv
     go_wp2_with fail
     go_ret;exact⟨_,rfl,hv,hB⟩
/-! ### span -/
theorem Xw6 (i:Int) (n:Nat):Vi i (i+((n+1:Nat):Int))=Vi i (i+(n:Int))++[i+(n:Int)]:=by
 unfold Vi;rw[show (i+((n+1:Nat):Int)-i).toNat=n+1 by omega,show (i+(n:Int)-i).toNat=n by omega,List.range_succ,List.map_append];rfl
theorem Xjd (i k:Int):(Vi i k).length=(k-i).toNat:=by unfold Vi;simp
def Xyj (i k:Int) (w:World) (e:Ending) (w':World):Prop:=∃v,e = .returned v/\OwnI w' w.heap.size v (Vi i k)/\Below w.heap.size w w'
theorem Xjc (i k:Int) (w:World) (hi:0<=i) (hk:i<=k) (hm:k<=5000):Calls Tryz.prog 161 #[.int .i64 i,.int .i64 k] w (Xyj i k w):=by
 obtain⟨i0,hi0,hz0,hs0,hb0⟩:=info_parts T4;obtain⟨T,hT⟩:∃T:Nat,k=i+(T:Int):=⟨(k-i).toNat,by omega⟩
 subst hT;go_enter Tryz.func161,Tryz.ntmps161
 go_wp2_with fail
 go_loopw [4,5] (fun v j wr=>∃n:Nat,n<=T/\j = .int .i64 (i+(n:Int))/\OwnI wr w.heap.size v (Vi i (i+(n:Int)))/\Below w.heap.size w wr) (fun _ j _=>(i+(T:Int)-intOf j).toNat)
 case atStart=>exact⟨0,Nat.zero_le _,by go_num,by rw[show i+((0:Nat):Int)=i by omega,show Vi i i=[] by unfold Vi;simp];exact OwnL.nil _ _ _ _ _,bo_q⟩
 case round =>
  obtain⟨n,hn,rfl,hv,hB⟩:=hrel;have hz:=hB.size;have hln:(Vi i (i+(n:Int))).length<=5000:=by rw[Xjd];omega
  obtain⟨A1,A2⟩:=Xzq (n:=(Vi i (i+(n:Int))).length) (by omega);have hsn:=Xw6 i n;have Hsn:=Xa hsn;have Hv:=Xa hv;clear hsn hv;obtain⟨L,hL⟩:∃L,Vi i (i+(n:Int))=L:=⟨_,rfl⟩
  rw[hL] at hln A1 A2 Hsn Hv;have HL:=Xa hL;clear hL;by_cases hlt:n<T
  ·have g1:i+(n:Int)<i+(T:Int):=by omega
   go_wp2_with (at_builtin;refine Te rfl _ _ 49 rfl w.heap.size 3 i0 _ 1 8 Tryz.underlying49 hi0 hz0 hs0 hb0 rfl (by decide) _ _ _ rfl (some ⟨wr.heap.size,0,none⟩) 1 1 (intC (i+(n:Int))) rfl (Hv.out.ext (Xg (Below.refl wr.heap.size wr) _)) rfl (Zg (World.alloc_heap_new wr _) rfl) (Xos _) A1 A2 (Nat.le_trans hz (by simp)) ?_;intro v5 w5 hown5 hgrow5 _)
   have hB5:Below w.heap.size w w5:=(Xb hB (Xg (Below.refl wr.heap.size wr) _)).grown hgrow5 (Nat.le_trans hz (by simp)) (fun k hk=>(Hv.out.lt k hk).1);have hs5:=OwnL.snoc (f:=intC) (i+(n:Int)) hown5;clear hown5 hgrow5;go_wp2_with fail
   go_roundw
   case rel=>exact⟨n+1,by omega,by go_num,by rw[Hsn.out];exact hs5,hB5⟩
   case measure=>simp[intOf];omega
  ·obtain rfl:n=T:=by omega
   have g1:¬(i+(n:Int)<i+(n:Int)):=(by omega);go_wp2_with fail
   go_ret;exact⟨_,rfl,by rw[HL.out];exact Hv.out,hB⟩
theorem Xxe {a b:Nat} (ha:0<a) (h:bigN / a<b):Qu bigN a b=bigN+1:=by unfold Qu;rw[if_pos ⟨ha,h⟩]
theorem Xly {a b:Nat} (h:¬(0<a/\bigN / a<b)):Qu bigN a b=a*b:=by unfold Qu;rw[if_neg h]
theorem Xs3 {a b:Nat} (h:¬(0<a/\bigN / a<b)):a*b<=bigN:=by
 rcases Nat.eq_zero_or_pos a with rfl|ha
 ·rw[Nat.zero_mul];exact Nat.zero_le _
 ·have h1:b<=bigN / a:=Nat.le_of_not_lt fun h2=>h ⟨ha,h2⟩
  have h2:=Nat.mul_le_mul_left a h1;exact Nat.le_trans h2 (Nat.mul_div_le _ _)
theorem Xht:(bigN:Int)+1<9223372036854775807:=by decide
theorem Xt9 (a:Nat):(1099511627776:Int).tdiv (a:Int)=(bigN:Int) / (a:Int):=rfl
theorem X0b {a b:Nat} (h:a*b<=bigN):IntKind.i64.wrap ((a:Int)*(b:Int))=((a*b:Nat):Int):=by
 have h1:=Xht;have h2:((a*b:Nat):Int)<=(bigN:Int):=by exact_mod_cast h
 have h3:(0:Int)<=((a*b:Nat):Int):=Int.natCast_nonneg _;have e:(a:Int)*(b:Int)=((a*b:Nat):Int):=(Int.natCast_mul a b).symm;rw[e];generalize ((a*b:Nat):Int)=x at *;generalize (bigN:Int)=y at *;rw[IntWalk.i64_in _ (by omega)]
theorem Xpf (a:Nat):IntKind.i64.wrap ((bigN:Int) / (a:Int))=((bigN / a:Nat):Int):=by
 have h1:=Xht;have h2:((bigN / a:Nat):Int)<=(bigN:Int):=by exact_mod_cast Nat.div_le_self bigN a
 have h3:(0:Int)<=((bigN / a:Nat):Int):=Int.natCast_nonneg _;have e:(bigN:Int) / (a:Int)=((bigN / a:Nat):Int):=(Int.natCast_ediv bigN a).symm;rw[e];generalize ((bigN / a:Nat):Int)=x at *;generalize (bigN:Int)=y at *;rw[IntWalk.i64_in _ (by omega)]
theorem Xxd (a b:Nat) (w:World):Calls Tryz.prog 181 #[.int .i64 (a:Int),.int .i64 (b:Int)] w fun e w'=>e = .returned (.int .i64 (Qu bigN a b:Nat))/\w=w':=by
 rcases Nat.eq_zero_or_pos a with rfl|ha
 ·have HE:Hid (Qu bigN 0 b=0):=by show _=_;rw[Xly (by omega),Nat.zero_mul]
  go_enter Tryz.func181,Tryz.ntmps181
  go_wp2_with fail
  go_ret;exact⟨by rw[HE.out];simp,rfl⟩
 ·have g1:decide ((0:Int)<(a:Int))=true:=decide_eq_true (by omega)
  have g0:0<a:=ha;by_cases h:bigN / a<b
  ·have HE:=Xa (Xxe ha h)
   have g2:decide (bigN / a<b)=true:=decide_eq_true h;have hq:=Xt9 a;have hw:=Xpf a;have ha2:(a:Int)≠0:=(by omega);generalize bigN / a=q at *;generalize (bigN:Int)=y at *;go_enter Tryz.func181,Tryz.ntmps181
   go_wp2_with fail
   go_ret;exact⟨by rw[HE.out];rfl,rfl⟩
  ·have HE:=Xa (Xly (a:=a) (b:=b) fun h2=>h h2.2)
   have g2:decide (bigN / a<b)=false:=decide_eq_false h;have hq:=Xt9 a;have hw:=Xpf a;have hm:=X0b (Xs3 (a:=a) (b:=b) fun h2=>h h2.2);have ha2:(a:Int)≠0:=(by omega);generalize bigN / a=q at *;generalize (bigN:Int)=y at *;go_enter Tryz.func181,Tryz.ntmps181
   go_wp2_with fail
   go_ret;exact⟨by rw[HE.out];first|rfl|(simp;done),rfl⟩
theorem Xyw (a:Nat):((capN bigN a:Nat):Int)=min (a:Int) 1099511627777:=by unfold capN bigN;omega
def InP (P:Nat->Prop) (A:Option Addr) (n:Nat):Prop:=0<n->∃b off,A=some ⟨b,off,none⟩/\P b
mutual
def TreeAt (w:World) (P:Nat->Prop):TreeV->List Value->Prop
 | .node r j i k l,cs=>∃A cap css,cs=[.int .i64 r,.int .i64 j,.int .i64 i,.int .i64 k,.slice A l.length cap]/\l.length<=cap/\cap<=9223372036854775807/\(A=none->l=[])/\InP P A l.length/\Rd w A css.flatten/\KidsAt w P l css
def KidsAt (w:World) (P:Nat->Prop):List TreeV->List (List Value)->Prop
 | [],css=>css=[]
 | t :: l,css=>∃cs css',css=cs :: css'/\TreeAt w P t cs/\KidsAt w P l css'
end
theorem X2d {w w':World} {P:Nat->Prop} (hk:∀b,P b->b<w.heap.size->w'.heap[b]? = w.heap[b]?) (hs:w.heap.size<=w'.heap.size) {A:Option Addr} {n:Nat} {xs:List Value} (hP:InP P A n) (h0:n=0->xs=[]) (h:Rd w A xs):Rd w' A xs:=by
 rcases h with h|⟨b,off,rfl,hb,hc⟩
 ·exact .inl h
 ·rcases Nat.eq_zero_or_pos n with hn|hn
  ·exact .inl (h0 hn)
  ·obtain⟨b',off',e,hp⟩:=hP hn
   cases e;exact .inr ⟨b,off,rfl,Nat.lt_of_lt_of_le hb hs,fun j u hu=>(World.cell?_of_block (w:=w) (hk b hp hb)).trans (hc j u hu)⟩
theorem Xdl {w:World} {P:Nat->Prop}:∀ {l:List TreeV} {css:List (List Value)},KidsAt w P l css->css.length=l.length
 | [],css,h=>by unfold KidsAt at h;rw[h];rfl
 | t :: l,css,h=>by
  unfold KidsAt at h;obtain⟨cs,css',rfl,_,h⟩:=h;rw[List.length_cons,List.length_cons,Xdl h]
theorem Xdu {w:World} {P:Nat->Prop} {t:TreeV} {cs:List Value} (h:TreeAt w P t cs):cs.length=5:=by
 cases t;unfold TreeAt at h;obtain⟨A,cap,css,rfl,_⟩:=h;rfl
theorem Xoj {w:World} {P:Nat->Prop} {l:List TreeV} {css:List (List Value)} (h:KidsAt w P l css) (h0:l.length=0):css.flatten=[]:=by
 have:=Xdl h;have:css=[]:=List.eq_nil_of_length_eq_zero (by omega);rw[this];rfl
mutual
theorem TreeAt.keep {w w':World} {P P':Nat->Prop} (hk:∀b,P b->b<w.heap.size->w'.heap[b]? = w.heap[b]?) (hs:w.heap.size<=w'.heap.size) (hP:∀b,P b->P' b):∀ {t:TreeV} {cs:List Value},TreeAt w P t cs->TreeAt w' P' t cs
 | .node r j i k l,cs,h=>by
  unfold TreeAt at h ⊢;obtain⟨A,cap,css,h1,h2,h3,h4,h5,h6,h7⟩:=h;refine⟨A,cap,css,h1,h2,h3,h4,fun hn=>?_,X2d hk hs h5 (fun h0=>Xoj h7 h0) h6,KidsAt.keep hk hs hP h7⟩;obtain⟨b,off,e,hp⟩:=h5 hn;exact⟨b,off,e,hP b hp⟩
theorem KidsAt.keep {w w':World} {P P':Nat->Prop} (hk:∀b,P b->b<w.heap.size->w'.heap[b]? = w.heap[b]?) (hs:w.heap.size<=w'.heap.size) (hP:∀b,P b->P' b):∀ {l:List TreeV} {css:List (List Value)},KidsAt w P l css->KidsAt w' P' l css
 | [],css,h=>by unfold KidsAt at h ⊢;exact h
 | t :: l,css,h=>by
  unfold KidsAt at h ⊢;obtain⟨cs,css',rfl,h1,h2⟩:=h;exact⟨cs,css',rfl,TreeAt.keep hk hs hP h1,KidsAt.keep hk hs hP h2⟩
end
theorem TreeAt.ext {w w':World} {P:Nat->Prop} {t:TreeV} {cs:List Value} (h:TreeAt w P t cs) (hb:Below w.heap.size w w'):TreeAt w' P t cs:=h.keep (fun b _ hlt=>hb.block b hlt) hb.size fun _ h=>h
theorem KidsAt.snoc {w:World} {P:Nat->Prop} {t:TreeV} {cs:List Value} (ht:TreeAt w P t cs):∀ {l:List TreeV} {css:List (List Value)},KidsAt w P l css->KidsAt w P (l++[t]) (css++[cs])
 | [],css,h=>by
  unfold KidsAt at h;rw[h];exact⟨cs,[],rfl,ht,rfl⟩
 | x :: l,css,h=>by
  unfold KidsAt at h;obtain⟨c,css',rfl,h1,h2⟩:=h;exact⟨c,css'++[cs],rfl,h1,KidsAt.snoc ht h2⟩
theorem KidsAt.get {w:World} {P:Nat->Prop}:∀ {l:List TreeV} {css:List (List Value)},KidsAt w P l css->∀(n:Nat) (hn:n<l.length),∃hc:n<css.length,TreeAt w P l[n] css[n]
 | [],css,h,n,hn=>by simp at hn
 | x :: l,css,h,n,hn=>by
  unfold KidsAt at h;obtain⟨c,css',rfl,h1,h2⟩:=h;cases n with
  | zero=>exact⟨by simp,h1⟩
  | succ n =>
   obtain⟨hc,h3⟩:=KidsAt.get h2 n (by simpa using hn);exact⟨by simpa using hc,h3⟩
theorem Xgj {w:World} {P:Nat->Prop}:∀ {l:List TreeV} {css:List (List Value)},KidsAt w P l css->css.flatten.length=l.length*5
 | [],css,h=>by unfold KidsAt at h;rw[h];rfl
 | x :: l,css,h=>by
  unfold KidsAt at h;obtain⟨c,css',rfl,h1,h2⟩:=h;rw[List.flatten_cons,List.length_append,Xdu h1,Xgj h2,List.length_cons];omega
theorem Xh9:∀ {css:List (List Value)} {n:Nat} (hn:n<css.length),(∀c∈css,c.length=5)->∀(j:Nat) (u:Value),css[n][j]? = some u->css.flatten[n*5+j]? = some u
 | [],n,hn,_,_,_,_=>by simp at hn
 | c :: css,0,hn,h5,j,u,hu=>by
  rw[List.flatten_cons,Nat.zero_mul,Nat.zero_add];rw[List.getElem?_append_left (by have:=(List.getElem?_eq_some_iff.1 hu).1;simpa using this)]
  simpa using hu
 | c :: css,n+1,hn,h5,j,u,hu=>by
  rw[List.flatten_cons,List.getElem?_append_right (by rw[h5 c (List.mem_cons_self ..)];omega),h5 c (List.mem_cons_self ..)];rw[show (n+1)*5+j-5=n*5+j by omega];exact Xh9 (by simpa using hn) (fun d hd=>h5 d (List.mem_cons_of_mem _ hd)) j u (by simpa using hu)
theorem Xgi {w:World} {P:Nat->Prop}:∀ {l:List TreeV} {css:List (List Value)},KidsAt w P l css->∀c∈css,c.length=5
 | [],css,h,c,hc=>by unfold KidsAt at h;rw[h] at hc;cases hc
 | x :: l,css,h,c,hc=>by
  unfold KidsAt at h;obtain⟨c',css',rfl,h1,h2⟩:=h;rcases List.mem_cons.1 hc with rfl|hc
  ·exact Xdu h1
  ·exact Xgi h2 c hc
theorem Xk6 {w:World} {P:Nat->Prop} {l:List TreeV} {css:List (List Value)} {A:Option Addr} (hr:Rd w A css.flatten) (h:KidsAt w P l css) {n:Nat} (hn:n<l.length) :
  ∃b off B cap,A=some ⟨b,off,none⟩/\b<w.heap.size/\TreeAt w P l[n] [.int .i64 l[n].rule,.int .i64 l[n].item,.int .i64 l[n].frm,.int .i64 l[n].unt,.slice B l[n].kids.length cap] /\
   w.cell? ⟨b,off+n*5,none⟩=some (.int .i64 l[n].rule)/\w.cell? ⟨b,off+n*5+1,none⟩=some (.int .i64 l[n].item)/\w.cell? ⟨b,off+n*5+2,none⟩=some (.int .i64 l[n].frm)/\w.cell? ⟨b,off+n*5+3,none⟩=some (.int .i64 l[n].unt)/\w.cell? ⟨b,off+n*5+4,none⟩=some (.slice B l[n].kids.length cap):=by
 obtain⟨hc,ht⟩:=h.get n hn;have h5:=Xgi h
 have hcs:∃B cap,css[n]=[.int .i64 l[n].rule,.int .i64 l[n].item,.int .i64 l[n].frm,.int .i64 l[n].unt,.slice B l[n].kids.length cap]:=by
  generalize l[n]=t at ht;cases t;unfold TreeAt at ht;obtain⟨B,cap,_,e,_⟩:=ht;exact⟨B,cap,e⟩
 obtain⟨B,cap,e⟩:=hcs;rw[e] at ht
 have hne:css.flatten≠[]:=by
  intro h0;have:=Xgj h;rw[h0] at this;simp at this;omega
 rcases hr with h0|⟨b,off,rfl,hb,hcl⟩
 ·exact absurd h0 hne
 ·have key:∀(j:Nat) (u:Value),css[n][j]? = some u->w.cell? ⟨b,off+n*5+j,none⟩=some u:=fun j u hu=>by
   rw[Nat.add_assoc];exact hcl _ u (Xh9 hc h5 j u hu)
  rw[e] at key;exact⟨b,off,B,cap,rfl,hb,ht,key 0 _ rfl,key 1 _ rfl,key 2 _ rfl,key 3 _ rfl,key 4 _ rfl⟩
structure KidS where
 addr:Option Addr
 len:Nat
 cap:Nat
structure FoundG where
 ok:Bool
 cost:Int
 rule:Int
 item:Int
 frm:Int
 unt:Int
 kids:KidS
 many:Int
abbrev FoundG.ob (x:FoundG):Obj:=.cells #[.bool x.ok,.int .i64 x.cost,.int .i64 x.rule,.int .i64 x.item,.int .i64 x.frm,.int .i64 x.unt,.slice x.kids.addr x.kids.len x.kids.cap,.int .i64 x.many] 114
abbrev FoundG.vl (x:FoundG):Value:=.agg #[.bool x.ok,.int .i64 x.cost,.int .i64 x.rule,.int .i64 x.item,.int .i64 x.frm,.int .i64 x.unt,.slice x.kids.addr x.kids.len x.kids.cap,.int .i64 x.many]
structure TreeG where
 rule:Int
 item:Int
 frm:Int
 unt:Int
 kids:KidS
abbrev TreeG.ob (x:TreeG):Obj:=.cells #[.int .i64 x.rule,.int .i64 x.item,.int .i64 x.frm,.int .i64 x.unt,.slice x.kids.addr x.kids.len x.kids.cap] 37
abbrev TreeG.vl (x:TreeG):Value:=.agg #[.int .i64 x.rule,.int .i64 x.item,.int .i64 x.frm,.int .i64 x.unt,.slice x.kids.addr x.kids.len x.kids.cap]
def Xgu (f:FoundG) (cost:Int) (many:Int) (t:TreeG):FoundG :=
 if f.ok=false\/cost<f.cost then ⟨true,cost,t.rule,t.item,t.frm,t.unt,t.kids,min (f.many+many) 1099511627777⟩ else ⟨f.ok,f.cost,f.rule,f.item,f.frm,f.unt,f.kids,min (f.many+many) 1099511627777⟩
def Xd5 (fb:Nat) (f':FoundG) (w:World) (e:Ending) (w':World):Prop :=
 e = .returned (.tuple #[])/\w'.heap[fb]? = some f'.ob/\Only (fun j=>j=fb) w w'
theorem Xvi {V:World} {fb:Nat} {f:FoundG} (h:V.heap[fb]? = some f.ob) (cost:Int) (t:TreeG) :
  (((((((V.setCell ⟨fb,0,none⟩ (.bool true)).setCell ⟨fb,1,none⟩ (.int .i64 cost)).setCell ⟨fb,2,none⟩ (.int .i64 t.rule)).setCell ⟨fb,3,none⟩ (.int .i64 t.item)).setCell ⟨fb,4,none⟩ (.int .i64 t.frm)).setCell ⟨fb,5,none⟩ (.int .i64 t.unt)).setCell ⟨fb,6,none⟩ (.slice t.kids.addr t.kids.len t.kids.cap)).heap[fb]? =
   some (.cells #[.bool true,.int .i64 cost,.int .i64 t.rule,.int .i64 t.item,.int .i64 t.frm,.int .i64 t.unt,.slice t.kids.addr t.kids.len t.kids.cap,.int .i64 f.many] 114 (0,0)):=by
 have h0:(V.setCell ⟨fb,0,none⟩ (.bool true)).heap[fb]? = some (.cells #[.bool true,.int .i64 f.cost,.int .i64 f.rule,.int .i64 f.item,.int .i64 f.frm,.int .i64 f.unt,.slice f.kids.addr f.kids.len f.kids.cap,.int .i64 f.many] 114 (0,0)):=Xs h 0 _;have h1:((V.setCell ⟨fb,0,none⟩ (.bool true)).setCell ⟨fb,1,none⟩ (.int .i64 cost)).heap[fb]? = some (.cells #[.bool true,.int .i64 cost,.int .i64 f.rule,.int .i64 f.item,.int .i64 f.frm,.int .i64 f.unt,.slice f.kids.addr f.kids.len f.kids.cap,.int .i64 f.many] 114 (0,0)):=Xs h0 1 _;have h2:(((V.setCell ⟨fb,0,none⟩ (.bool true)).setCell ⟨fb,1,none⟩ (.int .i64 cost)).setCell ⟨fb,2,none⟩ (.int .i64 t.rule)).heap[fb]? = some (.cells #[.bool true,.int .i64 cost,.int .i64 t.rule,.int .i64 f.item,.int .i64 f.frm,.int .i64 f.unt,.slice f.kids.addr f.kids.len f.kids.cap,.int .i64 f.many] 114 (0,0)):=Xs h1 2 _;have h3:((((V.setCell ⟨fb,0,none⟩ (.bool true)).setCell ⟨fb,1,none⟩ (.int .i64 cost)).setCell ⟨fb,2,none⟩ (.int .i64 t.rule)).setCell ⟨fb,3,none⟩ (.int .i64 t.item)).heap[fb]? = some (.cells #[.bool true,.int .i64 cost,.int .i64 t.rule,.int .i64 t.item,.int .i64 f.frm,.int .i64 f.unt,.slice f.kids.addr f.kids.len f.kids.cap,.int .i64 f.many] 114 (0,0)):=Xs h2 3 _;have h4:(((((V.setCell ⟨fb,0,none⟩ (.bool true)).setCell ⟨fb,1,none⟩ (.int .i64 cost)).setCell ⟨fb,2,none⟩ (.int .i64 t.rule)).setCell ⟨fb,3,none⟩ (.int .i64 t.item)).setCell ⟨fb,4,none⟩ (.int .i64 t.frm)).heap[fb]? = some (.cells #[.bool true,.int .i64 cost,.int .i64 t.rule,.int .i64 t.item,.int .i64 t.frm,.int .i64 f.unt,.slice f.kids.addr f.kids.len f.kids.cap,.int .i64 f.many] 114 (0,0)):=Xs h3 4 _;have h5:((((((V.setCell ⟨fb,0,none⟩ (.bool true)).setCell ⟨fb,1,none⟩ (.int .i64 cost)).setCell ⟨fb,2,none⟩ (.int .i64 t.rule)).setCell ⟨fb,3,none⟩ (.int .i64 t.item)).setCell ⟨fb,4,none⟩ (.int .i64 t.frm)).setCell ⟨fb,5,none⟩ (.int .i64 t.unt)).heap[fb]? = some (.cells #[.bool true,.int .i64 cost,.int .i64 t.rule,.int .i64 t.item,.int .i64 t.frm,.int .i64 t.unt,.slice f.kids.addr f.kids.len f.kids.cap,.int .i64 f.many] 114 (0,0)):=Xs h4 5 _;have h6:(((((((V.setCell ⟨fb,0,none⟩ (.bool true)).setCell ⟨fb,1,none⟩ (.int .i64 cost)).setCell ⟨fb,2,none⟩ (.int .i64 t.rule)).setCell ⟨fb,3,none⟩ (.int .i64 t.item)).setCell ⟨fb,4,none⟩ (.int .i64 t.frm)).setCell ⟨fb,5,none⟩ (.int .i64 t.unt)).setCell ⟨fb,6,none⟩ (.slice t.kids.addr t.kids.len t.kids.cap)).heap[fb]? = some (.cells #[.bool true,.int .i64 cost,.int .i64 t.rule,.int .i64 t.item,.int .i64 t.frm,.int .i64 t.unt,.slice t.kids.addr t.kids.len t.kids.cap,.int .i64 f.many] 114 (0,0)):=Xs h5 6 _;exact h6
theorem Xp0 (fb:Nat) (f:FoundG) (cost many:Int) (g:Nat) (lb:Array Value) (t:TreeG) (w:World) (hf:w.heap[fb]? = some f.ob) (eg:∀args w,(callFunc g args).run Tryz.prog w = .ok (.enter g args) w)
  (hg:∀W,Only (fun j=>j=fb) w W->Calls Tryz.prog g lb W fun e w'=>e = .returned (t.vl)/\Below W.heap.size W w')
  (h1:IntKind.i64.wrap (f.many+many)=f.many+many) :
  Calls Tryz.prog 178 #[.pointer (some ⟨fb,0,none⟩),.int .i64 cost,.int .i64 many,.func (.func g) #[] lb] w (Xd5 fb (Xgu f cost many t) w):=by
 have hlt:=Xd hf;have Hf:=Xa hf;obtain⟨a0,a1,a2,a3,a4,a5,a6,a7⟩:=gb8 hf;have hz:=Xf hf 7;obtain⟨m',hm'⟩:∃m',min (f.many+many) 1099511627777=m':=⟨_,rfl⟩
 have hO:Only (fun j=>j=fb) w (w.setCell ⟨fb,7,none⟩ (.int .i64 m')):=Only.setCell (M:=fun j=>j=fb) (Only.refl _ _) (p:=⟨fb,7,none⟩) (.inl rfl) _;have hfm:(w.setCell ⟨fb,7,none⟩ (.int .i64 m')).heap[fb]? = some (.cells #[.bool f.ok,.int .i64 f.cost,.int .i64 f.rule,.int .i64 f.item,.int .i64 f.frm,.int .i64 f.unt,.slice f.kids.addr f.kids.len f.kids.cap,.int .i64 m'] 114 (0,0)):=Xs hf 7 _;have HT:Hid (Xgu f cost many t=if f.ok=false\/cost<f.cost then ⟨true,cost,t.rule,t.item,t.frm,t.unt,t.kids,m'⟩ else ⟨f.ok,f.cost,f.rule,f.item,f.frm,f.unt,f.kids,m'⟩):=by rw[<- hm'];rfl
 have Hfm:=Xa hfm;have HO:=Xa hO;have Hg:=Xa (hg _ hO);have fin:∀V,Below (w.setCell ⟨fb,7,none⟩ (.int .i64 m')).heap.size (w.setCell ⟨fb,7,none⟩ (.int .i64 m')) V->V.heap[fb]? = some (.cells #[.bool f.ok,.int .i64 f.cost,.int .i64 f.rule,.int .i64 f.item,.int .i64 f.frm,.int .i64 f.unt,.slice f.kids.addr f.kids.len f.kids.cap,.int .i64 m'] 114 (0,0)):=fun V hV=>Xi hV hfm;have Hfin:=Xa fin;clear hg hf hfm hO fin;obtain⟨W1,hW1⟩:∃W1,w.setCell ⟨fb,7,none⟩ (.int .i64 m')=W1:=⟨_,rfl⟩
 rw[hW1] at Hfm HO Hg Hfin;have hfm:=Hfm.out;obtain⟨b0,b1,b2,b3,b4,b5,b6,b7⟩:=gb8 hfm
 have go:(f.ok=false\/cost<f.cost)->∀V,Below W1.heap.size W1 V->Xd5 fb (Xgu f cost many t) w (.returned (.tuple #[])) (((((((V.setCell ⟨fb,0,none⟩ (.bool true)).setCell ⟨fb,1,none⟩ (.int .i64 cost)).setCell ⟨fb,2,none⟩ (.int .i64 t.rule)).setCell ⟨fb,3,none⟩ (.int .i64 t.item)).setCell ⟨fb,4,none⟩ (.int .i64 t.frm)).setCell ⟨fb,5,none⟩ (.int .i64 t.unt)).setCell ⟨fb,6,none⟩ (.slice t.kids.addr t.kids.len t.kids.cap)):=fun hc V hV=>by
  rw[HT.out,if_pos hc];exact⟨rfl,Xvi (f:=⟨f.ok,f.cost,f.rule,f.item,f.frm,f.unt,f.kids,m'⟩) (Hfin.out V hV) cost t,(((((((HO.out.ext hV).setCell (p:=⟨fb,0,none⟩) (.inl rfl) _).setCell (p:=⟨fb,1,none⟩) (.inl rfl) _).setCell (p:=⟨fb,2,none⟩) (.inl rfl) _).setCell (p:=⟨fb,3,none⟩) (.inl rfl) _).setCell (p:=⟨fb,4,none⟩) (.inl rfl) _).setCell (p:=⟨fb,5,none⟩) (.inl rfl) _).setCell (p:=⟨fb,6,none⟩) (.inl rfl) _⟩
 have Go:=Xa go;clear go hfm;cases hok:f.ok
 ·have hc:=Xa (Go.out (.inl hok))
  rw[hok] at a0 b0 Hfin;clear Go hok;go_enter Tryz.func178,Tryz.ntmps178
  go_wp2_with fail
  refine Hg.out.mono ?_;rintro e V ⟨rfl,hV⟩;have hfV:=Hfin.out V hV;obtain⟨c0,c1,c2,c3,c4,c5,c6,c7⟩:=gb8 hfV;have hltV:=Xd hfV;have hzV:=fun i=>Xf hfV i;have hfin:=Xa (hc.out V hV);clear hfV Hg Hfin hc hV;go_wp2_with fail
  exact bodyPost_ret (results_none rfl _ _ _) rfl hfin.out
 ·rw[hok] at a0 b0 Hfin
  by_cases hlc:cost<f.cost
  ·have hc:=Xa (Go.out (.inr hlc))
   have g1:decide (cost<f.cost)=true:=decide_eq_true hlc;clear Go hok hlc;go_enter Tryz.func178,Tryz.ntmps178
   go_wp2_with fail
   refine Hg.out.mono ?_;rintro e V ⟨rfl,hV⟩;have hfV:=Hfin.out V hV;obtain⟨c0,c1,c2,c3,c4,c5,c6,c7⟩:=gb8 hfV;have hltV:=Xd hfV;have hzV:=fun i=>Xf hfV i;have hfin:=Xa (hc.out V hV);clear hfV Hg Hfin hc hV;go_wp2_with fail
   exact bodyPost_ret (results_none rfl _ _ _) rfl hfin.out
  ·have g1:decide (cost<f.cost)=false:=decide_eq_false hlc
   have hfin:Xd5 fb (Xgu f cost many t) w (.returned (.tuple #[])) W1:=by
    rw[HT.out,if_neg (by rw[hok];rintro(h|h);cases h;exact hlc h)];exact⟨rfl,Hfm.out,HO.out⟩
   have HF:=Xa hfin;clear Go hok hlc hfin;go_enter Tryz.func178,Tryz.ntmps178
   go_wp2_with fail
   exact bodyPost_ret (results_none rfl _ _ _) rfl HF.out
end Go.Proofs.YtolpbjjapodmnaaGreatDoor
/- The reference of the glossary: which terms count, which are later, about the same, equal. -/
namespace Go.Proofs.YtolpbjjapodmnaaGreatDoor
open Go.RowKit Go.Han
attribute [local irreducible] wpStill wpQuiet
set_option maxRecDepth 100000
end Go.Proofs.YtolpbjjapodmnaaGreatDoor
namespace Go.Proofs.YtolpbjjapodmnaaGreatDoor
open Go.RowKit Go.Han
set_option maxRecDepth 100000
attribute [local irreducible] wpStill wpQuiet
set_option maxHeartbeats 8000000
end Go.Proofs.YtolpbjjapodmnaaGreatDoor
/- Maps as functions: what a map of the call's own holds at each key; ranging over one. No program in sight. -/
namespace Go.Han
open Go.Maps (Keyed)
section
variable {α β:Type} {P:Program} {k:TypeId}
structure Xx (P:Program) (k:TypeId) (α:Type) where
 val:α->Value
 lit:α->Lit
 good:α->Prop
 of:∀x,good x->keyOf P k (val x)=some (lit x)
 inv:∀v l,keyOf P k v=some l->∃x,good x/\v=val x/\l=lit x
 inj:∀x y,good x->good y->lit x=lit y->x=y
structure ElemShape (β:Type) where
 val:β->Value
 inj:∀x y,val x=val y->x=y
noncomputable def ElemShape.read (E:ElemShape β) (v:Value):Option (DataW β×List MemPlace) :=
 open Classical in if h:∃c,v=E.val c then some (.held (Classical.choose h),[]) else none
theorem ElemShape.read_val (E:ElemShape β) (c:β):E.read (E.val c)=some (.held c,[]):=by
 unfold ElemShape.read;have h:∃c',E.val c=E.val c':=⟨c,rfl⟩
 rw[dif_pos h,E.inj _ _ (Classical.choose_spec h).symm]
theorem ElemShape.read_inv (E:ElemShape β) {v:Value} {y:DataW β×List MemPlace} (h:E.read v=some y):∃c,v=E.val c/\y=(.held c,[]):=by
 unfold ElemShape.read at h;split at h
 ·rename_i hc
  cases h;exact⟨Classical.choose hc,Classical.choose_spec hc,rfl⟩
 ·cases h
def HoldsAt (S:Xx P k α) (D:DataW β) (f:α->Option β):Prop :=
 ∀x,S.good x->(f x=none->Maps.has D (S.lit x)=false)/\∀c,f x=some c->Maps.has D (S.lit x)=true/\∀z,D.atKey (S.lit x) z = .held c
def MapF (w:World) (S:Xx P k α) (E:ElemShape β) (b n:Nat) (f:α->Option β):Prop :=
 ∃D:DataW β,w.ownsMap P k E.read b n D/\HoldsAt S D f
theorem MapF.lt {w:World} {S:Xx P k α} {E:ElemShape β} {b n:Nat} {f:α->Option β} (h:MapF w S E b n f):b<w.heap.size:=let ⟨_,h1,_⟩:=h;h1.lt
theorem MapF.made (w:World) (S:Xx P k α) (E:ElemShape β):MapF (w.alloc (.map #[] 0)) S E w.heap.size 0 (fun _=>none) :=
 ⟨.map [],World.ownsMap_made w P k E.read,fun x _=>⟨fun _=>rfl,fun c h=>by cases h⟩⟩
theorem MapF.mono {w:World} {S:Xx P k α} {E:ElemShape β} {b n n':Nat} {f:α->Option β} (h:MapF w S E b n f) (hn:n<=n'):MapF w S E b n' f :=
 let ⟨D,h1,h2⟩:=h;⟨D,h1.mono hn,h2⟩
theorem MapF.of_block {w w':World} {S:Xx P k α} {E:ElemShape β} {b n:Nat} {f:α->Option β} (h:MapF w S E b n f) (hb:w'.heap[b]? = w.heap[b]?):MapF w' S E b n f:=by
 obtain⟨D,⟨es,clock,h1,h2⟩,h3⟩:=h;exact⟨D,⟨es,clock,hb.trans h1,h2⟩,h3⟩
theorem MapF.congr {w:World} {S:Xx P k α} {E:ElemShape β} {b n:Nat} {f g:α->Option β} (h:MapF w S E b n f) (e:∀x,S.good x->g x=f x):MapF w S E b n g:=by
 obtain⟨D,h1,h2⟩:=h;exact⟨D,h1,fun x hx=>by rw[e x hx];exact h2 x hx⟩
theorem HoldsAt.put [DecidableEq α] {S:Xx P k α} (K:Keyed P k) {D:DataW β} {f:α->Option β} (h:HoldsAt S D f) (hD:Maps.IsMap D) {x:α} (hx:S.good x) (c:β) :
  HoldsAt S (D.put (S.lit x) (.held c)) (fun y=>if y=x then some c else f y):=by
 intro y hy;have hk:WideAt.IsKeyLit (S.lit x):=K.key (S.of x hx);by_cases e:y=x
 ·subst e
  exact⟨fun h=>by simp at h,fun c' h=>by
   simp at h;subst h;exact⟨Maps.has_put_same hD hk _,fun z=>Maps.atKey_put_same hD hk _ z⟩⟩
 ·have hne:S.lit y≠S.lit x:=fun h'=>e (S.inj y x hy hx h')
  obtain⟨h1,h2⟩:=h y hy
  exact⟨fun h'=>by rw[Maps.has_put_other hne];exact h1 (by simpa[e] using h'),fun c' h'=>by
   have:=h2 c' (by simpa[e] using h');exact⟨by rw[Maps.has_put_other hne];exact this.1,fun z=>by rw[Maps.atKey_put_other hne];exact this.2 z⟩⟩
section
variable (w:World) {ops:Array Oper} {rest:List Oper} {o:Oper} {a:Act} {Q:Exit->Act->World->Prop}
theorem Vz [DecidableEq α] (hg:o.guard=none) (m x v:Operand) (t:TypeId) (hop:o.op=Op.mapUpdate t m x v) (e:TypeId) (K:Keyed P k) (ht:P.underlying t=some (.map k e)) (S:Xx P k α) (E:ElemShape β) (b n:Nat) (f:α->Option β)
  (hm:a.eval m = .map (some b)) (hown:MapF w S E b n f) (hn:n<maxLen) (key:α) (c:β) (hx:a.eval x=S.val key) (hv:a.eval v=E.val c) (hgood:S.good key)
  (hK:∀w',MapF w' S E b (n+1) (fun y=>if y=key then some c else f y)->w.grownBy w' (some b)->w'.heap.size=w.heap.size->wpList P ops Q rest (a.put o.dst undef) w') :
  wpList P ops Q (o :: rest) a w:=by
 obtain⟨D,h1,h2⟩:=hown;refine wpList_plain hg fun K' hK'=>?_;obtain⟨w',hrun,r1,r2⟩:=h1.store K ht hn (S.of key hgood) (E.read_val c)
 have hsz:w'.heap.size=w.heap.size:=by
  obtain⟨es,clock,es',clock',hb,rfl⟩:=r2;simp[ChangeMaps.setBlock]
 unfold Oper.wp;simp[execOp,hop,hm,hx,hv,hrun,Result.andThen];exact hK' _ _ (hK w' ⟨_,r1,h2.put K h1.isMap hgood c⟩ r2.grown hsz)
theorem MapF.store [DecidableEq α] {t e:TypeId} (K:Keyed P k) (ht:P.underlying t=some (.map k e)) {S:Xx P k α} {E:ElemShape β} {b n:Nat} {f:α->Option β} (hown:MapF w S E b n f) (hn:n<maxLen) (key:α) (c:β) (hgood:S.good key) :
  ∃w',(Instr.mapUpdate t (.map (some b)) (S.val key) (E.val c)).run P w = .ok () w'/\MapF w' S E b (n+1) (fun y=>if y=key then some c else f y)/\w.grownBy w' (some b)/\w'.heap.size=w.heap.size:=by
 obtain⟨D,h1,h2⟩:=hown;obtain⟨w',hrun,r1,r2⟩:=h1.store K ht hn (S.of key hgood) (E.read_val c);refine⟨w',hrun,⟨_,r1,h2.put K h1.isMap hgood c⟩,r2.grown,?_⟩;obtain⟨es,clock,es',clock',hb,rfl⟩:=r2;simp[ChangeMaps.setBlock]
theorem Vf {t e:TypeId} (K:Keyed P k) (ht:P.underlying t=some (.map k e)) (S:Xx P k α) (E:ElemShape β) (z0:β) {b n:Nat} {f:α->Option β} (hz:(zeroValue e).run P w = .ok (E.val z0) w) (hown:MapF w S E b n f) (key:α) (hgood:S.good key) :
  (Instr.lookup t (.map (some b)) (S.val key) true).run P w = .ok (.tuple #[E.val ((f key).getD z0),.bool (f key).isSome]) w:=by
 obtain⟨D,h1,h2⟩:=hown;obtain⟨v,ps,hrun,hv⟩:=h1.look_ok K ht hz (E.read_val z0) (S.of key hgood);obtain⟨g1,g2⟩:=h2 key hgood;obtain⟨c,rfl,hc⟩:=E.read_inv hv;simp only[Prod.mk.injEq] at hc;cases hf:f key with
 | none =>
  have:=g1 hf;rw[Maps.atKey_of_not_has this] at hc;cases hc.1;rw[this] at hrun;exact hrun
 | some c' =>
  obtain⟨g3,g4⟩:=g2 c' hf;rw[g4] at hc;cases hc.1;rw[g3] at hrun;exact hrun
theorem Xg7 (hg:o.guard=none) (m x:Operand) (t:TypeId) (hop:o.op=Op.lookup t m x true) (e:TypeId) (K:Keyed P k) (ht:P.underlying t=some (.map k e)) (S:Xx P k α) (E:ElemShape β) (z0:β) (b n:Nat) (f:α->Option β)
  (hz:(zeroValue e).run P w = .ok (E.val z0) w) (hm:a.eval m = .map (some b)) (hown:MapF w S E b n f) (key:α) (hx:a.eval x=S.val key) (hgood:S.good key)
  (hK:wpList P ops Q rest (a.put o.dst (.tuple #[E.val ((f key).getD z0),.bool (f key).isSome])) w) :
  wpList P ops Q (o :: rest) a w:=by
 refine wpList_plain hg fun K' hK'=>?_;have hrun:=Vf w K ht S E z0 hz hown key hgood;unfold Oper.wp;simp only[execOp,hop,hm,hx,Sem.run_bind,hrun,Result.andThen_ok,Sem.run_pure];exact hK' _ _ hK
theorem Ys (hg:o.guard=none) (m x:Operand) (t:TypeId) (hop:o.op=Op.lookup t m x true) (e:TypeId) (K:Keyed P k) (ht:P.underlying t=some (.map k e)) (S:Xx P k α) (E:ElemShape β) (z0:β) (b n:Nat) (f:α->Option β)
  (hz:(zeroValue e).run P w = .ok (E.val z0) w) (hm:a.eval m = .map (some b)) (hown:MapF w S E b n f) (key:α) (hx:a.eval x=S.val key) (hgood:S.good key) (vc:Value) (bc:Bool) (hv:E.val ((f key).getD z0)=vc) (hb:(f key).isSome=bc)
  (hK:wpList P ops Q rest (a.put o.dst (.tuple #[vc,.bool bc])) w) :
  wpList P ops Q (o :: rest) a w:=by
 subst hv hb;exact Xg7 w hg m x t hop e K ht S E z0 b n f hz hm hown key hx hgood hK
/-! ### ranging -/
def RangeF (w:World) (S:Xx P k α) (E:ElemShape β) (b r n:Nat) (f:α->Option β) (left:α->Bool) (cnt:Nat):Prop :=
 ∃(D:DataW β) (lf:Lit->Bool),w.ranges P k E.read b r n D lf cnt/\HoldsAt S D f/\(∀x,S.good x->left x=lf (S.lit x))/\∀l,lf l=true->∃x,S.good x/\l=S.lit x
end
theorem RangeF.kept {w w':World} {S:Xx P k α} {E:ElemShape β} {b r n cnt:Nat} {f:α->Option β} {left:α->Bool} {row:Option Nat} (h:RangeF w S E b r n f left cnt) (hg:w.grownBy w' row) (hb:some b≠row) (hr:some r≠row):RangeF w' S E b r n f left cnt :=
 let ⟨D,lf,h1,h2⟩:=h;⟨D,lf,h1.kept hg hb hr,h2⟩
theorem RangeF.owns {w:World} {S:Xx P k α} {E:ElemShape β} {b r n cnt:Nat} {f:α->Option β} {left:α->Bool} (h:RangeF w S E b r n f left cnt):MapF w S E b n f :=
 let ⟨D,_,h1,h2,_⟩:=h;⟨D,h1.owns,h2⟩
theorem RangeF.left_eq {w:World} {S:Xx P k α} {E:ElemShape β} {b r n cnt:Nat} {f:α->Option β} {left:α->Bool} (h:RangeF w S E b r n f left cnt):w.rangeLeft b r=cnt :=
 let ⟨_,_,h1,_⟩:=h;h1.left_eq
theorem RangeF.lt {w:World} {S:Xx P k α} {E:ElemShape β} {b r n cnt:Nat} {f:α->Option β} {left:α->Bool} (h:RangeF w S E b r n f left cnt):r<w.heap.size :=
 let ⟨_,_,h1,_⟩:=h;h1.lt
section
variable (w:World) {ops:Array Oper} {rest:List Oper} {o:Oper} {a:Act} {Q:Exit->Act->World->Prop}
theorem Xjo (hg:o.guard=none) (m:Operand) (t:TypeId) (hop:o.op=Op.range t m) (e:TypeId) (K:Keyed P k) (ht:P.underlying t=some (.map k e)) (S:Xx P k α) (E:ElemShape β) (b n:Nat) (f:α->Option β)
  (hm:a.eval m = .map (some b)) (hown:MapF w S E b n f)
  (hK:∀w' cnt,RangeF w' S E b w.heap.size n f (fun x=>(f x).isSome) cnt->w.grownBy w' none->w'.heap.size=w.heap.size+1->wpList P ops Q rest (a.put o.dst (.pointer (some ⟨w.heap.size,0,none⟩))) w') :
  wpList P ops Q (o :: rest) a w:=by
 obtain⟨D,h1,h2⟩:=hown;obtain⟨es,hes,hpw,hkl⟩:=h1.entries K;refine wpList_range_own w hg m t hop k e K ht E.read b n D hm h1 fun w' hr hgr hs=>hK w' _ ⟨D,Maps.has D,hr,h2,fun x hx=>?_,fun l hl=>?_⟩ hgr hs
 ·obtain⟨g1,g2⟩:=h2 x hx
  show (f x).isSome=_;cases hf:f x with
  | none=>exact(g1 hf).symm
  | some c=>exact((g2 c hf).1).symm
 ·obtain⟨es',clock,_,F,_,hD⟩:=h1
  subst hD;obtain⟨p,hp,hpk⟩:=List.any_eq_true.1 hl;obtain⟨y,hy,rfl⟩:=List.mem_map.1 (mem_sorted.1 hp);obtain⟨z,hz⟩:=F.reads y hy;have hk':=WideElems.rd_key hz;have e1:(WideElems.rg P k E.read y).1=z.1:=by rw[WideElems.rg_of hz]
  obtain⟨x,hx,_,hl'⟩:=S.inv _ _ hk';exact⟨x,hx,by rw[<- hl',<- e1];exact(WideAt.sameKey_eq hpk).symm⟩
theorem Xkk [DecidableEq α] (hg:o.guard=none) (it:Operand) (hop:o.op=Op.next it false) (K:Keyed P k) (S:Xx P k α) (E:ElemShape β) (b r n:Nat) (f:α->Option β) (left:α->Bool) (cnt:Nat) (kv:α->Value) (cv:β->Value) (hkv:∀x,S.val x=kv x) (hcv:∀c,E.val c=cv c)
  (hit:a.eval it = .pointer (some ⟨r,0,none⟩)) (h:RangeF w S E b r n f left cnt)
  (hDone:(∀x,S.good x->left x=false)->wpList P ops Q rest (a.put o.dst (.tuple #[.bool false])) w)
  (hMore:∀(x:α) (c:β) (w':World) (cnt':Nat),S.good x->left x=true->f x=some c->RangeF w' S E b r n f (fun y=>left y && !decide (y=x)) cnt'->cnt'<cnt ->
   w.grownBy w' (some r)->w'.heap.size=w.heap.size->(Instr.entry (.pointer (some ⟨r,0,none⟩))).run P w' = .ok (.tuple #[kv x,cv c]) w'->wpList P ops Q rest (a.put o.dst (.tuple #[.bool true,kv x,cv c])) w') :
  wpList P ops Q (o :: rest) a w:=by
 obtain⟨D,lf,h1,h2,h3,h4⟩:=h
 refine wpList_next_ranges w hg it hop k K E.read S.val E.val (fun key kl hk=>by obtain⟨x,_,hx,_⟩:=S.inv key kl hk;exact⟨x,hx⟩) (fun v y hv=>by obtain⟨c,hc,_⟩:=E.read_inv hv;exact⟨c,hc⟩) b r n D lf cnt hit h1
  (fun _ hl=>hDone fun x hx=>by rw[h3 x hx,hl]) ?_
 intro x' c kl y w' cnt' hkey hlk hv hat hrg hlt hgr hsz hen;obtain⟨x,hx,hxv,hxl⟩:=S.inv _ _ hkey;subst hxl;obtain⟨c',hc',hy⟩:=E.read_inv hv;obtain rfl:c=c':=E.inj _ _ hc';subst hy;rw[hxv,hkv,hcv] at hen;rw[hxv,hkv,hcv]
 have hfx:f x=some c:=by
  obtain⟨g1,g2⟩:=h2 x hx;cases hf:f x with
  | none =>
   have:=g1 hf;have h0:=hat .nil;rw[Maps.atKey_of_not_has this] at h0;cases h0
  | some c2 =>
   have h0:=(g2 c2 hf).2 .nil;rw[hat] at h0;cases h0;rfl
 refine hMore x c w' cnt' hx (by rw[h3 x hx];exact hlk) hfx ⟨D,_,hrg,h2,fun y hy=>?_,fun l hl=>?_⟩ hlt hgr hsz hen
 ·show (left y && !decide (y=x))=(lf (S.lit y) && !(S.lit y).sameKey (S.lit x))
  rw[h3 y hy];by_cases e:y=x
  ·subst e
   rw[WideAt.sameKey_self (K.key (S.of y hy))];simp
  ·rw[Maps.sameKey_ne (fun h'=>e (S.inj y x hy hx h'))];simp[e]
 ·refine h4 l ?_
  cases hl':lf l
  ·simp[hl'] at hl
  ·rfl
end
def Xzo {q:IntKind} (hk:P.underlying k=some (.int q)):Xx P k Int where
 val:=.int q
 lit:=.int q
 good x:=(Lit.int q x).wf=true
 of x hx:=by simp[keyOf,mapKey,hk,hx]
 inv v l h:=by
  obtain⟨x,h1,h2,h3⟩:=Maps.keyOf_int_inv hk h;exact⟨x,h3,h1,h2⟩
 inj x y _ _ h:=by cases h;rfl
end
end Go.Han
namespace Go.Proofs.YtolpbjjapodmnaaGreatDoor
open Go.RowKit Go.Han
set_option maxRecDepth 100000
attribute [local irreducible] wpStill wpQuiet
set_option maxHeartbeats 8000000
def JoinIn (r:List UInt8) (b:Nat) (x:Term) (w0:World) (e:Ending) (w':World):Prop:=e = .returned (.string ⟨r.toArray⟩)/\Below w0.heap.size w0 w'/\w'.cell? ⟨b,3,none⟩=some (.int .i64 x.lang)/\w'.heap[b+1]? = w0.heap[b+1]?
theorem Xv3 (x:Term) (w:World) (hok:x.ok=true) (hx:x.lies w):Calls Tryz.prog 76 #[.slice x.src.addr x.src.xs.length x.src.cap,.string ⟨#[10]⟩] w fun e w'=>e = .returned (.string ⟨(U8 x.src.xs).toArray⟩)/\Below w.heap.size w w':=by
 obtain⟨h1,h2,h3⟩:=Xfn hok;obtain⟨b,off,he,hb,hc⟩:=StrS.at_ hx.1 (k:=0) (by omega);rw[he]
 exact Tryz.strings_Join b off x.src.cap x.src.xs ⟨#[10]⟩ w (fun j y hj=>by
  obtain⟨hj1,rfl⟩:=List.getElem?_eq_some_iff.1 hj;exact hc j hj1) hb (by omega) hx.1.cap (by have:=Xc5 hok;unfold U8 at this;show (Lib.join _ [10]).length<=_;omega)
theorem Xd7 (x:Term) (w:World) (hok:x.ok=true) (hx:x.lies w):Calls Tryz.prog 90 #[x.vl] w fun e w'=>e = .returned (.agg #[.int .i64 x.lang,.string ⟨(U8 x.src.xs).toArray⟩])/\Below w.heap.size w w':=by
 obtain⟨w0,hw0⟩:∃w0,(w.alloc x.ob).alloc (.cells #[.int .i64 0,.string ⟨#[]⟩] 143)=w0:=⟨_,rfl⟩
 have hB0:Below w.heap.size w w0:=by rw[<- hw0];exact Xg ba_q _
 have hz0:w0.heap.size=w.heap.size+1+1:=by rw[<- hw0];simp
 have x0:w0.heap[w.heap.size]? = some x.ob:=by rw[<- hw0];exact(Below.heap_alloc _ _ _ (by simp)).trans (World.alloc_heap_new _ _)
 have x1:w0.heap[w.heap.size+1]? = some (.cells #[.int .i64 0,.string ⟨#[]⟩] 143 (0,0)):=by rw[<- hw0];exact Xo _ _ _ (by simp)
 obtain⟨r,hr⟩:∃r,U8 x.src.xs=r:=⟨_,rfl⟩
 have cJ:Hid (∀W,Below w0.heap.size w0 W->Calls Tryz.prog 76 #[.slice x.src.addr x.src.xs.length x.src.cap,.string ⟨#[10]⟩] W (JoinIn r w.heap.size x w0)):=by
  intro W hb;refine(Xv3 x W hok (hx.ext (Xb hB0 hb))).mono ?_;rintro e w' ⟨rfl,hb'⟩;rw[hr];have hbb:=Xb hb hb';exact⟨rfl,hbb,gblk ((hbb.block _ (by omega)).trans x0) 3,hbb.block _ (by omega)⟩
 rw[hr];have c3:=gblk x0 3;have c4:=gblk x0 4;have X1:=Xa x1;clear hr hok hx x0 x1;go_enter Tryz.func90,Tryz.ntmps90
 go_wp2_with fail
 go_region_with (go_at_call 76;refine(cJ.out _ ?_).mono ?_;(repeat (first|exact bo_q|refine Xr ?_|refine Xg ?_ _));rintro e w4 ⟨rfl,hb4,q3,q4⟩;have hx4:=q4.trans X1.out;have z0:=gblk hx4 0;have z1:=gblk hx4 1;have f0:=Xf hx4 0;have f1:=Xf hx4 1;clear hx4 q4)
 all_goals
  go_wp2
  exact bodyPost_ret (v:=.agg #[.int .i64 x.lang,.string ⟨r.toArray⟩]) (by simp[results,Tryz.results90,go_sem,z0,z1]) rfl ⟨rfl,((Xb hB0 hb4).setCell (p:=⟨w.heap.size+1,0,none⟩) (by simp) _).setCell (p:=⟨w.heap.size+1,1,none⟩) (by simp) _⟩
theorem laidK:laidOutB Tryz.prog=true:=by kernel_rfl
theorem Zv:Maps.Keyed Tryz.prog 143:=Maps.Keyed.of_law (deep_law_laid laidK (m:=2) (by omega) (of_decide_eq_true (by kernel_rfl)) (by kernel_rfl) (by kernel_rfl))
theorem Xm1 : ∃ fs : Array Field, Tryz.prog.underlying 143 = some (.struct fs) ∧ fs.toList.map (fun f => (f.name, f.type, f.offset)) = [("lang", 3, 0), ("source", 9, 1)] ∧ Tryz.prog.cellsOf 143 = 2 ∧ Tryz.prog.keyType 143 = true := ⟨_, Tryz.underlying143, by kernel_rfl, by kernel_rfl, by kernel_rfl⟩
theorem Xim:Tryz.prog.cellsOf 3=1:=by kernel_rfl
theorem Xin:Tryz.prog.cellsOf 9=1:=by kernel_rfl
def Xfg (k:GKey):Lit:=.string (keyBytes [.int .i64 k.lang,.string k.src.data.toList])
def Xdk (k:GKey):Value:=.agg #[.int .i64 k.lang,.string k.src]
def Qj (k:GKey):Prop:=(Lit.int .i64 k.lang).wf=true/\k.src.size<=maxLen
theorem Xm4 (n:Nat) (k:GKey) (h:Qj k):Tryz.prog.keyLits (n+2) 143 [.int .i64 k.lang,.string k.src]=some [.int .i64 k.lang,.string k.src.data.toList]:=by
 obtain⟨fs,hu,hf,hc,hk⟩:=Xm1;obtain⟨h1,h2⟩:=h;unfold Program.keyLits;rw[hu]
 have hfs : ∃ f0 f1, fs.toList = [f0, f1] ∧ f0.name = "lang" ∧ f0.type = 3 ∧ f0.offset = 0 ∧ f1.name = "source" ∧ f1.type = 9 ∧ f1.offset = 1 := by
  match hl:fs.toList with
  | [f0,f1] =>
   rw[hl] at hf;simp at hf;exact⟨f0,f1,rfl,hf.1.1,hf.1.2.1,hf.1.2.2,hf.2.1,hf.2.2.1,hf.2.2.2⟩
  | []=>rw[hl] at hf;simp at hf
  | [_]=>rw[hl] at hf;simp at hf
  | _ :: _ :: _ :: _=>rw[hl] at hf;simp at hf
 obtain⟨f0,f1,hl,n0,t0,o0,n1,t1,o1⟩:=hfs
 have hall : fs.all (fun f => f.name != "_") = true := by
  rw[<- Array.all_toList,hl];simp[n0,n1]
 simp only[hc,hall,List.length_cons,List.length_nil,and_self,if_true,hl,List.mapM_cons,List.mapM_nil,t0,o0,t1,o1,Xim,Xin]
 have e0:Tryz.prog.keyLits (n+1) 3 ((([.int .i64 k.lang,.string k.src]:List Value).drop 0).take 1)=some [.int .i64 k.lang]:=by
  simp[Program.keyLits,Tryz.underlying3,h1]
 have e1:Tryz.prog.keyLits (n+1) 9 ((([.int .i64 k.lang,.string k.src]:List Value).drop 1).take 1)=some [.string k.src.data.toList]:=by
  simp[Program.keyLits,Tryz.underlying9,h2]
 rw[e0,e1];rfl
theorem Xzt (k:GKey) (h:Qj k):keyOf Tryz.prog 143 (Xdk k)=some (Xfg k):=by
 obtain⟨fs,hu,hf,hc,hk⟩:=Xm1
 have hfm:(Xdk k).formed Tryz.prog 143=true:=by
  unfold Xdk;simp[Value.formed,hu,hc]
 unfold keyOf;rw[hu];simp only[hk,hfm,Bool.and_self,if_true];have e:=Xm4 (Tryz.prog.types.size-1) k h
 have hsz:Tryz.prog.types.size-1+2=Tryz.prog.types.size+1:=by
  have:0<Tryz.prog.types.size:=of_decide_eq_true (by kernel_rfl);omega
 rw[hsz] at e;show ((Tryz.prog.keyLits (Tryz.prog.types.size+1) 143 [.int .i64 k.lang,.string k.src]).map fun ls=>Lit.string (keyBytes ls))=_;rw[e];rfl
theorem X13 (v:Value) (l:Lit) (h:keyOf Tryz.prog 143 v=some l):∃k,Qj k/\v=Xdk k/\l=Xfg k:=by
 obtain⟨fs,hu,hf,hc,hk⟩:=Xm1;have h0:=h;unfold keyOf at h;rw[hu] at h;simp only at h;split at h
 ·rename_i hb
  simp only[Bool.and_eq_true] at hb;obtain⟨_,hfm⟩:=hb
  have hag:∃cs:Array Value,v = .agg cs/\cs.size=2:=by
   unfold Value.formed at hfm;rw[hu] at hfm;cases v<;>simp at hfm
   rename_i cs;exact⟨cs,rfl,by rw[hfm,hc]⟩
  obtain⟨cs,rfl,hsz⟩:=hag
  have hl2:∃a b,cs.toList=[a,b]:=by
   match hcl:cs.toList with
   | [a,b]=>exact⟨a,b,rfl⟩
   | []=>have:=congrArg List.length hcl;rw[Array.length_toList,hsz] at this;simp at this
   | [_]=>have:=congrArg List.length hcl;rw[Array.length_toList,hsz] at this;simp at this
   | _ :: _ :: _ :: _=>have:=congrArg List.length hcl;rw[Array.length_toList,hsz] at this;simp at this
  obtain⟨a,b,hab⟩:=hl2;cases hkl:Tryz.prog.keyLits (Tryz.prog.types.size+1) 143 (Value.agg cs).cells.toList with
  | none=>rw[hkl] at h;cases h
  | some ls =>
   have hcl:(Value.agg cs).cells.toList=[a,b]:=(by simpa[Value.cells] using hab);rw[hcl] at hkl;have hk2:=hkl;unfold Program.keyLits at hk2;rw[hu] at hk2
   have hfs:∃f0 f1,fs.toList=[f0,f1]/\f0.type=3/\f0.offset=0/\f1.type=9/\f1.offset=1:=by
    match hl:fs.toList with
    | [f0,f1] =>
     rw[hl] at hf;simp at hf;exact⟨f0,f1,rfl,hf.1.2.1,hf.1.2.2,hf.2.2.1,hf.2.2.2⟩
    | []=>rw[hl] at hf;simp at hf
    | [_]=>rw[hl] at hf;simp at hf
    | _ :: _ :: _ :: _=>rw[hl] at hf;simp at hf
   obtain⟨f0,f1,hl,t0,o0,t1,o1⟩:=hfs;simp only[hl,List.mapM_cons,List.mapM_nil,t0,o0,t1,o1,Xim,Xin] at hk2;split at hk2
   ·cases e0:Tryz.prog.keyLits Tryz.prog.types.size 3 (([a,b].drop 0).take 1) with
    | none=>rw[e0] at hk2;cases hk2
    | some l0 =>
     cases e1:Tryz.prog.keyLits Tryz.prog.types.size 9 (([a,b].drop 1).take 1) with
     | none=>rw[e0,e1] at hk2;cases hk2
     | some l1 =>
      obtain⟨n,hn1,hn2⟩:=keyLits_int' Tryz.underlying3 e0;obtain⟨s,hs1,hs2⟩:=keyLits_string' Tryz.underlying9 e1;simp at hn1 hs1;subst hn1 hs1
      have hgood:Qj ⟨n,s⟩:=by
       constructor
       ·have:=keyLits_wf e0
        rw[hn2] at this;have h7:=e0;have hd:∃d,Tryz.prog.types.size=d+1:=⟨Tryz.prog.types.size-1,by have:0<Tryz.prog.types.size:=of_decide_eq_true (by kernel_rfl);omega⟩
        obtain⟨d,hd⟩:=hd;rw[hd] at h7;unfold Program.keyLits at h7;rw[Tryz.underlying3] at h7;simp at h7;exact h7.1
       ·have h7:=e1
        have hd:∃d,Tryz.prog.types.size=d+1:=⟨Tryz.prog.types.size-1,by have:0<Tryz.prog.types.size:=of_decide_eq_true (by kernel_rfl);omega⟩
        obtain⟨d,hd⟩:=hd;rw[hd] at h7;unfold Program.keyLits at h7;rw[Tryz.underlying9] at h7;simp at h7;exact h7.1
      have hv:Value.agg cs=Xdk ⟨n,s⟩:=by
       unfold Xdk
       congr 1
       apply Array.ext'
       simpa using hab
      refine⟨⟨n,s⟩,hgood,hv,?_⟩;rw[hv,Xzt _ hgood] at h0;exact(Option.some.inj h0).symm
   ·cases hk2
 ·cases h
theorem X12 (x y:GKey) (hx:Qj x) (hy:Qj y) (h:Xfg x=Xfg y):x=y:=by
 unfold Xfg at h;have e:=keyLits_inj (Xm4 0 x hx) (Xm4 0 y hy) (by simpa using h);obtain⟨a,s⟩:=x;obtain⟨b,t⟩:=y;simp only[List.cons.injEq,Lit.int.injEq,true_and,Lit.string.injEq,and_true] at e;rw[e.1,WideShapes.bytes_inj e.2]
def keyShape:Xx Tryz.prog 143 GKey:=⟨Xdk,Xfg,Qj,Xzt,X13,X12⟩
structure TermV where
 no:Int
 at_:Int
 known:Int
 lang:Int
 sA:Option Addr
 sn:Nat
 sc:Nat
 tA:Option Addr
 tn:Nat
 tc:Nat
 cat:ByteArray
 gone:Bool
def TermV.val (x:TermV):Value:=.agg #[.int .i64 x.no,.int .i64 x.at_,.int .i64 x.known,.int .i64 x.lang,.slice x.sA x.sn x.sc,.slice x.tA x.tn x.tc,.string x.cat,.bool x.gone]
def Term.shown (x:Term):TermV:=⟨x.no,x.at_,x.known,x.lang,x.src.addr,x.src.xs.length,x.src.cap,x.tgt.addr,x.tgt.xs.length,x.tgt.cap,x.cat,x.gone⟩
theorem Xxa (x y:TermV) (h:x.val=y.val):x=y:=by
 obtain⟨a,b,c,d,e,f,g,h1,i,j,k,l⟩:=x;obtain⟨a',b',c',d',e',f',g',h1',i',j',k',l'⟩:=y;simp[TermV.val] at h;obtain⟨rfl,rfl,rfl,rfl,⟨rfl,rfl,rfl⟩,⟨rfl,rfl,rfl⟩,rfl,rfl⟩:=h;rfl
def termShape:ElemShape TermV:=⟨TermV.val,Xxa⟩
def Zx:TermV:=⟨0,0,0,0,none,0,0,none,0,0,⟨#[]⟩,false⟩
theorem Vd (w:World):(zeroValue 56).run Tryz.prog w = .ok (termShape.val Zx) w:=by kernel_rfl
theorem Ze {x:Term} (h:x.ok=true):Qj (Xu x):=by
 have h1:=Xc5 h;unfold Term.ok Xbe at h;simp only[Bool.and_eq_true,decide_eq_true_eq] at h;have hl:=h.1.1.2;refine⟨?_,?_⟩
 ·show (Lit.int .i64 x.lang).wf=true
  simp[Lit.wf,IntKind.min,IntKind.max,IntKind.signed,IntKind.bits];omega
 ·show (ByteArray.mk (U8 x.src.xs).toArray).size<=maxLen
  rw[Lib.size_eq];unfold maxLen;simp;omega
end Go.Proofs.YtolpbjjapodmnaaGreatDoor
