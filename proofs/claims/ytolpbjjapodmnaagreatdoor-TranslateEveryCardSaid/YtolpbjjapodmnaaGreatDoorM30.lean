/- Texts of this claim, one after the other: Law30f. -/
import Derived.Test.YtolpbjjapodmnaaGreatDoorM29
namespace Go.Proofs.YtolpbjjapodmnaaGreatDoor
open Go.RowKit Go.Han
attribute [local irreducible] wpStill wpQuiet
set_option maxRecDepth 100000
def TabM (W:World) (b n:Nat) (f:Nat→Bool):Prop:=∃cs:Array Value,W.heap[b]? = some (.cells cs 4 (0,0))∧cs.size=n∧∀i,i<n→cs[i]? = some (.bool (f i))
theorem TabM.ext {W W':World} {b n:Nat} {f:Nat→Bool} (h:TabM W b n f) (hb:Below W.heap.size W W'):TabM W' b n f:=by
 obtain⟨cs,h1,h2⟩:=h
 exact⟨cs,Xh hb h1,h2⟩
theorem TabM.lt {W:World} {b n:Nat} {f:Nat→Bool} (h:TabM W b n f):b<W.heap.size:=by obtain⟨cs,h1,_⟩:=h;exact Xc h1
theorem TabM.cell {W:World} {b n:Nat} {f:Nat→Bool} (h:TabM W b n f) {i:Nat} (hi:i<n):W.cell? ⟨b,i,none⟩=some (.bool (f i)):=by
 obtain⟨cs,h1,h2,h3⟩:=h
 rw[gblk h1];exact h3 i hi
theorem TabM.free {W:World} {b n:Nat} {f:Nat→Bool} (h:TabM W b n f) (i:Nat):W.frozen? ⟨b,i,none⟩=false:=by
 obtain⟨cs,h1,_⟩:=h
 exact Xf h1 i
theorem TabM.set {W:World} {b n:Nat} {f g:Nat→Bool} (h:TabM W b n f) {i:Nat} (hi:i<n) (hv:g i=true) (hg:∀j,j≠i→g j=f j):TabM (W.setCell ⟨b,i,none⟩ (.bool true)) b n g:=by
 obtain⟨cs,h1,h2,h3⟩:=h
 refine⟨_,Xr h1 i _,by simpa using h2,fun j hj=>?_⟩
 by_cases e:j=i
 ·subst e
  rw[hv];exact Array.getElem?_setIfInBounds_self_of_lt (by omega)
 ·rw[hg j e,Array.getElem?_setIfInBounds_ne (Ne.symm e)];exact h3 j hj
theorem TabM.zero (W:World) (n:Nat):TabM (W.alloc (.cells (Array.replicate n (.bool false)) 4)) W.heap.size n (fun _=>false):=by
 refine⟨_,World.alloc_heap_new _ _,by simp,fun i hi=>?_⟩
 rw[Array.getElem?_replicate,if_pos hi]
theorem X61:(Tryz.prog.info? 4).map (fun i=>(i.zero,i.size,i.bytes))=some (some (.bool false),1,1):=by kernel_rfl
theorem X8m (n:Nat) (h:n≤1000) (w:World):(Instr.makeSlice 73 (.int .i64 (n:Int)) (.int .i64 (n:Int))).run Tryz.prog w = .ok (.slice (some ⟨w.heap.size,0,none⟩) n n) (w.alloc (.cells (Array.replicate n (.bool false)) 4)):=by
 rw[← Xn0]
 exact run_make_row' (P:=Tryz.prog) 73 4 (.bool false) 1 Tryz.underlying73 X61 rfl .i64 .i64 n (by omega) (by omega) w
theorem X6q {g:Gram} {its:List ItemG} {n:Int} (he:errC g its n=0):(Zk g its n).2.2.2=0:=by
 cases hb:Xdl g its n with
 | none=>rw[Xy6 he hb]
 | some y=>rw[Xy7 he hb]
def X1r (l:List Int):Nat→Int
 | 0 => -1
 | j+1=>l.getD j (-1)
theorem Xy9 {l:List Int} {j:Nat} (h:j<l.length):X1r l (j+1)=l[j]:=by show l.getD j (-1)=_;rw[List.getD_eq_getElem?_getD,List.getElem?_eq_getElem h];rfl
theorem X8k {l:List Int} (hi:IncI l) {j:Nat} (h:j<l.length) (h0:0≤l[j]):X1r l j<l[j]:=by
 cases j with
 | zero=>show (-1:Int)<_;omega
 | succ j=>rw[Xy9 (by omega)];exact List.pairwise_iff_getElem.1 hi j (j+1) (by omega) h (by omega)
theorem X66 {l:List Int} (h:l≠[]) (h0:∀n∈l,0≤n):0≤X1r l l.length:=by
 have hp:=List.length_pos_iff.2 h
 obtain⟨j,hj⟩:∃j,l.length=j+1:=⟨l.length-1,by omega⟩
 rw[hj,Xy9 (by omega)]
 exact h0 _ (List.getElem_mem _)
theorem X2h {l:List Int} {j:Nat} (h:j<l.length) (i:Int):(l.take (j+1)).contains i=((l.take j).contains i || decide (i=l[j])):=by
 rw[List.take_succ_eq_append_getElem h,List.contains_append]
 by_cases e:i=l[j]
 ·simp[e]
 ·simp[e]
theorem TabM.congr_lt {W:World} {b n:Nat} {f g:Nat→Bool} (h:TabM W b n f) (hg:∀i,i<n→g i=f i):TabM W b n g:=by
 obtain⟨cs,h1,h2,h3⟩:=h
 exact⟨cs,h1,h2,fun i hi=>by rw[hg i hi];exact h3 i hi⟩
theorem TabM.congr {W:World} {b n:Nat} {f g:Nat→Bool} (h:TabM W b n f) (hg:∀i,g i=f i):TabM W b n g:=h.congr_lt fun i _=>hg i
set_option maxHeartbeats 8000000 in
theorem Xy3 (hsane:X30) (g:Gram) (A:Option Addr) (cp:Nat) (l:List Term) (lang:Int) (s:StrS) (t u:Int) (w:World) (hT:TabsG w) (hg:g.lies w) (hgs:g.short) (hr:TermsAt w A l) (hm:l.length≤9223372036854775807) (hs:s.lies w) :
  Calls Tryz.prog 7 #[.agg #[.string g.name,.slice g.cats.addr g.cats.xs.length g.cats.cap,.string g.start,.int .i64 g.startNo,.slice g.entries.addr g.entries.xs.length g.entries.cap,.slice g.rules.addr g.rules.xs.length g.rules.cap],.slice A l.length cp,.int .i64 lang,.slice s.addr s.xs.length s.cap,.int .i64 t,.int .i64 u] w fun e w'=>e = .returned (.bool true)∧Below w.heap.size w w':=by
 obtain⟨W1,hW1⟩:∃W1,w.alloc (.cells #[.string g.name,.slice g.cats.addr g.cats.xs.length g.cats.cap,.string g.start,.int .i64 g.startNo,.slice g.entries.addr g.entries.xs.length g.entries.cap,.slice g.rules.addr g.rules.xs.length g.rules.cap] 26)=W1:=⟨_,rfl⟩
 have hB1:=Yn hW1
 have hk:=Yv hW1
 have hsn:s.xs.length≤9223372036854775807:=Nat.le_trans hs.cap hs.max
 have F0:=Xa (hsane W1 (hT.ext hB1))
 have FF:=Xa (fun V (hV:Below w.heap.size w V)=>X6y g A cp l s.addr s.xs.length s.cap V (hg.ext hV) hm hsn)
 have FT:=Xa (fun V (hV:Below w.heap.size w V)=>Xy0 g A cp l lang s t u V (hT.ext hV) (hg.ext hV) hgs (hr.ext hV) hm (hs.ext hV))
 have FA:=Xa (fun V (hV:Below w.heap.size w V)=>X2i g A cp l lang s t u V (hT.ext hV) (hg.ext hV) hgs (hr.ext hV) hm (hs.ext hV))
 have FB:=Xa (fun (its:SlS ItemG) V (hV:Below w.heap.size w V) (hi:ItemsAt V its)=>Xia g its s.xs.length V (hT.ext hV) (hg.ext hV) hgs hi)
 have Hk:=Xa hk
 clear hT hg hgs hr hm hs hsane hk
 go_enter Tryz.func7,Tryz.ntmps7
 go_wp2_with fail
 clear hW1
 refine F0.out.mono ?_
 rintro e w2 ⟨rfl,hb2⟩
 have hB2:=Xb hB1 hb2
 have Hk2:=Xa (Xh hb2 Hk.out)
 have hk2:=Hk2.out
 obtain⟨c0,c1,c2,c3,c4,c5⟩:=gb6 hk2
 clear F0 hk2 Hk
 go_wp2_with fail
 refine(FF.out w2 hB2).mono ?_
 rintro e w3 ⟨b,rfl,hb3⟩
 have hB3:=Xb hB2 hb3
 have Hk3:=Xa (Xh hb3 Hk2.out)
 have hk3:=Hk3.out
 clear c0 c1 c2 c3 c4 c5 FF Hk2
 cases b
 ·clear hk3
  go_wp2_with fail
  go_ret
  exact⟨rfl,hB3⟩
 by_cases h7:7<s.xs.length
 ·have k1:decide ((7:Int)<(s.xs.length:Int))=true:=decide_eq_true (by omega)
  clear h7 hk3
  go_wp2_with fail
  go_ret
  exact⟨rfl,hB3⟩
 have k1:decide ((7:Int)<(s.xs.length:Int))=false:=decide_eq_false (by omega)
 obtain⟨c0,c1,c2,c3,c4,c5⟩:=gb6 hk3
 clear hk3
 go_wp2_with fail
 refine(FT.out w3 hB3).mono ?_
 rintro e w4 ⟨hb4,A9,n9,c9,L,rfl,rfl,hr4,hl4⟩
 obtain⟨wh,hwh⟩:∃wh,(trE g l lang s.xs t u).2=wh:=⟨_,rfl⟩
 obtain⟨E,hE⟩:∃E,Xwu g l lang s.xs t u=E:=⟨_,rfl⟩
 rw[hwh,hE]
 have hB4:=Xb hB3 hb4
 have Hk4:=Xa (Xh hb4 Hk3.out)
 have Hwh:=Xa hwh
 have HE:=Xa hE
 have HR:=Xa hr4
 have HL:=Xa hl4
 have hk4:=Hk4.out
 clear c0 c1 c2 c3 c4 c5 hwh hE hr4 hl4 hb4 FT Hk3
 obtain⟨c0,c1,c2,c3,c4,c5⟩:=gb6 hk4
 clear hk4
 go_wp2_with fail
 refine(FA.out w4 hB4).mono ?_
 rintro e w5 ⟨hb5,⟨hne,rfl⟩|⟨hz,its,rfl,hmc,hia⟩⟩
 ·rw[HE.out]
  have k2:(E != 0)=true:=by rw[HE.out] at hne;simpa using hne
  have hT:=X6i hne
  obtain rfl:wh=false:=by rw[← Hwh.out,hT]
  obtain rfl:L=[]:=by have h:=HL.out;rw[hT] at h;exact List.map_eq_nil_iff.1 h
  have HB:=Xa (Xb hB4 hb5)
  clear hne hT FA FB c0 c1 c2 c3 c4 c5 hB4 hB3 hB2 hB1 hb5
  go_wp2_with fail
  go_ret
  exact⟨rfl,HB.out⟩
 obtain rfl:E=0:=by rw[← HE.out,hz]
 have hB5:=Xb hB4 hb5
 have HB5:=Xa hB5
 have Hk5:=Xa (Xh hb5 Hk4.out)
 have HR5:=Xa (HR.out.ext hb5)
 by_cases h0:s.xs=[]
 ·have hT:=X3v (g:=g) (l:=l) (lang:=lang) (t:=t) (u:=u) h0
  obtain rfl:wh=false:=by rw[← Hwh.out,hT]
  obtain rfl:L=[]:=by have h:=HL.out;rw[hT] at h;exact List.map_eq_nil_iff.1 h
  have hl:s.xs.length=0:=by rw[h0];rfl
  clear hT FA FB c0 c1 c2 c3 c4 c5 hB4 hB3 hB2 hB1 hb5 h0 hz hia hmc hB5
  go_wp2_with fail
  go_ret
  exact⟨rfl,HB5.out⟩
 have k0:((s.xs.length:Int) == 0)=false:=by have:=List.length_pos_iff.2 h0;simp;omega
 have he0:=Xys hz h0 hmc
 have hbe:=X6q he0
 have hok:(Zk g its.xs s.xs.length).2.2.1=wh:=by rw[← X81 hz h0 hmc,Hwh.out]
 have HTr:=Xa (X80 hz h0 hmc)
 have hk5:=Hk5.out
 clear c0 c1 c2 c3 c4 c5 he0 hz hmc h0 FA hb5 hB4 hB3 hB2 hB1
 obtain⟨c0,c1,c2,c3,c4,c5⟩:=gb6 hk5
 clear hk5
 go_wp2_with fail
 refine(FB.out its w5 hB5 hia).mono ?_
 rintro e w6 ⟨x,rfl,_,hb6⟩
 rw[hbe,hok]
 have hB6:=Xa (Xb hB5 hb6)
 have HR6:=Xa (HR5.out.ext hb6)
 clear hbe hok hia hb6 hB5 FB c0 c1 c2 c3 c4 c5
 have hn7:s.xs.length≤7:=by omega
 have hTg:=(HR6.out.tgs HL.out (X7e HTr.out (by omega))).2
 obtain⟨t1,ht1⟩:∃t1,w6.alloc (.cells #[.int .i64 x.rule,.int .i64 x.item,.int .i64 x.frm,.int .i64 x.unt,.slice x.kids.addr x.kids.len x.kids.cap] 37)=t1:=⟨_,rfl⟩
 obtain⟨t2,ht2⟩:∃t2,t1.alloc (.cells (Array.replicate s.xs.length (.bool false)) 4)=t2:=⟨_,rfl⟩
 have hb7:=Yn ht1
 have hb8:=Yn ht2
 have HM:=Xa (show TabM t2 t1.heap.size s.xs.length (fun _=>false) by rw[← ht2];exact TabM.zero _ _)
 have HTg:=Xa (hTg.ext hb7)
 have HB7:=Xa (Xb hB6.out hb7)
 have Hb8:=Xa hb8
 have hmk:∀V:World,_:=fun V=>X8m s.xs.length (by omega) V
 clear hTg hb7 hb8
 go_wp2_with fail
 clear ht1 ht2 hmk
 have hLl:L.length≤9223372036854775807:=Nat.le_trans HTg.out.lies.cap HTg.out.lies.max
 go_loopw [107] (fun iv wr=>∃k:Nat,k≤L.length∧iv = .int .i64 k∧Hid (TabM wr t1.heap.size s.xs.length (fun i=>(L.take k).any fun y=>y.deps.contains (i:Int))∧Below t1.heap.size t1 wr)) (fun iv _=>L.length-(intOf iv).toNat)
 case atStart=>exact⟨0,Nat.zero_le _,rfl,HM.out,Hb8.out⟩
 case round =>
  obtain⟨k,hk,rfl,HI⟩:=hrel
  by_cases hlt:k<L.length
  ·obtain⟨bi,oi,hA,hbb,hc⟩:=HTg.out.lies.at_ TgG.size_cells (by omega) hlt
   change A9=_ at hA
   have hB:=HI.out.2
   have hmem:=List.getElem_mem hlt
   have d0:wr.cell? ⟨bi,oi+k*3,none⟩=some (.string L[k].text):=hc k hlt wr hB 0 _ rfl
   have d1:=hc k hlt wr hB 1 _ rfl
   have d2:=hc k hlt wr hB 2 _ rfl
   have hin:=HTr.out.inside L[k].c (by rw[← HL.out];exact List.mem_map_of_mem hmem)
   have htx:=HTr.out.text L[k].c (by rw[← HL.out];exact List.mem_map_of_mem hmem)
   have hnum:=Xa (HTg.out.ok _ hmem).num
   have Htk:Hid (∀i:Nat,((L.take (k+1)).any fun y=>y.deps.contains (i:Int))=(((L.take k).any fun y=>y.deps.contains (i:Int)) || L[k].deps.contains (i:Int))):=fun i=>by rw[List.take_succ_eq_append_getElem hlt,List.any_append];simp
   rw[hA]
   have HAd:=Xa hA
   clear hc hA hmem
   generalize L[k]=x at *
   obtain⟨q1,q2,q3⟩:=hin
   change IncI x.deps at q1
   change x.deps≠[] at q2
   change ∀n∈x.deps,n∈[]∨(0≤n∧n<(s.xs.length:Int)) at q3
   change x.text.size≠0 at htx
   have hdl:x.deps.length≤9223372036854775807:=by
    have:=X3k x.deps 0 s.xs.length q1 q2 fun m hm=>(q3 m hm).resolve_left (by simp)
    omega
   have kt:=Zp (s:=x.text) (by omega)
   have Q1:=Xa q1
   have Q2:=Xa q2
   have Q3:Hid (∀n∈x.deps,0≤n∧n<(s.xs.length:Int)):=fun n hn=>(q3 n hn).resolve_left (by simp)
   obtain⟨w8,hw8⟩:∃w8,wr.alloc (.cells #[.string x.text,.slice x.dA x.deps.length x.dc,.int .i64 x.term] 75)=w8:=⟨_,rfl⟩
   have hb8:=Yn hw8
   have hx8:=Yv hw8
   have HM8:=Xa (HI.out.1.ext hb8)
   have HBx:=Xa (Xb hB hb8)
   have Hx8:=Xa hx8
   have hsz8:=HI.out.1.lt
   obtain⟨e0,e1,e2⟩:=gb3 hx8
   clear q1 q2 q3 hx8 hb8 htx hB
   go_wp2_with fail
   go_loopw [25,114] (fun lv iv wz=>∃j:Nat,j≤x.deps.length∧iv = .int .i64 j∧lv = .int .i64 (X1r x.deps j)∧Hid (TabM wz t1.heap.size s.xs.length (fun i=>((L.take k).any fun y=>y.deps.contains (i:Int)) || (x.deps.take j).contains (i:Int))∧Below t1.heap.size t1 wz∧wz.heap[wr.heap.size]? = some (.cells #[.string x.text,.slice x.dA x.deps.length x.dc,.int .i64 x.term] 75 (0,0)))) (fun _ iv _=>x.deps.length-(intOf iv).toNat)
   case atStart=>exact⟨0,Nat.zero_le _,rfl,rfl,by simpa using HM8.out,HBx.out,Hx8.out⟩
   case round =>
    rename World=>wz
    obtain⟨j,hj,rfl,rfl,HJ⟩:=hrel
    by_cases hjl:j<x.deps.length
    ·obtain⟨b2,o2,he2,hb2,hc2⟩:=(hnum.out.ext HJ.out.2.1) j hjl
     have f0:=hc2 j hjl
     have hm:=Q3.out _ (List.getElem_mem hjl)
     have hls:=X8k Q1.out hjl (Q3.out _ (List.getElem_mem hjl)).1
     have Htj:Hid (∀i:Int,(x.deps.take (j+1)).contains i=((x.deps.take j).contains i || decide (i=x.deps[j]))):=fun i=>X2h hjl i
     have Hls:Hid (X1r x.deps (j+1)=x.deps[j]):=Xy9 hjl
     rw[he2]
     have HE:=Xa he2
     clear hc2 he2
     generalize x.deps[j]=y at *
     obtain⟨m,rfl⟩:∃m:Nat,y=(m:Int):=⟨y.toNat,by omega⟩
     have hmn:m<s.xs.length:=by omega
     generalize X1r x.deps j=la at *
     have g1:decide ((m:Int)≤la)=false:=decide_eq_false (by omega)
     have g2:decide ((s.xs.length:Int)≤(m:Int))=false:=decide_eq_false (by omega)
     have mc:=HJ.out.1.cell hmn
     have mf:=HJ.out.1.free m
     have HN:=Xa (HJ.out.1.set (g:=fun i=>((L.take k).any fun y=>y.deps.contains (i:Int)) || (x.deps.take (j+1)).contains (i:Int)) hmn (by show (_ || _)=true;rw[Htj.out];simp) (fun i hi=>by show (_ || _)=(_ || _);rw[Htj.out,decide_eq_false (show ¬((i:Int)=(m:Int)) by omega)];simp))
     have HB':=Xa (HJ.out.2.1.setCell (p:=⟨t1.heap.size,m,none⟩) (by show t1.heap.size≤t1.heap.size;omega) (.bool true))
     have Hx':=Xa ((Below.heap_setCell wz ⟨t1.heap.size,m,none⟩ (.bool true) _ (by show wr.heap.size≠t1.heap.size;omega)).trans HJ.out.2.2)
     clear hls hm
     go_wp2_with fail
     rw[← HE.out]
     go_roundw
     case rel=>exact⟨j+1,by omega,by go_num,by rw[Hls.out],HN.out,HB'.out,Hx'.out⟩
     case measure=>simp[intOf];omega
    ·obtain rfl:j=x.deps.length:=by omega
     have hla:=X66 Q2.out (fun n hn=>(Q3.out n hn).1)
     have hx9:=HJ.out.2.2
     obtain⟨e0,e1,e2⟩:=gb3 hx9
     generalize X1r x.deps x.deps.length=la at *
     have g1:decide (la<0)=false:=decide_eq_false (by omega)
     have HN:Hid (TabM wz t1.heap.size s.xs.length (fun i=>(L.take (k+1)).any fun y=>y.deps.contains (i:Int))):=by
      have h:=HJ.out.1
      rw[List.take_length] at h
      exact h.congr fun i=>(Htk.out i)
     have HB':=Xa HJ.out.2.1
     clear hx9 HJ
     go_wp2_with fail
     try rw[← HAd.out]
     go_roundw
     case rel=>exact⟨k+1,by omega,by go_num,HN.out,HB'.out⟩
     case measure=>simp[intOf];omega
  ·obtain rfl:k=L.length:=by omega
   have HM9:Hid (TabM wr t1.heap.size s.xs.length (fun _=>true)):=by
    have h:=HI.out.1
    rw[List.take_length] at h
    exact h.congr_lt fun i hi=>by
     obtain⟨p,hp,hn⟩:=HTr.out.cover (i:Int) (by omega) (by omega)
     rw[← HL.out] at hp
     obtain⟨y,hy,rfl⟩:=List.mem_map.1 hp
     exact(List.any_eq_true.2 ⟨y,hy,by simpa[TgG.c] using hn⟩).symm
   have HB9:=Xa (Xb HB7.out HI.out.2)
   clear HI
   go_wp2_with fail
   go_loopw [142] (fun iv wz=>∃j:Nat,j≤s.xs.length∧iv = .int .i64 j∧wz=wr) (fun iv _=>s.xs.length-(intOf iv).toNat)
   case atStart=>exact⟨0,Nat.zero_le _,rfl,rfl⟩
   case round =>
    rename World=>wz
    obtain⟨j,hj,rfl,rfl⟩:=hrel
    by_cases hjl:j<s.xs.length
    ·have mc:=HM9.out.cell hjl
     go_wp2_with fail
     go_roundw
     case rel=>exact⟨j+1,by omega,by go_num,by first|rfl|trivial⟩
     case measure=>simp[intOf];omega
    ·go_wp2_with fail
     go_ret
     exact⟨rfl,HB9.out⟩
end Go.Proofs.YtolpbjjapodmnaaGreatDoor
