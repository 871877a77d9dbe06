/- Texts of this claim, one after the other: Opg2g, Opg3g, Opg4g, GrmC, GrmD, GrmE, GrmJ, GrmF, GrmG. -/
import Derived.Test.YthojaplnimoacaaGreatDoorM4
import Derived.Test.YthojaplnimoacaaGreatDoorM3
import Derived.Test.YthojaplnimoacaaGreatDoorM2
import Derived.BigQuiet
import Derived.Laws.EntriesVeiled
namespace Go.Proofs.YthojaplnimoacaaGreatDoor
open Go.RowKit Go.Han Go.ChangeShapes Go.WideShapes Go.ChangeAt Go.Deep
set_option maxRecDepth 100000
theorem Xp7:laidOutB Tryz.prog=true:=by kernel_rfl
theorem Xh9 (os:Os) (args:Array Value):laidMetH Tryz.prog Q5 ((World.laidAll Tryz.prog os Q5).forCall (fun _ _=>0) ⟨#[],args,[]⟩).memory:=by
 rw[MakeChecks.laidMetH_plain _ _ _ (by kernel_rfl)]
 exact laidMet_laidAll _ (by kernel_rfl) (by kernel_rfl)
section
variable {H:Type} {enc:TypeId×Value→H} {P:Program} {w:World} {base:Nat} {spare:Nat→Bool} {held:Bool}
theorem Xbc (hl:laidOutB P=true) {W W':World} (hb:Below W.heap.size W W') {sp:Nat→Bool}:∀ {ts:List TypeId} {vs:List Value} {ds:List (DataW H)} {ps:List MemPlace},(ts.all fun t=>P.readableRec t && decide (t<P.types.size))=true →
  DataW.TrodAll enc P W 0 (fun _=>true) true ts vs ds ps→(∀x∈ps,x.block<W.heap.size)→(∀x∈ps,sp x.block=true)→DataW.TrodAll enc P W' 0 sp true ts vs ds ps
 | [],vs,ds,ps,_,h,_,_=>by
  obtain⟨rfl,rfl,rfl⟩:=trodAll_nil h
  exact trodAll_mk0
 | t :: ts,vs,ds,ps,hr,h,hlt,hsp=>by
  simp only[List.all_cons,Bool.and_eq_true,decide_eq_true_eq] at hr
  obtain⟨v,vs',d,ds',p,q,rfl,rfl,rfl,hd,hrest⟩:=trodAll_cons h
  exact trodAll_cons_mk (WideElems.Trod_stays hl hr.1.1 hr.1.2 hd (fun x hx=>hb.same (hlt x (by simp[hx]))) (fun x hx=>hsp x (by simp[hx])))
   (Xbc hl hb hr.2 hrest (fun x hx=>hlt x (by simp[hx])) (fun x hx=>hsp x (by simp[hx])))
theorem args_three {t0 t1 t2:TypeId} {args:Array Value} {ds:List (DataW H)} {ps:List MemPlace} (h:DataW.TrodAll enc P w base spare held [t0,t1,t2] args.toList ds ps) :
  ∃v0 v1 v2 d0 d1 d2 p0 p1 p2,args=#[v0,v1,v2]∧ds=[d0,d1,d2]∧DataW.Trod enc P w base spare held t0 v0 d0 p0∧DataW.Trod enc P w base spare held t1 v1 d1 p1∧DataW.Trod enc P w base spare held t2 v2 d2 p2:=by
 obtain⟨v0,s0,d0,e0,p0,q0,hargs,rfl,rfl,h0,r0⟩:=trodAll_cons h
 obtain⟨v1,s1,d1,e1,p1,q1,rfl,rfl,rfl,h1,r1⟩:=trodAll_cons r0
 obtain⟨v2,s2,d2,e2,p2,q2,rfl,rfl,rfl,h2,r2⟩:=trodAll_cons r1
 obtain⟨rfl,rfl,rfl⟩:=trodAll_nil r2
 exact⟨v0,v1,v2,d0,d1,d2,p0,p1,p2,by cases args;simp_all,rfl,h0,h1,h2⟩
theorem Xmz {t0 t1 t2 t3:TypeId} {args:Array Value} {ds:List (DataW H)} {ps:List MemPlace} (h:DataW.TrodAll enc P w base spare held [t0,t1,t2,t3] args.toList ds ps) :
  ∃v0 v1 v2 v3 d0 d1 d2 d3 p0 p1 p2 p3,args=#[v0,v1,v2,v3]∧ds=[d0,d1,d2,d3]∧DataW.Trod enc P w base spare held t0 v0 d0 p0∧DataW.Trod enc P w base spare held t1 v1 d1 p1∧DataW.Trod enc P w base spare held t2 v2 d2 p2∧DataW.Trod enc P w base spare held t3 v3 d3 p3:=by
 obtain⟨v0,s0,d0,e0,p0,q0,hargs,rfl,rfl,h0,r0⟩:=trodAll_cons h
 obtain⟨v1,s1,d1,e1,p1,q1,rfl,rfl,rfl,h1,r1⟩:=trodAll_cons r0
 obtain⟨v2,s2,d2,e2,p2,q2,rfl,rfl,rfl,h2,r2⟩:=trodAll_cons r1
 obtain⟨v3,s3,d3,e3,p3,q3,rfl,rfl,rfl,h3,r3⟩:=trodAll_cons r2
 obtain⟨rfl,rfl,rfl⟩:=trodAll_nil r3
 exact⟨v0,v1,v2,v3,d0,d1,d2,d3,p0,p1,p2,p3,by cases args;simp_all,rfl,h0,h1,h2,h3⟩
end
section
variable {H:Type} {enc:TypeId×Value→H} {w:World} {base:Nat} {spare:Nat→Bool} {held:Bool}
theorem Ub {α:Type} (f:α→List Value) (s:Nat) (d0:α) {t e:TypeId} (ht:Tryz.prog.underlying t=some (.slice e)) (hs:Tryz.prog.cellsOf e=s) (hs0:0<s) (hf:∀y,(f y).length=s)
  (R:α→Prop) (hel:∀(fuel:Nat) (cs:List Value) (x:DataW H×List MemPlace),DataW.trod enc Tryz.prog w 0 spare held fuel e cs=some x→∃y:α,cs=f y∧R y)
  {fuel:Nat} {cs:List Value} {x:DataW H×List MemPlace} (h:DataW.trod enc Tryz.prog w 0 spare held fuel t cs=some x) :
  ∃(A:Option Addr) (cp:Nat) (l:List α),cs=[.slice A l.length cp]∧Rd w A (l.flatMap f)∧(A=none→l=[])∧l.length≤maxLen∧l.length≤cp∧cp≤maxLen∧∀x∈l,R x:=by
 rcases open_slice ht h with ⟨rfl,_⟩|⟨a,len,cap,m,n,D,Pl,rfl,_,hl,hm,hmm,_,hi⟩
 ·exact⟨none,0,[],rfl,Rd.nil _ _,fun _=>rfl,Nat.zero_le _,Nat.le_refl _,Nat.zero_le _,fun x hx=>by cases hx⟩
 ·have hlm:len≤m:=by rw[hmm];split<;>omega
  have each:∀i,i<len→∃y:α,R y∧∀j u,(f y)[j]? = some u→w.cell? (a.add (i*s+j))=some u:=by
   intro i hil
   obtain⟨cs',hc,htr⟩:=hi i (by omega)
   obtain⟨y,rfl,hRy⟩:=hel _ _ _ htr
   refine⟨y,hRy,fun j u hu=>?_⟩
   rw[hs] at hc
   obtain⟨_,hcl,hat⟩:=World.cells?_some hc
   have hj:j<s:=by rw[← hf y];exact(List.getElem?_eq_some_iff.1 hu).1
   rw[← Go.Deep.add_add,hat j hj,hu]
  refine⟨some a,cap,(List.range len).map (fun i=>if h:i<len then Classical.choose (each i h) else d0),by rw[List.length_map,List.length_range],?_,(fun h=>by cases h),by rw[List.length_map,List.length_range];omega,by rw[List.length_map,List.length_range];omega,by omega,fun x hx=>?_⟩
  rotate_left
  ·obtain⟨i,hi,rfl⟩:=List.mem_map.1 hx
   rw[dif_pos (List.mem_range.1 hi)]
   exact(Classical.choose_spec (each i (List.mem_range.1 hi))).1
  rcases Nat.eq_zero_or_pos len with rfl|hpos
  ·exact .inl (by simp)
  ·have hsp:a.spot=none∧a.block<w.heap.size:=by
    obtain⟨y0,_,h0⟩:=each 0 hpos
    have hl0:0<(f y0).length:=by rw[hf];exact hs0
    have:=h0 0 _ (List.getElem?_eq_getElem hl0)
    rw[Nat.zero_mul,Nat.zero_add] at this
    have hc:w.cell? a=some _:=this
    refine⟨?_,Ug hc⟩
    unfold World.cell? at hc
    split at hc
    ·split at hc
     ·cases hc
     ·rename_i hn;simpa using hn
    ·cases hc
   obtain⟨b,off,sp⟩:=a
   obtain⟨rfl,hb⟩:=hsp
   refine .inr ⟨b,off,rfl,hb,fun j u hu=>?_⟩
   have hj:j<len*s:=by
    have:=(List.getElem?_eq_some_iff.1 hu).1
    rwa [Z7 f s hf,List.length_map,List.length_range] at this
   have hk:j / s<len:=by rw[Nat.div_lt_iff_lt_mul hs0];exact hj
   have hjs:j % s<s:=Nat.mod_lt _ hs0
   have e:j / s*s+j % s=j:=by rw[Nat.mul_comm];exact Nat.div_add_mod j s
   have hg:=Xe5 f s hf ((List.range len).map (fun i=>if h:i<len then Classical.choose (each i h) else d0)) (j / s) (j % s) (by simpa using hk) hjs
   rw[e,hu,List.getElem_map,List.getElem_range,dif_pos hk] at hg
   have:=(Classical.choose_spec (each (j / s) hk)).2 (j % s) u hg.symm
   rw[e] at this
   unfold Addr.add at this
   split at this
   ·rename_i h0;subst h0;exact this
   ·exact this
theorem Xhe:∀l:List ByteArray,strs l=l.flatMap (fun b:ByteArray=>[Value.string b])
 | []=>rfl
 | b :: l=>by rw[List.flatMap_cons,← Xhe l];rfl
theorem Xbe:Tryz.prog.cellsOf 22=1:=by kernel_rfl
end
section
variable {H:Type} {enc:TypeId×Value→H} {w:World} {base:Nat} {spare:Nat→Bool} {held:Bool}
end
end Go.Proofs.YthojaplnimoacaaGreatDoor
namespace Go.Proofs.YthojaplnimoacaaGreatDoor
open Go.RowKit Go.Han
attribute [local irreducible] wpStill wpQuiet
set_option maxRecDepth 100000
noncomputable def strK:X2 Tryz.prog 9 ByteArray:=Xqw Tryz.underlying9
theorem Xq4 (x y:Int) (h:Value.int .i64 x=Value.int .i64 y):x=y:=by cases h;rfl
def intE:ElemShape Int:=⟨Value.int .i64,Xq4⟩
theorem To:Maps.Keyed Tryz.prog 9:=Maps.string_keyed Tryz.underlying9
theorem zeroI (w:World):(zeroValue 3).run Tryz.prog w = .ok (.int .i64 0) w:=by kernel_rfl
structure IdxMap (w:World) (bi bm:Nat) (cats:List ByteArray):Prop where
 box:w.heap[bi]? = some (.cells #[.map (some bm)] 217 (0,0))
 map:∃n,MapF w strK intE bm n (Y6 0 cats)
theorem IdxMap.ext {w w':World} {bi bm:Nat} {cats:List ByteArray} (h:IdxMap w bi bm cats) (hb:Below w.heap.size w w'):IdxMap w' bi bm cats:=by
 obtain⟨h1,n,h2⟩:=h
 exact⟨Xh hb h1,n,h2.of_block (hb.block _ h2.lt)⟩
theorem IdxMap.look {w:World} {bi bm:Nat} {cats:List ByteArray} (h:IdxMap w bi bm cats) {s:ByteArray} (hs:s.size≤maxLen):(Instr.lookup 217 (.map (some bm)) (.string s) true).run Tryz.prog w = .ok (.tuple #[.int .i64 ((Y6 0 cats s).getD 0),.bool (Y6 0 cats s).isSome]) w:=by
 obtain⟨_,n,hm⟩:=h
 exact Uv w To Tryz.underlying217 strK intE 0 (zeroI w) hm s hs
theorem IdxMap.look1 {w:World} {bi bm:Nat} {cats:List ByteArray} (h:IdxMap w bi bm cats) {s:ByteArray} (hs:s.size≤maxLen):(Instr.lookup 217 (.map (some bm)) (.string s) false).run Tryz.prog w = .ok (.int .i64 ((Y6 0 cats s).getD 0)) w:=by
 obtain⟨_,n,hm⟩:=h
 exact Xfq To Tryz.underlying217 strK intE 0 (zeroI w) hm s hs
theorem Xkn (bi bm:Nat) (cats:List ByteArray) (s:ByteArray) (w:World) (hm:IdxMap w bi bm cats) (hs:s.size≤maxLen) :
  Calls Tryz.prog 157 #[.string s,.pointer (some ⟨bi,0,none⟩)] w fun e w'=>e = .returned (.tuple #[.int .i64 ((Y6 0 cats s).getD 0),.bool (Y6 0 cats s).isSome])∧w=w':=by
 have c0:=Xj hm.box
 have hl:=hm.look hs
 generalize (Y6 0 cats s).getD 0=n at *
 generalize (Y6 0 cats s).isSome=b at *
 clear hm
 go_enter Tryz.func157,Tryz.ntmps157
 go_wp2_with fail
 go_ret2
 exact⟨rfl,rfl⟩
theorem Xnu (cats:List ByteArray) (s:ByteArray):(Y6 0 cats s).isSome=catB cats s:=by
 rw[Bool.eq_iff_iff,Ts,Xbr]
def CatBox (w:World) (bc bf bi bm:Nat) (cats:List ByteArray):Prop :=
 FnBox w bc 62 190 #[.pointer (some ⟨bf,0,none⟩)]∧w.heap[bf]? = some (.cells #[.func (.func 157) #[] #[.pointer (some ⟨bi,0,none⟩)]] 218 (0,0))∧IdxMap w bi bm cats
theorem CatBox.ext {w w':World} {bc bf bi bm:Nat} {cats:List ByteArray} (h:CatBox w bc bf bi bm cats) (hb:Below w.heap.size w w'):CatBox w' bc bf bi bm cats :=
 ⟨h.1.ext hb,(hb.block _ (Xc h.2.1)).trans h.2.1,h.2.2.ext hb⟩
theorem Xao (bf bi bm:Nat) (cats:List ByteArray) (s:ByteArray) (w:World) (hf:w.heap[bf]? = some (.cells #[.func (.func 157) #[] #[.pointer (some ⟨bi,0,none⟩)]] 218 (0,0))) (hm:IdxMap w bi bm cats) (hs:s.size≤maxLen) :
  Calls Tryz.prog 190 #[.string s,.pointer (some ⟨bf,0,none⟩)] w fun e w'=>e = .returned (.bool (catB cats s))∧w=w':=by
 have c0:=Xj hf
 have eg:=enters_of Tryz.func157 (by kernel_rfl) rfl
 have cF:=Xa (Xkn bi bm cats s w hm hs)
 have HC:=Xa (Xnu cats s)
 clear hf hm
 go_enter Tryz.func190,Tryz.ntmps190
 go_wp2_with fail
 refine cF.out.mono ?_
 rintro e w' ⟨rfl,rfl⟩
 rw[HC.out]
 go_wp2_with fail
 go_ret
 exact⟨rfl,rfl⟩
theorem Xgr (a b n:Int) (W:World):Calls Tryz.prog 193 #[.int .i64 a,.int .i64 b,.slice (some ⟨W.heap.size,0,none⟩) 1 1] (W.alloc (.cells #[.int .i64 n] 3)) fun e w'=>e = .returned (.bool (decide (a≤n) && decide (n≤b)))∧Below W.heap.size W w' :=
 (Xpm a b n W.heap.size _ (World.alloc_heap_new _ _)).mono fun _ _ ⟨h1,h2⟩=>⟨h1,Xb (Xe (Below.refl _ _) _) h2⟩
theorem Xmd (s:StrS) (W:World) (hT:TabsG W) (hs:s.lies W):Calls Tryz.prog 194 #[.func (.func 192) #[] #[],.slice (some ⟨W.heap.size,0,none⟩) 1 1] (W.alloc (.cells #[.slice s.addr s.xs.length s.cap] 22)) fun e w'=>e = .returned (.bool (s.xs.all Xw))∧Below W.heap.size W w':=by
 have hB:Below W.heap.size W (W.alloc (.cells #[.slice s.addr s.xs.length s.cap] 22)):=Xe (Below.refl _ _) _
 refine(Xpl W.heap.size s.addr s.cap s.xs 192 #[] Xw _ (World.alloc_heap_new _ _) ?_ (Nat.le_trans hs.cap hs.max) (enters_of Tryz.func192 (by kernel_rfl) rfl) ?_).mono fun _ _ ⟨h1,h2⟩=>⟨h1,Xb hB h2⟩
 ·have:=(hs.ext hB).rd
  rw[show strs s.xs=s.xs.flatMap (fun b:ByteArray=>[Value.string b]) from by unfold strs;rw[List.map_eq_flatMap]] at this
  exact this
 ·intro V hV x _
  exact Q3 x V (hT.ext (Xb hB hV))
set_option maxHeartbeats 1000000 in
theorem Xht (bc bf bi bm:Nat) (cats:List ByteArray) (x:EntryG) (w:World) (hT:TabsG w) (hc:CatBox w bc bf bi bm cats) (hx:x.lies w) (hs:x.cat.size≤maxLen) :
  Calls Tryz.prog 191 #[.agg #[.string x.text,.string x.cat,.int .i64 x.no,.slice x.gives.addr x.gives.xs.length x.gives.cap,.int .i64 x.cost],.pointer (some ⟨bc,0,none⟩)] w fun e w'=>e = .returned (.bool (Yt cats x))∧Below w.heap.size w w':=by
 obtain⟨W1,hW1⟩:∃W1,w.alloc (.cells #[.string x.text,.string x.cat,.int .i64 x.no,.slice x.gives.addr x.gives.xs.length x.gives.cap,.int .i64 x.cost] 70)=W1:=⟨_,rfl⟩
 have hB1:Below w.heap.size w W1:=by subst hW1;exact Xe (Below.refl _ _) _
 have hk:W1.heap[w.heap.size]? = some (.cells #[.string x.text,.string x.cat,.int .i64 x.no,.slice x.gives.addr x.gives.xs.length x.gives.cap,.int .i64 x.cost] 70 (0,0)):=by subst hW1;exact World.alloc_heap_new _ _
 have eg:=enters_of Tryz.func190 (by kernel_rfl) rfl
 have HE:Hid (Yt cats x=(Xw x.text && catB cats x.cat && (decide (1≤x.gives.xs.length) && decide (x.gives.xs.length≤4)) && x.gives.xs.all Xw && Vn x.cost)):=rfl
 have cF:=Xa (fun W (hW:Below W1.heap.size W1 W)=>Q3 x.text W (hT.ext (Xb hB1 hW)))
 have cC:=Xa (fun W (hW:Below W1.heap.size W1 W)=>Xao bf bi bm cats x.cat W ((hc.ext (Xb hB1 hW)).2.1) ((hc.ext (Xb hB1 hW)).2.2) hs)
 have cA:=Xa (fun W (hW:Below W1.heap.size W1 W)=>Xmd x.gives W (hT.ext (Xb hB1 hW)) (StrS.lies.ext hx (Xb hB1 hW)))
 have hcb:W1.heap[bc]? = some (.cells #[.func (.func 190) #[] #[.pointer (some ⟨bf,0,none⟩)]] 62 (0,0)):=(hc.ext hB1).1
 have HW1:=Xa hW1
 clear hT hc hx hW1
 generalize Xw x.text=f1 at *
 generalize catB cats x.cat=f2 at *
 generalize x.gives.xs.all Xw=f4 at *
 go_enter Tryz.func191,Tryz.ntmps191
 go_wp2_with fail
 rw[HW1.out]
 have a0:=gblk hk 0
 have a1:=gblk hk 1
 have a2:=gblk hk 2
 have a3:=gblk hk 3
 have a4:=gblk hk 4
 clear HW1
 refine(cF.out W1 (Below.refl _ _)).mono ?_
 rintro e w2 ⟨rfl,hb2⟩
 have hB2:=Xb hB1 hb2
 cases f1
 ·go_wp2_with fail
  go_ret
  exact⟨by rw[HE.out];rfl,hB2⟩
 have hk2:=Xh hb2 hk
 have hc2:=Xj (Xh hb2 hcb)
 have b0:=gblk hk2 0
 have b1:=gblk hk2 1
 have b2:=gblk hk2 2
 have b3:=gblk hk2 3
 have b4:=gblk hk2 4
 go_wp2_with fail
 refine(cC.out w2 hb2).mono ?_
 rintro e w' ⟨rfl,rfl⟩
 cases f2
 ·go_wp2_with fail
  go_ret
  exact⟨by rw[HE.out];rfl,hB2⟩
 have cB:=Xa (fun W=>Xgr 1 4 (x.gives.xs.length:Int) W)
 have HE4:Hid ((decide ((1:Int)≤(x.gives.xs.length:Int)) && decide ((x.gives.xs.length:Int)≤4))=(decide (1≤x.gives.xs.length) && decide (x.gives.xs.length≤4))):=by
  show _=_
  congr 1<;>(apply decide_eq_decide.2;omega)
 rw[HE4.out] at cB
 have cD:=Xa (fun W=>Xgr 0 1000 x.cost W)
 have HE5:Hid (Vn x.cost=(decide (0≤x.cost) && decide (x.cost≤1000))):=rfl
 rw[← HE5.out] at cD
 generalize (decide (1≤x.gives.xs.length) && decide (x.gives.xs.length≤4))=f3 at *
 generalize Vn x.cost=f5 at *
 clear HE4 HE5
 go_wp2_with fail
 refine(cB.out w2).mono ?_
 rintro e w3 ⟨rfl,hb3⟩
 have hB3:=Xb hB2 hb3
 have hk3:=Xh hb3 hk2
 have hb13:=Xb hb2 hb3
 cases f3
 ·go_wp2_with fail
  go_ret
  exact⟨by rw[HE.out];rfl,hB3⟩
 have d0:=gblk hk3 0
 have d1:=gblk hk3 1
 have d2:=gblk hk3 2
 have d3:=gblk hk3 3
 have d4:=gblk hk3 4
 clear b0 b1 b2 b3 b4 a0 a1 a2 a3 a4 hc2
 go_wp2_with fail
 refine(cA.out w3 hb13).mono ?_
 rintro e w4 ⟨rfl,hb4⟩
 have hB4:=Xb hB3 hb4
 have hk4:=Xh hb4 hk3
 cases f4
 ·go_wp2_with fail
  go_ret
  exact⟨by rw[HE.out];rfl,hB4⟩
 have g0:=gblk hk4 0
 have g1:=gblk hk4 1
 have g2:=gblk hk4 2
 have g3:=gblk hk4 3
 have g4:=gblk hk4 4
 clear d0 d1 d2 d3 d4
 go_wp2_with fail
 refine(cD.out w4).mono ?_
 rintro e w5 ⟨rfl,hb5⟩
 go_wp2_with fail
 go_ret
 exact⟨by rw[HE.out];simp,Xb hB4 hb5⟩
set_option maxHeartbeats 1000000 in
theorem Xjf (bc bf bi bm:Nat) (cats:List ByteArray) (x:PartG) (w:World) (hT:TabsG w) (hc:CatBox w bc bf bi bm cats) (hs:x.cat.size≤maxLen) :
  Calls Tryz.prog 195 #[.agg #[.string x.cat,.int .i64 x.no,.string x.text],.pointer (some ⟨bc,0,none⟩)] w fun e w'=>e = .returned (.bool (Yj cats x))∧Below w.heap.size w w':=by
 obtain⟨W1,hW1⟩:∃W1,w.alloc (.cells #[.string x.cat,.int .i64 x.no,.string x.text] 150)=W1:=⟨_,rfl⟩
 have hB1:Below w.heap.size w W1:=by subst hW1;exact Xe (Below.refl _ _) _
 have hk:W1.heap[w.heap.size]? = some (.cells #[.string x.cat,.int .i64 x.no,.string x.text] 150 (0,0)):=by subst hW1;exact World.alloc_heap_new _ _
 have eg:=enters_of Tryz.func190 (by kernel_rfl) rfl
 have cF:=Xa (Q3 x.text W1 (hT.ext hB1))
 have cC:=Xa (Xao bf bi bm cats x.cat W1 ((hc.ext hB1).2.1) ((hc.ext hB1).2.2) hs)
 have hc0:=Xj (hc.ext hB1).1
 have HE:Hid (Yj cats x=if x.text.size=0 then catB cats x.cat else decide (x.cat.size=0) && Xw x.text):=rfl
 clear hT hc
 have a0:=gblk hk 0
 have a1:=gblk hk 1
 have a2:=gblk hk 2
 clear hk
 by_cases h0:x.text.size=0
 ·have HE2:Hid (Yj cats x=catB cats x.cat):=by show _=_;rw[HE.out,if_pos h0]
  have n0:=Zq (s:=x.text) (by omega)
  clear HE cF h0
  generalize catB cats x.cat=f2 at *
  go_enter Tryz.func195,Tryz.ntmps195
  go_wp2_with fail
  refine cC.out.mono ?_
  rintro e w' ⟨rfl,rfl⟩
  cases f2
  ·go_wp2_with fail
   go_ret
   exact⟨by rw[HE2.out];rfl,hB1⟩
  ·go_wp2_with fail
   go_ret
   exact⟨by rw[HE2.out];rfl,hB1⟩
 ·have n0:=Zp (s:=x.text) (by omega)
  by_cases h1:x.cat.size=0
  ·have HE2:Hid (Yj cats x=Xw x.text):=by show _=_;rw[HE.out,if_neg h0,decide_eq_true h1];rfl
   have n1:=Zq (s:=x.cat) (by omega)
   clear HE cC h0 h1
   generalize Xw x.text=f2 at *
   go_enter Tryz.func195,Tryz.ntmps195
   go_wp2_with fail
   refine cF.out.mono ?_
   rintro e w' ⟨rfl,hb⟩
   go_wp2_with fail
   go_ret
   exact⟨by rw[HE2.out];rfl,Xb hB1 hb⟩
  ·have HE2:Hid (Yj cats x=false):=by show _=_;rw[HE.out,if_neg h0,decide_eq_false h1];rfl
   have n1:=Zp (s:=x.cat) (by omega)
   clear HE cC cF h0 h1
   go_enter Tryz.func195,Tryz.ntmps195
   go_wp2_with fail
   go_ret
   exact⟨by rw[HE2.out];rfl,hB1⟩
end Go.Proofs.YthojaplnimoacaaGreatDoor
namespace Go.Proofs.YthojaplnimoacaaGreatDoor
open Go.RowKit Go.Han
set_option maxRecDepth 100000
/-! ### Gives -/
def Ui (n:Nat) (y:GiveG):Bool:=if y.text.size=0 then decide (0≤y.part) && decide (y.part<n) else decide (y.part=0) && Xw y.text
def Q7 (gives:List GiveG):Nat→List PartG→Bool
 | _,[]=>true
 | k,p :: l=>(decide (Ya gives k=1) == decide (p.text.size=0)) && decide (Ya gives k≤1) && Q7 gives (k+1) l
theorem Qh (gives:List GiveG):∀(k:Nat) (l:List PartG),Q7 gives k l=true↔∀(j:Nat) (p:PartG),l[j]? = some p→(Ya gives (k+j)=1↔p.text.size=0)∧Ya gives (k+j)≤1
 | k,[]=>by simp[Q7]
 | k,p :: l=>by
  unfold Q7
  rw[Bool.and_eq_true,Bool.and_eq_true,Qh gives (k+1) l]
  constructor
  ·rintro⟨⟨h1,h2⟩,h3⟩ j q hq
   cases j with
   | zero =>
    simp at hq;subst hq
    simp only[beq_iff_eq,decide_eq_decide,decide_eq_true_eq] at h1 h2
    exact⟨h1,h2⟩
   | succ j =>
    have:=h3 j q (by simpa using hq)
    rw[show k+1+j=k+(j+1) by omega] at this
    exact this
  ·intro h
   have h0:=h 0 p rfl
   rw[Nat.add_zero] at h0
   refine⟨⟨?_,?_⟩,fun j q hq=>?_⟩
   ·simp only[beq_iff_eq,decide_eq_decide];exact h0.1
   ·simpa using h0.2
   ·have:=h (j+1) q (by simpa using hq)
    rw[show k+(j+1)=k+1+j by omega] at this
    exact this
theorem Xbl (gives:List GiveG):∀(k:Nat) (l:List PartG),Tn gives k l=true↔∀(j:Nat) (p:PartG),l[j]? = some p→p.text.size=0→Ya gives (k+j)=1
 | k,[]=>by simp[Tn]
 | k,p :: l=>by
  unfold Tn
  rw[Bool.and_eq_true,Xbl gives (k+1) l]
  constructor
  ·rintro⟨h1,h3⟩ j q hq h0
   cases j with
   | zero =>
    simp at hq;subst hq
    simp[h0] at h1
    simpa using h1
   | succ j =>
    have:=h3 j q (by simpa using hq) h0
    rw[show k+1+j=k+(j+1) by omega] at this
    exact this
  ·intro h
   have h0:=h 0 p rfl
   rw[Nat.add_zero] at h0
   refine⟨?_,fun j q hq hq0=>?_⟩
   ·by_cases hp:p.text.size=0
    ·simp[hp,h0 hp]
    ·simp[hp]
   ·have:=h (j+1) q (by simpa using hq) hq0
    rw[show k+(j+1)=k+1+j by omega] at this
    exact this
theorem Xnf {gives:List GiveG} {k:Nat} {y:GiveG} (hy:y∈gives) (h1:y.text.size=0) (h2:y.part=(k:Int)):0<Ya gives k:=by
 unfold Ya
 rw[List.countP_pos_iff]
 exact⟨y,hy,by simp[h1,h2]⟩
theorem Xkv (gives:List GiveG) (parts:List PartG):(gives.all (Zs parts) && Tn gives 0 parts)=(gives.all (Ui parts.length) && Q7 gives 0 parts):=by
 rw[Bool.eq_iff_iff,Bool.and_eq_true,Bool.and_eq_true,Xbl,Qh,List.all_eq_true,List.all_eq_true]
 simp only[Nat.zero_add]
 constructor
 ·rintro⟨h1,h2⟩
  have hw:∀y∈gives,Ui parts.length y=true:=by
   intro y hy
   have:=h1 y hy
   unfold Zs at this
   unfold Ui
   split
   ·rename_i h0
    rw[if_pos h0] at this
    unfold Th at this
    simp only[Bool.and_eq_true,decide_eq_true_eq] at this
    obtain⟨ha,hb⟩:=this
    split at hb
    ·rename_i p hp
     have:=(List.getElem?_eq_some_iff.1 hp).1
     simp only[Bool.and_eq_true,decide_eq_true_eq]
     omega
    ·cases hb
   ·rename_i h0
    rw[if_neg h0] at this
    exact this
  refine⟨hw,fun j p hp=>?_⟩
  by_cases h0:p.text.size=0
  ·have:=h2 j p hp h0
   exact⟨⟨fun _=>h0,fun _=>this⟩,by omega⟩
  ·have hz:Ya gives j=0:=by
    unfold Ya
    rw[List.countP_eq_zero]
    intro y hy hc
    simp only[Bool.and_eq_true,decide_eq_true_eq] at hc
    have:=h1 y hy
    unfold Zs at this
    rw[if_pos hc.1] at this
    unfold Th at this
    simp only[Bool.and_eq_true,decide_eq_true_eq] at this
    obtain⟨ha,hb⟩:=this
    rw[hc.2,Int.toNat_natCast,hp] at hb
    simp[h0] at hb
   exact⟨⟨fun h=>by omega,fun h=>absurd h h0⟩,by omega⟩
 ·rintro⟨h1,h2⟩
  refine⟨fun y hy=>?_,fun j p hp h0=>(h2 j p hp).1.2 h0⟩
  have:=h1 y hy
  unfold Ui at this
  unfold Zs
  split
  ·rename_i h0
   rw[if_pos h0] at this
   simp only[Bool.and_eq_true,decide_eq_true_eq] at this
   unfold Th
   obtain⟨p,hp⟩:∃p,parts[y.part.toNat]? = some p:=⟨_,List.getElem?_eq_getElem (by omega)⟩
   rw[hp]
   simp only[Bool.and_eq_true,decide_eq_true_eq]
   refine⟨this.1,?_⟩
   have h3:=h2 _ p hp
   have h4:=Xnf (k:=y.part.toNat) hy h0 (by omega)
   exact h3.1.1 (by omega)
  ·rename_i h0
   rw[if_neg h0] at this
   exact this
theorem Xbm (l:List GiveG) (y:GiveG) (k:Nat):Ya (l++[y]) k=Ya l k+(if y.text.size=0∧y.part=(k:Int) then 1 else 0):=by
 unfold Ya
 rw[List.countP_append]
 congr 1
 by_cases h:y.text.size=0∧y.part=(k:Int)
 ·rw[if_pos h,List.countP_cons,List.countP_nil,if_pos (by rw[decide_eq_true h.1,decide_eq_true h.2];rfl)]
 ·rw[if_neg h]
  rw[List.countP_eq_zero]
  intro z hz hc
  rw[List.mem_singleton] at hz
  subst hz
  simp only[Bool.and_eq_true,decide_eq_true_eq] at hc
  exact h hc
theorem Xe8 (l:List GiveG) (k:Nat):Ya l k≤l.length:=List.countP_le_length
end Go.Proofs.YthojaplnimoacaaGreatDoor
namespace Go.Proofs.YthojaplnimoacaaGreatDoor
open Go.RowKit Go.Han
attribute [local irreducible] wpStill wpQuiet
set_option maxRecDepth 100000
theorem Xnj {w:World} {g j e:Nat} {u:Value} {c:Array Value} {fr:Nat×Nat} (h:w.heap[g]? = some (.cells c e fr)):(w.setCell ⟨g,j,none⟩ u).heap[g]? = some (.cells (c.setIfInBounds j u) e fr):=by
 obtain⟨hlt,hk⟩:=Array.getElem?_eq_some_iff.1 h
 show (w.heap.modify g _)[g]? = _
 rw[Array.getElem?_eq_getElem (by rw[Array.size_modify];exact hlt),Array.getElem_modify_self,hk]
 rfl
theorem Xn0 (z:Value) (n:Nat):madeCells #[z] n=Array.replicate n z:=by
 apply Array.ext
 ·simp[madeCells]
 ·intro i h1 h2
  simp[madeCells,Nat.mod_one]
theorem Xkz:(Tryz.prog.info? 3).map (fun i=>(i.zero,i.size,i.bytes))=some (some (.int .i64 0),1,8):=by kernel_rfl
theorem Xqg (n:Nat) (h:n≤1000) (w:World):(Instr.makeSlice 61 (.int .i64 (n:Int)) (.int .i64 (n:Int))).run Tryz.prog w = .ok (.slice (some ⟨w.heap.size,0,none⟩) n n) (w.alloc (.cells (Array.replicate n (.int .i64 0)) 3)):=by
 rw[← Xn0]
 exact run_make_row' (P:=Tryz.prog) 61 3 (.int .i64 0) 8 Tryz.underlying61 Xkz rfl .i64 .i64 n (by omega) (by omega) w
def Ul (l:List GiveG) (n:Nat):Array Value:=((List.range n).map fun i=>Value.int .i64 (Ya l i:Nat)).toArray
theorem Xn1 (n:Nat):Ul [] n=Array.replicate n (.int .i64 0):=by
 unfold Ul
 apply Array.ext
 ·simp
 ·intro i h1 h2
  simp[Ya]
theorem Xc9 (l:List GiveG) {n i:Nat} (h:i<n):(Ul l n)[i]? = some (.int .i64 (Ya l i:Nat)):=by
 unfold Ul
 simp[h]
theorem Xk5 (l:List GiveG) (n:Nat) (y:GiveG) (h:¬y.text.size=0):Ul (l++[y]) n=Ul l n:=by
 unfold Ul
 congr 1
 refine List.map_congr_left fun i _=>?_
 rw[Xbm,if_neg (fun hh=>h hh.1)];rfl
theorem Xk4 (l:List GiveG) (n p:Nat) (y:GiveG) (h:y.text.size=0) (hp:y.part=(p:Int)):(Ul l n).setIfInBounds p (.int .i64 ((Ya l p:Nat)+1:Int))=Ul (l++[y]) n:=by
 unfold Ul
 apply Array.ext
 ·simp
 ·intro i h1 h2
  simp only[List.size_toArray,List.length_map,List.length_range,Array.size_setIfInBounds] at h1 h2
  rw[Array.getElem_setIfInBounds (by simpa using h1)]
  simp only[List.getElem_toArray,List.getElem_map,List.getElem_range]
  rw[Xbm]
  by_cases e:p=i
  ·subst e
   rw[if_pos rfl,if_pos ⟨h,hp⟩];simp
  ·rw[if_neg e,if_neg (fun hh=>e (by have:=hh.2;omega))];rfl
theorem Xpi (bc bf bi bm:Nat) (cats:List ByteArray) (ps:SlS PartG) (W:World) (hT:TabsG W) (hc:CatBox W bc bf bi bm cats) (hs:ps.lies PartG.cells W) (hl:∀p∈ps.xs,p.cat.size≤maxLen) :
  Calls Tryz.prog 197 #[.func (.func 195) #[] #[.pointer (some ⟨bc,0,none⟩)],.slice (some ⟨W.heap.size,0,none⟩) 1 1] (W.alloc (.cells #[.slice ps.addr ps.xs.length ps.cap] 101)) fun e w'=>e = .returned (.bool (ps.xs.all (Yj cats)))∧Below W.heap.size W w':=by
 have hB:Below W.heap.size W (W.alloc (.cells #[.slice ps.addr ps.xs.length ps.cap] 101)):=Xe (Below.refl _ _) _
 refine(Xph W.heap.size ps.addr ps.cap ps.xs 195 #[.pointer (some ⟨bc,0,none⟩)] (Yj cats) _ (World.alloc_heap_new _ _) (hs.ext hB).rd (Nat.le_trans hs.cap hs.max) (enters_of Tryz.func195 (by kernel_rfl) rfl) ?_).mono fun _ _ ⟨h1,h2⟩=>⟨h1,Xb hB h2⟩
 intro V hV x hx
 exact Xjf bc bf bi bm cats x V (hT.ext (Xb hB hV)) (hc.ext (Xb hB hV)) (hl x hx)
def Xp1 (cats:List ByteArray) (x:RuleG):Bool:=catB cats x.cat && (decide (1≤x.parts.xs.length) && decide (x.parts.xs.length≤4)) && (decide (1≤x.gives.xs.length) && decide (x.gives.xs.length≤8)) && Vn x.cost && x.parts.xs.all (Yj cats)
theorem Xll (cats:List ByteArray) (x:RuleG):Yh cats x=(Xp1 cats x && (x.gives.xs.all (Ui x.parts.xs.length) && Q7 x.gives.xs 0 x.parts.xs)):=by
 unfold Yh Xp1
 rw[Bool.and_assoc,Xkv]
theorem Xmi (a b n:Nat):(decide ((a:Int)≤(n:Int)) && decide ((n:Int)≤(b:Int)))=(decide (a≤n) && decide (n≤b)):=by
 congr 1<;>(apply decide_eq_decide.2;omega)
set_option maxHeartbeats 4000000 in
theorem Xjq (bp bc bf bi bm:Nat) (cats:List ByteArray) (x:RuleG) (w:World) (hT:TabsG w) (hc:CatBox w bc bf bi bm cats) (hx:x.lies w) (hp:FnBox w bp 247 195 #[.pointer (some ⟨bc,0,none⟩)])
  (hs:x.cat.size≤maxLen) (hl:∀p∈x.parts.xs,p.cat.size≤maxLen) :
  Calls Tryz.prog 196 #[.agg #[.string x.cat,.int .i64 x.no,.slice x.parts.addr x.parts.xs.length x.parts.cap,.slice x.gives.addr x.gives.xs.length x.gives.cap,.int .i64 x.cost],.pointer (some ⟨bc,0,none⟩),.pointer (some ⟨bp,0,none⟩)] w fun e w'=>e = .returned (.bool (Yh cats x))∧Below w.heap.size w w':=by
 obtain⟨W1,hW1⟩:∃W1,w.alloc (.cells #[.string x.cat,.int .i64 x.no,.slice x.parts.addr x.parts.xs.length x.parts.cap,.slice x.gives.addr x.gives.xs.length x.gives.cap,.int .i64 x.cost] 104)=W1:=⟨_,rfl⟩
 have hB1:Below w.heap.size w W1:=by subst hW1;exact Xe (Below.refl _ _) _
 have hk:W1.heap[w.heap.size]? = some (.cells #[.string x.cat,.int .i64 x.no,.slice x.parts.addr x.parts.xs.length x.parts.cap,.slice x.gives.addr x.gives.xs.length x.gives.cap,.int .i64 x.cost] 104 (0,0)):=by subst hW1;exact World.alloc_heap_new _ _
 have eg:=enters_of Tryz.func190 (by kernel_rfl) rfl
 have HR:=Xa (Xll cats x)
 have HE:Hid (Xp1 cats x=(catB cats x.cat && (decide (1≤x.parts.xs.length) && decide (x.parts.xs.length≤4)) && (decide (1≤x.gives.xs.length) && decide (x.gives.xs.length≤8)) && Vn x.cost && x.parts.xs.all (Yj cats))):=rfl
 have HT:=Xa (hT.ext hB1)
 have HC:=Xa (hc.ext hB1)
 have HX:=Xa (RuleG.lies.ext hx hB1)
 have cC:=Xa (Xao bf bi bm cats x.cat W1 HC.out.2.1 HC.out.2.2 hs)
 have cB:=Xa (fun W=>Xgr 1 4 (x.parts.xs.length:Int) W)
 have cG:=Xa (fun W=>Xgr 1 8 (x.gives.xs.length:Int) W)
 have cD:=Xa (fun W=>Xgr 0 1000 x.cost W)
 have cA:=Xa (fun W (hW:Below W1.heap.size W1 W)=>Xpi bc bf bi bm cats x.parts W (HT.out.ext hW) (HC.out.ext hW) (HX.out.1.ext hW) hl)
 have hcb:=HC.out.1
 have hpb:=hp.ext hB1
 rw[show (decide ((1:Int)≤(x.parts.xs.length:Int)) && decide ((x.parts.xs.length:Int)≤4))=(decide (1≤x.parts.xs.length) && decide (x.parts.xs.length≤4)) from Xmi 1 4 _] at cB
 rw[show (decide ((1:Int)≤(x.gives.xs.length:Int)) && decide ((x.gives.xs.length:Int)≤8))=(decide (1≤x.gives.xs.length) && decide (x.gives.xs.length≤8)) from Xmi 1 8 _] at cG
 have HE5:Hid (Vn x.cost=(decide (0≤x.cost) && decide (x.cost≤1000))):=rfl
 rw[← HE5.out] at cD
 have Hpl:Hid ((decide (1≤x.parts.xs.length) && decide (x.parts.xs.length≤4))=true→x.parts.xs.length≤4):=by intro h;simp at h;exact h.2
 have Hgl:Hid ((decide (1≤x.gives.xs.length) && decide (x.gives.xs.length≤8))=true→x.gives.xs.length≤8):=by intro h;simp at h;exact h.2
 generalize catB cats x.cat=f1 at *
 generalize (decide (1≤x.parts.xs.length) && decide (x.parts.xs.length≤4))=f2 at *
 generalize (decide (1≤x.gives.xs.length) && decide (x.gives.xs.length≤8))=f3 at *
 generalize Vn x.cost=f4 at *
 generalize x.parts.xs.all (Yj cats)=f5 at *
 clear hT hc hx hp hl HE5
 have a0:=gblk hk 0
 have a1:=gblk hk 1
 have a2:=gblk hk 2
 have a3:=gblk hk 3
 have a4:=gblk hk 4
 have c0:=Xj hcb
 go_enter Tryz.func196,Tryz.ntmps196
 go_wp2_with fail
 refine cC.out.mono ?_
 rintro e w' ⟨rfl,rfl⟩
 clear hW1
 cases f1
 ·go_wp2_with fail
  go_ret
  exact⟨by rw[HR.out,HE.out];rfl,hB1⟩
 go_wp2_with fail
 refine(cB.out W1).mono ?_
 rintro e w2 ⟨rfl,hb2⟩
 have hB2:=Xb hB1 hb2
 have hk2:=Xh hb2 hk
 cases f2
 ·go_wp2_with fail
  go_ret
  exact⟨by rw[HR.out,HE.out];rfl,hB2⟩
 have b0:=gblk hk2 0
 have b1:=gblk hk2 1
 have b2:=gblk hk2 2
 have b3:=gblk hk2 3
 have b4:=gblk hk2 4
 clear a0 a1 a2 a3 a4 c0
 go_wp2_with fail
 refine(cG.out w2).mono ?_
 rintro e w3 ⟨rfl,hb3⟩
 have hB3:=Xb hB2 hb3
 have hk3:=Xh hb3 hk2
 cases f3
 ·go_wp2_with fail
  go_ret
  exact⟨by rw[HR.out,HE.out];rfl,hB3⟩
 have d0:=gblk hk3 0
 have d1:=gblk hk3 1
 have d2:=gblk hk3 2
 have d3:=gblk hk3 3
 have d4:=gblk hk3 4
 clear b0 b1 b2 b3 b4
 go_wp2_with fail
 refine(cD.out w3).mono ?_
 rintro e w4 ⟨rfl,hb4⟩
 have hB4:=Xb hB3 hb4
 have hk4:=Xh hb4 hk3
 cases f4
 ·go_wp2_with fail
  go_ret
  exact⟨by rw[HR.out,HE.out];rfl,hB4⟩
 have g0:=gblk hk4 0
 have g1:=gblk hk4 1
 have g2:=gblk hk4 2
 have g3:=gblk hk4 3
 have g4:=gblk hk4 4
 have hb14:=Xb hb2 (Xb hb3 hb4)
 have hp4:=Xj (hpb.ext hb14)
 clear d0 d1 d2 d3 d4
 go_wp2_with fail
 refine(cA.out w4 hb14).mono ?_
 rintro e w5 ⟨rfl,hb5⟩
 have hB5:=Xb hB4 hb5
 have hk5:=Xh hb5 hk4
 cases f5
 ·go_wp2_with fail
  go_ret
  exact⟨by rw[HR.out,HE.out];rfl,hB5⟩
 have hpl:=Hpl.out trivial
 have hgl:=Hgl.out trivial
 have HF:Hid (Yh cats x=(x.gives.xs.all (Ui x.parts.xs.length) && Q7 x.gives.xs 0 x.parts.xs)):=by show _=_;rw[HR.out,HE.out];rfl
 have HT5:=Xa (HT.out.ext (Xb hb14 hb5))
 have HX5:=Xa (HX.out.ext (Xb hb14 hb5))
 have Hk5:=Xa hk5
 have k0:=gblk hk5 0
 have k1:=gblk hk5 1
 have k2:=gblk hk5 2
 have k3:=gblk hk5 3
 have k4:=gblk hk5 4
 clear g0 g1 g2 g3 g4 hp4 cA cB cC cD cG hb2 hb3 hb4 hb14 hb5 hB1 hB2 hB3 hB4 hk hk2 hk3 hk4 hk5 hcb hpb HR HE HT HC HX Hpl Hgl eg
 have hmk:=fun w=>Xqg x.parts.xs.length (by omega) w
 have hnil:=Xa (Xn1 x.parts.xs.length)
 obtain⟨n,hn⟩:∃n,x.parts.xs.length=n:=⟨_,rfl⟩
 obtain⟨w6,hw6⟩:∃w6,w5.alloc (.cells (Array.replicate n (.int .i64 0)) 3)=w6:=⟨_,rfl⟩
 rw[hn] at hnil HF hmk hpl
 have hB6:Below w5.heap.size w5 w6:=by subst hw6;exact Xe (Below.refl _ _) _
 have hm6:w6.heap[w5.heap.size]? = some (.cells (Ul [] n) 3 (0,0)):=by subst hw6;rw[hnil.out];exact World.alloc_heap_new _ _
 have hk6:=Xh hB6 Hk5.out
 have HK6:=Xa hk6
 have k6:w6.cell? ⟨w.heap.size,3,none⟩=some (.slice x.gives.addr x.gives.xs.length x.gives.cap):=gblk hk6 3
 clear hk6
 go_wp2_with fail
 clear k0 k1 k2 k3 k4 k6 hmk hnil hw6
 go_loopw [53] (fun i wr=>∃k:Nat,k≤x.gives.xs.length∧i = .int .i64 k∧Below w5.heap.size w5 wr∧wr.heap[w5.heap.size]? = some (.cells (Ul (x.gives.xs.take k) n) 3 (0,0))∧Hid ((x.gives.xs.take k).all (Ui n)=true)) (fun i _=>x.gives.xs.length-(intOf i).toNat)
 case atStart=>exact⟨0,Nat.zero_le _,rfl,hB6,hm6,rfl⟩
 case round =>
  obtain⟨k,hk,rfl,hB,hm,HR⟩:=hrel
  have hBw:=Xb hB5 hB
  by_cases hlt:k<x.gives.xs.length
  ·obtain⟨b,off,hA,hb,hc⟩:=HX5.out.2.at_ GiveG.size_cells (by omega) hlt
   rw[hA]
   have d0:wr.cell? ⟨b,off+k*2,none⟩=some (.int .i64 x.gives.xs[k].part):=hc k hlt wr hB 0 _ rfl
   have d1:wr.cell? ⟨b,off+k*2+1,none⟩=some (.string x.gives.xs[k].text):=hc k hlt wr hB 1 _ rfl
   have hmem:=List.getElem_mem hlt
   have htk:x.gives.xs.take (k+1)=x.gives.xs.take k++[x.gives.xs[k]]:=List.take_succ_eq_append_getElem hlt
   have Htk:=Xa htk
   have Hmem:=Xa hmem
   clear hc hmem htk hA
   obtain⟨y,hy⟩:∃y,x.gives.xs[k]=y:=⟨_,rfl⟩
   rw[hy] at Htk Hmem d0 d1
   clear hy
   obtain⟨W2,hW2⟩:∃W2,wr.alloc (.cells #[.int .i64 y.part,.string y.text] 152)=W2:=⟨_,rfl⟩
   have hb2:Below wr.heap.size wr W2:=by subst hW2;exact Xe (Below.refl _ _) _
   have hy2:W2.heap[wr.heap.size]? = some (.cells #[.int .i64 y.part,.string y.text] 152 (0,0)):=by subst hW2;exact World.alloc_heap_new _ _
   have hm2:=Xh hb2 hm
   have hB2:=Xb hB hb2
   have HFf:Hid (Ui n y=false→Yh cats x=false):=by
    intro h
    rw[HF.out]
    have:x.gives.xs.all (Ui n)=false:=by rw[List.all_eq_false];exact⟨y,Hmem.out,by simp[h]⟩
    rw[this];rfl
   have HFt:Hid (Ui n y=true→(x.gives.xs.take (k+1)).all (Ui n)=true):=by
    intro h
    rw[Htk.out,List.all_append,HR.out]
    simp[h]
   have e0:=gblk hy2 0
   have e1:=gblk hy2 1
   by_cases ht:y.text.size=0
   ·have n0:=Zq (s:=y.text) (by omega)
    have n1:(y.text.toList != [])=false:=by have:=List.isEmpty_iff.1 n0;simp[this]
    have HG:Hid (Ui n y=(decide (0≤y.part) && decide (y.part≤(n:Int)-1))):=by
     show _=_
     unfold Ui
     rw[if_pos ht]
     congr 1
     exact decide_eq_decide.2 (by omega)
    have cB:=Xa (Xgr 0 ((n:Int)-1) y.part W2)
    have z2:Hid (W2.heap.size=wr.heap.size+1):=by show _=_;rw[← hW2];simp
    have HN:Hid (∀p:Nat,y.part=(p:Int)→(Ul (x.gives.xs.take k) n).setIfInBounds p (.int .i64 ((Ya (x.gives.xs.take k) p:Nat)+1:Int))=Ul (x.gives.xs.take (k+1)) n):=by
     intro p hp
     rw[Htk.out];exact Xk4 _ n p y ht hp
    rw[← HG.out] at cB
    clear ht
    have w1:IntKind.i64.wrap ((n:Int)-1)=(n:Int)-1:=IntWalk.i64_in _ (by omega)
    cases hg:Ui n y
    ·have HR2:=Xa (HFf.out hg)
     rw[hg] at cB
     clear hg HFf HFt HG HN
     go_wp2_with fail
     refine cB.out.mono ?_
     rintro e w7 ⟨rfl,hb7⟩
     go_wp2_with fail
     go_ret
     exact⟨by rw[HR2.out];rfl,Xb hB5 (Xb hB2 hb7)⟩
    ·have HR2:=Xa (HFt.out hg)
     have hpr:=HG.out
     rw[hg] at cB hpr
     have hpr2:=hpr.symm
     simp only[Bool.and_eq_true,decide_eq_true_eq] at hpr2
     obtain⟨p,hp⟩:∃p:Nat,y.part=(p:Int):=⟨y.part.toNat,by omega⟩
     have hpn:p<n:=by omega
     have HN2:=Xa (HN.out p hp)
     have hcl:Ya (x.gives.xs.take k) p≤8:=by have:=Xe8 (x.gives.xs.take k) p;have:=List.length_take_le k x.gives.xs;omega
     have HGet:=Xa (Xc9 (x.gives.xs.take k) hpn)
     obtain⟨yp,yt⟩:=y
     have hp:yp=(p:Int):=hp
     subst hp
     dsimp only at e0 e1 d0 d1 hW2 hy2 cB n0 n1 HN2 HR2
     generalize (Ya (x.gives.xs.take k) p:Nat)=c at *
     have w2:IntKind.i64.wrap ((c:Int)+1)=(c:Int)+1:=IntWalk.i64_in _ (by omega)
     generalize Ul (x.gives.xs.take k) n=M at *
     clear hg hpr hpr2 HFf HFt HG HN
     go_wp2_with fail
     refine cB.out.mono ?_
     rintro e w7 ⟨rfl,hb7⟩
     have hm7:=Xh hb7 hm2
     have hy7:=Xh hb7 hy2
     have q0:w7.cell? ⟨w5.heap.size,0+p,none⟩=some (.int .i64 (c:Int)):=by rw[Nat.zero_add];exact(gblk hm7 p).trans HGet.out
     have q1:w7.cell? ⟨w5.heap.size,p,none⟩=some (.int .i64 (c:Int)):=(gblk hm7 p).trans HGet.out
     have q2:=Xf hm7 p
     have q3:w7.cell? ⟨wr.heap.size,0,none⟩=some (.int .i64 (p:Int)):=gblk hy7 0
     have hB7:=Xb hB2 hb7
     have hs7:=hB7.setCell (p:=⟨w5.heap.size,p,none⟩) (Nat.le_refl _) (.int .i64 ((c:Int)+1))
     have hm8:=Xnj (j:=p) (u:=.int .i64 ((c:Int)+1)) hm7
     rw[HN2.out] at hm8
     have Hm8:=Xa hm8
     have Hs7:=Xa hs7
     clear hm7 hy7 hm8 hs7 hm2 hy2 e0 e1 hW2 cB z2 hb2 hm HN2 HGet d0 d1
     go_wp2_with fail
     go_roundw
     case rel=>exact⟨k+1,by omega,by go_num,Hs7.out,Hm8.out,HR2⟩
     case measure=>simp[intOf];omega
   ·have n0:=Zp (s:=y.text) (by omega)
    have HG:Hid (Ui n y=(decide (y.part=0) && Xw y.text)):=by show _=_;unfold Ui;rw[if_neg ht]
    have HN:Hid (Ul (x.gives.xs.take (k+1)) n=Ul (x.gives.xs.take k) n):=by show _=_;rw[Htk.out];exact Xk5 _ n y ht
    have cF:=Xa (fun W (hW:Below w5.heap.size w5 W)=>Q3 y.text W (HT5.out.ext hW))
    clear ht
    by_cases hz:y.part=0
    ·have g1:(y.part != 0)=false:=by simp[hz]
     have HG2:Hid (Ui n y=Xw y.text):=by show _=_;rw[HG.out,decide_eq_true hz];rfl
     clear HG hz
     generalize Xw y.text=f at *
     go_wp2_with fail
     refine(cF.out W2 hB2).mono ?_
     rintro e w7 ⟨rfl,hb7⟩
     have hB7:=Xb hB2 hb7
     cases f
     ·have HR2:=Xa (HFf.out HG2.out)
      clear HFf HFt HG2 cF
      go_wp2_with fail
      go_ret
      exact⟨by rw[HR2.out];rfl,Xb hB5 hB7⟩
     ·have HR2:=Xa (HFt.out HG2.out)
      have hm7:=Xh hb7 hm2
      rw[← HN.out] at hm7
      clear HFf HFt HG2 cF HN
      go_wp2_with fail
      go_roundw
      case rel=>exact⟨k+1,by omega,by go_num,hB7,hm7,HR2⟩
      case measure=>simp[intOf];omega
    ·have g1:(y.part != 0)=true:=by simpa using hz
     have HR2:=Xa (HFf.out (by rw[HG.out,decide_eq_false hz];rfl))
     clear HG hz HFf HFt HN cF
     go_wp2_with fail
     go_ret
     exact⟨by rw[HR2.out];rfl,Xb hB5 hB2⟩
  ·obtain rfl:k=x.gives.xs.length:=by omega
   rw[List.take_length] at hm HR
   have HF2:Hid (Yh cats x=Q7 x.gives.xs 0 x.parts.xs):=by show _=_;rw[HF.out,HR.out];rfl
   have Hm:=Xa hm
   have HGl:=Xa (fun k=>Xe8 x.gives.xs k)
   have hkr:=Xh hB Hk5.out
   have k2:wr.cell? ⟨w.heap.size,2,none⟩=some (.slice x.parts.addr x.parts.xs.length x.parts.cap):=gblk hkr 2
   rw[hn] at k2
   obtain⟨w9,hw9⟩:∃w9,w9=wr:=⟨_,rfl⟩
   subst hw9
   clear HF HR hkr hm HK6
   go_wp2_with fail
   clear k2
   go_loopw [90] (fun i wr=>∃k:Nat,k≤n∧i = .int .i64 k∧Below w9.heap.size w9 wr∧Hid (∀(j:Nat) (p:PartG),x.parts.xs[j]? = some p→j<k→(Ya x.gives.xs (0+j)=1↔p.text.size=0)∧Ya x.gives.xs (0+j)≤1)) (fun i _=>n-(intOf i).toNat)
   case atStart=>exact⟨0,Nat.zero_le _,rfl,Below.refl _ _,fun j p _ h=>by omega⟩
   case round =>
    obtain⟨k,hk,rfl,hB9,HR⟩:=hrel
    have hBr:=Xb hB hB9
    by_cases hlt:k<n
    ·have hlt':k<x.parts.xs.length:=by omega
     obtain⟨b,off,hA,hb,hc⟩:=HX5.out.1.at_ PartG.size_cells (by omega) hlt'
     rw[hA]
     have d0:wr.cell? ⟨b,off+k*3,none⟩=some (.string x.parts.xs[k].cat):=hc k hlt' wr hBr 0 _ rfl
     have d1:wr.cell? ⟨b,off+k*3+1,none⟩=some (.int .i64 x.parts.xs[k].no):=hc k hlt' wr hBr 1 _ rfl
     have d2:wr.cell? ⟨b,off+k*3+2,none⟩=some (.string x.parts.xs[k].text):=hc k hlt' wr hBr 2 _ rfl
     have hget:x.parts.xs[k]? = some x.parts.xs[k]:=List.getElem?_eq_getElem hlt'
     obtain⟨y,hy⟩:∃y,x.parts.xs[k]=y:=⟨_,rfl⟩
     rw[hy] at hget d0 d1 d2
     have HFf:Hid (¬((Ya x.gives.xs k=1↔y.text.size=0)∧Ya x.gives.xs k≤1)→Yh cats x=false):=by
      intro h
      rw[HF2.out,Bool.eq_false_iff]
      intro hm
      have:=(Qh _ _ _).1 hm k y hget
      rw[Nat.zero_add] at this
      exact h this
     have HFt:Hid ((Ya x.gives.xs k=1↔y.text.size=0)→Ya x.gives.xs k≤1→∀(j:Nat) (p:PartG),x.parts.xs[j]? = some p→j<k+1→(Ya x.gives.xs (0+j)=1↔p.text.size=0)∧Ya x.gives.xs (0+j)≤1):=by
      intro h1 h2 j p hj hlt
      by_cases e:j<k
      ·exact HR.out j p hj e
      ·obtain rfl:j=k:=by omega
       rw[hget] at hj
       cases hj
       rw[Nat.zero_add]
       exact⟨h1,h2⟩
     clear hc hA hy HR HF2
     obtain⟨W2,hW2⟩:∃W2,wr.alloc (.cells #[.string y.cat,.int .i64 y.no,.string y.text] 150)=W2:=⟨_,rfl⟩
     have hb2:Below wr.heap.size wr W2:=by subst hW2;exact Xe (Below.refl _ _) _
     have hy2:W2.heap[wr.heap.size]? = some (.cells #[.string y.cat,.int .i64 y.no,.string y.text] 150 (0,0)):=by subst hW2;exact World.alloc_heap_new _ _
     have e2:W2.cell? ⟨wr.heap.size,2,none⟩=some (.string y.text):=gblk hy2 2
     have hm2:=((Xb hB9 hb2).block _ (Xc Hm.out)).trans Hm.out
     have q0:W2.cell? ⟨w5.heap.size,0+k,none⟩=some (.int .i64 (Ya x.gives.xs k:Nat)):=by rw[Nat.zero_add];exact(gblk hm2 k).trans (Xc9 _ hlt)
     have q1:W2.cell? ⟨w5.heap.size,k,none⟩=some (.int .i64 (Ya x.gives.xs k:Nat)):=(gblk hm2 k).trans (Xc9 _ hlt)
     have hB29:=Xb hB9 hb2
     have hcl:=HGl.out k
     generalize Ya x.gives.xs k=c at *
     clear hm2 hy2 hb2 hget
     by_cases ht:y.text.size=0
     ·have n0:=Zq (s:=y.text) (by omega)
      by_cases hc1:c=1
      ·subst hc1
       have HR2:=Xa (HFt.out (by simp[ht]) (by omega))
       clear HFt HFf ht
       go_wp2_with fail
       go_still (by kernel_rfl)
       go_wp2
       go_roundw
       case rel=>exact⟨k+1,by omega,by go_num,hB29.drew,HR2⟩
       case measure=>simp[intOf];omega
      ·have HR2:=Xa (HFf.out (fun h=>hc1 (h.1.2 ht)))
       have g1:((c:Int) == 1)=false:=by simp;omega
       clear HFt HFf ht hc1
       go_wp2_with fail
       go_still (by kernel_rfl)
       go_wp2
       go_ret
       exact⟨by rw[HR2.out];rfl,Xb hBw (hB29.drew)⟩
     ·have n0:=Zp (s:=y.text) (by omega)
      by_cases hc1:c=0
      ·subst hc1
       have HR2:=Xa (HFt.out (by simp[ht]) (by omega))
       clear HFt HFf ht
       go_wp2_with fail
       go_still (by kernel_rfl)
       go_wp2
       go_roundw
       case rel=>exact⟨k+1,by omega,by go_num,hB29.drew,HR2⟩
       case measure=>simp[intOf];omega
      ·have HR2:=Xa (HFf.out (fun h=>by
        have h1:c=1:=by omega
        exact ht (h.1.1 h1)))
       have g2:∃g,((c:Int) == 1)=g:=⟨_,rfl⟩
       obtain⟨g,g1⟩:=g2
       have g3:g=false→(1:Int)<c:=by intro h;rw[h] at g1;simp at g1;omega
       clear HFt HFf ht hc1
       cases g
       ·have g4:=g3 rfl
        clear g3
        go_wp2_with fail
        go_still (by kernel_rfl)
        go_wp2
        go_ret
        exact⟨by rw[HR2.out];rfl,Xb hBw (hB29.drew)⟩
       ·clear g3
        go_wp2_with fail
        go_still (by kernel_rfl)
        go_wp2
        go_ret
        exact⟨by rw[HR2.out];rfl,Xb hBw (hB29.drew)⟩
    ·have HE:Hid (Yh cats x=true):=by
      show _=_
      rw[HF2.out]
      refine(Qh _ _ _).2 fun j p hj=>HR.out j p hj ?_
      have:=(List.getElem?_eq_some_iff.1 hj).1
      omega
     clear HR HF2
     go_wp2_with fail
     go_ret
     exact⟨by rw[HE.out];rfl,Xb hBw hB9⟩
structure Gram.short (g:Gram):Prop where
 cats:∀s∈g.cats.xs,s.size≤maxLen
 start:g.start.size≤maxLen
 entry:∀x∈g.entries.xs,x.cat.size≤maxLen
 rule:∀x∈g.rules.xs,x.cat.size≤maxLen
 part:∀x∈g.rules.xs,∀p∈x.parts.xs,p.cat.size≤maxLen
theorem Xj8 (bc bf bi bm:Nat) (cats:List ByteArray) (es:SlS EntryG) (W:World) (hT:TabsG W) (hc:CatBox W bc bf bi bm cats) (hs:es.lies EntryG.cells W) (hx:∀x∈es.xs,x.lies W) (hl:∀x∈es.xs,x.cat.size≤maxLen) :
  Calls Tryz.prog 198 #[.func (.func 191) #[] #[.pointer (some ⟨bc,0,none⟩)],.slice (some ⟨W.heap.size,0,none⟩) 1 1] (W.alloc (.cells #[.slice es.addr es.xs.length es.cap] 23)) fun e w'=>e = .returned (.bool (es.xs.all (Yt cats)))∧Below W.heap.size W w':=by
 have hB:Below W.heap.size W (W.alloc (.cells #[.slice es.addr es.xs.length es.cap] 23)):=Xe (Below.refl _ _) _
 refine(Xpf W.heap.size es.addr es.cap es.xs 191 #[.pointer (some ⟨bc,0,none⟩)] (Yt cats) _ (World.alloc_heap_new _ _) (hs.ext hB).rd (Nat.le_trans hs.cap hs.max) (enters_of Tryz.func191 (by kernel_rfl) rfl) ?_).mono fun _ _ ⟨h1,h2⟩=>⟨h1,Xb hB h2⟩
 intro V hV x hm
 exact Xht bc bf bi bm cats x V (hT.ext (Xb hB hV)) (hc.ext (Xb hB hV)) ((hx x hm).ext (Xb hB hV)) (hl x hm)
theorem Xpk (bp bc bf bi bm:Nat) (cats:List ByteArray) (rs:SlS RuleG) (W:World) (hT:TabsG W) (hc:CatBox W bc bf bi bm cats) (hp:FnBox W bp 247 195 #[.pointer (some ⟨bc,0,none⟩)]) (hs:rs.lies RuleG.cells W) (hx:∀x∈rs.xs,x.lies W) (hl:∀x∈rs.xs,x.cat.size≤maxLen) (hlp:∀x∈rs.xs,∀p∈x.parts.xs,p.cat.size≤maxLen) :
  Calls Tryz.prog 199 #[.func (.func 196) #[] #[.pointer (some ⟨bc,0,none⟩),.pointer (some ⟨bp,0,none⟩)],.slice (some ⟨W.heap.size,0,none⟩) 1 1] (W.alloc (.cells #[.slice rs.addr rs.xs.length rs.cap] 24)) fun e w'=>e = .returned (.bool (rs.xs.all (Yh cats)))∧Below W.heap.size W w':=by
 have hB:Below W.heap.size W (W.alloc (.cells #[.slice rs.addr rs.xs.length rs.cap] 24)):=Xe (Below.refl _ _) _
 refine(Xpj W.heap.size rs.addr rs.cap rs.xs 196 #[.pointer (some ⟨bc,0,none⟩),.pointer (some ⟨bp,0,none⟩)] (Yh cats) _ (World.alloc_heap_new _ _) (hs.ext hB).rd (Nat.le_trans hs.cap hs.max) (enters_of Tryz.func196 (by kernel_rfl) rfl) ?_).mono fun _ _ ⟨h1,h2⟩=>⟨h1,Xb hB h2⟩
 intro V hV x hm
 exact Xjq bp bc bf bi bm cats x V (hT.ext (Xb hB hV)) (hc.ext (Xb hB hV)) ((hx x hm).ext (Xb hB hV)) (hp.ext (Xb hB hV)) (hl x hm) (hlp x hm)
def Xbx (g:Gram):Bool:=Xw g.name && decide (0<g.cats.xs.length) && g.cats.xs.all Xw && catB g.cats.xs g.start && g.entries.xs.all (Yt g.cats.xs) && g.rules.xs.all (Yh g.cats.xs)
theorem Xq0 (g:Gram):Xz g=(decide g.cats.xs.Nodup && Xbx g):=by
 unfold Xz Xbx
 rw[show decide (1≤g.cats.xs.length)=decide (0<g.cats.xs.length) from rfl]
 cases Xw g.name<;>cases decide (0<g.cats.xs.length)<;>cases catB g.cats.xs g.start<;>cases g.cats.xs.all Xw<;>cases decide g.cats.xs.Nodup<;>cases g.entries.xs.all (Yt g.cats.xs)<;>rfl
set_option maxHeartbeats 2000000 in
theorem Xh3 (bi bm:Nat) (g:Gram) (w:World) (hT:TabsG w) (hg:g.lies w) (hs:g.short) (hm:IdxMap w bi bm g.cats.xs) :
  Calls Tryz.prog 158 #[.agg #[.string g.name,.slice g.cats.addr g.cats.xs.length g.cats.cap,.string g.start,.int .i64 g.startNo,.slice g.entries.addr g.entries.xs.length g.entries.cap,.slice g.rules.addr g.rules.xs.length g.rules.cap],.func (.func 157) #[] #[.pointer (some ⟨bi,0,none⟩)]] w fun e w'=>e = .returned (.bool (Xbx g))∧Below w.heap.size w w':=by
 obtain⟨W1,hW1⟩:∃W1,w.alloc (.cells #[.string g.name,.slice g.cats.addr g.cats.xs.length g.cats.cap,.string g.start,.int .i64 g.startNo,.slice g.entries.addr g.entries.xs.length g.entries.cap,.slice g.rules.addr g.rules.xs.length g.rules.cap] 26)=W1:=⟨_,rfl⟩
 obtain⟨W2,hW2⟩:∃W2,W1.alloc (.cells #[.func (.func 157) #[] #[.pointer (some ⟨bi,0,none⟩)]] 218)=W2:=⟨_,rfl⟩
 obtain⟨W3,hW3⟩:∃W3,W2.alloc (.cells #[.func (.func 190) #[] #[.pointer (some ⟨w.heap.size+1,0,none⟩)]] 62)=W3:=⟨_,rfl⟩
 obtain⟨W4,hW4⟩:∃W4,W3.alloc (.cells #[.func (.func 195) #[] #[.pointer (some ⟨W2.heap.size,0,none⟩)]] 247)=W4:=⟨_,rfl⟩
 have z1:W1.heap.size=w.heap.size+1:=by subst hW1;simp
 have b1:Below w.heap.size w W1:=by subst hW1;exact Xe (Below.refl _ _) _
 have b2:Below W1.heap.size W1 W2:=by subst hW2;exact Xe (Below.refl _ _) _
 have b3:Below W2.heap.size W2 W3:=by subst hW3;exact Xe (Below.refl _ _) _
 have b4:Below W3.heap.size W3 W4:=by subst hW4;exact Xe (Below.refl _ _) _
 have k1:W1.heap[w.heap.size]? = some (.cells #[.string g.name,.slice g.cats.addr g.cats.xs.length g.cats.cap,.string g.start,.int .i64 g.startNo,.slice g.entries.addr g.entries.xs.length g.entries.cap,.slice g.rules.addr g.rules.xs.length g.rules.cap] 26 (0,0)):=by subst hW1;exact World.alloc_heap_new _ _
 have k2:W2.heap[w.heap.size+1]? = some (.cells #[.func (.func 157) #[] #[.pointer (some ⟨bi,0,none⟩)]] 218 (0,0)):=by subst hW2;rw[← z1];exact World.alloc_heap_new _ _
 have k3:W3.heap[W2.heap.size]? = some (.cells #[.func (.func 190) #[] #[.pointer (some ⟨w.heap.size+1,0,none⟩)]] 62 (0,0)):=by subst hW3;exact World.alloc_heap_new _ _
 have k4:FnBox W4 W3.heap.size 247 195 #[.pointer (some ⟨W2.heap.size,0,none⟩)]:=by subst hW4;exact World.alloc_heap_new _ _
 have hB:Below w.heap.size w W4:=Xb (Xb (Xb b1 b2) b3) b4
 have hk:=((Xb (Xb b2 b3) b4).block _ (Xc k1)).trans k1
 have hC:CatBox W4 W2.heap.size (w.heap.size+1) bi bm g.cats.xs:=⟨Xh b4 k3,((Xb b3 b4).block _ (Xc k2)).trans k2,hm.ext hB⟩
 have HT:=Xa (hT.ext hB)
 have HC:=Xa hC
 have HG:=Xa (hg.ext hB)
 have HP:=Xa k4
 have eg:=enters_of Tryz.func190 (by kernel_rfl) rfl
 have hmf:∀(fn:Fn) (first cap:Array Value) (w:World),(Instr.makeFunc fn first cap).run Tryz.prog w = .ok (.func fn first cap) w:=fun _ _ _ _=>rfl
 have cF:=Xa (fun W (hW:Below W4.heap.size W4 W)=>Q3 g.name W (HT.out.ext hW))
 have cS:=Xa (fun W (hW:Below W4.heap.size W4 W)=>Xmd g.cats W (HT.out.ext hW) (HG.out.cats.ext hW))
 have cC:=Xa (fun W (hW:Below W4.heap.size W4 W)=>Xao (w.heap.size+1) bi bm g.cats.xs g.start W ((HC.out.ext hW).2.1) ((HC.out.ext hW).2.2) hs.start)
 have cE:=Xa (fun W (hW:Below W4.heap.size W4 W)=>Xj8 W2.heap.size (w.heap.size+1) bi bm g.cats.xs g.entries W (HT.out.ext hW) (HC.out.ext hW) (HG.out.entries.ext hW) (fun x hx=>(HG.out.entry x hx).ext hW) hs.entry)
 have cR:=Xa (fun W (hW:Below W4.heap.size W4 W)=>Xpk W3.heap.size W2.heap.size (w.heap.size+1) bi bm g.cats.xs g.rules W (HT.out.ext hW) (HC.out.ext hW) (HP.out.ext hW) (HG.out.rules.ext hW) (fun x hx=>(HG.out.rule x hx).ext hW) hs.rule hs.part)
 have HE:Hid (Xbx g=(Xw g.name && decide (0<g.cats.xs.length) && g.cats.xs.all Xw && catB g.cats.xs g.start && g.entries.xs.all (Yt g.cats.xs) && g.rules.xs.all (Yh g.cats.xs))):=rfl
 have Hkc:=Xa hC.1
 have HW2:(w.alloc (.cells #[.string g.name,.slice g.cats.addr g.cats.xs.length g.cats.cap,.string g.start,.int .i64 g.startNo,.slice g.entries.addr g.entries.xs.length g.entries.cap,.slice g.rules.addr g.rules.xs.length g.rules.cap] 26)).alloc (.cells #[.func (.func 157) #[] #[.pointer (some ⟨bi,0,none⟩)]] 218)=W2:=by rw[hW1,hW2]
 generalize Xw g.name=f1 at *
 generalize hl0:g.cats.xs.length=n0 at *
 generalize g.cats.xs.all Xw=f3 at *
 generalize catB g.cats.xs g.start=f4 at *
 generalize g.entries.xs.all (Yt g.cats.xs)=f5 at *
 generalize g.rules.xs.all (Yh g.cats.xs)=f6 at *
 have Hk:=Xa hk
 have a0:=gblk hk 0
 have a1:=gblk hk 1
 have a2:=gblk hk 2
 have a3:=gblk hk 3
 have a4:=gblk hk 4
 have a5:=gblk hk 5
 clear hT hg hs hm k1 k2 k3 k4 b1 b2 b3 b4 z1 hW1 hW2 hk hC hl0
 go_enter Tryz.func158,Tryz.ntmps158
 go_wp2_with fail
 clear HW2 hW3 hW4
 refine(cF.out W4 (Below.refl _ _)).mono ?_
 rintro e w5 ⟨rfl,hb5⟩
 have hB5:=Xb hB hb5
 cases f1
 ·go_wp2_with fail
  go_ret
  exact⟨by rw[HE.out];rfl,hB5⟩
 by_cases hn:0<n0
 rotate_left
 ·have HF:Hid (Xbx g=false):=by show _=_;rw[HE.out,decide_eq_false hn];rfl
  have q1:¬(0:Int)<(n0:Int):=by omega
  have hk5:=Xh hb5 Hk.out
  have b0:=gblk hk5 0
  have b1:=gblk hk5 1
  have b2:=gblk hk5 2
  have b3:=gblk hk5 3
  have b4:=gblk hk5 4
  have b5:=gblk hk5 5
  clear hn HE a0 a1 a2 a3 a4 a5
  go_wp2_with fail
  go_ret
  exact⟨by rw[HF.out];rfl,hB5⟩
 have HE2:Hid (Xbx g=(f3 && f4 && f5 && f6)):=by show _=_;rw[HE.out,decide_eq_true hn];rfl
 have q1:(0:Int)<(n0:Int):=by omega
 have hk5:=Xh hb5 Hk.out
 have Hk5:=Xa hk5
 have b0:=gblk hk5 0
 have b1:=gblk hk5 1
 have b2:=gblk hk5 2
 have b3:=gblk hk5 3
 have b4:=gblk hk5 4
 have b5:=gblk hk5 5
 clear hn HE a0 a1 a2 a3 a4 a5 hk5 cF
 go_wp2_with fail
 refine(cS.out w5 hb5).mono ?_
 rintro e w6 ⟨rfl,hb6⟩
 have hB6:=Xb hB5 hb6
 have hb46:=Xb hb5 hb6
 cases f3
 ·go_wp2_with fail
  go_ret
  exact⟨by rw[HE2.out];rfl,hB6⟩
 have hk6:=Xh hb6 Hk5.out
 have Hk6:=Xa hk6
 have c6:=Xj (Xh hb46 Hkc.out)
 clear b0 b1 b2 b3 b4 b5
 have b0:=gblk hk6 0
 have b1:=gblk hk6 1
 have b2:=gblk hk6 2
 have b3:=gblk hk6 3
 have b4:=gblk hk6 4
 have b5:=gblk hk6 5
 clear hk6 cS
 go_wp2_with fail
 refine(cC.out w6 hb46).mono ?_
 rintro e w' ⟨rfl,rfl⟩
 cases f4
 ·go_wp2_with fail
  go_ret
  exact⟨by rw[HE2.out];rfl,hB6⟩
 clear cC c6
 go_wp2_with fail
 refine(cE.out w6 hb46).mono ?_
 rintro e w7 ⟨rfl,hb7⟩
 have hB7:=Xb hB6 hb7
 have hb47:=Xb hb46 hb7
 cases f5
 ·go_wp2_with fail
  go_ret
  exact⟨by rw[HE2.out];rfl,hB7⟩
 have hk7:=Xh hb7 Hk6.out
 clear b0 b1 b2 b3 b4 b5
 have b0:=gblk hk7 0
 have b1:=gblk hk7 1
 have b2:=gblk hk7 2
 have b3:=gblk hk7 3
 have b4:=gblk hk7 4
 have b5:=gblk hk7 5
 clear hk7 cE
 go_wp2_with fail
 refine(cR.out w7 hb47).mono ?_
 rintro e w8 ⟨rfl,hb8⟩
 go_wp2_with fail
 go_ret
 exact⟨by rw[HE2.out];simp,Xb hB7 hb8⟩
end Go.Proofs.YthojaplnimoacaaGreatDoor
