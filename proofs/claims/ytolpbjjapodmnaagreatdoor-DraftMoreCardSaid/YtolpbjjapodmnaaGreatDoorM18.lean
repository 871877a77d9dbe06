/- Texts of this claim, one after the other: Trv, GrmC, TagC, TagE, TagU, TagI, TagJ, GrmD, GrmE. -/
import Derived.Test.YtolpbjjapodmnaaGreatDoorM16
import Derived.Test.YtolpbjjapodmnaaGreatDoorM5
import Derived.Test.YtolpbjjapodmnaaGreatDoorM13
import Derived.Test.YtolpbjjapodmnaaGreatDoorM12
import Derived.Test.YtolpbjjapodmnaaGreatDoorShelfG
import Derived.Test.YtolpbjjapodmnaaGreatDoorM17
import Derived.Test.YtolpbjjapodmnaaGreatDoorM10
namespace Go.Proofs.YtolpbjjapodmnaaGreatDoor
open Go.RowKit Go.Han
set_option maxRecDepth 100000
attribute [local irreducible] wpStill wpQuiet
set_option maxHeartbeats 8000000
section
attribute [local go_sem] Oper.semAt_some
structure RowT (base:Nat) (v:Value) (L:List TgG) (V:World):Prop where
 own:OwnL TgG.cells 75 3 V base v L
 deps:∀x∈L,DepsAt (fun _=>False) V x.dA x.dc x.deps
theorem RowT.nil (base:Nat) (V:World):RowT base (.slice none 0 0) [] V:=⟨OwnL.nil _ _ _ _ _,fun x hx=>by cases hx⟩
theorem RowT.ext {base:Nat} {v:Value} {L:List TgG} {V V':World} (h:RowT base v L V) (hb:Below V.heap.size V V'):RowT base v L V':=⟨h.own.ext hb,fun x hx=>(h.deps x hx).below hb⟩
theorem RowT.mono {base b':Nat} {v:Value} {L:List TgG} {V:World} (h:RowT base v L V) (hb:b'<=base):RowT b' v L V:=⟨h.own.mono hb,h.deps⟩
theorem Xok (l:List TgG):(l.flatMap TgG.cells).length=l.length*3:=by
 induction l with
 | nil=>rfl
 | cons x l ih=>rw[List.flatMap_cons,List.length_append,ih,TgG.size_cells,List.length_cons];omega
theorem Xzc {l:List TgG}:∀u∈l.flatMap TgG.cells,u.oneCell'=true:=fun u hu=>by
 obtain⟨x,_,hx⟩:=List.mem_flatMap.1 hu;exact Xnc x u hx
def FarL (base:Nat) (L:List TgG) (V:World):Prop:=∀x∈L,DepsAt (fun b=>b<base) V x.dA x.dc x.deps
theorem FarL.ext {base:Nat} {L:List TgG} {V V':World} (h:FarL base L V) (hb:Below V.heap.size V V'):FarL base L V':=fun x hx=>(h x hx).below hb
theorem FarL.mono {base b':Nat} {L:List TgG} {V:World} (h:FarL base L V) (hb:b'<=base):FarL b' L V:=fun x hx=>(h x hx).sub fun k (hk:k<b')=>Nat.lt_of_lt_of_le hk hb
theorem Xn1 {w w':World} {xs:List TgP} {e:Ending} (h:Xd1 w.heap.size w xs e w'):∃A n c L,e = .returned (.slice A n c)/\n=L.length/\RowT w.heap.size (.slice A n c) L w'/\L.map TgG.c=xs/\FarL w.heap.size L w'/\Below w.heap.size w w':=by
 obtain⟨v,L,rfl,h1,h2,h3,h4⟩:=h;obtain⟨A,c,rfl,_⟩:=h1.form (by decide);exact⟨A,L.length,c,L,rfl,rfl,⟨h1,fun x hx=>(h3 x hx).sub fun _ h=>h.elim⟩,h2,fun x hx=>(h3 x hx).sub fun _ h => .inr h,h4⟩
theorem RowT.append {base b2:Nat} {v:Value} {L L2:List TgG} {A:Option Addr} {n c:Nat} {V:World} (h:RowT base v L V) (h2:RowT b2 (.slice A n c) L2 V) (hn:n=L2.length) (hb:base<=V.heap.size) (hl:L.length+L2.length<=1000000) (ty:TypeId) :
  ∃A' n' c' V',(Builtin.append_ #[65,65] ty #[v,.slice A n c]).run Tryz.prog V = .ok (.slice A' n' c') V'/\n'=(L++L2).length/\RowT base (.slice A' n' c') (L++L2) V'/\Below base V V'/\∀(own:Nat->Prop) (x:TgG),DepsAt own V x.dA x.dc x.deps->DepsAt own V' x.dA x.dc x.deps:=by
 obtain⟨i0,hi0,hz0,hz1,hz2⟩:=info_parts Xij;obtain⟨A2,c2,he,hrd,_⟩:=h2.own.form (by decide);cases he;obtain⟨v',V',hrun,ho,hg,hat⟩:=Tg (P:=Tryz.prog) (w:=V) base 65 ty 75 i0 (.agg #[.string ⟨#[]⟩,.slice none 0 0,.int .i64 0]) 3 48 Tryz.underlying65 hi0 hz0 hz1 hz2 (by kernel_rfl) (by decide) v L.length (L.flatMap TgG.cells) h.own A L2.length c (L2.flatMap TgG.cells) (Xok L2) hrd Xzc (by unfold maxLen;omega) (by omega) hb;have hB:Below base V V':=(Below.refl base V).grown hg hb fun k hk=>(OwnL.lt h.own k hk).1
 have ho':OwnL TgG.cells 75 3 V' base v' (L++L2):=by
  show World.ownsRow _ _ _ _ _ _ _;rw[List.length_append,List.flatMap_append];exact ho
 have hd:∀(own:Nat->Prop) (x:TgG),DepsAt own V x.dA x.dc x.deps->DepsAt own V' x.dA x.dc x.deps:=fun own x hx=>hx.same fun b cs fr hk hno=>⟨hg.block b (Xd hk) fun e=>by
  obtain⟨cur,hc⟩:=OwnL.kind h.own e.symm;rw[hc] at hk;simp only[Option.some.injEq,Obj.cells.injEq] at hk;exact absurd hk.2.1 (by decide),hno⟩
 obtain⟨A',c',rfl,_⟩:=ho'.form (by decide);exact⟨A',_,c',V',hrun,rfl,⟨ho',fun x hx=>(List.mem_append.1 hx).elim (fun hx=>hd _ x (h.deps x hx)) fun hx=>hd _ x (h2.deps x hx)⟩,hB,hd⟩
theorem Xjm (g:Gram) (its:SlS ItemG) (x:TreeG) (w:World):Calls Tryz.prog 98 #[g.vl,.slice its.addr its.xs.length its.cap,x.vl] w fun e w' =>
  e = .returned (.func (.func 155) #[] #[.pointer (some ⟨w.heap.size+1,0,none⟩),.pointer (some ⟨w.heap.size,0,none⟩),.pointer (some ⟨w.heap.size+1+1,0,none⟩)])/\((w.alloc g.ob).alloc (.cells #[.slice its.addr its.xs.length its.cap] 27)).alloc x.ob=w':=by
 go_enter Tryz.func98,Tryz.ntmps98
 go_wp2_with fail
 go_ret;exact⟨rfl,rfl⟩
theorem Xdy {P:Program} {w w':World} {ops:Array Oper} {rest:List Oper} {o:Oper} {a:Act} {Q:Exit->Act->World->Prop} (hgd:o.guard=none) (s x:Operand) (t:TypeId)
  (ho:o.op = .call {callee:=.builtin .append,args:=#[s,x],argTypes:=#[t,t]}) {v u v':Value} (hs:a.eval s=v) (hx:a.eval x=u) (hrun:(Builtin.append_ #[t,t] o.type #[v,u]).run P w = .ok v' w') (h:wpList P ops Q rest (a.put o.dst v') w') :
  wpList P ops Q (o :: rest) a w:=by
 refine wpList_plain hgd fun K hK=>?_;unfold Oper.wp execOp;simp only[ho,resolve,invoke,builtin,Sem.run_bind,Sem.run_pure,Result.andThen_ok,List.map_toArray,List.map_cons,List.map_nil,hs,hx,hrun];exact hK _ _ h
end
noncomputable def strK:Xx Tryz.prog 9 ByteArray:=X0y Tryz.underlying9
theorem X1a (x y:Int) (h:Value.int .i64 x=Value.int .i64 y):x=y:=by cases h;rfl
def intE:ElemShape Int:=⟨Value.int .i64,X1a⟩
theorem Ts:Maps.Keyed Tryz.prog 9:=Maps.string_keyed Tryz.underlying9
theorem zeroI (w:World):(zeroValue 3).run Tryz.prog w = .ok (.int .i64 0) w:=by kernel_rfl
structure IdxMap (w:World) (bi bm:Nat) (cats:List ByteArray):Prop where
 box:w.heap[bi]? = some (.cells #[.map (some bm)] 253 (0,0))
 map:∃n,MapF w strK intE bm n (Zp 0 cats)
theorem IdxMap.ext {w w':World} {bi bm:Nat} {cats:List ByteArray} (h:IdxMap w bi bm cats) (hb:Below w.heap.size w w'):IdxMap w' bi bm cats:=by
 obtain⟨h1,n,h2⟩:=h;exact⟨Xi hb h1,n,h2.of_block (hb.block _ h2.lt)⟩
theorem IdxMap.look {w:World} {bi bm:Nat} {cats:List ByteArray} (h:IdxMap w bi bm cats) {s:ByteArray} (hs:s.size<=maxLen):(Instr.lookup 253 (.map (some bm)) (.string s) true).run Tryz.prog w = .ok (.tuple #[.int .i64 ((Zp 0 cats s).getD 0),.bool (Zp 0 cats s).isSome]) w:=by
 obtain⟨_,n,hm⟩:=h;exact Vf w Ts Tryz.underlying253 strK intE 0 (zeroI w) hm s hs
theorem IdxMap.look1 {w:World} {bi bm:Nat} {cats:List ByteArray} (h:IdxMap w bi bm cats) {s:ByteArray} (hs:s.size<=maxLen):(Instr.lookup 253 (.map (some bm)) (.string s) false).run Tryz.prog w = .ok (.int .i64 ((Zp 0 cats s).getD 0)) w:=by
 obtain⟨_,n,hm⟩:=h;exact Xdr Ts Tryz.underlying253 strK intE 0 (zeroI w) hm s hs
theorem Xq8 (bi bm:Nat) (cats:List ByteArray) (s:ByteArray) (w:World) (hm:IdxMap w bi bm cats) (hs:s.size<=maxLen) :
  Calls Tryz.prog 191 #[.string s,.pointer (some ⟨bi,0,none⟩)] w fun e w'=>e = .returned (.tuple #[.int .i64 ((Zp 0 cats s).getD 0),.bool (Zp 0 cats s).isSome])/\w=w':=by
 have c0:=Xe hm.box;have hl:=hm.look hs;generalize (Zp 0 cats s).getD 0=n at *;generalize (Zp 0 cats s).isSome=b at *;clear hm;go_enter Tryz.func191,Tryz.ntmps191
 go_wp2_with fail
 go_ret2
 exact⟨rfl,rfl⟩
theorem Xv7 (cats:List ByteArray) (s:ByteArray):(Zp 0 cats s).isSome=catB cats s:=by
 rw[Bool.eq_iff_iff,Qx,Xdo]
def CatBox (w:World) (bc bf bi bm:Nat) (cats:List ByteArray):Prop :=
 FnBox w bc 50 227 #[.pointer (some ⟨bf,0,none⟩)]/\w.heap[bf]? = some (.cells #[.func (.func 191) #[] #[.pointer (some ⟨bi,0,none⟩)]] 254 (0,0))/\IdxMap w bi bm cats
theorem CatBox.ext {w w':World} {bc bf bi bm:Nat} {cats:List ByteArray} (h:CatBox w bc bf bi bm cats) (hb:Below w.heap.size w w'):CatBox w' bc bf bi bm cats :=
 ⟨h.1.ext hb,(hb.block _ (Xd h.2.1)).trans h.2.1,h.2.2.ext hb⟩
theorem Xcg (bf bi bm:Nat) (cats:List ByteArray) (s:ByteArray) (w:World) (hf:w.heap[bf]? = some (.cells #[.func (.func 191) #[] #[.pointer (some ⟨bi,0,none⟩)]] 254 (0,0))) (hm:IdxMap w bi bm cats) (hs:s.size<=maxLen) :
  Calls Tryz.prog 227 #[.string s,.pointer (some ⟨bf,0,none⟩)] w fun e w'=>e = .returned (.bool (catB cats s))/\w=w':=by
 have c0:=Xe hf;have eg:=enters_of Tryz.func191 (by kernel_rfl) rfl;have cF:=Xa (Xq8 bi bm cats s w hm hs);have HC:=Xa (Xv7 cats s);clear hf hm;go_enter Tryz.func227,Tryz.ntmps227
 go_wp2_with fail
 refine cF.out.mono ?_;rintro e w' ⟨rfl,rfl⟩;rw[HC.out];go_wp2_with fail
 go_ret;exact⟨rfl,rfl⟩
section
attribute [local go_sem] Oper.semAt_some
theorem Xgg (x:ByteArray):∀(zs:List ByteArray) (i:Nat),Lib.idxFromS zs x i=if idxF x zs = -1 then -1 else idxF x zs+i
 | [],i=>rfl
 | z :: zs,i=>by
  unfold Lib.idxFromS idxF;rw[Xgg x zs (i+1)];have:=Xhb x zs;by_cases h:z=x
  ·simp[h]
  ·simp only[h,if_false]
   by_cases h2:idxF x zs = -1
   ·simp[h2]
   ·simp only[h2,if_false]
    rw[if_neg (by omega)];omega
theorem Xk2 (x:ByteArray) (zs:List ByteArray):Lib.idxOfS zs x=idxF x zs:=by
 unfold Lib.idxOfS;rw[Xgg];split<;>omega
theorem Xrg (s:StrS) (x:ByteArray) (w:World) (hs:s.lies w):Calls Tryz.prog 144 #[.slice s.addr s.xs.length s.cap,.string x] w fun e w'=>e = .returned (.int .i64 (idxF x s.xs))/\w'=w:=by
 have hm:s.xs.length<=9223372036854775807:=Nat.le_trans hs.cap hs.max;cases hx:s.xs with
 | nil=>exact(Tryz.slices_Index_string_empty s.addr s.cap x w).mono fun _ _ h=>⟨by rw[h.1,Xk2],h.2⟩
 | cons y ys =>
  rw[<- hx];have hlen:0<s.xs.length:=by rw[hx];simp
  obtain⟨b,off,e,hb,_⟩:=StrS.at_ hs (k:=0) hlen;rw[e];refine(Tryz.slices_Index_string b off s.xs.length s.cap s.xs x w (Nat.le_refl _) hm fun j hj=>?_).mono fun e w' h=>⟨?_,h.2⟩
  ·obtain⟨b',off',e',_,hc⟩:=StrS.at_ hs (k:=j) hj
   rw[e] at e';cases e';rw[Xoo s.xs j hj];exact hc j hj
  ·rw[h.1,List.take_length,Xk2]
theorem Xil (s:StrS) (w:World) (hs:s.lies w) (h1:1<=s.xs.length) (h4:s.xs.length<=4) (hw:∀x∈s.xs,Xq x=true):Calls Tryz.prog 76 #[.slice s.addr s.xs.length s.cap,.string ⟨#[32]⟩] w fun e w'=>e = .returned (.string (Zm s.xs))/\Below w.heap.size w w':=by
 obtain⟨b,off,he,hb,hc⟩:=StrS.at_ hs (k:=0) (by omega);rw[he];have hk:=Xax hw h4;have e:(Zm s.xs).size=(Lib.join (s.xs.map (fun s=>s.data.toList)) [32]).length:=by unfold Zm;rw[Lib.size_eq]
 exact Tryz.strings_Join b off s.cap s.xs ⟨#[32]⟩ w (fun j y hj=>by
  obtain⟨hj1,rfl⟩:=List.getElem?_eq_some_iff.1 hj;exact hc j hj1) hb (by omega) hs.cap (by show (Lib.join _ [32]).length<=_;omega)
def TermsM (V:World) (m n:Nat) (S:List Term):Prop:=MapF V strK termShape m n (fun k=>(Tc S k).map Term.shown)
def Xt5 (o:Option Term):Value:=.tuple #[termShape.val ((o.map Term.shown).getD Zx),.bool o.isSome]
theorem Xrt {V:World} {m n:Nat} {S:List Term} (h:TermsM V m n S) (k:ByteArray) (hk:k.size<=maxLen) :
  (Instr.lookup 127 (.map (some m)) (.string k) true).run Tryz.prog V = .ok (Xt5 (Tc S k)) V:=by
 have:=Vf V Ts Tryz.underlying127 strK termShape Zx (Vd V) h k hk;rw[show strK.val k = .string k from rfl] at this;rw[this];unfold Xt5
 congr 4
 cases Tc S k<;>rfl
theorem st8 {W:World} {b t:Nat} {u0 u1 u2 u3 u4 u5 u6 u7:Value} (v0 v1 v2 v3 v4 v5 v6 v7:Value) (h:W.heap[b]? = some (.cells #[u0,u1,u2,u3,u4,u5,u6,u7] t (0,0))) :
  ((((((((W.setCell ⟨b,0,none⟩ v0).setCell ⟨b,1,none⟩ v1).setCell ⟨b,2,none⟩ v2).setCell ⟨b,3,none⟩ v3).setCell ⟨b,4,none⟩ v4).setCell ⟨b,5,none⟩ v5).setCell ⟨b,6,none⟩ v6).setCell ⟨b,7,none⟩ v7).heap[b]? = some (.cells #[v0,v1,v2,v3,v4,v5,v6,v7] t (0,0)):=by
 have h1:=Xs (Xs (Xs (Xs (Xs (Xs (Xs (Xs h 0 v0) 1 v1) 2 v2) 3 v3) 4 v4) 5 v5) 6 v6) 7 v7
 simpa using h1
theorem below8 {a W:World} {B b:Nat} {v0 v1 v2 v3 v4 v5 v6 v7:Value} (h:Below B a W) (hb:B<=b):Below B a ((((((((W.setCell ⟨b,0,none⟩ v0).setCell ⟨b,1,none⟩ v1).setCell ⟨b,2,none⟩ v2).setCell ⟨b,3,none⟩ v3).setCell ⟨b,4,none⟩ v4).setCell ⟨b,5,none⟩ v5).setCell ⟨b,6,none⟩ v6).setCell ⟨b,7,none⟩ v7) :=
 (((((((h.setCell (p:=⟨b,0,none⟩) hb _).setCell (p:=⟨b,1,none⟩) hb _).setCell (p:=⟨b,2,none⟩) hb _).setCell (p:=⟨b,3,none⟩) hb _).setCell (p:=⟨b,4,none⟩) hb _).setCell (p:=⟨b,5,none⟩) hb _).setCell (p:=⟨b,6,none⟩) hb _).setCell (p:=⟨b,7,none⟩) hb _
structure TermD (w V:World) (T:TagG) (i many b bi bm n:Nat) (S:List Term):Prop where
 tag:V.heap[b]? = some T.ob
 i:V.heap[bi]? = some (.cells #[.int .i64 i] 3 (0,0))
 many:V.heap[bm]? = some (.cells #[.int .i64 many] 3 (0,0))
 d:TagD w V T
 map:TermsM V T.m n S
theorem TermsM.ext {V V':World} {m n:Nat} {S:List Term} (h:TermsM V m n S) (hb:Below V.heap.size V V'):TermsM V' m n S:=h.of_block (hb.block _ h.lt)
theorem TermD.ext {w V V':World} {T:TagG} {i many b bi bm n:Nat} {S:List Term} (h:TermD w V T i many b bi bm n S) (hb:Below V.heap.size V V'):TermD w V' T i many b bi bm n S :=
 ⟨(hb.block _ (Xd h.tag)).trans h.tag,(hb.block _ (Xd h.i)).trans h.i,(hb.block _ (Xd h.many)).trans h.many,h.d.ext hb,h.map.ext hb⟩
theorem term1 (w w0:World) (T:TagG) (i many b bi bm n:Nat) (S:List Term) (R:Nat->Prop) (hi:i<T.ws.xs.length) (h0m:0<many) (hm4:many<=4\/T.ws.xs.length<i+many) (hmx:i+many<=9223372036854775807)
  (hD:TermD w w0 T i many b bi bm n S) (hSl:∀x∈S,x.lies w) (hu:∀x∈S,∀y∈S,x.src.xs=y.src.xs->x=y) (hok:∀x∈S,x.ok=true) (hws:∀s∈T.ws.xs,Xq s=true)
  (hRl:∀k,k<w.heap.size->R k) (hRb:R b) (hRi:R bi) (hRm:R bm) (hRt:R T.m) :
  Xhm Tryz.prog 143 #[.pointer (some ⟨bi,0,none⟩),.pointer (some ⟨bm,0,none⟩),.pointer (some ⟨b,0,none⟩)] (EncI w.heap.size) R (Xw T.g.cats.xs S T.ws.xs i many) w0:=by
 intro l' J W hJR hJB hY h0;refine(callsIn_wide (n:=0)).1 ?_;refine callsIn_of_wp Tryz.func143 rfl trivial ?_;simp only[Tryz.ntmps143,Zr,Nat.reduceAdd,Nat.reduceSub]
 have HK:Hid (∀q V,J q V->TermD w V T i many b bi bm n S):=fun q V h =>
  have hl:∀k,k<w.heap.size->V.heap[k]? = w.heap[k]? := fun k hk=>(hJR q V h k (hRl k hk)).trans (hD.d.low k hk)
  ⟨(hJR q V h b hRb).trans hD.tag,(hJR q V h bi hRi).trans hD.i,(hJR q V h bm hRm).trans hD.many,⟨Xb7 hl,hl,hD.d.g,hD.d.ws⟩,hD.map.of_block (hJR q V h T.m hRt)⟩
 have HY:=Xa hY;have HJ:=Xa hJB;have hk:=HK.out [] W h0;have c7:=gblk hk.tag 7;have ci:=Xe hk.i;have cm:=Xe hk.many;have hwr:IntKind.i64.wrap ((i:Int)+(many:Int))=(i:Int)+(many:Int):=IntWalk.i64_in _ (by omega);have hlx:T.ws.xs.length<=9223372036854775807:=Nat.le_trans hD.d.ws.cap hD.d.ws.max;have hcap:=hD.d.ws.cap;have HP:=Xa fun h2=>Xwx hu hok hws T.g.cats.xs (i:=i) (many:=many) h0m h2;clear hY hJB hJR hRl hRb hRi hRm hRt;by_cases hlong:T.ws.xs.length<i+many
 ·have ht:Xw T.g.cats.xs S T.ws.xs i many=[]:=Xjf _ S h0m hlong
  rw[ht];clear ht hm4 HP hk hD hSl hu hok hws;gi_wp2
  exact bodyPost_ret (results_none rfl _ _ _) rfl ⟨⟨_,rfl⟩,h0⟩
 have hle:i+many<=T.ws.xs.length:=by omega
 have hm4:many<=4:=by omega
 have hsub:=StrS.sub_lies hk.d.wsv (i:=i) (n:=many) hle;have hsl:=StrS.sub_len hle;have hrs:∀V:World,_:=fun V=>X2f T.ws i many V hle hcap;have hsw:∀s∈(T.ws.sub i many).xs,Xq s=true:=fun s hs=>hws s (List.mem_of_mem_drop (List.mem_of_mem_take hs));obtain⟨key,hkey⟩:∃key,Zm (T.ws.sub i many).xs=key:=⟨_,rfl⟩
 have hkl:key.size<=260:=by rw[<- hkey];exact Xax hsw (by rw[hsl];exact hm4)
 have cJ:Hid (∀V,Below W.heap.size W V->Calls Tryz.prog 76 #[.slice (T.ws.sub i many).addr many (T.ws.sub i many).cap,.string ⟨#[32]⟩] V (fun e w'=>e = .returned (.string key)/\Below V.heap.size V w')):=by
  intro V hV;have h:=Xil (T.ws.sub i many) V (hsub.ext hV) (by omega) (by omega) hsw;rw[hsl,hkey] at h;exact h
 have hp2:=HP.out hle;rw[show Zm ((T.ws.xs.drop i).take many)=key from hkey] at hp2
 have hMem:∀x,Tc S key=some x->x.lies w:=fun x hx=>by
  have:=Xgv hu hok hws (i:=i) (many:=many) h0m hle;rw[show Zm ((T.ws.xs.drop i).take many)=key from hkey,hx] at this;exact hSl x (List.mem_of_find?_eq_some this.symm)
 obtain⟨o,ho⟩:∃o,Tc S key=o:=⟨_,rfl⟩
 have hl0:∀V,Below W.heap.size W V->(Instr.lookup 127 (.map (some T.m)) (.string key) true).run Tryz.prog V = .ok (Xt5 (Tc S key)) V:=fun V hV=>Xrt (hk.ext hV).map key (by unfold maxLen;omega);obtain⟨tv,htv⟩:∃tv,(o.map Term.shown).getD Zx=tv:=⟨_,rfl⟩
 obtain⟨ok,hok2⟩:∃ok,o.isSome=ok:=⟨_,rfl⟩
 rw[ho] at hp2 hMem hl0;have hcc:=StrS.at_ hk.d.wsv (k:=i) (by omega)
 have HG:Hid (∀V,Below W.heap.size W V->V.cell? ⟨bi,0,none⟩=some (.int .i64 i)/\V.cell? ⟨bm,0,none⟩=some (.int .i64 many)/\V.cell? ⟨b,6,none⟩=some (.map (some T.m))/\V.cell? ⟨b,7,none⟩=some (.slice T.ws.addr T.ws.xs.length T.ws.cap) /\
   (Instr.lookup 127 (.map (some T.m)) (.string key) true).run Tryz.prog V = .ok (.tuple #[.agg #[.int .i64 tv.no,.int .i64 tv.at_,.int .i64 tv.known,.int .i64 tv.lang,.slice tv.sA tv.sn tv.sc,.slice tv.tA tv.tn tv.tc,.string tv.cat,.bool tv.gone],.bool ok]) V):=fun V hV=>by
  have h:=hk.ext hV;refine⟨Xe h.i,Xe h.many,gblk h.tag 6,gblk h.tag 7,?_⟩;rw[hl0 V hV];unfold Xt5;rw[htv,hok2];rfl
 have HT:Hid (Xw T.g.cats.xs S T.ws.xs i many=if ok=true/\0<=idxF tv.cat T.g.cats.xs then [⟨idxF tv.cat T.g.cats.xs,i,i+many,0,(o.map (fun x=>x.tgt.xs)).getD [],tv.no⟩] else []):=by
  show _=_;unfold Xw;rw[hp2,<- hok2,<- htv];cases o with
  | none=>rfl
  | some x =>
   by_cases hc:0<=idxF x.cat T.g.cats.xs
   ·have hb:catB T.g.cats.xs x.cat=true:=by unfold catB;simpa using hc
    simp only[Option.bind_some,hb,if_true];rw[if_pos ⟨rfl,hc⟩];rfl
   ·have hb:catB T.g.cats.xs x.cat=false:=by unfold catB;simpa using hc
    have e2:¬(((some x:Option Term).isSome=true)/\0<=idxF ((Option.map Term.shown (some x)).getD Zx).cat T.g.cats.xs):=fun h=>hc h.2;simp only[Option.bind_some,hb];rw[if_neg e2];rfl
 have HE:Hid (ok=true->∃t:StrS,t.addr=tv.tA/\t.xs.length=tv.tn/\t.cap=tv.tc/\t.lies w/\(o.map (fun x=>x.tgt.xs)).getD []=t.xs):=by
  intro h;rw[<- hok2] at h;cases o with
  | none=>cases h
  | some x =>
   rw[<- htv];exact⟨x.tgt,rfl,rfl,rfl,(hMem x rfl).2,rfl⟩
 have HX:Hid (∀V,Below W.heap.size W V->Calls Tryz.prog 144 #[.slice T.g.cats.addr T.g.cats.xs.length T.g.cats.cap,.string tv.cat] V fun e w'=>e = .returned (.int .i64 (idxF tv.cat T.g.cats.xs))/\w'=V):=fun V hV=>Xrg T.g.cats _ V (hk.ext hV).d.cats;have Hk:=Xa hk;have hkb:W.heap[b]? = some T.ob:=hk.tag;have hlt0:W.heap.size<=W.heap.size:=Nat.le_refl _;clear HP hp2 hsub hsl hsw hkey hkl hk hu hok hws hSl hl0 htv hok2 hMem hD hcc;clear ho;generalize (o.map (fun x:Term=>x.tgt.xs)).getD []=txs at *;generalize idxF tv.cat T.g.cats.xs=ix at *;gi_wp2_with fail
 refine Xtc (fun bx:Nat=>(⟨#[.func (.yield l') #[] #[],.pointer (some ⟨bi,0,none⟩),.pointer (some ⟨bm,0,none⟩),.pointer (some ⟨b,0,none⟩),undef,.pointer (some ⟨bx,0,none⟩),.bool ok,undef,.int .i64 (i:Int),.int .i64 (many:Int),.int .i64 ((i:Int)+(many:Int)),.pointer (some ⟨b,7,none⟩),.slice T.ws.addr T.ws.xs.length T.ws.cap,.int .i64 (T.ws.xs.length:Int),.bool (decide ((T.ws.xs.length:Int)<(i:Int)+(many:Int))),.tuple #[.agg #[.int .i64 tv.no,.int .i64 tv.at_,.int .i64 tv.known,.int .i64 tv.lang,.slice tv.sA tv.sn tv.sc,.slice tv.tA tv.tn tv.tc,.string tv.cat,.bool tv.gone],.bool ok],.pointer (some ⟨b,6,none⟩),.map (some T.m),.pointer (some ⟨b,7,none⟩),.slice T.ws.addr T.ws.xs.length T.ws.cap,.int .i64 (i:Int),.int .i64 (i:Int),.int .i64 (many:Int),.int .i64 ((i:Int)+(many:Int)),.slice (T.ws.sub i many).addr many (T.ws.sub i many).cap,.string key,.tuple #[.agg #[.int .i64 tv.no,.int .i64 tv.at_,.int .i64 tv.known,.int .i64 tv.lang,.slice tv.sA tv.sn tv.sc,.slice tv.tA tv.tn tv.tc,.string tv.cat,.bool tv.gone],.bool ok],.agg #[.int .i64 tv.no,.int .i64 tv.at_,.int .i64 tv.known,.int .i64 tv.lang,.slice tv.sA tv.sn tv.sc,.slice tv.tA tv.tn tv.tc,.string tv.cat,.bool tv.gone],.bool ok,undef,undef,undef,undef,undef,undef,undef,undef,undef,undef,undef,undef,undef,undef,undef,undef,undef,undef,undef,undef,undef,undef,undef],[]⟩:Act)) (fun bx V=>Below W.heap.size W V/\W.heap.size<=bx/\V.heap[bx]? = some (.cells #[.int .i64 tv.no,.int .i64 tv.at_,.int .i64 tv.known,.int .i64 tv.lang,.slice tv.sA tv.sn tv.sc,.slice tv.tA tv.tn tv.tc,.string tv.cat,.bool tv.gone] 56 (0,0))) ?_ ?_
 ·refine Xn (fun V=>Below W.heap.size W V) (by kernel_rfl) ?_
  refine Xc (i:=0) (hy:=fun V hV=>(by obtain⟨r1,r2,r3,r4,r5⟩:=HG.out V hV;go_simp<;>rfl)) ?_;refine Xc (i:=1) (hy:=fun V hV=>(by obtain⟨r1,r2,r3,r4,r5⟩:=HG.out V hV;go_simp<;>rfl)) ?_;refine Xc (i:=2) (hy:=fun V hV=>(by obtain⟨r1,r2,r3,r4,r5⟩:=HG.out V hV;go_simp<;>rfl)) ?_;refine Xc (i:=3) (hy:=fun V hV=>(by obtain⟨r1,r2,r3,r4,r5⟩:=HG.out V hV;go_simp<;>rfl)) ?_;refine Xc (i:=4) (hy:=fun V hV=>(by obtain⟨r1,r2,r3,r4,r5⟩:=HG.out V hV;go_simp<;>rfl)) ?_;refine Xc (i:=5) (hy:=fun V hV=>(by obtain⟨r1,r2,r3,r4,r5⟩:=HG.out V hV;go_simp<;>rfl)) ?_;refine Xc (i:=6) (hy:=fun V hV=>(by obtain⟨r1,r2,r3,r4,r5⟩:=HG.out V hV;go_simp<;>rfl)) ?_;refine Xc (i:=7) (hy:=fun V hV=>(by obtain⟨r1,r2,r3,r4,r5⟩:=HG.out V hV;go_simp<;>rfl)) ?_;refine Xc (i:=8) (hy:=fun V hV=>(by obtain⟨r1,r2,r3,r4,r5⟩:=HG.out V hV;go_simp<;>rfl)) ?_;refine Xl (rs:=[9,14]) bd_q (by kernel_rfl) (by simp) (AllC.cons rfl (fun K hK=>?_) (AllC.cons rfl (fun K hK=>?_) AllC.nil))
  ·go_simp
   refine⟨trivial,rfl,callsIn_wide.2 ((cJ.out _ bd_q).mono ?_)⟩;rintro e w4 ⟨rfl,hb4⟩;refine hK _ _ ?_;clear hK K;have hB4:Below W.heap.size W w4:=Xb bd_q hb4;refine Xc (i:=10) (hy:=fun V hV=>(by obtain⟨r1,r2,r3,r4,r5⟩:=HG.out V hV;go_simp<;>rfl)) ?_;refine Xc (i:=11) (hy:=fun V hV=>(by obtain⟨r1,r2,r3,r4,r5⟩:=HG.out V hV;go_simp<;>rfl)) ?_;refine Xc (i:=12) (hy:=fun V hV=>(by obtain⟨r1,r2,r3,r4,r5⟩:=HG.out V hV;go_simp<;>rfl)) ?_;refine Xc (i:=13) (hy:=fun V hV=>(by obtain⟨r1,r2,r3,r4,r5⟩:=HG.out V hV;go_simp<;>rfl)) ?_;refine Xh (i:=14) hB4 fun K hK=>?_;go_simp
   refine hK _ _ ?_;clear hK K;refine Xh (i:=15) (Xg hB4 _) fun K hK=>?_;go_simp
   refine hK _ _ ?_;clear hK K;refine Xc (i:=16) (hy:=fun V hV=>(by obtain⟨r1,r2,r3,r4,r5⟩:=HG.out V hV;go_simp<;>rfl)) ?_;exact Xk (Xg hB4 _) (by kernel_rfl) ⟨w4.heap.size,rfl,Xg hB4 _,hB4.size,World.alloc_heap_new _ _⟩ _
  ·go_simp
   refine hK _ _ ?_;clear hK K;obtain⟨w3,hw3⟩:∃w3,(W.alloc (.cells #[.int .i64 0,.int .i64 0,.int .i64 0,.int .i64 0,.slice none 0 0,.slice none 0 0,.string ⟨#[]⟩,.bool false] 56)).drew=w3:=⟨_,rfl⟩
   have hB3:Below W.heap.size W w3:=(by rw[<- hw3];exact Xr ba_q);have hx3:w3.heap[W.heap.size]? = some (.cells #[.int .i64 0,.int .i64 0,.int .i64 0,.int .i64 0,.slice none 0 0,.slice none 0 0,.string ⟨#[]⟩,.bool false] 56 (0,0)):=(by rw[<- hw3];exact World.alloc_heap_new _ _);rw[hw3];clear hw3;refine Xh (i:=9) hB3 fun K hK=>?_;go_simp
   refine⟨trivial,rfl,callsIn_wide.2 ((cJ.out _ hB3).mono ?_)⟩;rintro e w4 ⟨rfl,hb4⟩;refine hK _ _ ?_;clear hK K;have hB4:Below W.heap.size W w4:=Xb hB3 hb4;refine Xc (i:=10) (hy:=fun V hV=>(by obtain⟨r1,r2,r3,r4,r5⟩:=HG.out V hV;go_simp<;>rfl)) ?_;refine Xc (i:=11) (hy:=fun V hV=>(by obtain⟨r1,r2,r3,r4,r5⟩:=HG.out V hV;go_simp<;>rfl)) ?_;refine Xc (i:=12) (hy:=fun V hV=>(by obtain⟨r1,r2,r3,r4,r5⟩:=HG.out V hV;go_simp<;>rfl)) ?_;refine Xc (i:=13) (hy:=fun V hV=>(by obtain⟨r1,r2,r3,r4,r5⟩:=HG.out V hV;go_simp<;>rfl)) ?_;refine Xh (i:=15) hB4 fun K hK=>?_;have hx4:=Xi hb4 hx3;have z0:=gblk hx4 0;have f0:=Xf hx4 0;have z1:=gblk hx4 1;have f1:=Xf hx4 1;have z2:=gblk hx4 2;have f2:=Xf hx4 2;have z3:=gblk hx4 3;have f3:=Xf hx4 3;have z4:=gblk hx4 4;have f4:=Xf hx4 4;have z5:=gblk hx4 5;have f5:=Xf hx4 5;have z6:=gblk hx4 6;have f6:=Xf hx4 6;have z7:=gblk hx4 7;have f7:=Xf hx4 7;go_simp
   refine hK _ _ ?_;clear hK K;have hB5:=below8 (b:=W.heap.size) (v0:=.int .i64 tv.no) (v1:=.int .i64 tv.at_) (v2:=.int .i64 tv.known) (v3:=.int .i64 tv.lang) (v4:=.slice tv.sA tv.sn tv.sc) (v5:=.slice tv.tA tv.tn tv.tc) (v6:=.string tv.cat) (v7:=.bool tv.gone) hB4 (Nat.le_refl _);have hx5:=st8 (.int .i64 tv.no) (.int .i64 tv.at_) (.int .i64 tv.known) (.int .i64 tv.lang) (.slice tv.sA tv.sn tv.sc) (.slice tv.tA tv.tn tv.tc) (.string tv.cat) (.bool tv.gone) hx4;refine Xc (i:=16) (hy:=fun V hV=>(by obtain⟨r1,r2,r3,r4,r5⟩:=HG.out V hV;go_simp<;>rfl)) ?_;exact Xk hB5 (by kernel_rfl) ⟨W.heap.size,rfl,hB5,Nat.le_refl _,hx5⟩ _
 ·rintro bx W5 ⟨hB5,hbx,hx5⟩
  clear cJ;have hk5:=Xi hB5 hkb;have c1:=gblk hk5 1;have x6:=gblk hx5 6;have cX:=HX.out W5 hB5;gi_wp2_with fail
  refine⟨trivial,rfl,callsIn_wide.2 (cX.mono ?_)⟩;rintro e w6 ⟨rfl,rfl⟩;have J5:=Xa (HJ.out _ _ _ h0 hB5);clear cX;cases ok
  ·have ht:Xw T.g.cats.xs S T.ws.xs i many=[]:=by rw[HT.out];rfl
   have Ht:=Xa ht;clear ht HT HE;gi_wp2
   go_end0
   exact⟨⟨_,rfl⟩,by rw[Ht.out];exact J5.out⟩
  by_cases hix:0<=ix
  rotate_left
  ·have ht:Xw T.g.cats.xs S T.ws.xs i many=[]:=by rw[HT.out,if_neg (fun h=>hix h.2)]
   have Ht:=Xa ht;clear ht HT HE;gi_wp2
   go_end0
   exact⟨⟨_,rfl⟩,by rw[Ht.out];exact J5.out⟩
  obtain⟨t,ht1,ht2,ht3,ht4,ht5⟩:=HE.out rfl;have ht:Xw T.g.cats.xs S T.ws.xs i many=[⟨ix,i,i+many,0,t.xs,tv.no⟩]:=by rw[HT.out,if_pos ⟨rfl,hix⟩,ht5]
  have hn5:=gblk hx5 0;have ht6:=gblk hx5 5;have ci5:=Xe ((hB5.block _ (Xd Hk.out.i)).trans Hk.out.i);have cm5:=Xe ((hB5.block _ (Xd Hk.out.many)).trans Hk.out.many);obtain⟨fn,tmps,assign,body,hYY⟩:=HY.out [] ⟨ix,i,i+many,0,t.xs,tv.no⟩ #[.agg #[.int .i64 ix,.int .i64 (i:Int),.int .i64 ((i:Int)+(many:Int)),.int .i64 0,.slice tv.tA tv.tn tv.tc,.int .i64 tv.no]] w6 J5.out (by rw[ht];exact List.prefix_refl _);obtain⟨hyy,hRd⟩:=hYY w6 bo_q ⟨⟨ix,i,i+many,0,t,tv.no⟩,rfl,by simp only[ItemG.vl,ht1,ht2,ht3],(Hk.out.ext hB5).d.far ht4⟩;have Ht:=Xa ht;clear ht HT HE ht1 ht2 ht3 ht4 ht5;gi_wp2_with (refine⟨rfl,hRd.mono ?_⟩;rintro e w9 ⟨rfl,hj9⟩)
  go_end0
  exact⟨⟨_,rfl⟩,by rw[Ht.out];exact hj9⟩
theorem Xy6 (w w0:World) (T:TagG) (i b bi:Nat) (s:ByteArray) (R:Nat->Prop) (hi:T.ws.xs[i]? = some s) (hD:TagD w w0 T)
  (hRl:∀k,k<w.heap.size->R k) (hRb:R b) (hRi:R bi) (hb0:w0.heap[b]? = some T.ob) (hi0:w0.heap[bi]? = some (.cells #[.int .i64 i] 3 (0,0))) :
  Xhm Tryz.prog 145 #[.pointer (some ⟨b,0,none⟩),.pointer (some ⟨bi,0,none⟩)] (EncI w.heap.size) R (Xy T.g.entries.xs i s) w0:=by
 intro l' J W hJR hJB hY h0;refine(callsIn_wide (n:=0)).1 ?_;refine callsIn_of_wp Tryz.func145 rfl trivial ?_;simp only[Tryz.ntmps145,Zr,Nat.reduceAdd,Nat.reduceSub]
 have HK:Hid (∀q V,J q V->V.heap[b]? = some T.ob/\V.heap[bi]? = some (.cells #[.int .i64 i] 3 (0,0))/\TagD w V T):=fun q V h =>
  have hl:∀k,k<w.heap.size->V.heap[k]? = w.heap[k]? := fun k hk=>(hJR q V h k (hRl k hk)).trans (hD.low k hk)
  ⟨(hJR q V h b hRb).trans hb0,(hJR q V h bi hRi).trans hi0,Xb7 hl,hl,hD.g,hD.ws⟩
 have HY:=Xa hY;have HJ:=Xa hJB;obtain⟨hkb,hki,hkD⟩:=HK.out [] W h0;have c4:=gblk hkb 4;have hil:i<T.ws.xs.length:=(List.getElem?_eq_some_iff.1 hi).1;have hsi:T.ws.xs[i]=s:=(List.getElem?_eq_some_iff.1 hi).2;have hm:T.g.entries.xs.length<=9223372036854775807:=Nat.le_trans hD.g.entries.cap hD.g.entries.max;have him:i<9223372036854775807:=Nat.lt_of_lt_of_le hil (Nat.le_trans hD.ws.cap hD.ws.max);have Hsi:=Xa hsi;have Hi:=Xa hi;clear hY hJB hJR hb0 hi0 hkb hki hkD hRl hRb hRi hD hsi hi;gi_wp2
 clear c4
 gi_loopw [10] (fun iv wr=>∃k:Nat,k<=T.g.entries.xs.length/\iv = .int .i64 k/\J (Zy (T.g.entries.xs.take k) i s) wr) (fun iv _=>T.g.entries.xs.length-(intOf iv).toNat)
 case atStart=>exact⟨0,Nat.zero_le _,rfl,h0⟩
 case round =>
  obtain⟨k,hk,rfl,hj⟩:=hrel;by_cases hlt:k<T.g.entries.xs.length
  ·obtain⟨hkb,hki,hD⟩:=HK.out _ wr hj
   obtain⟨b',off,hA,hb',hc⟩:=hD.ents.at_ EntryG.size_cells (by omega) hlt;have d0:wr.cell? ⟨b',off+k*5,none⟩=some (.string T.g.entries.xs[k].text):=hc k hlt wr bo_q 0 _ rfl;have d1:wr.cell? ⟨b',off+k*5+1,none⟩=some (.string T.g.entries.xs[k].cat):=hc k hlt wr bo_q 1 _ rfl;have d2:wr.cell? ⟨b',off+k*5+2,none⟩=some (.int .i64 T.g.entries.xs[k].no):=hc k hlt wr bo_q 2 _ rfl;have d3:wr.cell? ⟨b',off+k*5+3,none⟩=some (.slice T.g.entries.xs[k].gives.addr T.g.entries.xs[k].gives.xs.length T.g.entries.xs[k].gives.cap):=hc k hlt wr bo_q 3 _ rfl;have d4:wr.cell? ⟨b',off+k*5+4,none⟩=some (.int .i64 T.g.entries.xs[k].cost):=hc k hlt wr bo_q 4 _ rfl;have htk:=Xkc T.g.entries.xs i s k hlt;have hpf:=Xmv T.g.entries.xs i s (k+1);have hgl:=hD.g.entry _ (List.getElem_mem hlt);rw[hA];have Htk:=Xa htk;have Hpf:=Xa hpf;have Hgl:=Xa hgl;clear hc hA htk hpf hgl;generalize T.g.entries.xs[k]=y at *;obtain⟨w4,hw4⟩:∃w4,wr.alloc y.ob=w4:=⟨_,rfl⟩
   have hB4:=X5 hw4;have hz4:w4.heap.size=wr.heap.size+1:=(by rw[<- hw4];simp);have hx4:=Yg hw4;have hb4:=Xi hB4 hkb;have hi4:=Xe (Xi hB4 hki);obtain⟨e0,e1,e2,e3,e4⟩:=gb5 hx4;have t7:=gblk hb4 7;obtain⟨b2,off2,hA2,hb2,hc2⟩:=StrS.at_ (hD.ext hB4).wsv (k:=i) hil;have q0:=hc2 i hil;rw[Hsi.out] at q0;have J4:=Xa (HJ.out _ _ _ hj hB4);have D4:=Xa (hD.ext hB4);have q1:=Xna y.text s;rw[hA2] at t7;by_cases hts:y.text=s
   ·have e1:decide (y.text=s)=true:=by simpa using hts
    rw[e1] at q1;have HN:Hid (Zy (T.g.entries.xs.take (k+1)) i s=Zy (T.g.entries.xs.take k) i s++[Xe9 i y]):=(by show _=_;rw[Htk.out,if_pos hts]);obtain⟨fn,tmps,assign,body,hYY⟩:=HY.out _ (Xe9 i y) #[.agg #[.int .i64 y.no,.int .i64 (i:Int),.int .i64 ((i:Int)+1),.int .i64 y.cost,.slice y.gives.addr y.gives.xs.length y.gives.cap,.int .i64 (-1)]] w4 J4.out (by rw[<- HN.out];exact Hpf.out)
    have HEnc:Hid (∀V,Below w4.heap.size w4 V->EncI w.heap.size (Xe9 i y) #[.agg #[.int .i64 y.no,.int .i64 (i:Int),.int .i64 ((i:Int)+1),.int .i64 y.cost,.slice y.gives.addr y.gives.xs.length y.gives.cap,.int .i64 (-1)]] V):=fun V hV =>
     ⟨⟨y.no,i,i+1,y.cost,y.gives, -1⟩,rfl,rfl,(D4.out.ext hV).far Hgl.out⟩
    have hbd:Below w4.heap.size w4 w4.drew:=⟨rfl,rfl,rfl,Nat.le_refl _,fun _ _=>rfl⟩
    obtain⟨hyy,hRd⟩:=hYY _ hbd (HEnc.out _ hbd);have hwr:IntKind.i64.wrap ((i:Int)+1)=(i:Int)+1:=IntWalk.i64_in _ (by omega);have HRd:=Xa hRd;clear hkb hki hD hb4 hc2 hx4 hts hj Htk Hpf hYY hRd;gi_wp2_with fail
    have hwf:∀f,Fence.wide.fn f=True:=fun f=>by simp[Fence.wide]
    refine Zz 20 (by kernel_rfl) (by kernel_rfl) ?_;simp only[List.take_succ_cons,List.take_zero,List.drop_succ_cons,List.drop_zero];repeat still_step
    refine wpStill_nil ?_;gi_wp2_with (have hmark:=hyy;refine⟨rfl,HRd.out.mono ?_⟩;rintro e w9 ⟨rfl,hj9⟩;have Hj9:=Xa hj9;clear hj9 hyy hmark)
    clear q1 e1 e0 e2 e3 e4 hwr t7 hi4 q0;gi_wp2
    go_roundw
    case rel=>exact⟨k+1,by omega,by go_num,by rw[HN.out];exact Hj9.out⟩
    case measure=>simp[intOf];omega
   ·have e1:decide (y.text=s)=false:=by simpa using hts
    rw[e1] at q1;have HN:Hid (Zy (T.g.entries.xs.take (k+1)) i s=Zy (T.g.entries.xs.take k) i s):=(by show _=_;rw[Htk.out,if_neg hts];simp);clear hkb hki hD hb4 hc2 hx4 hts hj Htk Hpf;gi_wp2_with fail
    have hwf:∀f,Fence.wide.fn f=True:=fun f=>by simp[Fence.wide]
    refine Zz 20 (by kernel_rfl) (by kernel_rfl) ?_;simp only[List.take_succ_cons,List.take_zero,List.drop_succ_cons,List.drop_zero];repeat still_step
    refine wpStill_nil ?_;gi_wp2
    go_roundw
    case rel=>exact⟨k+1,by omega,by go_num,by rw[HN.out];exact HJ.out _ _ _ J4.out ⟨rfl,rfl,rfl,Nat.le_refl _,fun _ _=>rfl⟩⟩
    case measure=>simp[intOf];omega
  ·gi_wp2
   go_end0
   have:k=T.g.entries.xs.length:=(by omega);subst this;rw[List.take_length] at hj;exact⟨⟨_,rfl⟩,hj⟩
theorem Xl1 (n i:Nat) (s:ByteArray):unkC (n+1) i s=unkC n i s++[⟨(n:Int),i,i+1,100,[s], -1⟩]:=by unfold unkC;rw[List.range_succ,List.map_append];rfl
theorem X07 (m n i:Nat) (s:ByteArray) (h:m<=n):unkC m i s <+: unkC n i s:=by
 obtain⟨d,rfl⟩:=Nat.le.dest h
 induction d with
 | zero=>exact List.prefix_refl _
 | succ d ih=>exact(ih (by omega)).trans ⟨_,(Xl1 (m+d) i s).symm⟩
theorem Xtx {B:Nat} {V V':World} {s:ByteArray} (hb:Below (V.heap.size+1) (V.alloc (.cells #[.string s] 9)) V'):FarI B V' ⟨some ⟨V.heap.size,0,none⟩,1,[s]⟩:=by
 have h1:(V.alloc (.cells #[.string s] 9)).heap[V.heap.size]? = some (.cells #[.string s] 9 (0,0)):=World.alloc_heap_new _ _;have h2:=(hb.block _ (by omega)).trans h1;refine⟨⟨.inr ⟨V.heap.size,0,rfl,Xd h2,fun j u hu=>?_⟩,by simp,by simp,by simp⟩,.inr fun p hp=>?_⟩
 ·cases j with
  | zero =>
   simp[strs] at hu;subst hu;exact gblk h2 0
  | succ j=>simp[strs] at hu
 ·cases hp
  exact .inr ⟨_,h2⟩
theorem Xxr (w w0:World) (T:TagG) (i b bi:Nat) (s:ByteArray) (R:Nat->Prop) (hi:T.ws.xs[i]? = some s) (hD:TagD w w0 T)
  (hRl:∀k,k<w.heap.size->R k) (hRb:R b) (hRi:R bi) (hb0:w0.heap[b]? = some T.ob) (hi0:w0.heap[bi]? = some (.cells #[.int .i64 i] 3 (0,0))) :
  Xhm Tryz.prog 146 #[.pointer (some ⟨b,0,none⟩),.pointer (some ⟨bi,0,none⟩)] (EncI w.heap.size) R (unkC T.g.cats.xs.length i s) w0:=by
 intro l' J W hJR hJB hY h0;refine(callsIn_wide (n:=0)).1 ?_;refine callsIn_of_wp Tryz.func146 rfl trivial ?_;simp only[Tryz.ntmps146,Zr,Nat.reduceAdd,Nat.reduceSub]
 have HK:Hid (∀q V,J q V->V.heap[b]? = some T.ob/\V.heap[bi]? = some (.cells #[.int .i64 i] 3 (0,0))/\TagD w V T):=fun q V h =>
  have hl:∀k,k<w.heap.size->V.heap[k]? = w.heap[k]? := fun k hk=>(hJR q V h k (hRl k hk)).trans (hD.low k hk)
  ⟨(hJR q V h b hRb).trans hb0,(hJR q V h bi hRi).trans hi0,Xb7 hl,hl,hD.g,hD.ws⟩
 have HY:=Xa hY;have HJ:=Xa hJB;obtain⟨hkb,hki,hkD⟩:=HK.out [] W h0;have c1:=gblk hkb 1;have hil:i<T.ws.xs.length:=(List.getElem?_eq_some_iff.1 hi).1;have hsi:T.ws.xs[i]=s:=(List.getElem?_eq_some_iff.1 hi).2;have hm:T.g.cats.xs.length<=9223372036854775807:=Nat.le_trans hD.g.cats.cap hD.g.cats.max;have him:i<9223372036854775807:=Nat.lt_of_lt_of_le hil (Nat.le_trans hD.ws.cap hD.ws.max);have Hsi:=Xa hsi;clear hY hJB hJR hb0 hi0 hkb hki hkD hRl hRb hRi hD hsi hi;gi_wp2
 clear c1
 gi_loopw [9] (fun iv wr=>∃k:Nat,k<=T.g.cats.xs.length/\iv = .int .i64 k/\J (unkC k i s) wr) (fun iv _=>T.g.cats.xs.length-(intOf iv).toNat)
 case atStart=>exact⟨0,Nat.zero_le _,rfl,h0⟩
 case round =>
  obtain⟨k,hk,rfl,hj⟩:=hrel;by_cases hlt:k<T.g.cats.xs.length
  ·obtain⟨hkb,hki,hD⟩:=HK.out _ wr hj
   have hi4:=Xe hki;have t7:=gblk hkb 7;obtain⟨b2,off2,hA2,hb2,hc2⟩:=StrS.at_ hD.wsv (k:=i) hil;have q0:=hc2 i hil;rw[Hsi.out] at q0;rw[hA2] at t7;have HN:=Xa (Xl1 k i s);have hpf:=X07 (k+1) T.g.cats.xs.length i s (by omega);obtain⟨fn,tmps,assign,body,hYY⟩:=HY.out _ ⟨(k:Int),i,i+1,100,[s], -1⟩ #[.agg #[.int .i64 (k:Int),.int .i64 (i:Int),.int .i64 ((i:Int)+1),.int .i64 100,.slice (some ⟨wr.heap.size,0,none⟩) 1 1,.int .i64 (-1)]] wr hj (by rw[<- HN.out];exact hpf);have hbd:Below wr.heap.size wr (wr.alloc (.cells #[.string s] 9)).drew:=Xr ba_q
   have hEnc:EncI w.heap.size ⟨(k:Int),i,i+1,100,[s], -1⟩ #[.agg #[.int .i64 (k:Int),.int .i64 (i:Int),.int .i64 ((i:Int)+1),.int .i64 100,.slice (some ⟨wr.heap.size,0,none⟩) 1 1,.int .i64 (-1)]] (wr.alloc (.cells #[.string s] 9)).drew :=
    ⟨⟨(k:Int),i,i+1,100,⟨some ⟨wr.heap.size,0,none⟩,1,[s]⟩, -1⟩,rfl,rfl,Xtx (V:=wr) ⟨rfl,rfl,rfl,Nat.le_refl _,fun _ _=>rfl⟩⟩
   obtain⟨hyy,hRd⟩:=hYY _ hbd hEnc
   have HC0:Hid (∀V,Below wr.heap.size wr V\/(∃q,J q V)->V.cell? ⟨bi,0,none⟩=some (.int .i64 i)/\V.cell? ⟨b,7,none⟩=some (.slice (some ⟨b2,off2,none⟩) T.ws.xs.length T.ws.cap)/\V.cell? ⟨b2,off2+i,none⟩=some (.string s)):=by
    have key:∀V,V.heap[b]? = some T.ob->V.heap[bi]? = some (.cells #[.int .i64 i] 3 (0,0))->TagD w V T->V.cell? ⟨bi,0,none⟩=some (.int .i64 i)/\V.cell? ⟨b,7,none⟩=some (.slice (some ⟨b2,off2,none⟩) T.ws.xs.length T.ws.cap)/\V.cell? ⟨b2,off2+i,none⟩=some (.string s):=fun V h1 h2 h3=>by
     obtain⟨b3,off3,hA3,_,hc3⟩:=StrS.at_ h3.wsv (k:=i) hil;rw[hA2] at hA3;cases hA3;have z3:=hc3 i hil;rw[Hsi.out] at z3;have z7:=gblk h1 7;rw[hA2] at z7;exact⟨Xe h2,z7,z3⟩
    rintro V (hV|⟨q,hV⟩)
    ·exact key V (Xi hV hkb) (Xi hV hki) (hD.ext hV)
    ·obtain⟨k1,k2,k3⟩:=HK.out q V hV
     exact key V k1 k2 k3
   have hwr:IntKind.i64.wrap ((i:Int)+1)=(i:Int)+1:=IntWalk.i64_in _ (by omega);have HRd:=Xa hRd;have l1:=Xd hki;have l2:bi≠wr.heap.size:=Nat.ne_of_lt l1;have l3:=Xd hkb;have l4:b≠wr.heap.size:=Nat.ne_of_lt l3;have l5:b2≠wr.heap.size:=Nat.ne_of_lt hb2;clear hkb hki hD hc2 hj hpf hYY hRd hEnc;gi_wp2_with fail
   have HC:Hid (∀V,Below wr.heap.size wr V\/(∃q,J q V)->V.cell? ⟨bi,0,none⟩=some (.int .i64 i)/\V.cell? ⟨b,7,none⟩=some (.slice (some ⟨b2,off2,none⟩) T.ws.xs.length T.ws.cap)/\V.cell? ⟨b2,off2+i,none⟩=some (.string s)):=HC0;apply Xjn (Phi:=fun V=>Hid (J (unkC k i s++[⟨(k:Int),i,i+1,100,[s], -1⟩]) V))
   ·refine Xn (fun V=>Below wr.heap.size wr V\/(∃q,J q V)) (by kernel_rfl) ?_
    refine Xc (i:=0) (hy:=fun V hV=>(by obtain⟨r1,r2,r3⟩:=HC.out V hV;go_simp<;>rfl)) ?_;refine Xc (i:=1) (hy:=fun V hV=>(by obtain⟨r1,r2,r3⟩:=HC.out V hV;go_simp<;>rfl)) ?_;refine Xc (i:=2) (hy:=fun V hV=>(by obtain⟨r1,r2,r3⟩:=HC.out V hV;go_simp<;>rfl)) ?_;refine Xc (i:=3) (hy:=fun V hV=>(by obtain⟨r1,r2,r3⟩:=HC.out V hV;go_simp<;>rfl)) ?_;refine Xc (i:=4) (hy:=fun V hV=>(by obtain⟨r1,r2,r3⟩:=HC.out V hV;go_simp<;>rfl)) ?_;refine Xc (i:=5) (hy:=fun V hV=>(by obtain⟨r1,r2,r3⟩:=HC.out V hV;go_simp<;>rfl)) ?_;refine Xc (i:=6) (hy:=fun V hV=>(by obtain⟨r1,r2,r3⟩:=HC.out V hV;go_simp<;>rfl)) ?_;refine Xc (i:=7) (hy:=fun V hV=>(by obtain⟨r1,r2,r3⟩:=HC.out V hV;go_simp<;>rfl)) ?_;refine Xc (i:=8) (hy:=fun V hV=>(by obtain⟨r1,r2,r3⟩:=HC.out V hV;go_simp<;>rfl)) ?_;refine Xc (i:=9) (hy:=fun V hV=>(by obtain⟨r1,r2,r3⟩:=HC.out V hV;go_simp<;>rfl)) ?_;refine Xh (i:=10) (.inl bd_q) fun K hK=>?_;go_simp
    refine hK _ _ ?_;clear hK K;refine Xc (i:=11) (hy:=fun V hV=>(by obtain⟨r1,r2,r3⟩:=HC.out V hV;go_simp<;>rfl)) ?_;refine Xh (i:=12) (.inl hbd) fun K hK=>?_;go_simp
    refine⟨rfl,HRd.out.mono ?_⟩;rintro e w9 ⟨rfl,hj9⟩;refine hK _ _ ?_;clear hK K;have Hj9:=Xa hj9;refine Xc (i:=13) (hy:=fun V hV=>(by obtain⟨r1,r2,r3⟩:=HC.out V hV;go_simp<;>rfl)) ?_;exact Xk (.inr ⟨_,hj9⟩) (by kernel_rfl) ⟨rfl,Hj9⟩ _
   intro w9 Hj9;clear hwr t7 hi4 q0 l1 l2 l3 l4 l5;gi_wp2
   go_roundw
   case rel=>exact⟨k+1,by omega,by go_num,by rw[HN.out];exact Hj9.out⟩
   case measure=>simp[intOf];omega
  ·gi_wp2
   go_end0
   have:k=T.g.cats.xs.length:=(by omega);subst this;exact⟨⟨_,rfl⟩,hj⟩
def X8 (g:Gram) (S:List Term) (ws:List ByteArray) (i:Nat) (s:ByteArray):List (List Ye) :=
 [Xw g.cats.xs S ws i 1,Xy g.entries.xs i s,if (Xw g.cats.xs S ws i 1++Xy g.entries.xs i s).length=0 then unkC g.cats.xs.length i s else [],Xw g.cats.xs S ws i 2,Xw g.cats.xs S ws i 3,Xw g.cats.xs S ws i 4]
theorem Xgo (g:Gram) (S:List Term) (ws:List ByteArray) (i:Nat) (s:ByteArray):(X8 g S ws i s).flatten=Qg g S ws i s:=by
 unfold X8 Qg Um;split
 ·rename_i h
  have h1:Xw g.cats.xs S ws i 1=[]:=List.eq_nil_of_length_eq_zero (by rw[List.length_append] at h;omega);have h2:Xy g.entries.xs i s=[]:=List.eq_nil_of_length_eq_zero (by rw[List.length_append] at h;omega);rw[h1,h2];simp
 ·simp
structure ItSt (w:World) (bi tb bw n:Nat) (T:TagG) (S:List Term) (v:Value) (L:List ItemG) (V:World):Prop where
 os:V.os=w.os
 tape:V.tape=w.tape
 output:V.output=w.output
 d:TagD w V T
 tag:V.heap[tb]? = some T.ob
 wbox:V.heap[bw]? = some (.cells #[.slice T.ws.addr T.ws.xs.length T.ws.cap] 22 (0,0))
 map:TermsM V T.m n S
 box:Boxed V bi 27 v
 own:OwnL ItemG.cells 53 6 V w.heap.size v L
 far:∀x∈L,FarI w.heap.size V x.tgt
 hi:w.heap.size<=bi
theorem ItSt.ext {w V V':World} {bi tb bw n:Nat} {T:TagG} {S:List Term} {v:Value} {L:List ItemG} (h:ItSt w bi tb bw n T S v L V) (hb:Below V.heap.size V V'):ItSt w bi tb bw n T S v L V' :=
 ⟨hb.os.trans h.os,hb.tape.trans h.tape,hb.output.trans h.output,h.d.ext hb,(hb.block _ (Xd h.tag)).trans h.tag,(hb.block _ (Xd h.wbox)).trans h.wbox,h.map.ext hb,(hb.block _ h.box.lt).trans h.box,h.own.ext hb,fun x hx=>(h.far x hx).ext h.d.size hb,h.hi⟩
theorem ItSt.below {w V:World} {bi tb bw n:Nat} {T:TagG} {S:List Term} {v:Value} {L:List ItemG} (h:ItSt w bi tb bw n T S v L V):Below w.heap.size w V:=⟨h.os,h.tape,h.output,h.d.size,h.d.low⟩
theorem Xla {V:World} {m n:Nat} {S:List Term} (h:TermsM V m n S):∃es c,V.heap[m]? = some (.map es c):=by
 obtain⟨D,⟨es,clock,h1,h2⟩,h3⟩:=h;exact⟨_,_,h1⟩
theorem ItSt.step {w V V1:World} {bi tb bw n:Nat} {T:TagG} {S:List Term} {v v':Value} {L L':List ItemG} (h:ItSt w bi tb bw n T S v L V) (hon:Only (fun k=>v.ownBlock=some k) V V1)
  (hown:OwnL ItemG.cells 53 6 V1 w.heap.size v' L') (hfar:∀x∈L',FarI w.heap.size V1 x.tgt):ItSt w bi tb bw n T S v' L' (V1.setCell ⟨bi,0,none⟩ v'):=by
 have hne:∀ {k:Nat} {o:Obj},V.heap[k]? = some o->(∀cs fr,o ≠ .cells cs 53 fr)->V1.heap[k]? = some o:=fun {k o} hk ho=>by
  refine(hon.block k (Xd hk) fun he=>?_).trans hk;obtain⟨cur,hc⟩:=OwnL.kind h.own he;rw[hk] at hc;exact ho _ _ (Option.some.inj hc)
 have hb1:Boxed V1 bi 27 v:=hne h.box fun cs fr e=>by injection e with _ e2 _;exact absurd e2 (by decide)
 have hset:∀ {k:Nat} {o:Obj},V1.heap[k]? = some o->(∀cs fr,o ≠ .cells cs 27 fr)->(V1.setCell ⟨bi,0,none⟩ v').heap[k]? = some o:=fun {k o} hk ho =>
  (Below.heap_setCell _ _ _ _ fun e=>by
   have e:k=bi:=e;rw[e,hb1] at hk;exact ho _ _ (Option.some.inj hk).symm).trans hk
 have hlow1:∀k,k<w.heap.size->V1.heap[k]? = w.heap[k]? := fun k hk=>(hon.block k (Nat.lt_of_lt_of_le hk h.d.size) fun he=>by have:=(h.own.lt k he).1;omega).trans (h.d.low k hk);have hsz1:w.heap.size<=V1.heap.size:=Nat.le_trans h.d.size hon.size;refine⟨hon.os.trans h.os,hon.tape.trans h.tape,hon.output.trans h.output,⟨by simpa[World.setCell] using hsz1,fun k hk=>(Below.heap_setCell _ _ _ _ fun e=>by have:=h.hi;have e:k=bi:=e;omega).trans (hlow1 k hk),h.d.g,h.d.ws⟩,?_,?_,?_,hb1.set v',hown.block ?_,fun x hx=>(hfar x hx).box hb1 (by decide) h.hi 0 v',h.hi⟩
 ·exact hset (hne h.tag fun cs fr e=>by injection e with _ e2 _;exact absurd e2 (by decide)) fun cs fr e=>by injection e with _ e2 _;exact absurd e2 (by decide)
 ·exact hset (hne h.wbox fun cs fr e=>by injection e with _ e2 _;exact absurd e2 (by decide)) fun cs fr e=>by injection e with _ e2 _;exact absurd e2 (by decide)
 ·obtain⟨es,c,hm⟩:=Xla h.map
  exact h.map.of_block ((hset (hne hm fun _ _ e=>by cases e) fun _ _ e=>by cases e).trans hm.symm)
 ·intro g hg
  obtain⟨cur,hc⟩:=OwnL.kind hown hg;exact(hset hc fun cs fr e=>by injection e with _ e2 _;exact absurd e2 (by decide)).trans hc.symm
theorem ItSt.keep {w V V1:World} {bi tb bw n:Nat} {T:TagG} {S:List Term} {v v':Value} {L:List ItemG} (h:ItSt w bi tb bw n T S v L V) (hon:Only (fun k=>v.ownBlock=some k) V V1) {k:Nat} {cs:Array Value} {t:TypeId} {fr:Nat×Nat}
  (hk:V.heap[k]? = some (.cells cs t fr)) (h1:t≠53) (h2:t≠27):(V1.setCell ⟨bi,0,none⟩ v').heap[k]? = some (.cells cs t fr):=by
 have hk1:V1.heap[k]? = some (.cells cs t fr):=(hon.block k (Xd hk) fun he=>by
  obtain⟨cur,hc⟩:=OwnL.kind h.own he;rw[hk] at hc;simp only[Option.some.injEq,Obj.cells.injEq] at hc;exact h1 hc.2.1).trans hk
 refine(Below.heap_setCell _ _ _ _ fun e=>?_).trans hk1;have e:k=bi:=e;have hb:=h.box;rw[<- e] at hb;have:=hk.symm.trans hb;simp only[Option.some.injEq,Obj.cells.injEq] at this;exact h2 this.2.1
/-! ### the ways, as functions -/
def Vt (w:World) (m:Nat) (xs:List Ye) (V:World) (e:Ending) (V':World):Prop :=
 ∃gf lb,e = .returned (.func (.func gf) #[] lb)/\Below V.heap.size V V'/\(∀args W,(callFunc gf args).run Tryz.prog W = .ok (.enter gf args) W) /\
  ∀R:Nat->Prop,(∀k,k<w.heap.size->R k)->(∀k,V.heap.size<=k->k<V'.heap.size->R k)->R m->Xhm Tryz.prog gf lb (EncI w.heap.size) R xs V'
section
variable {w V:World} {T:TagG} {S:List Term} {i n tb bI bi bw:Nat} {v:Value} {L:List ItemG}
theorem Xet (many:Nat) (h:ItSt w bi tb bw n T S v L V) (hi:i<T.ws.xs.length) (h0m:0<many) (hm4:many<=4\/T.ws.xs.length<i+many) (hmx:i+many<=9223372036854775807) (hSl:∀x∈S,x.lies w)
  (hu:∀x∈S,∀y∈S,x.src.xs=y.src.xs->x=y) (hok:∀x∈S,x.ok=true) (hws:∀s∈T.ws.xs,Xq s=true) :
  Calls Tryz.prog 78 #[T.vl,.int .i64 (i:Int),.int .i64 (many:Int)] V (Vt w T.m (Xw T.g.cats.xs S T.ws.xs i many) V):=by
 refine(X01 T i many V).mono ?_;rintro e V' ⟨rfl,rfl⟩;refine⟨_,_,rfl,Xg (Xg ba_q _) _,enters_of Tryz.func143 (by kernel_rfl) rfl,fun R hR1 hR2 hR3=>?_⟩;have hb:Below V.heap.size V (((V.alloc T.ob).alloc (.cells #[.int .i64 (i:Int)] 3)).alloc (.cells #[.int .i64 (many:Int)] 3)):=Xg (Xg ba_q _) _;have h':=h.ext hb;refine term1 w _ T i many V.heap.size (V.heap.size+1) (V.heap.size+2) n S R hi h0m hm4 hmx ⟨?_,?_,?_,h'.d,h'.map⟩ hSl hu hok hws hR1 (hR2 _ (by omega) (by simp only[World.size_alloc];omega)) (hR2 _ (by omega) (by simp only[World.size_alloc];omega)) (hR2 _ (by omega) (by simp only[World.size_alloc];omega)) hR3
 ·exact(Below.heap_alloc _ _ _ (by simp;omega)).trans ((Below.heap_alloc _ _ _ (by simp)).trans (World.alloc_heap_new _ _))
 ·exact(Below.heap_alloc _ _ _ (by simp)).trans (Xo _ _ _ (by simp))
 ·exact Xo _ _ _ (by simp)
theorem Xq6 (s:ByteArray) (h:ItSt w bi tb bw n T S v L V) (hi:T.ws.xs[i]? = some s) :
  Calls Tryz.prog 80 #[T.vl,.int .i64 (i:Int)] V (Vt w T.m (Xy T.g.entries.xs i s) V):=by
 refine(Xoe T i V).mono ?_;rintro e V' ⟨rfl,rfl⟩;refine⟨_,_,rfl,Xg ba_q _,enters_of Tryz.func145 (by kernel_rfl) rfl,fun R hR1 hR2 hR3=>?_⟩;have hb:Below V.heap.size V ((V.alloc T.ob).alloc (.cells #[.int .i64 (i:Int)] 3)):=Xg ba_q _;have h':=h.ext hb;refine Xy6 w _ T i V.heap.size (V.heap.size+1) s R hi h'.d hR1 (hR2 _ (by omega) (by simp only[World.size_alloc];omega)) (hR2 _ (by omega) (by simp only[World.size_alloc];omega)) ?_ ?_
 ·exact(Below.heap_alloc _ _ _ (by simp)).trans (World.alloc_heap_new _ _)
 ·exact Xo _ _ _ (by simp)
theorem Xp7 (s:ByteArray) (h:ItSt w bi tb bw n T S v L V) (hi:T.ws.xs[i]? = some s) :
  Calls Tryz.prog 82 #[T.vl,.int .i64 (i:Int)] V (Vt w T.m (unkC T.g.cats.xs.length i s) V):=by
 refine(Xnf T i V).mono ?_;rintro e V' ⟨rfl,rfl⟩;refine⟨_,_,rfl,Xg ba_q _,enters_of Tryz.func146 (by kernel_rfl) rfl,fun R hR1 hR2 hR3=>?_⟩;have hb:Below V.heap.size V ((V.alloc T.ob).alloc (.cells #[.int .i64 (i:Int)] 3)):=Xg ba_q _;have h':=h.ext hb;refine Xxr w _ T i V.heap.size (V.heap.size+1) s R hi h'.d hR1 (hR2 _ (by omega) (by simp only[World.size_alloc];omega)) (hR2 _ (by omega) (by simp only[World.size_alloc];omega)) ?_ ?_
 ·exact(Below.heap_alloc _ _ _ (by simp)).trans (World.alloc_heap_new _ _)
 ·exact Xo _ _ _ (by simp)
end
end
section
variable {w V:World} {T:TagG} {S:List Term} {i n tb bI bN bi bw:Nat} {v:Value} {L:List ItemG}
theorem of1 (h:ItSt w bi tb bw n T S v L V) (hI:V.heap[bI]? = some (.cells #[.int .i64 (i:Int)] 3 (0,0))) (hi:i<T.ws.xs.length) (hmx:T.ws.xs.length<=16) (hSl:∀x∈S,x.lies w)
  (hu:∀x∈S,∀y∈S,x.src.xs=y.src.xs->x=y) (hok:∀x∈S,x.ok=true) (hws:∀s∈T.ws.xs,Xq s=true) :
  Calls Tryz.prog 77 #[.pointer (some ⟨tb,0,none⟩),.pointer (some ⟨bI,0,none⟩)] V (Vt w T.m (Xw T.g.cats.xs S T.ws.xs i 1) V):=by
 have c0:=Xa (Xet 1 h hi (by decide) (.inl (by decide)) (by omega) hSl hu hok hws);have hI0:=Xe hI;have ht:=h.tag;obtain⟨t0,t1,t2,t3,t4,t5,t6,t7⟩:=gb8 ht;clear h hI hSl hu hok hws ht;go_enter Tryz.func77,Tryz.ntmps77
 go_wp2_with fail
 refine c0.out.mono ?_;rintro e W ⟨gf,lb,rfl,h1⟩;go_wp2_with fail
 go_ret;exact⟨gf,lb,rfl,h1⟩
theorem of4 (h:ItSt w bi tb bw n T S v L V) (hI:V.heap[bI]? = some (.cells #[.int .i64 (i:Int)] 3 (0,0))) (hi:i<T.ws.xs.length) (hmx:T.ws.xs.length<=16) (hSl:∀x∈S,x.lies w)
  (hu:∀x∈S,∀y∈S,x.src.xs=y.src.xs->x=y) (hok:∀x∈S,x.ok=true) (hws:∀s∈T.ws.xs,Xq s=true) :
  Calls Tryz.prog 83 #[.pointer (some ⟨tb,0,none⟩),.pointer (some ⟨bI,0,none⟩)] V (Vt w T.m (Xw T.g.cats.xs S T.ws.xs i 2) V):=by
 have c0:=Xa (Xet 2 h hi (by decide) (.inl (by decide)) (by omega) hSl hu hok hws);have hI0:=Xe hI;have ht:=h.tag;obtain⟨t0,t1,t2,t3,t4,t5,t6,t7⟩:=gb8 ht;clear h hI hSl hu hok hws ht;go_enter Tryz.func83,Tryz.ntmps83
 go_wp2_with fail
 refine c0.out.mono ?_;rintro e W ⟨gf,lb,rfl,h1⟩;go_wp2_with fail
 go_ret;exact⟨gf,lb,rfl,h1⟩
theorem of5 (h:ItSt w bi tb bw n T S v L V) (hI:V.heap[bI]? = some (.cells #[.int .i64 (i:Int)] 3 (0,0))) (hi:i<T.ws.xs.length) (hmx:T.ws.xs.length<=16) (hSl:∀x∈S,x.lies w)
  (hu:∀x∈S,∀y∈S,x.src.xs=y.src.xs->x=y) (hok:∀x∈S,x.ok=true) (hws:∀s∈T.ws.xs,Xq s=true) :
  Calls Tryz.prog 84 #[.pointer (some ⟨tb,0,none⟩),.pointer (some ⟨bI,0,none⟩)] V (Vt w T.m (Xw T.g.cats.xs S T.ws.xs i 3) V):=by
 have c0:=Xa (Xet 3 h hi (by decide) (.inl (by decide)) (by omega) hSl hu hok hws);have hI0:=Xe hI;have ht:=h.tag;obtain⟨t0,t1,t2,t3,t4,t5,t6,t7⟩:=gb8 ht;clear h hI hSl hu hok hws ht;go_enter Tryz.func84,Tryz.ntmps84
 go_wp2_with fail
 refine c0.out.mono ?_;rintro e W ⟨gf,lb,rfl,h1⟩;go_wp2_with fail
 go_ret;exact⟨gf,lb,rfl,h1⟩
theorem of6 (h:ItSt w bi tb bw n T S v L V) (hI:V.heap[bI]? = some (.cells #[.int .i64 (i:Int)] 3 (0,0))) (hi:i<T.ws.xs.length) (hmx:T.ws.xs.length<=16) (hSl:∀x∈S,x.lies w)
  (hu:∀x∈S,∀y∈S,x.src.xs=y.src.xs->x=y) (hok:∀x∈S,x.ok=true) (hws:∀s∈T.ws.xs,Xq s=true) :
  Calls Tryz.prog 85 #[.pointer (some ⟨tb,0,none⟩),.pointer (some ⟨bI,0,none⟩)] V (Vt w T.m (Xw T.g.cats.xs S T.ws.xs i 4) V):=by
 have c0:=Xa (Xet 4 h hi (by decide) (.inl (by decide)) (by omega) hSl hu hok hws);have hI0:=Xe hI;have ht:=h.tag;obtain⟨t0,t1,t2,t3,t4,t5,t6,t7⟩:=gb8 ht;clear h hI hSl hu hok hws ht;go_enter Tryz.func85,Tryz.ntmps85
 go_wp2_with fail
 refine c0.out.mono ?_;rintro e W ⟨gf,lb,rfl,h1⟩;go_wp2_with fail
 go_ret;exact⟨gf,lb,rfl,h1⟩
theorem of2 (s:ByteArray) (h:ItSt w bi tb bw n T S v L V) (hI:V.heap[bI]? = some (.cells #[.int .i64 (i:Int)] 3 (0,0))) (hi:T.ws.xs[i]? = some s) :
  Calls Tryz.prog 79 #[.pointer (some ⟨tb,0,none⟩),.pointer (some ⟨bI,0,none⟩)] V (Vt w T.m (Xy T.g.entries.xs i s) V):=by
 have c0:=Xa (Xq6 s h hi);have hI0:=Xe hI;have ht:=h.tag;obtain⟨t0,t1,t2,t3,t4,t5,t6,t7⟩:=gb8 ht;clear h hI ht;go_enter Tryz.func79,Tryz.ntmps79
 go_wp2_with fail
 refine c0.out.mono ?_;rintro e W ⟨gf,lb,rfl,h1⟩;go_wp2_with fail
 go_ret;exact⟨gf,lb,rfl,h1⟩
theorem of3 (N:Nat) (s:ByteArray) (h:ItSt w bi tb bw n T S v L V) (hI:V.heap[bI]? = some (.cells #[.int .i64 (i:Int)] 3 (0,0))) (hN:V.heap[bN]? = some (.cells #[.int .i64 (N:Int)] 3 (0,0))) (hi:T.ws.xs[i]? = some s) (hmx:T.ws.xs.length<=16) (hSl:∀x∈S,x.lies w)
  (hu:∀x∈S,∀y∈S,x.src.xs=y.src.xs->x=y) (hok:∀x∈S,x.ok=true) (hws:∀s∈T.ws.xs,Xq s=true) :
  Calls Tryz.prog 81 #[.pointer (some ⟨bi,0,none⟩),.pointer (some ⟨bN,0,none⟩),.pointer (some ⟨tb,0,none⟩),.pointer (some ⟨bI,0,none⟩),.pointer (some ⟨bw,0,none⟩)] V (Vt w T.m (if L.length=N then unkC T.g.cats.xs.length i s else []) V):=by
 have hil:=(List.getElem?_eq_some_iff.1 hi).1;have c0:=Xa (Xet (T.ws.xs.length+1) h hil (by omega) (.inr (by omega)) (by omega) hSl hu hok hws);have c1:=Xa (Xp7 s h hi);have hnil:Xw T.g.cats.xs S T.ws.xs i (T.ws.xs.length+1)=[]:=Xjf _ S (by omega) (by omega);rw[hnil] at c0;have hI0:=Xe hI;have hN0:=Xe hN;have hw0:=Xe h.wbox;have hb0:=h.box.cell;have ht:=h.tag;obtain⟨A,c,rfl,_⟩:=h.own.form (by decide);obtain⟨t0,t1,t2,t3,t4,t5,t6,t7⟩:=gb8 ht;have hwr:IntKind.i64.wrap ((T.ws.xs.length:Int)+1)=(T.ws.xs.length:Int)+1:=IntWalk.i64_in _ (by omega);clear h hI hN hSl hu hok hws ht hnil hi;by_cases hz:L.length=N
 ·have q:(L.length == N)=true:=by simp[hz]
  rw[if_pos hz];clear hz;go_enter Tryz.func81,Tryz.ntmps81
  go_wp2_with fail
  refine c1.out.mono ?_;rintro e W ⟨gf,lb,rfl,h1⟩;go_wp2_with fail
  go_ret;exact⟨gf,lb,rfl,h1⟩
 ·have q:(L.length == N)=false:=by simpa using hz
  rw[if_neg hz];clear hz;go_enter Tryz.func81,Tryz.ntmps81
  go_wp2_with fail
  refine c0.out.mono ?_;rintro e W ⟨gf,lb,rfl,h1⟩;go_wp2_with fail
  go_ret;exact⟨gf,lb,rfl,h1⟩
end
theorem Xkt (a b n:Int) (W:World):Calls Tryz.prog 230 #[.int .i64 a,.int .i64 b,.slice (some ⟨W.heap.size,0,none⟩) 1 1] (W.alloc (.cells #[.int .i64 n] 3)) fun e w'=>e = .returned (.bool (decide (a<=n) && decide (n<=b)))/\Below W.heap.size W w' :=
 (Xyu a b n W.heap.size _ (World.alloc_heap_new _ _)).mono fun _ _ ⟨h1,h2⟩=>⟨h1,Xb ba_q h2⟩
theorem Xtp (s:StrS) (W:World) (hT:TabsG W) (hs:s.lies W):Calls Tryz.prog 231 #[.func (.func 229) #[] #[],.slice (some ⟨W.heap.size,0,none⟩) 1 1] (W.alloc (.cells #[.slice s.addr s.xs.length s.cap] 22)) fun e w'=>e = .returned (.bool (s.xs.all Zc))/\Below W.heap.size W w':=by
 have hB:Below W.heap.size W (W.alloc (.cells #[.slice s.addr s.xs.length s.cap] 22)):=ba_q;refine(Xyr W.heap.size s.addr s.cap s.xs 229 #[] Zc _ (World.alloc_heap_new _ _) ?_ (Nat.le_trans hs.cap hs.max) (enters_of Tryz.func229 (by kernel_rfl) rfl) ?_).mono fun _ _ ⟨h1,h2⟩=>⟨h1,Xb hB h2⟩
 ·have:=(hs.ext hB).rd
  rw[show strs s.xs=s.xs.flatMap (fun b:ByteArray=>[Value.string b]) from by unfold strs;rw[List.map_eq_flatMap]] at this;exact this
 ·intro V hV x _
  exact Xbs x V (hT.ext (Xb hB hV))
theorem Xmx (bc bf bi bm:Nat) (cats:List ByteArray) (x:EntryG) (w:World) (hT:TabsG w) (hc:CatBox w bc bf bi bm cats) (hx:x.lies w) (hs:x.cat.size<=maxLen) :
  Calls Tryz.prog 228 #[x.vl,.pointer (some ⟨bc,0,none⟩)] w fun e w'=>e = .returned (.bool (Uz cats x))/\Below w.heap.size w w':=by
 obtain⟨W1,hW1⟩:∃W1,w.alloc x.ob=W1:=⟨_,rfl⟩
 have hB1:Below w.heap.size w W1:=by subst hW1;exact ba_q
 have hk:W1.heap[w.heap.size]? = some x.ob:=by subst hW1;exact World.alloc_heap_new _ _
 have eg:=enters_of Tryz.func227 (by kernel_rfl) rfl;have HE:Hid (Uz cats x=(Zc x.text && catB cats x.cat && (decide (1<=x.gives.xs.length) && decide (x.gives.xs.length<=4)) && x.gives.xs.all Zc && Xbp x.cost)):=rfl;have cF:=Xa (fun W (hW:Below W1.heap.size W1 W)=>Xbs x.text W (hT.ext (Xb hB1 hW)));have cC:=Xa (fun W (hW:Below W1.heap.size W1 W)=>Xcg bf bi bm cats x.cat W ((hc.ext (Xb hB1 hW)).2.1) ((hc.ext (Xb hB1 hW)).2.2) hs);have cA:=Xa (fun W (hW:Below W1.heap.size W1 W)=>Xtp x.gives W (hT.ext (Xb hB1 hW)) (StrS.lies.ext hx (Xb hB1 hW)));have hcb:W1.heap[bc]? = some (.cells #[.func (.func 227) #[] #[.pointer (some ⟨bf,0,none⟩)]] 50 (0,0)):=(hc.ext hB1).1;have HW1:=Xa hW1;clear hT hc hx hW1;generalize Zc x.text=f1 at *;generalize catB cats x.cat=f2 at *;generalize x.gives.xs.all Zc=f4 at *;go_enter Tryz.func228,Tryz.ntmps228
 go_wp2_with fail
 rw[HW1.out];obtain⟨a0,a1,a2,a3,a4⟩:=gb5 hk;clear HW1;refine(cF.out W1 bo_q).mono ?_;rintro e w2 ⟨rfl,hb2⟩;have hB2:=Xb hB1 hb2;cases f1
 ·go_wp2_with fail
  go_ret;exact⟨by rw[HE.out];rfl,hB2⟩
 have hk2:=Xi hb2 hk;have hc2:=Xe (Xi hb2 hcb);obtain⟨b0,b1,b2,b3,b4⟩:=gb5 hk2;go_wp2_with fail
 refine(cC.out w2 hb2).mono ?_;rintro e w' ⟨rfl,rfl⟩;cases f2
 ·go_wp2_with fail
  go_ret;exact⟨by rw[HE.out];rfl,hB2⟩
 have cB:=Xa (fun W=>Xkt 1 4 (x.gives.xs.length:Int) W)
 have HE4:Hid ((decide ((1:Int)<=(x.gives.xs.length:Int)) && decide ((x.gives.xs.length:Int)<=4))=(decide (1<=x.gives.xs.length) && decide (x.gives.xs.length<=4))):=by
  show _=_
  congr 1<;>(apply decide_eq_decide.2;omega)
 rw[HE4.out] at cB;have cD:=Xa (fun W=>Xkt 0 1000 x.cost W);have HE5:Hid (Xbp x.cost=(decide (0<=x.cost) && decide (x.cost<=1000))):=rfl;rw[<- HE5.out] at cD;generalize (decide (1<=x.gives.xs.length) && decide (x.gives.xs.length<=4))=f3 at *;generalize Xbp x.cost=f5 at *;clear HE4 HE5;go_wp2_with fail
 refine(cB.out w2).mono ?_;rintro e w3 ⟨rfl,hb3⟩;have hB3:=Xb hB2 hb3;have hk3:=Xi hb3 hk2;have hb13:=Xb hb2 hb3;cases f3
 ·go_wp2_with fail
  go_ret;exact⟨by rw[HE.out];rfl,hB3⟩
 obtain⟨d0,d1,d2,d3,d4⟩:=gb5 hk3;clear b0 b1 b2 b3 b4 a0 a1 a2 a3 a4 hc2;go_wp2_with fail
 refine(cA.out w3 hb13).mono ?_;rintro e w4 ⟨rfl,hb4⟩;have hB4:=Xb hB3 hb4;have hk4:=Xi hb4 hk3;cases f4
 ·go_wp2_with fail
  go_ret;exact⟨by rw[HE.out];rfl,hB4⟩
 obtain⟨g0,g1,g2,g3,g4⟩:=gb5 hk4;clear d0 d1 d2 d3 d4;go_wp2_with fail
 refine(cD.out w4).mono ?_;rintro e w5 ⟨rfl,hb5⟩;go_wp2_with fail
 go_ret;exact⟨by rw[HE.out];simp,Xb hB4 hb5⟩
theorem Xpb (bc bf bi bm:Nat) (cats:List ByteArray) (x:PartG) (w:World) (hT:TabsG w) (hc:CatBox w bc bf bi bm cats) (hs:x.cat.size<=maxLen) :
  Calls Tryz.prog 232 #[.agg #[.string x.cat,.int .i64 x.no,.string x.text],.pointer (some ⟨bc,0,none⟩)] w fun e w'=>e = .returned (.bool (Ui cats x))/\Below w.heap.size w w':=by
 obtain⟨W1,hW1⟩:∃W1,w.alloc (.cells #[.string x.cat,.int .i64 x.no,.string x.text] 81)=W1:=⟨_,rfl⟩
 have hB1:Below w.heap.size w W1:=by subst hW1;exact ba_q
 have hk:W1.heap[w.heap.size]? = some (.cells #[.string x.cat,.int .i64 x.no,.string x.text] 81 (0,0)):=by subst hW1;exact World.alloc_heap_new _ _
 have eg:=enters_of Tryz.func227 (by kernel_rfl) rfl;have cF:=Xa (Xbs x.text W1 (hT.ext hB1));have cC:=Xa (Xcg bf bi bm cats x.cat W1 ((hc.ext hB1).2.1) ((hc.ext hB1).2.2) hs);have hc0:=Xe (hc.ext hB1).1;have HE:Hid (Ui cats x=if x.text.size=0 then catB cats x.cat else decide (x.cat.size=0) && Zc x.text):=rfl;clear hT hc;obtain⟨a0,a1,a2⟩:=gb3 hk;clear hk;by_cases h0:x.text.size=0
 ·have HE2:Hid (Ui cats x=catB cats x.cat):=by show _=_;rw[HE.out,if_pos h0]
  have n0:=Up (s:=x.text) (by omega);clear HE cF h0;generalize catB cats x.cat=f2 at *;go_enter Tryz.func232,Tryz.ntmps232
  go_wp2_with fail
  refine cC.out.mono ?_;rintro e w' ⟨rfl,rfl⟩;cases f2
  ·go_wp2_with fail
   go_ret;exact⟨by rw[HE2.out];rfl,hB1⟩
  ·go_wp2_with fail
   go_ret;exact⟨by rw[HE2.out];rfl,hB1⟩
 ·have n0:=Uo (s:=x.text) (by omega)
  by_cases h1:x.cat.size=0
  ·have HE2:Hid (Ui cats x=Zc x.text):=by show _=_;rw[HE.out,if_neg h0,decide_eq_true h1];rfl
   have n1:=Up (s:=x.cat) (by omega);clear HE cC h0 h1;generalize Zc x.text=f2 at *;go_enter Tryz.func232,Tryz.ntmps232
   go_wp2_with fail
   refine cF.out.mono ?_;rintro e w' ⟨rfl,hb⟩;go_wp2_with fail
   go_ret;exact⟨by rw[HE2.out];rfl,Xb hB1 hb⟩
  ·have HE2:Hid (Ui cats x=false):=by show _=_;rw[HE.out,if_neg h0,decide_eq_false h1];rfl
   have n1:=Uo (s:=x.cat) (by omega);clear HE cC cF h0 h1;go_enter Tryz.func232,Tryz.ntmps232
   go_wp2_with fail
   go_ret;exact⟨by rw[HE2.out];rfl,hB1⟩
end Go.Proofs.YtolpbjjapodmnaaGreatDoor
