/- Texts of this claim, one after the other: GoalK, GrmB, Chw7, Chw8, Chw9, StillIn, TakeC, GroupC, TakeR. -/
import Derived.Test.YtolpbjjapodmnaaGreatDoorM12
import Derived.Test.YtolpbjjapodmnaaGreatDoorM11
import Derived.Test.YtolpbjjapodmnaaGreatDoorM8
import Derived.Test.YtolpbjjapodmnaaGreatDoorM5
import Derived.Test.YtolpbjjapodmnaaGreatDoorM3
import Derived.Test.YtolpbjjapodmnaaGreatDoorShelfG
import Derived.Test.YtolpbjjapodmnaaGreatDoorM2
import Derived.Lib.AppendIntMem
import Derived.StillTail
import Derived.StillTailTactics
import Derived.StillTactics
import Derived.Deep.Draws
import Derived.OwnWalkIn
namespace Go.Proofs.YtolpbjjapodmnaaGreatDoor
open Go.RowKit Go.Han
set_option maxRecDepth 100000
attribute [local irreducible] wpStill wpQuiet
set_option maxHeartbeats 8000000
theorem laidGK:laidOutB Tryz.prog=true:=by kernel_rfl
theorem Xay:Maps.Keyed Tryz.prog 119:=Maps.Keyed.of_law (deep_law_laid laidGK (m:=2) (by omega) (of_decide_eq_true (by kernel_rfl)) (by kernel_rfl) (by kernel_rfl))
theorem Xig : ∃ fs : Array Field, Tryz.prog.underlying 119 = some (.struct fs) ∧ fs.toList.map (fun f => (f.name, f.type, f.offset)) = [("cat", 3, 0), ("from", 3, 1), ("until", 3, 2)] ∧ Tryz.prog.cellsOf 119 = 3 ∧ Tryz.prog.keyType 119 = true := ⟨_, Tryz.underlying119, by kernel_rfl, by kernel_rfl, by kernel_rfl⟩
theorem Xgf:Tryz.prog.cellsOf 3=1:=by kernel_rfl
structure X9 where
 cat:Int
 frm:Int
 unt:Int
deriving DecidableEq
def Xck (k:X9):Lit:=.string (keyBytes [.int .i64 k.cat,.int .i64 k.frm,.int .i64 k.unt])
def Xav (k:X9):Value:=.agg #[.int .i64 k.cat,.int .i64 k.frm,.int .i64 k.unt]
def Z8 (k:X9):Prop:=(Lit.int .i64 k.cat).wf=true/\(Lit.int .i64 k.frm).wf=true/\(Lit.int .i64 k.unt).wf=true
theorem Xfc (n:Nat) (k:X9) (h:Z8 k):Tryz.prog.keyLits (n+2) 119 [.int .i64 k.cat,.int .i64 k.frm,.int .i64 k.unt]=some [.int .i64 k.cat,.int .i64 k.frm,.int .i64 k.unt]:=by
 obtain⟨fs,hu,hf,hc,hk⟩:=Xig;obtain⟨h1,h2,h3⟩:=h;unfold Program.keyLits;rw[hu]
 have hfs : ∃ f0 f1 f2, fs.toList = [f0, f1, f2] ∧ f0.name = "cat" ∧ f0.type = 3 ∧ f0.offset = 0 ∧ f1.name = "from" ∧ f1.type = 3 ∧ f1.offset = 1 ∧ f2.name = "until" ∧ f2.type = 3 ∧ f2.offset = 2 := by
  match hl:fs.toList with
  | [f0,f1,f2] =>
   rw[hl] at hf;simp at hf;exact⟨f0,f1,f2,rfl,hf.1.1,hf.1.2.1,hf.1.2.2,hf.2.1.1,hf.2.1.2.1,hf.2.1.2.2,hf.2.2.1,hf.2.2.2.1,hf.2.2.2.2⟩
  | []=>rw[hl] at hf;simp at hf
  | [_]=>rw[hl] at hf;simp at hf
  | [_,_]=>rw[hl] at hf;simp at hf
  | _ :: _ :: _ :: _ :: _=>rw[hl] at hf;simp at hf
 obtain⟨f0,f1,f2,hl,n0,t0,o0,n1,t1,o1,n2,t2,o2⟩:=hfs
 have hall : fs.all (fun f => f.name != "_") = true := by
  rw[<- Array.all_toList,hl];simp[n0,n1,n2]
 simp only[hc,hall,List.length_cons,List.length_nil,and_self,if_true,hl,List.mapM_cons,List.mapM_nil,t0,o0,t1,o1,t2,o2,Xgf]
 have e0:Tryz.prog.keyLits (n+1) 3 ((([.int .i64 k.cat,.int .i64 k.frm,.int .i64 k.unt]:List Value).drop 0).take 1)=some [.int .i64 k.cat]:=by
  simp[Program.keyLits,Tryz.underlying3,h1]
 have e1:Tryz.prog.keyLits (n+1) 3 ((([.int .i64 k.cat,.int .i64 k.frm,.int .i64 k.unt]:List Value).drop 1).take 1)=some [.int .i64 k.frm]:=by
  simp[Program.keyLits,Tryz.underlying3,h2]
 have e2:Tryz.prog.keyLits (n+1) 3 ((([.int .i64 k.cat,.int .i64 k.frm,.int .i64 k.unt]:List Value).drop 2).take 1)=some [.int .i64 k.unt]:=by
  simp[Program.keyLits,Tryz.underlying3,h3]
 rw[e0,e1,e2];rfl
theorem Xtz (k:X9) (h:Z8 k):keyOf Tryz.prog 119 (Xav k)=some (Xck k):=by
 obtain⟨fs,hu,hf,hc,hk⟩:=Xig
 have hfm:(Xav k).formed Tryz.prog 119=true:=by
  unfold Xav;simp[Value.formed,hu,hc]
 unfold keyOf;rw[hu];simp only[hk,hfm,Bool.and_self,if_true];have e:=Xfc (Tryz.prog.types.size-1) k h
 have hsz:Tryz.prog.types.size-1+2=Tryz.prog.types.size+1:=by
  have:0<Tryz.prog.types.size:=of_decide_eq_true (by kernel_rfl);omega
 rw[hsz] at e;show ((Tryz.prog.keyLits (Tryz.prog.types.size+1) 119 [.int .i64 k.cat,.int .i64 k.frm,.int .i64 k.unt]).map fun ls=>Lit.string (keyBytes ls))=_;rw[e];rfl
theorem Xzg (v:Value) (l:Lit) (h:keyOf Tryz.prog 119 v=some l):∃k,Z8 k/\v=Xav k/\l=Xck k:=by
 obtain⟨fs,hu,hf,hc,hk⟩:=Xig;have h0:=h;unfold keyOf at h;rw[hu] at h;simp only at h;split at h
 ·rename_i hb
  simp only[Bool.and_eq_true] at hb;obtain⟨_,hfm⟩:=hb
  have hag:∃cs:Array Value,v = .agg cs/\cs.size=3:=by
   unfold Value.formed at hfm;rw[hu] at hfm;cases v<;>simp at hfm
   rename_i cs;exact⟨cs,rfl,by rw[hfm,hc]⟩
  obtain⟨cs,rfl,hsz⟩:=hag
  have hl2:∃a b c,cs.toList=[a,b,c]:=by
   match hcl:cs.toList with
   | [a,b,c]=>exact⟨a,b,c,rfl⟩
   | []=>have:=congrArg List.length hcl;rw[Array.length_toList,hsz] at this;simp at this
   | [_]=>have:=congrArg List.length hcl;rw[Array.length_toList,hsz] at this;simp at this
   | [_,_]=>have:=congrArg List.length hcl;rw[Array.length_toList,hsz] at this;simp at this
   | _ :: _ :: _ :: _ :: _=>have:=congrArg List.length hcl;rw[Array.length_toList,hsz] at this;simp at this
  obtain⟨a,b,c,hab⟩:=hl2;cases hkl:Tryz.prog.keyLits (Tryz.prog.types.size+1) 119 (Value.agg cs).cells.toList with
  | none=>rw[hkl] at h;cases h
  | some ls =>
   have hcl:(Value.agg cs).cells.toList=[a,b,c]:=(by simpa[Value.cells] using hab);rw[hcl] at hkl;have hk2:=hkl;unfold Program.keyLits at hk2;rw[hu] at hk2
   have hfs:∃f0 f1 f2,fs.toList=[f0,f1,f2]/\f0.type=3/\f0.offset=0/\f1.type=3/\f1.offset=1/\f2.type=3/\f2.offset=2:=by
    match hl:fs.toList with
    | [f0,f1,f2] =>
     rw[hl] at hf;simp at hf;exact⟨f0,f1,f2,rfl,hf.1.2.1,hf.1.2.2,hf.2.1.2.1,hf.2.1.2.2,hf.2.2.2.1,hf.2.2.2.2⟩
    | []=>rw[hl] at hf;simp at hf
    | [_]=>rw[hl] at hf;simp at hf
    | [_,_]=>rw[hl] at hf;simp at hf
    | _ :: _ :: _ :: _ :: _=>rw[hl] at hf;simp at hf
   obtain⟨f0,f1,f2,hl,t0,o0,t1,o1,t2,o2⟩:=hfs;simp only[hl,List.mapM_cons,List.mapM_nil,t0,o0,t1,o1,t2,o2,Xgf] at hk2;have hd:∃d,Tryz.prog.types.size=d+1:=⟨Tryz.prog.types.size-1,by have:0<Tryz.prog.types.size:=of_decide_eq_true (by kernel_rfl);omega⟩
   obtain⟨d,hd⟩:=hd
   have intwf:∀(x:Value) (n:Int),Tryz.prog.keyLits Tryz.prog.types.size 3 [x]=some [.int .i64 n]->x = .int .i64 n->(Lit.int .i64 n).wf=true:=fun x n h7 hx=>by
    subst hx;rw[hd] at h7;unfold Program.keyLits at h7;rw[Tryz.underlying3] at h7;simp at h7;exact h7
   split at hk2
   ·cases e0:Tryz.prog.keyLits Tryz.prog.types.size 3 (([a,b,c].drop 0).take 1) with
    | none=>rw[e0] at hk2;cases hk2
    | some l0 =>
     cases e1:Tryz.prog.keyLits Tryz.prog.types.size 3 (([a,b,c].drop 1).take 1) with
     | none=>rw[e0,e1] at hk2;cases hk2
     | some l1 =>
      cases e2:Tryz.prog.keyLits Tryz.prog.types.size 3 (([a,b,c].drop 2).take 1) with
      | none=>rw[e0,e1,e2] at hk2;cases hk2
      | some l2 =>
       obtain⟨n,hn1,hn2⟩:=keyLits_int' Tryz.underlying3 e0;obtain⟨m,hm1,hm2⟩:=keyLits_int' Tryz.underlying3 e1;obtain⟨q,hq1,hq2⟩:=keyLits_int' Tryz.underlying3 e2;simp at hn1 hm1 hq1;subst hn1 hm1 hq1;subst hn2 hm2 hq2;have hgood:Z8 ⟨n,m,q⟩:=⟨intwf _ n e0 rfl,intwf _ m e1 rfl,intwf _ q e2 rfl⟩
       have hv:Value.agg cs=Xav ⟨n,m,q⟩:=by
        unfold Xav
        congr 1
        apply Array.ext'
        simpa using hab
       refine⟨⟨n,m,q⟩,hgood,hv,?_⟩;rw[hv,Xtz _ hgood] at h0;exact(Option.some.inj h0).symm
   ·cases hk2
 ·cases h
theorem Xzf (x y:X9) (hx:Z8 x) (hy:Z8 y) (h:Xck x=Xck y):x=y:=by
 unfold Xck at h;have e:=keyLits_inj (Xfc 0 x hx) (Xfc 0 y hy) (by simpa using h);obtain⟨a,s,t⟩:=x;obtain⟨b,u,v⟩:=y;simp only[List.cons.injEq,Lit.int.injEq,true_and,and_true] at e;rw[e.1,e.2.1,e.2.2]
def T3:Xx Tryz.prog 119 X9:=⟨Xav,Xck,Z8,Xtz,Xzg,Xzf⟩
def FoundG.val (f:FoundG):Value:=f.vl
theorem Xra (x y:FoundG) (h:x.val=y.val):x=y:=by
 obtain⟨a,b,c,d,e,f,⟨g,h1,i⟩,j⟩:=x;obtain⟨a',b',c',d',e',f',⟨g',h1',i'⟩,j'⟩:=y;simp[FoundG.val] at h;obtain⟨rfl,rfl,rfl,rfl,rfl,rfl,⟨rfl,rfl,rfl⟩,rfl⟩:=h;rfl
def foundShape:ElemShape FoundG:=⟨FoundG.val,Xra⟩
def Xjp:FoundG:=⟨false,0,0,0,0,0,⟨none,0,0⟩,0⟩
theorem Xcd (w:World):(zeroValue 114).run Tryz.prog w = .ok (foundShape.val Xjp) w:=by kernel_rfl
theorem Xcn:Tryz.prog.underlying 180=some (.map 119 114):=by rw[Tryz.underlying180]
theorem Vp {x:Int} (h : -4611686018427387904<=x) (h2:x<=4611686018427387904):(Lit.int .i64 x).wf=true:=by
 simp[Lit.wf,IntKind.min,IntKind.max,IntKind.signed,IntKind.bits];omega
structure TabsG (w:World):Prop where
 u:Tabs w
 s : Lib.TabIs Tryz.prog w "strings.asciiSpace" .u8 Lib.asciiSpaceTab
theorem TabsG.ext {w w':World} (h:TabsG w) (hb:Below w.heap.size w w'):TabsG w':=⟨Xa8 h.u hb,Lib.tabBelow_of_tabIs h.s w' hb⟩
def kwText : ByteArray := "grammar category start word is gives cost rule".toUTF8
theorem Xv5:kwText=⟨#[103,114,97,109,109,97,114,32,99,97,116,101,103,111,114,121,32,115,116,97,114,116,32,119,111,114,100,32,105,115,32,103,105,118,101,115,32,99,111,115,116,32,114,117,108,101]⟩:=by kernel_rfl
theorem Xzy:∀(j:Nat) b,kwText.data.toList[j]? = some b->b.toNat<128:=by
 intro j b h;have:∀b∈kwText.data.toList,b.toNat<128:=by decide +kernel
 exact this b (List.mem_of_getElem? h)
theorem Xv6:(Lib.fields kwText.data.toList).map (fun l=>Value.string ⟨l.toArray⟩)=kwords.map Value.string:=by kernel_rfl
theorem X16:kwText.size<4294967281:=by decide +kernel
theorem Xoo (l:List ByteArray) (j:Nat) (h:j<l.length):l.getD j ByteArray.empty=l[j]:=by simp[h]
theorem Xkw (A:Option Addr) (cp:Nat) (xs:List ByteArray) (x:ByteArray) (w:World) (hr:Rd w A (xs.flatMap (fun b:ByteArray=>[Value.string b]))) (hm:xs.length<=9223372036854775807) :
  Calls Tryz.prog 128 #[.slice A xs.length cp,.string x] w fun e w'=>e = .returned (.bool (xs.any fun y=>decide (y=x)))/\w'=w:=by
 cases hx:xs with
 | nil=>exact(Tryz.slices_Contains_string_empty A cp x w).mono fun _ _ h=>⟨by rw[h.1];rfl,h.2⟩
 | cons y ys =>
  rw[<- hx];have hlen:0<xs.length:=by rw[hx];simp
  obtain⟨b,off,rfl,hb,_⟩:=hr.elem (s:=1) (fun _=>rfl) (by omega) (k:=0) hlen;refine(Tryz.slices_Contains_string b off xs.length cp xs x w (Nat.le_refl _) hm fun j hj=>?_).mono fun e w' h=>⟨?_,h.2⟩
  ·obtain⟨b',off',e,_,hc⟩:=hr.elem (s:=1) (fun _=>rfl) (by omega) (k:=j) hj
   cases e;rw[Xoo xs j hj];have:=hc 0 _ rfl
   simpa using this
  ·rw[h.1,List.take_length]
   congr 2
   rw[Bool.eq_iff_iff,Lib.containsS_iff,Xam]
theorem Xbs (s:ByteArray) (w:World) (hT:TabsG w):Calls Tryz.prog 229 #[.string s] w fun e w'=>e = .returned (.bool (Zc s))/\Below w.heap.size w w':=by
 obtain⟨W1,hW1⟩:∃W1,w.alloc (.cells (kwords.map Value.string).toArray 9)=W1:=⟨_,rfl⟩
 have hB1:Below w.heap.size w W1:=by subst hW1;exact ba_q
 have hk:W1.heap[w.heap.size]? = some (.cells (kwords.map Value.string).toArray 9 (0,0)):=by subst hW1;exact World.alloc_heap_new _ _
 have cF:Hid (Calls Tryz.prog 268 #[.string ⟨#[103,114,97,109,109,97,114,32,99,97,116,101,103,111,114,121,32,115,116,97,114,116,32,119,111,114,100,32,105,115,32,103,105,118,101,115,32,99,111,115,116,32,114,117,108,101]⟩] w fun e w'=>e = .returned (.slice (some ⟨w.heap.size,0,none⟩) 8 8)/\w'=W1):=by
  rw[<- Xv5,<- hW1,<- Xv6];exact Tryz.strings_Fields kwText w X16 Xzy hT.s
 have cC:=Xa (Xkw (some ⟨w.heap.size,0,none⟩) 8 kwords s W1 (Zg hk (by rw[List.map_eq_flatMap])) (by decide));have cN:=Xa (Xo3 s w);have HE:Hid (Zc s=(V9 s && !(kwords.any fun y=>decide (y=s)))):=rfl;generalize V9 s=b1 at *;generalize (kwords.any fun y=>decide (y=s))=b2 at *;change Hid (Calls _ _ #[.slice _ 8 8,_] _ _) at cC;clear hk hW1 hT;go_enter Tryz.func229,Tryz.ntmps229
 go_wp2_with fail
 refine cN.out.mono ?_;rintro e w' ⟨rfl,rfl⟩;cases b1
 ·go_wp2_with fail
  go_ret;exact⟨by rw[HE.out];rfl,bo_q⟩
 ·go_wp2_with fail
  refine cF.out.mono ?_;rintro e w' ⟨rfl,rfl⟩;go_wp2_with fail
  refine cC.out.mono ?_;rintro e w' ⟨rfl,rfl⟩;go_wp2_with fail
  go_ret;exact⟨by rw[HE.out];simp,hB1⟩
theorem Xa4 {α β:Type} {P:Program} {k t e:TypeId} {w:World} (K:Maps.Keyed P k) (ht:P.underlying t=some (.map k e)) (S:Xx P k α) (E:ElemShape β) (z0:β) {b n:Nat} {f:α->Option β} (hz:(zeroValue e).run P w = .ok (E.val z0) w) (hown:MapF w S E b n f) (key:α) (hgood:S.good key) :
  (Instr.lookup t (.map (some b)) (S.val key) false).run P w = .ok (E.val ((f key).getD z0)) w:=by
 obtain⟨D,h1,h2⟩:=hown;obtain⟨v,ps,hrun,hv⟩:=h1.lookup K ht hz (E.read_val z0) (S.of key hgood);obtain⟨g1,g2⟩:=h2 key hgood;obtain⟨c,rfl,hc⟩:=E.read_inv hv;simp only[Prod.mk.injEq] at hc;cases hf:f key with
 | none =>
  have:=g1 hf;rw[Maps.atKey_of_not_has this] at hc;cases hc.1;exact hrun
 | some c' =>
  obtain⟨g3,g4⟩:=g2 c' hf;rw[g4] at hc;cases hc.1;exact hrun
def KidS.val (k:KidS):Value:=.slice k.addr k.len k.cap
theorem Xox (x y:KidS) (h:x.val=y.val):x=y:=by
 obtain⟨a,b,c⟩:=x;obtain⟨a',b',c'⟩:=y;simp[KidS.val] at h;obtain⟨rfl,rfl,rfl⟩:=h;rfl
def slcShape:ElemShape KidS:=⟨KidS.val,Xox⟩
theorem Xcw:Tryz.prog.underlying 181=some (.map 3 22):=by rw[Tryz.underlying181]
theorem Xf2 (w:World):(zeroValue 22).run Tryz.prog w = .ok (slcShape.val ⟨none,0,0⟩) w:=by kernel_rfl
def intW:Xx Tryz.prog 3 Int:=Xzo Tryz.underlying3
theorem Vu:Maps.Keyed Tryz.prog 3:=Maps.int_keyed Tryz.underlying3
def WordOk (Q:Nat->Prop) (W:World) (o:Option KidS) (items:List ItemG) (i:Int):Prop :=
 match o with
 | none=>∀s,Xp items i s=false
 | some v=>∃xs:List ByteArray,v.len=xs.length/\StrS.lies W ⟨v.addr,v.cap,xs⟩/\(∃b off,v.addr=some ⟨b,off,none⟩/\Q b)/\∀s,(xs.any fun y=>decide (y=s))=Xp items i s
theorem Xt4 {W W':World} {s:StrS} {b off:Nat} (h:s.lies W) (hs:s.addr=some ⟨b,off,none⟩) (hb:W'.heap[b]? = W.heap[b]?) (hz:W.heap.size<=W'.heap.size):s.lies W':=by
 refine⟨?_,h.cap,h.max,h.nil⟩;rcases h.rd with h0|⟨b',off',he,hlt,hc⟩
 ·exact .inl h0
 ·rw[hs] at he
  cases he;exact .inr ⟨b,off,hs,Nat.lt_of_lt_of_le hlt hz,fun j u hu=>(World.cell?_of_block (w:=W) hb).trans (hc j u hu)⟩
theorem WordOk.keep {Q:Nat->Prop} {W W':World} {o:Option KidS} {items:List ItemG} {i:Int} (h:WordOk Q W o items i) (hk:∀b,Q b->W'.heap[b]? = W.heap[b]?) (hz:W.heap.size<=W'.heap.size):WordOk Q W' o items i:=by
 cases o with
 | none=>exact h
 | some v =>
  obtain⟨xs,h1,h2,⟨b,off,h3,h4⟩,h5⟩:=h;exact⟨xs,h1,Xt4 h2 h3 (hk b h4) hz,⟨b,off,h3,h4⟩,h5⟩
def WordsM (Q:Nat->Prop) (W:World) (wb:Nat) (items:List ItemG):Prop:=∃(n:Nat) (f:Int->Option KidS),MapF W intW slcShape wb n f/\∀i,WordOk Q W (f i) items i
theorem WordsM.keep {Q:Nat->Prop} {W W':World} {wb:Nat} {items:List ItemG} (h:WordsM Q W wb items) (hw:W'.heap[wb]? = W.heap[wb]?) (hk:∀b,Q b->W'.heap[b]? = W.heap[b]?) (hz:W.heap.size<=W'.heap.size):WordsM Q W' wb items:=by
 obtain⟨n,f,h1,h2⟩:=h;exact⟨n,f,h1.of_block hw,fun i=>(h2 i).keep hk hz⟩
theorem WordsM.lt {Q:Nat->Prop} {W:World} {wb:Nat} {items:List ItemG} (h:WordsM Q W wb items):wb<W.heap.size:=by obtain⟨n,f,h1,_⟩:=h;exact h1.lt
theorem WordsM.look {Q:Nat->Prop} {W:World} {wb:Nat} {items:List ItemG} (h:WordsM Q W wb items) {i:Int} (h1 : -4611686018427387904<=i) (h2:i<=4611686018427387904) :
  ∃(A:Option Addr) (cp:Nat) (xs:List ByteArray),(∀W',W'.heap[wb]? = W.heap[wb]? -> (Instr.lookup 181 (.map (some wb)) (.int .i64 i) false).run Tryz.prog W' = .ok (.slice A xs.length cp) W')/\(∀W',(∀b,Q b->W'.heap[b]? = W.heap[b]?)->W.heap.size<=W'.heap.size->StrS.lies W' ⟨A,cp,xs⟩)/\∀s,(xs.any fun y=>decide (y=s))=Xp items i s:=by
 obtain⟨n,f,hm,hf⟩:=h;have hrun:=fun (W':World) (hw:W'.heap[wb]? = W.heap[wb]?)=>Xa4 Vu Xcw intW slcShape ⟨none,0,0⟩ (Xf2 W') (hm.of_block hw) i (Vp h1 h2);have hi:=hf i;cases hfi:f i with
 | none =>
  rw[hfi] at hrun hi;have hl:∀V:World,StrS.lies V ⟨none,0,[]⟩:=fun V=>⟨.inl rfl,Nat.le_refl _,by show (0:Nat)<=_;omega,fun _=>rfl⟩
  exact⟨none,0,[],hrun,fun V _ _=>hl V,fun s=>by rw[hi s];rfl⟩
 | some v =>
  rw[hfi] at hrun hi;obtain⟨xs,e1,e2,⟨b,off,e3,e4⟩,e5⟩:=hi;refine⟨v.addr,v.cap,xs,?_,fun V hV hz=>Xt4 e2 e3 (hV b e4) hz,e5⟩;rw[<- e1];exact hrun
structure ChEnv (w0:World) (cb kb wb top:Nat) (g:Gram) (its:SlS ItemG) (n:Nat) (W:World):Prop where
 low:Below w0.heap.size w0 W
 chart:Xdf W cb g its n kb wb
 words:WordsM (fun b=>b<top/\b≠kb) W wb its.xs
 hc:w0.heap.size<=cb/\cb<top
 hk:w0.heap.size<=kb/\kb<top
 hw:w0.heap.size<=wb/\wb<top
 kw:kb≠wb
 top:top<=W.heap.size
 kmap:∃es c,W.heap[kb]? = some (.map es c)
theorem ChEnv.kc {w0:World} {cb kb wb top:Nat} {g:Gram} {its:SlS ItemG} {n:Nat} {W:World} (h:ChEnv w0 cb kb wb top g its n W):cb≠kb:=by
 rintro rfl;obtain⟨es,c,hm⟩:=h.kmap;have:=h.chart;unfold Xdf at this;rw[hm] at this;cases this
theorem ChEnv.keep {w0:World} {cb kb wb top:Nat} {g:Gram} {its:SlS ItemG} {n:Nat} {W W':World} (h:ChEnv w0 cb kb wb top g its n W) (ho:W'.os=W.os) (ht:W'.tape=W.tape) (hp:W'.output=W.output) (hz:W.heap.size<=W'.heap.size) (hk:∀b,b<top->b≠kb->W'.heap[b]? = W.heap[b]?) (hm:∃es c,W'.heap[kb]? = some (.map es c)):ChEnv w0 cb kb wb top g its n W' :=
 ⟨⟨ho.trans h.low.os,ht.trans h.low.tape,hp.trans h.low.output,Nat.le_trans h.low.size hz,fun b hb=>(hk b (by have:=h.hk;omega) (by have:=h.hk;omega)).trans (h.low.block b hb)⟩,(hk cb h.hc.2 h.kc).trans h.chart,h.words.keep (hk wb h.hw.2 (Ne.symm h.kw)) (fun b hb=>hk b hb.1 hb.2) hz,h.hc,h.hk,h.hw,h.kw,Nat.le_trans h.top hz,hm⟩
theorem ChEnv.ext {w0:World} {cb kb wb top:Nat} {g:Gram} {its:SlS ItemG} {n:Nat} {W W':World} (h:ChEnv w0 cb kb wb top g its n W) (hb:Below W.heap.size W W'):ChEnv w0 cb kb wb top g its n W':=by
 refine h.keep hb.os hb.tape hb.output hb.size (fun b hp _=>hb.block b (Nat.lt_of_lt_of_le hp h.top)) ?_;obtain⟨es,c,hm⟩:=h.kmap;exact⟨es,c,Xi hb hm⟩
theorem ChEnv.only {w0:World} {cb kb wb top:Nat} {g:Gram} {its:SlS ItemG} {n:Nat} {W W':World} (h:ChEnv w0 cb kb wb top g its n W) {M:Nat->Prop} (hO:Only M W W') (hM:∀b,M b->b=kb\/top<=b) (hm:∃es c,W'.heap[kb]? = some (.map es c)):ChEnv w0 cb kb wb top g its n W' :=
 h.keep hO.os hO.tape hO.output hO.size (fun b hp hne=>hO.block b (Nat.lt_of_lt_of_le hp h.top) fun hb=>by rcases hM b hb with e|e;exact hne e;omega) hm
def Xfd (C N:Nat):List X9:=(List.range C).flatMap fun (c:Nat)=>(List.range (N+1)).flatMap fun (i:Nat)=>(List.range (N+1)).map fun (k:Nat)=>⟨(c:Int),(i:Int),(k:Int)⟩
theorem Xvp {C N c i k:Nat} (hc:c<C) (hi:i<=N) (hk:k<=N):(⟨(c:Int),(i:Int),(k:Int)⟩:X9)∈Xfd C N :=
 List.mem_flatMap.2 ⟨c,List.mem_range.2 hc,List.mem_flatMap.2 ⟨i,List.mem_range.2 (by omega),List.mem_map.2 ⟨k,List.mem_range.2 (by omega),rfl⟩⟩⟩
theorem Xfk {α:Type} (f:Nat->List α) (m:Nat) (h:∀i,(f i).length=m):∀n,((List.range n).flatMap f).length=n*m
 | 0=>by simp
 | n+1=>by rw[List.range_succ,List.flatMap_append,List.length_append,Xfk f m h n];simp[h];rw[Nat.succ_mul]
theorem Xvo (C N:Nat):(Xfd C N).length=C*((N+1)*(N+1)):=by
 refine Xfk _ _ (fun c=>?_) C;refine Xfk _ _ (fun i=>?_) (N+1);rw[List.length_map,List.length_range]
theorem Xvn {C N:Nat} (hC:C<=32) (hN:N<=16):(Xfd C N).length<=9248:=by
 rw[Xvo];have h1:(N+1)*(N+1)<=17*17:=Nat.mul_le_mul (by omega) (by omega);have h2:=Nat.mul_le_mul hC h1;omega
def updF (f:X9->Option FoundG) (x:X9) (c:FoundG):X9->Option FoundG:=fun y=>if y=x then some c else f y
theorem Xh1 (f:X9->Option FoundG) (x:X9) (c:FoundG) (hx:f x=none):∀l:List X9,l.countP (fun y=>(f y).isSome)<=l.countP (fun y=>(updF f x c y).isSome)/\(x∈l->l.countP (fun y=>(f y).isSome)+1<=l.countP (fun y=>(updF f x c y).isSome))
 | []=>⟨Nat.le_refl _,fun h=>by cases h⟩
 | y :: l=>by
  obtain⟨h1,h2⟩:=Xh1 f x c hx l;rw[List.countP_cons,List.countP_cons];by_cases e:y=x
  ·subst e
   rw[show updF f y c y=some c by unfold updF;rw[if_pos rfl],hx];simp only[Option.isSome_none,Option.isSome_some,if_true,Bool.false_eq_true,if_false];exact⟨by omega,fun _=>by omega⟩
  ·rw[show updF f x c y=f y by unfold updF;rw[if_neg e]]
   refine⟨by omega,fun h=>?_⟩;rcases List.mem_cons.1 h with h|h
   ·exact absurd h.symm e
   ·have:=h2 h;omega
def muK (g:Gram) (x:X9):Nat:=muG g x.cat x.frm.toNat x.unt.toNat
def Grew (g:Gram) (m:Nat) (f f':X9->Option FoundG):Prop:=∀x,f' x≠none->f x≠none\/muK g x<m
theorem Grew.refl (g:Gram) (m:Nat) (f:X9->Option FoundG):Grew g m f f:=fun _ h => .inl h
theorem Grew.trans {g:Gram} {m:Nat} {f f' f'':X9->Option FoundG} (h:Grew g m f f') (k:Grew g m f' f''):Grew g m f f'':=fun x hx=>by
 rcases k x hx with h1|h1
 ·exact h x h1
 ·exact .inr h1
theorem Grew.mono {g:Gram} {m m':Nat} {f f':X9->Option FoundG} (h:Grew g m f f') (hm:m<=m'):Grew g m' f f':=fun x hx=>(h x hx).imp id fun h=>by omega
structure KnownF (X:Nat->Prop) (g:Gram) (items:List ItemG) (N:Nat) (kb:Nat) (f:X9->Option FoundG) (W:World):Prop where
 map:MapF W T3 foundShape kb ((Xfd g.cats.xs.length N).countP fun x=>(f x).isSome) f
 ok:∀x fd,f x=some fd->∃i k:Nat,x.frm=i/\x.unt=k/\FoundOk X W fd (Fd.of bigN (derG g items x.cat i k))
theorem KnownF.keep {X X':Nat->Prop} {g:Gram} {items:List ItemG} {N kb:Nat} {f:X9->Option FoundG} {W W':World} (h:KnownF X g items N kb f W) (hk:W'.heap[kb]? = W.heap[kb]?) (ht:∀t x,TreeW X W t x->TreeW X' W' t x):KnownF X' g items N kb f W' :=
 ⟨h.map.of_block hk,fun x fd hx=>by obtain⟨i,k,h1,h2,h3⟩:=h.ok x fd hx;exact⟨i,k,h1,h2,h3.keep ht⟩⟩
theorem KnownF.ext {X:Nat->Prop} {g:Gram} {items:List ItemG} {N kb:Nat} {f:X9->Option FoundG} {W W':World} (h:KnownF X g items N kb f W) (hb:Below W.heap.size W W'):KnownF X g items N kb f W' :=
 h.keep (hb.block _ h.map.lt) fun _ _ ht=>ht.ext hb
theorem KnownF.kmap {X:Nat->Prop} {g:Gram} {items:List ItemG} {N kb:Nat} {f:X9->Option FoundG} {W:World} (h:KnownF X g items N kb f W):∃es c,W.heap[kb]? = some (.map es c):=by
 obtain⟨_,⟨_,_,hm,_⟩,_⟩:=h.map;exact⟨_,_,hm⟩
theorem Xfb {c i k:Int} (h1 : -4611686018427387904<=c/\c<=4611686018427387904) (h2 : -4611686018427387904<=i/\i<=4611686018427387904) (h3 : -4611686018427387904<=k/\k<=4611686018427387904):Z8 ⟨c,i,k⟩:=⟨Vp h1.1 h1.2,Vp h2.1 h2.2,Vp h3.1 h3.2⟩
theorem KnownF.look {X:Nat->Prop} {g:Gram} {items:List ItemG} {N kb:Nat} {f:X9->Option FoundG} {W:World} (h:KnownF X g items N kb f W) {c i k:Int} (hg:Z8 ⟨c,i,k⟩) :
  (Instr.lookup 180 (.map (some kb)) (.agg #[.int .i64 c,.int .i64 i,.int .i64 k]) true).run Tryz.prog W = .ok (.tuple #[((f ⟨c,i,k⟩).getD Xjp).val,.bool (f ⟨c,i,k⟩).isSome]) W :=
 Vf W Xay Xcn T3 foundShape Xjp (Xcd W) h.map ⟨c,i,k⟩ hg
theorem KnownF.store {X:Nat->Prop} {g:Gram} {items:List ItemG} {N kb:Nat} {f:X9->Option FoundG} {W:World} (h:KnownF X g items N kb f W) {c i k:Nat} (hc:c<g.cats.xs.length) (hi:i<=N) (hk:k<=N) (hC:g.cats.xs.length<=32) (hN:N<=16) (hn:f ⟨c,i,k⟩=none)
  {fd:FoundG} (hf:FoundOk X W fd (Fd.of bigN (derG g items c i k))) :
  ∃W',(Instr.mapUpdate 180 (.map (some kb)) (.agg #[.int .i64 c,.int .i64 i,.int .i64 k]) (fd.vl)).run Tryz.prog W = .ok () W' /\
   KnownF X g items N kb (updF f ⟨c,i,k⟩ fd) W'/\FoundOk X W' fd (Fd.of bigN (derG g items c i k))/\Only (fun j=>j=kb) W W'/\W'.heap.size=W.heap.size:=by
 have hcount:=Xh1 f ⟨c,i,k⟩ fd hn (Xfd g.cats.xs.length N);have hmem:=Xvp hc hi hk;have hle:(Xfd g.cats.xs.length N).countP (fun x=>(f x).isSome)<=9248:=Nat.le_trans List.countP_le_length (Xvn hC hN);obtain⟨W',hrun,hm,hg,hz⟩:=h.map.store _ Xay Xcn (by unfold maxLen;omega) (⟨c,i,k⟩:X9) fd (Xfb ⟨by omega,by omega⟩ ⟨by omega,by omega⟩ ⟨by omega,by omega⟩);obtain⟨es,cl,hkm⟩:=h.kmap;have hO:Only (fun j=>j=kb) W W':=⟨hg.os,hg.tape,hg.output,hg.size,fun b hb hne=>hg.block b hb (fun e=>hne (by have e:=Option.some.inj e;exact e.symm ▸ rfl))⟩
 have ht:∀t x,TreeW X W t x->TreeW X W' t x:=fun t x ht=>ht.only hO fun b hb h=>by
  obtain⟨⟨cs,fr,hb'⟩,_⟩:=h;rw[show b=kb from hb,hkm] at hb';cases hb'
 have hf':=hf.keep ht;refine⟨W',hrun,⟨hm.mono (hcount.2 hmem),fun x fd' hx=>?_⟩,hf',hO,hz⟩;unfold updF at hx;split at hx
 ·rename_i e
  cases hx;subst e;exact⟨i,k,rfl,rfl,hf'⟩
 ·obtain⟨i',k',h1,h2,h3⟩:=h.ok x fd' hx
  exact⟨i',k',h1,h2,h3.keep ht⟩
def TreeG.cells (x:TreeG):List Value:=[.int .i64 x.rule,.int .i64 x.item,.int .i64 x.frm,.int .i64 x.unt,.slice x.kids.addr x.kids.len x.kids.cap]
theorem TreeG.size_cells (x:TreeG):x.cells.length=5:=rfl
theorem Xri:(Tryz.prog.info? 37).map (fun i=>(i.size,i.bytes))=some (5,56):=by kernel_rfl
abbrev OwnK (w:World) (base:Nat) (v:Value) (l:List TreeG):Prop:=OwnL TreeG.cells 37 5 w base v l
structure KidsW (X:Nat->Prop) (base:Nat) (v:Value) (kids:List TreeV) (ks:List TreeG) (W:World):Prop where
 own:OwnK W base v ks
 at_:KidsAt W (fun b=>KidP W b/\¬(X b\/v.ownBlock=some b)) kids (ks.map TreeG.cells)
theorem KidsW.nil (X:Nat->Prop) (base:Nat) (W:World):KidsW X base (.slice none 0 0) [] [] W:=⟨OwnL.nil _ _ _ _ _,rfl⟩
theorem KidsW.len {X:Nat->Prop} {base:Nat} {v:Value} {kids:List TreeV} {ks:List TreeG} {W:World} (h:KidsW X base v kids ks W):ks.length=kids.length:=by
 have:=Xdl h.at_
 rwa [List.length_map] at this
theorem KidsAt.other {w w':World} {P P':Nat->Prop} {l:List TreeV} {css:List (List Value)} (h:KidsAt w P l css) (hk:∀b,P b->b<w.heap.size->w'.heap[b]? = w.heap[b]?) (hs:w.heap.size<=w'.heap.size) (hP:∀b,P b->P' b):KidsAt w' P' l css:=KidsAt.keep hk hs hP h
theorem KidsW.keep {X:Nat->Prop} {base:Nat} {v:Value} {kids:List TreeV} {ks:List TreeG} {W W':World} (h:KidsW X base v kids ks W) (hz:W.heap.size<=W'.heap.size) (hk:∀b,(v.ownBlock=some b\/(KidP W b/\¬X b))->W'.heap[b]? = W.heap[b]?):KidsW X base v kids ks W' :=
 ⟨h.own.block fun g hg=>hk g (.inl hg),h.at_.other (fun b ⟨h1,h2⟩ _=>hk b (.inr ⟨h1,fun hx=>h2 (.inl hx)⟩)) hz fun b ⟨⟨cs,fr,h1⟩,h2⟩=>⟨⟨cs,fr,(hk b (.inr ⟨⟨cs,fr,h1⟩,fun hx=>h2 (.inl hx)⟩)).trans h1⟩,h2⟩⟩
theorem OwnK.kid {W:World} {base:Nat} {v:Value} {ks:List TreeG} (h:OwnK W base v ks) {g:Nat} (hg:v.ownBlock=some g):KidP W g:=by
 rcases h.2 with ⟨h1,_⟩|⟨g9,c9,cur,h1,_,h3,_⟩
 ·rw[h1] at hg;cases hg
 ·rw[h1] at hg;cases hg;exact⟨_,_,h3⟩
theorem KidsW.snoc {X:Nat->Prop} {base:Nat} {v v':Value} {kids:List TreeV} {ks:List TreeG} {W W1:World} (h:KidsW X base v kids ks W) {t:TreeV} {x:TreeG} (ht:TreeW (fun b=>X b\/v.ownBlock=some b) W t x) (ho:OwnK W1 base v' (ks++[x])) (hg:W.grownBy W1 v.ownBlock) (hv:v'.ownBlock=v.ownBlock\/v'.ownBlock=some W.heap.size):KidsW X base v' (kids++[t]) (ks++[x]) W1:=by
 have hk:∀b,KidP W b/\¬(X b\/v.ownBlock=some b)->b<W.heap.size->W1.heap[b]? = W.heap[b]? := fun b hb hlt=>hg.block b hlt fun e=>hb.2 (.inr e.symm)
 have hP:∀b,KidP W b/\¬(X b\/v.ownBlock=some b)->KidP W1 b/\¬(X b\/v'.ownBlock=some b):=fun b ⟨⟨cs,fr,h1⟩,h2⟩=>⟨⟨cs,fr,(hk b ⟨⟨cs,fr,h1⟩,h2⟩ (Xd h1)).trans h1⟩,fun hx=>by
  rcases hx with hx|hx
  ·exact h2 (.inl hx)
  ·rcases hv with e|e
   ·exact h2 (.inr (e ▸ hx))
   ·rw[e] at hx
    cases hx;have:=Xd h1;omega⟩
 refine⟨ho,?_⟩;rw[List.map_append];exact KidsAt.snoc (TreeAt.keep hk hg.size hP ht) (h.at_.other hk hg.size hP)
theorem KidsW.tree {X:Nat->Prop} {base:Nat} {v:Value} {kids:List TreeV} {ks:List TreeG} {W:World} (h:KidsW X base v kids ks W) (hX:∀b,X b->b<base) (r j i k:Int) :
  ∃A cap,v = .slice A kids.length cap/\TreeW X W (.node r j i k kids) ⟨r,j,i,k,⟨A,kids.length,cap⟩⟩:=by
 have hl:=h.len;obtain⟨A,c,rfl,hr,hn⟩:=h.own.form (by decide)
 have hb:ks.length<=c/\c<=9223372036854775807/\(0<ks.length->∃b off,A=some ⟨b,off,none⟩/\base<=b/\KidP W b):=by
  rcases h.own.2 with ⟨h1,h2⟩|⟨g9,c9,cur,h1,h2,h3,h4,h5,_⟩
  ·injection h1 with _ e2 e3
   exact⟨by omega,by omega,fun h0=>by omega⟩
  ·injection h1 with e1 _ e3
   subst e3;exact⟨h4,by unfold maxLen at h5;omega,fun _=>⟨g9,0,e1,h2,_,_,h3⟩⟩
 rw[hl] at hb;refine⟨A,c,by rw[hl],?_⟩;unfold TreeW TreeAt;refine⟨A,c,ks.map TreeG.cells,rfl,hb.1,hb.2.1,fun h0=>?_,fun h0=>?_,?_,h.at_.other (fun _ _ _=>rfl) (Nat.le_refl _) fun b hb=>⟨hb.1,fun hx=>hb.2 (.inl hx)⟩⟩
 ·have:=hn h0
  rw[this] at hl;exact List.eq_nil_of_length_eq_zero hl.symm
 ·obtain⟨b,off,e,h1,h2⟩:=hb.2.2 h0
  exact⟨b,off,e,h2,fun hx=>by have:=hX b hx;omega⟩
 ·have e:(ks.map TreeG.cells).flatten=ks.flatMap TreeG.cells:=by rw[List.flatMap_def]
  rw[e];exact hr
end Go.Proofs.YtolpbjjapodmnaaGreatDoor
/- Inside the wide fence: a region that only reads, up to a call at its end. Plain theorems about the machine's steps. Conditions: none. -/
namespace Go.Han
open Go.RowKit
section
variable {P:Program} {ops:Array Oper} {md:Region.Mode} {w:World}
theorem Xni {o:Oper} {a:Act} {n:Nat} {K:Act->Prop} {K':Act->World->Prop} {Q':Exit->Act->World->Prop} (h:∀a,K a->K' a w) (hh:o.still P a w K):o.wpIn Fence.wide n P a w K' Q':=by
 unfold Oper.still at hh;unfold Oper.wpIn;refine⟨fun f _=>trivial,?_⟩;rw[show Fence.wide.round=none from rfl,Oper.semAt_none];generalize (execOp a.eval o).run P w=r at *;cases r with
 | ok x w' =>
  cases x<;>simp only[Oper.stillUpon] at hh<;>simp only[Oper.uponIn]
  case enter f args =>
   obtain⟨rfl,v,hc,hn⟩:=hh;refine⟨(fun h=>by cases h),callsIn_wide.2 (hc.mono fun e w'' ⟨he,hw⟩=>?_)⟩;subst he;subst hw;exact h _ hn
  all_goals (obtain⟨rfl,h2⟩:=hh;exact h _ h2)
 | halt x w'=>simp only[Oper.stillUpon] at hh
theorem Xp9 {n i:Nat} {a:Act} {K:Act->Prop} {K':Act->World->Prop} {Q':Exit->Act->World->Prop} (h:∀a,K a->K' a w) (hh:stOp P ops w i K a):wpOpIn Fence.wide n P ops Q' i K' a w:=by
 unfold stOp at hh;unfold wpOpIn;split
 ·rename_i ho;simp only[ho] at hh;exact h _ hh
 ·rename_i o ho
  simp only[ho] at hh;split
  ·rename_i hw;simp only[hw,if_true] at hh;exact Xni h hh
  ·rename_i hw;simp only[hw] at hh;exact⟨fun _ _=>trivial,h _ hh⟩
theorem Xg2 {n m g:Nat} {L:Array Bool->Act->Prop} {Q':Exit->Act->World->Prop} (hL:∀listed a,L listed a->wpAnyIn Fence.wide m P md ops Q' g listed a w) :
  ∀(f:Nat) (listed:Array Bool) (a:Act),wpAnyL P md ops w n L f listed a->wpAnyIn Fence.wide m P md ops Q' (f+g) listed a w
 | 0,listed,a,h=>by rw[Nat.zero_add];exact hL _ _ h
 | f+1,listed,a,h=>by
  rw[show f+1+g=(f+g)+1 by omega];exact⟨fun h0=>absurd h0 h.1,fun i hi=>Xp9 (fun a' h'=>Xg2 hL f _ a' h') (h.2 i hi).2⟩
theorem Xjk {m:Nat} {Q':Exit->Act->World->Prop}:∀(l:List Oper) (k:Nat) (listed:Array Bool) (a:Act) (w:World),(∀j,l[j]? = ops[k+j]?) ->
  Region.seqB md ops l.length k listed=true->wpListIn Fence.wide m P ops Q' l a w->wpAnyIn Fence.wide m P md ops Q' l.length listed a w
 | [],_,_,_,_,_,hB,h=>⟨by simpa[Region.seqB] using hB,h⟩
 | o :: l,k,listed,a,w,hl,hB,h=>by
  have h0:ops[k]? = some o:=by simpa using (hl 0).symm
  simp only[List.length_cons,Region.seqB,Bool.and_eq_true,decide_eq_true_eq] at hB;refine⟨fun h1=>(by rw[hB.1] at h1;cases h1),fun i hi=>?_⟩;rw[hB.1] at hi;have hik:i=k:=by simpa using hi
  subst hik;have hw:wpOpIn Fence.wide m P ops Q' i (wpListIn Fence.wide m P ops Q' l) a w:=by unfold wpOpIn;simp only[h0];exact h
  exact wpOpIn_mono (fun a' w' h'=>Xjk l (i+1) _ a' w' (fun j=>by have:=hl (j+1);simpa[Nat.add_assoc,Nat.add_comm 1 j] using this) hB.2 h') hw
theorem Zz {id m:Nat} {Q:Exit->Act->World->Prop} {a:Act} {w:World} {l:List Oper} (n:Nat) (hm:P.follows .mixedOrders=true) (hB:Region.lexTailB .any l.toArray n=true)
  (h:wpStill P l.toArray w.drew (fun a'=>wpListIn Fence.wide m P l.toArray Q (l.drop n) a' w.drew) (l.take n) a):(Code.region id l.toArray true).wpIn Fence.wide m P Q a w:=by
 simp only[Region.lexTailB,Bool.and_eq_true,decide_eq_true_eq] at hB;obtain⟨⟨⟨⟨hsel,hn⟩,hs⟩,hc⟩,hlex⟩:=hB;have hn':n<l.length:=by simpa using hn
 have htl:(l.take n).length=n:=by simp;omega
 have hdl:(l.drop n).length=l.toArray.size-n:=by simp
 have inv0:HeadInv .any l.toArray n (Array.replicate l.toArray.size false) :=
  ⟨by simp,fun j oj _ hl=>(by rw[getD_replicate_false] at hl;cases hl),fun t _ ht=>getD_in (by simpa using ht) (getD_replicate_false _ _)⟩
 have H:=wpAnyL_lex (md:=.any) (g:=l.toArray.size-n) hsel hs hc hn (l.take n) 0 _ a (fun j hj=>by
  have hj':j<n:=by rw[htl] at hj;exact hj
  simp[hj']) (by simpa using htl) inv0 (by rw[htl];exact hlex) h
 refine wpIn_region_any hm ?_
 have:=Xg2 (m:=m) (Q':=Q) (g:=l.toArray.size-n) (fun listed a' hL=>by
  have:=Xjk (m:=m) (md:=.any) (Q':=Q) (l.drop n) n listed a' w.drew (fun j=>by simp[List.getElem?_drop]) (by rw[hdl];exact hL.1) hL.2
  rwa [hdl] at this) _ _ _ H
 rw[htl,show n+(l.toArray.size-n)=l.toArray.size by omega] at this;exact this
theorem Xjn {F:Fence} {n:Nat} {c:Code} {Q:Exit->Act->World->Prop} {a aF:Act} {Phi:World->Prop} (h:c.wpIn F n P (Exit.then (fun a' v=>a'=aF/\Phi v) (fun _ _ _=>False)) a w) (k:∀v,Phi v->Q .normal aF v):c.wpIn F n P Q a w :=
 wpIn_mono h (fun e a' v hh=>by
  cases e with
  | normal=>obtain⟨h2,h3⟩:=hh;subst h2;exact k v h3
  | _=>exact hh.elim)
end
end Go.Han
/- Inside the wide fence: the orders of a drawn region, with a class of worlds that no operation leaves: what reads the same in all of them may be taken first. Plain theorems about the machine's steps. Conditions: none. -/
namespace Go.Han
open Go.RowKit
section
variable {P:Program} {ops:Array Oper} {C:World->Prop} {Q:Exit->Act->World->Prop} {m:Nat}
def wpAnyC (m:Nat) (P:Program) (ops:Array Oper) (C:World->Prop) (Q:Exit->Act->World->Prop):Nat->Array Bool->Act->World->Prop
 | 0,listed,a,w=>C w/\Region.ready .any ops listed=[]/\Q .normal a w
 | f+1,listed,a,w=>C w/\(Region.ready .any ops listed=[]->Q .normal a w)/\∀i∈Region.ready .any ops listed,wpOpIn Fence.wide m P ops Q i (wpAnyC m P ops C Q f (listed.setIfInBounds i true)) a w
theorem wpAnyC.any:∀ {f:Nat} {listed:Array Bool} {a:Act} {w:World},wpAnyC m P ops C Q f listed a w->wpAnyIn Fence.wide m P .any ops Q f listed a w
 | 0,_,_,_,h=>h.2
 | _+1,_,_,_,h=>⟨h.2.1,fun i hi=>wpOpIn_mono (fun _ _ h'=>h'.any) (h.2.2 i hi)⟩
def SameC (P:Program) (ops:Array Oper) (C:World->Prop) (o:Oper) (v:Value) (a:Act):Prop :=
 (Region.wanted o (yielded ops a.tmps)=true/\∀w,C w->(execOp a.eval o).run P w = .ok (.value v) w)\/(Region.wanted o (yielded ops a.tmps)=false/\v=undef)
theorem SameC.step {i:Nat} {o:Oper} {v:Value} {a:Act} {w:World} {K:Act->World->Prop} (hi:ops[i]? = some o) (hy:SameC P ops C o v a) (hC:C w) (h:K (a.put o.dst v) w):wpOpIn Fence.wide m P ops Q i K a w:=by
 unfold wpOpIn;rw[hi];show if _ then _ else _
 rcases hy with ⟨hw,hv⟩|⟨hw,rfl⟩
 ·rw[if_pos hw]
  refine⟨fun _ _=>trivial,?_⟩;rw[show Fence.wide.round=none from rfl,Oper.semAt_none,hv w hC];exact h
 ·rw[if_neg (by rw[hw];decide)]
  exact⟨fun _ _=>trivial,h⟩
theorem SameC.swap {j:Nat} {oi oj:Oper} {v:Value} {K:Act->World->Prop} {a:Act} {w:World} (hj:ops[j]? = some oj) (hap:oi.apart ops oj=true)
  (hsi:∀cs b,oi.op ≠ .select cs b) (hsj:∀cs b,oj.op ≠ .select cs b) (hQ:∀c a w,Q (.panic c) (a.put oi.dst v) w->Q (.panic c) a w)
  (hy:SameC P ops C oi v a) (h:wpOpIn Fence.wide m P ops Q j K (a.put oi.dst v) w) :
  wpOpIn Fence.wide m P ops Q j (fun a' w'=>SameC P ops C oi v a'/\K (a'.put oi.dst v) w') a w:=by
 obtain⟨p1,p2,p3⟩:=Oper.apart_spec hap
 have kp:∀ {b:Act},SameC P ops C oi v b->∀u,SameC P ops C oi v (b.put oj.dst u):=fun {b} hb u=>by
  unfold SameC;rw[execOp_put oi hsi b oj.dst u p3,wanted_put oi b oj.dst u p3];exact hb
 have pc:∀(b:Act) u,(b.put oj.dst u).put oi.dst v=(b.put oi.dst v).put oj.dst u:=fun b u=>(Act.put_comm b v u p2).symm;unfold wpOpIn at h ⊢;rw[hj] at h ⊢
 replace h:if _ then _ else _:=h
 show if _ then _ else _
 rw[wanted_put oj a oi.dst v p1] at h;by_cases hw:Region.wanted oj (yielded ops a.tmps)=true
 ·rw[if_pos hw] at h ⊢
  refine⟨fun _ _=>trivial,?_⟩;have h2:=h.2;rw[show Fence.wide.round=none from rfl,Oper.semAt_none,execOp_put oj hsj a oi.dst v p1] at h2;rw[show Fence.wide.round=none from rfl,Oper.semAt_none]
  revert h2
  generalize (execOp a.eval oj).run P w=r;intro h2
  match r,h2 with
  | .ok (.value u) w',h2=>exact⟨kp hy u,(pc a u) ▸ h2⟩
  | .ok .skip w',h2=>exact⟨kp hy _,(pc a undef) ▸ h2⟩
  | .ok (.defer d) w',h2 =>
   refine⟨kp (b:={a with defers:=d :: a.defers}) hy _,?_⟩;rw[pc,<- Act.put_defers];exact h2
  | .ok (.enter f args) w',h2 =>
   refine⟨h2.1,CallsIn.mono h2.2 fun e w'' he=>?_⟩
   match e,he with
   | .returned u,he=>exact⟨kp hy u,(pc a u) ▸ he⟩
   | .panicked c,he=>exact hQ _ _ _ he
   | .outgrown,he=>exact he
  | .ok (.row row args) w',h2=>exact⟨h2.1,RowsIn.mono h2.2 fun u w'' he=>⟨kp hy u,(pc a u) ▸ he⟩⟩
  | .ok (.round l f tmps assign body) w',h2 =>
   refine⟨h2.1,RoundIn.mono h2.2 fun e w'' he=>?_⟩
   match e,he with
   | .returned u,he=>exact⟨kp hy u,(pc a u) ▸ he⟩
   | .panicked c,he=>exact hQ _ _ _ he
   | .outgrown,he=>exact he
  | .halt (.panic u) w',h2=>exact hQ _ _ _ h2
 ·rw[if_neg hw] at h ⊢
  exact⟨fun _ _=>trivial,kp hy _,(pc a undef) ▸ h.2⟩
theorem Xjh {listed:Array Bool} {i:Nat} (h:i∈Region.ready .any ops listed):listed.getD i false=false:=by
 have h0:=(mem_ready.1 h).1;exact getD_both h0
theorem Xbb {i:Nat} {oi:Oper} {v:Value} (hi:ops[i]? = some oi) (hsel:∀(j:Nat) (o:Oper) cs b,ops[j]? = some o->o.op ≠ .select cs b) (hQ:∀c a w,Q (.panic c) (a.put oi.dst v) w->Q (.panic c) a w) :
  ∀(f:Nat) (listed:Array Bool) (a:Act) (w:World),
   (∀j oj,ops[j]? = some oj->j≠i->listed.getD j true=false->(∀e∈oj.after,Region.binds .any e=true->e.on≠i)->oi.apart ops oj=true) ->
   i∈Region.ready .any ops listed->SameC P ops C oi v a->wpAnyC m P ops C Q f (listed.setIfInBounds i true) (a.put oi.dst v) w->wpAnyC m P ops C Q (f+1) listed a w
 | 0,listed,a,w,_,hr,hy,H=>by
  refine⟨H.1,fun h=>absurd hr (by rw[h];simp),fun j hj=>?_⟩;by_cases e:j=i
  ·rw[e];exact hy.step hi H.1 H
  ·have:=ready_mono hj e
   rw[H.2.1] at this;cases this
 | f+1,listed,a,w,hfree,hr,hy,H=>by
  refine⟨H.1,fun h=>absurd hr (by rw[h];simp),fun j hj=>?_⟩;by_cases e:j=i
  ·rw[e];exact hy.step hi H.1 H
  ·obtain⟨hun,oj,hoj,hall⟩:=mem_ready.1 hj
   have hno:∀x∈oj.after,Region.binds .any x=true->x.on≠i:=fun x hx hb he=>by
    have h1:=hall x hx hb;rw[he,Xjh hr] at h1;cases h1
   have h2:=SameC.swap hoj (hfree j oj hoj e hun hno) (fun cs b=>hsel i oi cs b hi) (fun cs b=>hsel j oj cs b hoj) hQ hy (H.2.2 j (ready_mono hj e));refine wpOpIn_mono (fun a' w' h3=>Xbb hi hsel hQ f (listed.setIfInBounds j true) a' w' (fun k ok hk hki hunk hnok=>?_) (ready_mono hr (Ne.symm e)) h3.1 ?_) h2
   ·refine hfree k ok hk hki ?_ hnok
    by_cases hjk:j=k
    ·rw[<- hjk];exact hun
    ·rw[getD_set_ne true hjk] at hunk;exact hunk
   ·rw[Array.setIfInBounds_comm _ _ e]
    exact h3.2
theorem Xqd {i:Nat} {oi:Oper} {v:Value} {f:Nat} {listed:Array Bool} {a:Act} {w:World} (hi:ops[i]? = some oi) (hs:Region.noSelect ops=true) (hf:Region.free .any ops listed i=true)
  (hr:(Region.ready .any ops listed).contains i=true) (hQ:∀c a w,Q (.panic c) (a.put oi.dst v) w->Q (.panic c) a w) (hw:Region.wanted oi (yielded ops a.tmps)=true) (hy:∀w,C w->(execOp a.eval oi).run P w = .ok (.value v) w)
  (h:wpAnyC m P ops C Q f (listed.setIfInBounds i true) (a.put oi.dst v) w):wpAnyC m P ops C Q (f+1) listed a w :=
 Xbb hi (Region.noSelect_spec hs) hQ f listed a w (Region.free_spec hi hf) (by simpa using hr) (.inl ⟨hw,hy⟩) h
def takeB (ops:Array Oper) (listed:Array Bool) (i:Nat) (tmps:Array Value):Bool:=match ops[i]? with
 | some o=>Region.noSelect ops && Region.free .any ops listed i && (Region.ready .any ops listed).contains i && Region.wanted o (yielded ops tmps)
 | none=>false
theorem Xc {i:Nat} {oi:Oper} {v:Value} {f:Nat} {listed:Array Bool} {a:Act} {w:World} (h:wpAnyC m P ops C Q f (listed.setIfInBounds i true) (a.put oi.dst v) w) (hi:ops[i]? = some oi:=by exact rfl) (hb:takeB ops listed i a.tmps=true:=by kernel_rfl) (hQ:∀c a w,Q (.panic c) (a.put oi.dst v) w->Q (.panic c) a w:=by exact fun _ _ _ h=>h) (hy:∀w,C w->(execOp a.eval oi).run P w = .ok (.value v) w:=by intro V hV;go_simp<;>rfl):wpAnyC m P ops C Q (f+1) listed a w:=by
 unfold takeB at hb;rw[hi] at hb;simp only[Bool.and_eq_true] at hb;obtain⟨⟨⟨h1,h2⟩,h3⟩,h4⟩:=hb;exact Xqd hi h1 h2 h3 hQ h4 hy h
theorem Xqc {i:Nat} {oi:Oper} {f:Nat} {listed:Array Bool} {a:Act} {w:World} (hi:ops[i]? = some oi) (hs:Region.noSelect ops=true) (hf:Region.free .any ops listed i=true)
  (hr:(Region.ready .any ops listed).contains i=true) (hQ:∀c a w,Q (.panic c) (a.put oi.dst undef) w->Q (.panic c) a w) (hw:Region.wanted oi (yielded ops a.tmps)=false)
  (h:wpAnyC m P ops C Q f (listed.setIfInBounds i true) (a.put oi.dst undef) w):wpAnyC m P ops C Q (f+1) listed a w :=
 Xbb hi (Region.noSelect_spec hs) hQ f listed a w (Region.free_spec hi hf) (by simpa using hr) (.inr ⟨hw,rfl⟩) h
def dropB (ops:Array Oper) (listed:Array Bool) (i:Nat) (tmps:Array Value):Bool:=match ops[i]? with
 | some o=>Region.noSelect ops && Region.free .any ops listed i && (Region.ready .any ops listed).contains i && !Region.wanted o (yielded ops tmps)
 | none=>false
theorem Xj {i:Nat} {oi:Oper} {f:Nat} {listed:Array Bool} {a:Act} {w:World} (h:wpAnyC m P ops C Q f (listed.setIfInBounds i true) (a.put oi.dst undef) w) (hi:ops[i]? = some oi:=by exact rfl) (hb:dropB ops listed i a.tmps=true:=by kernel_rfl) (hQ:∀c a w,Q (.panic c) (a.put oi.dst undef) w->Q (.panic c) a w:=by exact fun _ _ _ h=>h):wpAnyC m P ops C Q (f+1) listed a w:=by
 unfold dropB at hb;rw[hi] at hb;simp only[Bool.and_eq_true,Bool.not_eq_true'] at hb;obtain⟨⟨⟨h1,h2⟩,h3⟩,h4⟩:=hb;exact Xqc hi h1 h2 h3 hQ h4 h
def AllC (m:Nat) (P:Program) (ops:Array Oper) (C:World->Prop) (Q:Exit->Act->World->Prop) (f:Nat) (listed:Array Bool) (a:Act) (w:World) (rs:List Nat):Prop :=
 ∀i∈rs,wpOpIn Fence.wide m P ops Q i (wpAnyC m P ops C Q f (listed.setIfInBounds i true)) a w
theorem AllC.nil {f:Nat} {listed:Array Bool} {a:Act} {w:World}:AllC m P ops C Q f listed a w []:=fun _ h=>by cases h
theorem AllC.cons {f:Nat} {listed:Array Bool} {a:Act} {w:World} {i:Nat} {o:Oper} {rs:List Nat} (ho:ops[i]? = some o)
  (h:∀K':Act->World->Prop,(∀a w,wpAnyC m P ops C Q f (listed.setIfInBounds i true) a w->K' a w)->if Region.wanted o (yielded ops a.tmps)=true then Oper.wpIn Fence.wide m P o a w K' Q else (∀f,o.about P w a.eval=some f->Fence.wide.fn f)/\K' (a.put o.dst undef) w)
  (hs:AllC m P ops C Q f listed a w rs):AllC m P ops C Q f listed a w (i :: rs):=fun j hj=>by
 rcases List.mem_cons.1 hj with rfl|hj
 ·exact wpOpIn_step ho h
 ·exact hs j hj
theorem Xl {rs:List Nat} {f:Nat} {listed:Array Bool} {a:Act} {w:World} (hC:C w) (hr:Region.ready .any ops listed=rs) (hne:rs≠[]) (h:AllC m P ops C Q f listed a w rs):wpAnyC m P ops C Q (f+1) listed a w :=
 ⟨hC,fun h0=>absurd (hr ▸ h0) hne,hr ▸ h⟩
theorem Xh {i:Nat} {o:Oper} {f:Nat} {listed:Array Bool} {a:Act} {w:World} (hC:C w)
  (h:∀K':Act->World->Prop,(∀a w,wpAnyC m P ops C Q f (listed.setIfInBounds i true) a w->K' a w)->if Region.wanted o (yielded ops a.tmps)=true then Oper.wpIn Fence.wide m P o a w K' Q else (∀f,o.about P w a.eval=some f->Fence.wide.fn f)/\K' (a.put o.dst undef) w) (hr:Region.ready .any ops listed=[i]:=by kernel_rfl) (ho:ops[i]? = some o:=by exact rfl):wpAnyC m P ops C Q (f+1) listed a w :=
 Xl hC hr (by simp) (AllC.cons ho h AllC.nil)
theorem Xk {listed:Array Bool} {a:Act} {w:World} (hC:C w) (hr:Region.ready .any ops listed=[]) (h:Q .normal a w):∀f,wpAnyC m P ops C Q f listed a w
 | 0=>⟨hC,hr,h⟩
 | _+1=>⟨hC,fun _=>h,by rw[hr];simp⟩
theorem Xn {id:Nat} {a:Act} {w:World} (C:World->Prop) (hm:P.follows .mixedOrders=true) (h:wpAnyC m P ops C Q ops.size (Array.replicate ops.size false) a w.drew):(Code.region id ops true).wpIn Fence.wide m P Q a w :=
 wpIn_region_any hm h.any
theorem Xtc {β:Type} {F:Fence} {n:Nat} {c:Code} {a:Act} {w:World} (Fr:β->Act) (Phi:β->World->Prop) (h:c.wpIn F n P (Exit.then (fun a' v=>∃u,a'=Fr u/\Phi u v) (fun _ _ _=>False)) a w) (k:∀u v,Phi u v->Q .normal (Fr u) v):c.wpIn F n P Q a w :=
 wpIn_mono h (fun e a' v hh=>by
  cases e with
  | normal=>obtain⟨u,h2,h3⟩:=hh;subst h2;exact k u v h3
  | _=>exact hh.elim)
end
end Go.Han
/- A group of operations of a drawn region, each of which tells of its own result alone, in whatever world: their orders need not be told apart. Plain theorems about the machine's steps. Conditions: none. -/
namespace Go.Han
open Go.RowKit
section
variable {P:Program} {ops:Array Oper} {C:World->Prop} {Q:Exit->Act->World->Prop} {m:Nat}
def Xfe (ops : Array Oper) (T : List (Nat × List Nat)) (e : Array Bool) : Nat -> List (Nat × List Nat) -> Array Bool -> Bool
  | 0, L, listed => L.isEmpty && decide (listed = e)
  | f + 1, L, listed => !(Region.ready .any ops listed).isEmpty && (Region.ready .any ops listed).all fun i =>
      L.any (fun x => x.1 == i && x.2.all (fun k => T.any (fun y => y.1 == k) && !L.any (fun y => y.1 == k))) && Xfe ops T e f (L.filter (fun y => y.1 != i)) (listed.setIfInBounds i true)
def updV (vals:Nat->Value) (i:Nat) (u:Value):Nat->Value:=fun j=>if j=i then u else vals j
def StepG (m:Nat) (P:Program) (ops:Array Oper) (C:World->Prop) (Q:Exit->Act->World->Prop) (A:(Nat->Value)->Act) (Phi:Nat->Value->World->Prop) (x:Nat×List Nat):Prop :=
 ∃o,ops[x.1]? = some o/\∀(vals:Nat->Value) (V:World),C V->(∀k∈x.2,Phi k (vals k) V)->∀K':Act->World->Prop,(∀u V',C V'->Below V.heap.size V V'->Phi x.1 u V'->K' (A (updV vals x.1 u)) V') ->
  Region.wanted o (yielded ops (A vals).tmps)=true/\Oper.wpIn Fence.wide m P o (A vals) V K' Q
theorem Xdd {A:(Nat->Value)->Act} {Phi:Nat->Value->World->Prop} (hP:∀i u V V',Phi i u V->Below V.heap.size V V'->Phi i u V') {T:List (Nat×List Nat)} {e:Array Bool} (hs:∀x∈T,StepG m P ops C Q A Phi x) {f:Nat}
  (hend:∀vals V,C V->(∀x∈T,Phi x.1 (vals x.1) V)->wpAnyC m P ops C Q f e (A vals) V) :
  ∀(n:Nat) (L:List (Nat×List Nat)) (listed:Array Bool) (vals:Nat->Value) (V:World),(∀x∈L,x∈T)->Xfe ops T e n L listed=true->C V->(∀x∈T,(∀y∈L,y.1≠x.1)->Phi x.1 (vals x.1) V)->wpAnyC m P ops C Q (f+n) listed (A vals) V
 | 0,L,listed,vals,V,hL,hg,hC,hd=>by
  unfold Xfe at hg;simp only[Bool.and_eq_true,List.isEmpty_iff,decide_eq_true_eq] at hg;obtain⟨rfl,rfl⟩:=hg;exact hend vals V hC fun x hx=>hd x hx fun y hy=>by cases hy
 | n+1,L,listed,vals,V,hL,hg,hC,hd=>by
  unfold Xfe at hg;simp only[Bool.and_eq_true,Bool.not_eq_true',List.isEmpty_eq_false_iff,List.all_eq_true,List.any_eq_true,beq_iff_eq] at hg;obtain⟨hne,hall⟩:=hg;refine⟨hC,fun h=>absurd h hne,fun i hi=>?_⟩;obtain⟨⟨x,hx,rfl,hk⟩,hrec⟩:=hall i hi;obtain⟨o,ho,hst⟩:=hs x (hL x hx);refine wpOpIn_step ho fun K' hK=>?_
  obtain⟨h1,h2⟩:=hst vals V hC (fun k hk'=>by
   obtain⟨⟨y,hy,rfl⟩,hz⟩:=hk k hk';refine hd y hy fun z hz' he=>?_;rw[List.any_eq_false] at hz
   exact hz z hz' (by simpa using he)) K' (fun u V' hC' hb hphi=>hK _ _ (Xdd hP hs hend n (L.filter (fun y=>y.1 != x.1)) (listed.setIfInBounds x.1 true) (updV vals x.1 u) V' (fun y hy=>hL y (List.mem_filter.1 hy).1) hrec hC' (fun y hy hn=>by
    by_cases he:y.1=x.1
    ·unfold updV
     rw[if_pos he,he];exact hphi
    ·unfold updV
     rw[if_neg he];refine hP _ _ _ _ (hd y hy fun z hz he2=>?_) hb;exact hn z (List.mem_filter.2 ⟨hz,by simp only[bne_iff_ne,ne_eq];exact fun h3=>he (he2 ▸ h3)⟩) he2)))
  rw[if_pos h1];exact h2
theorem Xnl {A:(Nat->Value)->Act} {Phi:Nat->Value->World->Prop} (T:List (Nat×List Nat)) (e:Array Bool) {f n:Nat} {listed:Array Bool} {a:Act} {V:World} (vals:Nat->Value) (ha:a=A vals) (hP:∀i u V V',Phi i u V->Below V.heap.size V V'->Phi i u V') (hC:C V)
  (hg:Xfe ops T e n T listed=true) (hs:∀x∈T,StepG m P ops C Q A Phi x) (hend:∀vals V,C V->(∀x∈T,Phi x.1 (vals x.1) V)->wpAnyC m P ops C Q f e (A vals) V):wpAnyC m P ops C Q (f+n) listed a V:=by
 subst ha;exact Xdd hP hs hend n T listed vals V (fun x hx=>hx) hg hC fun x hx hn=>absurd rfl (hn x hx)
theorem Yz {F:Fence} {n:Nat} {c:Code} {a:Act} {w:World} (Psi:Act->World->Prop) (h:c.wpIn F n P (Exit.then Psi (fun _ _ _=>False)) a w) (k:∀a v,Psi a v->Q .normal a v):c.wpIn F n P Q a w :=
 wpIn_mono h (fun e a' v hh=>by
  cases e with
  | normal=>exact k a' v hh
  | _=>exact hh.elim)
end
end Go.Han
/- In a round of a range over a function: drawn regions, as inside the wide fence. Plain theorems about the machine's steps. Conditions: none. -/
namespace Go.Han
open Go.RowKit
section
variable {P:Program}
def Xbz (ops:Array Oper):Bool:=ops.all fun o=>match o.op with | .defer _=>false|_=>true
theorem Xo4 {ops:Array Oper} (h:Xbz ops=true) {i:Nat} {o:Oper} (ho:ops[i]? = some o):∀c,o.op ≠ .defer c:=by
 intro c hc;unfold Xbz at h;rw[Array.all_eq_true] at h;obtain⟨hi,rfl⟩:=Array.getElem?_eq_some_iff.1 ho;have:=h i hi;rw[hc] at this;cases this
theorem Xm6 {o:Oper} {m l:Nat} {a:Act} {w:World} {K:Act->World->Prop} {Q:Exit->Act->World->Prop} (ho:∀c,o.op ≠ .defer c) (h:o.wpIn Fence.wide m P a w K Q):o.wpIn (Fence.wide.inRound l) m P a w K Q:=by
 unfold Oper.wpIn at h ⊢;rw[Oper.semAt_eq _ _ _ ho] at h ⊢;exact h
theorem Xf4 {ops:Array Oper} {m l:Nat} {Q:Exit->Act->World->Prop} (hd:Xbz ops=true):∀(f:Nat) (listed:Array Bool) (a:Act) (w:World),wpAnyIn Fence.wide m P .any ops Q f listed a w->wpAnyIn (Fence.wide.inRound l) m P .any ops Q f listed a w
 | 0,_,_,_,h=>h
 | f+1,listed,a,w,h=>by
  refine⟨h.1,fun i hi=>?_⟩;have hk:=wpOpIn_mono (K':=wpAnyIn (Fence.wide.inRound l) m P .any ops Q f (listed.setIfInBounds i true)) (fun a' w' h'=>Xf4 hd f _ a' w' h') (h.2 i hi);unfold wpOpIn at hk ⊢;cases ho:ops[i]? with
  | none=>rw[ho] at hk;exact hk
  | some o =>
   rw[ho] at hk;simp only at hk ⊢;split at hk
   ·rename_i hw
    rw[if_pos hw];exact Xm6 (Xo4 hd ho) hk
   ·rename_i hw
    rw[if_neg hw];exact hk
theorem Xey {id m l:Nat} {ops:Array Oper} {Q:Exit->Act->World->Prop} {a:Act} {w:World} (hd:Xbz ops=true) (hm:P.follows .mixedOrders=true) (h:wpAnyIn Fence.wide m P .any ops Q ops.size (Array.replicate ops.size false) a w.drew):(Code.region id ops true).wpIn (Fence.wide.inRound l) m P Q a w :=
 wpIn_region_any hm (Xf4 hd _ _ _ _ h)
theorem Vg {id m l:Nat} {ops:Array Oper} {Q:Exit->Act->World->Prop} {a:Act} {w:World} (C:World->Prop) (hd:Xbz ops=true) (hm:P.follows .mixedOrders=true) (h:wpAnyC m P ops C Q ops.size (Array.replicate ops.size false) a w.drew):(Code.region id ops true).wpIn (Fence.wide.inRound l) m P Q a w :=
 Xey hd hm h.any
theorem Xt {m:Nat} {ops:Array Oper} {o:Oper} {a:Act} {w w':World} {K:Act->World->Prop} {Q:Exit->Act->World->Prop} {E:Prop} (hgd:o.guard=none) (s x:Operand) (t:TypeId)
  (ho:o.op = .call {callee:=.builtin .append,args:=#[s,x],argTypes:=#[t,t]}) {v u v':Value} (hs:a.eval s=v) (hx:a.eval x=u) (hrun:(Builtin.append_ #[t,t] o.type #[v,u]).run P w = .ok v' w') (h:K (a.put o.dst v') w') :
  if Region.wanted o (yielded ops a.tmps)=true then Oper.wpIn Fence.wide m P o a w K Q else E:=by
 have hw:Region.wanted o (yielded ops a.tmps)=true:=by simp[Region.wanted,hgd]
 rw[if_pos hw];unfold Oper.wpIn;refine⟨?_,?_⟩
 ·simp[Oper.about,ho,resolve,Target.leads,Sem.run_pure]
 ·rw[Oper.semAt_plain Fence.wide _ _ (by rw[ho];intro c hc';cases hc')]
  simp[execOp,ho,resolve,invoke,builtin,hs,hx,hrun,Result.andThen];exact h
theorem Xdx {F:Fence} {n:Nat} {c:Code} {Q:Exit->Act->World->Prop} {a aF:Act} {w w':World} (h:c.wpIn F n P (Exit.then (fun a' v=>a'=aF/\v=w') (fun _ _ _=>False)) a w) (k:Q .normal aF w'):c.wpIn F n P Q a w :=
 wpIn_mono h (fun e a' v hh=>by
  cases e with
  | normal=>obtain⟨h2,h3⟩:=hh;subst h2 h3;exact k
  | _=>exact hh.elim)
def PanD (D:Act->Prop) (PhiP:List PanicEntry->World->Prop) (e:Exit) (a':Act) (v:World):Prop:=∃ch,e = .panic ch/\D a'/\PhiP ch v
def KeepF (a:Act) (k:Nat) (a':Act):Prop:=a'.defers=a.defers/\∀i,i<k->a'.tmps[i]? = a.tmps[i]?
def Xtw (k:Nat):Option Nat->Bool
 | none=>true
 | some j=>Nat.ble k j
theorem KeepF.put {a a1:Act} {k:Nat} {d:Option Nat} {v:Value} (hd:Xtw k d=true) (h:KeepF a k (a1.put d v)):KeepF a k a1:=by
 cases d with
 | none=>exact h
 | some j =>
  obtain⟨h1,h3⟩:=h;refine⟨h1,fun i hi=>?_⟩;have hj:j≠i:=by have:k<=j:=Nat.le_of_ble_eq_true hd;omega
  have:(a1.tmps.setIfInBounds j v)[i]? = a.tmps[i]? := h3 i hi
  rwa [Array.getElem?_setIfInBounds_ne hj] at this
theorem KeepF.of_take {a a':Act} {k:Nat} (hd:a'.defers=a.defers) (h:a'.tmps.toList.take k=a.tmps.toList.take k):KeepF a k a' :=
 ⟨hd,fun i hi=>by
  have h1:(a'.tmps.toList.take k)[i]? = (a.tmps.toList.take k)[i]? := by rw[h]
  rwa [List.getElem?_take,List.getElem?_take,if_pos hi,if_pos hi,Array.getElem?_toList,Array.getElem?_toList] at h1⟩
theorem PanD.put {a a1:Act} {k:Nat} {PhiP:List PanicEntry->World->Prop} {d:Option Nat} {v:Value} {c:List PanicEntry} {w:World} (hd:Xtw k d=true) (h:PanD (KeepF a k) PhiP (.panic c) (a1.put d v) w):PanD (KeepF a k) PhiP (.panic c) a1 w:=by
 obtain⟨ch,h1,h2,h3⟩:=h;exact⟨ch,h1,h2.put hd,h3⟩
theorem Xg4 {F:Fence} {n:Nat} {c:Code} {Q:Exit->Act->World->Prop} {a:Act} {w:World} (k:Nat) (PhiP:List PanicEntry->World->Prop) (h:c.wpIn F n P (PanD (KeepF a k) PhiP) a w) (hk:∀ch a' v,KeepF a k a'->PhiP ch v->Q (.panic ch) a' v):c.wpIn F n P Q a w :=
 wpIn_mono h (fun e a' v ⟨ch,he,h2,h3⟩=>by subst he;exact hk ch a' v h2 h3)
theorem Xdw {β:Type} {F:Fence} {n:Nat} {c:Code} {Q:Exit->Act->World->Prop} {a:Act} {w:World} (upd:β->Act->Act) (Phi:β->World->Prop) (h:c.wpIn F n P (Exit.then (fun a' v=>∃u,a'=upd u a/\Phi u v) (fun _ _ _=>False)) a w) (k:∀u v,Phi u v->Q .normal (upd u a) v):c.wpIn F n P Q a w :=
 wpIn_mono h (fun e a' v hh=>by
  cases e with
  | normal=>obtain⟨u,h2,h3⟩:=hh;subst h2;exact k u v h3
  | _=>exact hh.elim)
end
end Go.Han
