/- Texts of this claim, one after the other: Chw4, GoalK, Chw7, Chw8, Chw9, GroupC, TakeR, Chwm. -/
import Derived.Test.YthojaplnimoacaaGreatDoorM14
import Derived.Test.YthojaplnimoacaaGreatDoorM4
import Derived.OwnWalkIn
namespace Go.Proofs.YthojaplnimoacaaGreatDoor
open Go.RowKit Go.Han
attribute [local irreducible] wpStill wpQuiet
set_option maxRecDepth 100000
def Xbd (w:World) (cb:Nat) (g:Gram) (its:SlS ItemG) (n:Int) (kb wb:Nat):Prop :=
 w.heap[cb]? = some (.cells #[.string g.name,.slice g.cats.addr g.cats.xs.length g.cats.cap,.string g.start,.int .i64 g.startNo,.slice g.entries.addr g.entries.xs.length g.entries.cap,.slice g.rules.addr g.rules.xs.length g.rules.cap,.slice its.addr its.xs.length its.cap,.int .i64 n,.map (some kb),.map (some wb)] 158 (0,0))
theorem Xrh (l:List Dv) (c:Int) (t:TreeV):Fd.of bigN (l++[(c,t)])=Fd.add bigN (Fd.of bigN l) ⟨1,some (c,t)⟩:=Fd.of_append bigN l [(c,t)]
theorem Xg1 {X:Nat→Prop} {w:World} {f:FoundG} {l:List Dv} (h:FoundOk X w f (Fd.of bigN l)):0≤f.many∧f.many≤1099511627777:=by
 rw[h.many]
 have:=Xan bigN l.length
 exact⟨Int.natCast_nonneg _,by show ((capN bigN l.length:Nat):Int)≤_;unfold bigN at *;omega⟩
theorem Ym {w:World} {fb:Nat} {cs:Array Value} {fr:Nat×Nat} (h:w.heap[fb]? = some (.cells cs 86 fr)):¬KidP w fb:=by
 rintro⟨cs',fr',h'⟩
 rw[h] at h'
 have:=Option.some.inj h'
 injection this with _ e _
 exact absurd e (by decide)
def Xra (X:Nat→Prop) (fb:Nat) (c i k:Int) (items:List ItemG) (w:World) (e:Ending) (w':World):Prop :=
 e = .returned (.tuple #[])∧∃f,w'.heap[fb]? = some (.cells #[.bool f.ok,.int .i64 f.cost,.int .i64 f.rule,.int .i64 f.item,.int .i64 f.frm,.int .i64 f.unt,.slice f.kids.addr f.kids.len f.kids.cap,.int .i64 f.many] 86 (0,0))∧FoundOk X w' f (Fd.of bigN (Xq c i k 0 items))∧Only (fun j=>j=fb) w w'
set_option maxHeartbeats 4000000 in
theorem Xjh (X:Nat→Prop) (cb fb:Nat) (g:Gram) (its:SlS ItemG) (n:Int) (kb wb:Nat) (c i k:Int) (w:World) (hc:Xbd w cb g its n kb wb) (_hit:ItemsAt w its) (hf:w.heap[fb]? = some (.cells #[.bool false,.int .i64 0,.int .i64 0,.int .i64 0,.int .i64 0,.int .i64 0,.slice none 0 0,.int .i64 0] 86 (0,0))) (hm:its.xs.length≤16384)
  (hit2:∀W,Only (fun j=>j=fb) w W→ItemsAt W its) :
  Calls Tryz.prog 101 #[.pointer (some ⟨cb,0,none⟩),.agg #[.int .i64 c,.int .i64 i,.int .i64 k],.pointer (some ⟨fb,0,none⟩)] w (Xra X fb c i k its.xs w):=by
 obtain⟨W1,hW1⟩:∃W1,w.alloc (.cells #[.int .i64 c,.int .i64 i,.int .i64 k] 91)=W1:=⟨_,rfl⟩
 have hB1:=Yn hW1
 have hx1:=Yv hW1
 have hc1:=Xh hB1 hc
 have hf1:=Xh hB1 hf
 have hcf:cb≠fb:=by
  rintro rfl
  unfold Xbd at hc
  rw[hc] at hf
  have:=Option.some.inj hf
  injection this with _ e _
  exact absurd e (by decide)
 have hlf:=Xc hf
 have a6:=gblk hc1 6
 have Hx:=Xa hx1
 have Hf1:=Xa hf1
 have HI:=Xa hit2
 have hO1:Only (fun j=>j=fb) w W1:=.of_below hB1
 have Ht:=Xa (fun (x:ItemG) (j:Nat)=>Xds c i k x 0 (its.xs.take j))
 clear hc hf _hit hc1 hf1 hx1 hit2
 go_enter Tryz.func101,Tryz.ntmps101
 go_wp2_with fail
 clear hW1
 go_loopw [13] (fun iv wr=>∃(j:Nat) (f:FoundG),j≤its.xs.length∧iv = .int .i64 j∧Hid (wr.heap[fb]? = some (.cells #[.bool f.ok,.int .i64 f.cost,.int .i64 f.rule,.int .i64 f.item,.int .i64 f.frm,.int .i64 f.unt,.slice f.kids.addr f.kids.len f.kids.cap,.int .i64 f.many] 86 (0,0)))∧Hid (FoundOk X wr f (Fd.of bigN (Xq c i k 0 (its.xs.take j))))∧Only (fun j=>j=fb) W1 wr) (fun iv _=>its.xs.length-(intOf iv).toNat)
 case atStart=>exact⟨0,⟨false,0,0,0,0,0,⟨none,0,0⟩,0⟩,Nat.zero_le _,rfl,Hf1.out,FoundOk.zero _ _,Only.refl _ _⟩
 case round =>
  obtain⟨j,f,hj,rfl,hfr,hok,hO⟩:=hrel
  by_cases hlt:j<its.xs.length
  ·have hOw:=hO1.trans hO
   obtain⟨bi,oi,hA,hbb,hcl⟩:=(HI.out wr hOw).lies.at_ ItemG.size_cells (by omega) hlt
   have d0:wr.cell? ⟨bi,oi+j*6,none⟩=some (.int .i64 its.xs[j].cat):=hcl j hlt wr (Below.refl _ _) 0 _ rfl
   have d1:wr.cell? ⟨bi,oi+j*6+1,none⟩=some (.int .i64 its.xs[j].frm):=hcl j hlt wr (Below.refl _ _) 1 _ rfl
   have d2:wr.cell? ⟨bi,oi+j*6+2,none⟩=some (.int .i64 its.xs[j].unt):=hcl j hlt wr (Below.refl _ _) 2 _ rfl
   have d3:wr.cell? ⟨bi,oi+j*6+3,none⟩=some (.int .i64 its.xs[j].cost):=hcl j hlt wr (Below.refl _ _) 3 _ rfl
   have d4:wr.cell? ⟨bi,oi+j*6+4,none⟩=some (.slice its.xs[j].tgt.addr its.xs[j].tgt.xs.length its.xs[j].tgt.cap):=hcl j hlt wr (Below.refl _ _) 4 _ rfl
   have d5:wr.cell? ⟨bi,oi+j*6+5,none⟩=some (.int .i64 its.xs[j].term):=hcl j hlt wr (Below.refl _ _) 5 _ rfl
   have htk:its.xs.take (j+1)=its.xs.take j++[its.xs[j]]:=List.take_succ_eq_append_getElem hlt
   have Hsn:=Xa (Ht.out its.xs[j] j)
   have Htk:=Xa htk
   have hjl:(its.xs.take j).length=j:=by rw[List.length_take];omega
   have Hjl:=Xa hjl
   rw[hA]
   clear hcl hA htk hjl
   generalize its.xs[j]=x at *
   obtain⟨w8,hw8⟩:∃w8,(wr.alloc (.cells #[.int .i64 (j:Int)] 3)).alloc (.cells #[.int .i64 x.cat,.int .i64 x.frm,.int .i64 x.unt,.int .i64 x.cost,.slice x.tgt.addr x.tgt.xs.length x.tgt.cap,.int .i64 x.term] 47)=w8:=⟨_,rfl⟩
   have hb8:Below wr.heap.size wr w8:=by rw[← hw8];exact Xe (Xe (Below.refl _ _) _) _
   have hj8:w8.heap[wr.heap.size]? = some (.cells #[.int .i64 (j:Int)] 3 (0,0)):=by rw[← hw8];exact(Below.heap_alloc _ _ _ (by simp)).trans (World.alloc_heap_new _ _)
   have hx8:w8.heap[wr.heap.size+1]? = some (.cells #[.int .i64 x.cat,.int .i64 x.frm,.int .i64 x.unt,.int .i64 x.cost,.slice x.tgt.addr x.tgt.xs.length x.tgt.cap,.int .i64 x.term] 47 (0,0)):=by rw[← hw8];exact X0 _ _ _ (by simp)
   have hgr:wr.heap[w.heap.size]? = some (.cells #[.int .i64 c,.int .i64 i,.int .i64 k] 91 (0,0)):=(hO.block _ (Xc Hx.out) (by show w.heap.size≠fb;omega)).trans Hx.out
   have hg8:=Xh hb8 hgr
   have hf8:=Xh hb8 hfr.out
   have e0:=gblk hx8 0
   have e1:=gblk hx8 1
   have e2:=gblk hx8 2
   have e3:=gblk hx8 3
   have e4:=gblk hx8 4
   have e5:=gblk hx8 5
   have q0:=gblk hg8 0
   have q1:=gblk hg8 1
   have q2:=gblk hg8 2
   have hO8:Only (fun j=>j=fb) W1 w8:=hO.ext hb8
   have hok8:Hid (FoundOk X w8 f (Fd.of bigN (Xq c i k 0 (its.xs.take j)))):=hok.out.keep fun t y h=>h.ext hb8
   have hmr:=Xg1 hok.out
   have cT:=Xa (Xjx fb f x.cost 1 147 #[.pointer (some ⟨wr.heap.size,0,none⟩),.pointer (some ⟨w.heap.size,0,none⟩)] ⟨-1,j,i,k,⟨none,0,0⟩⟩ w8 hf8 (enters_of Tryz.func147 (by kernel_rfl) rfl)
    (fun W hW=>Xqb wr.heap.size w.heap.size j i k c W ((hW.block _ (Xc hj8) (by have:=Xc hfr.out;show wr.heap.size≠fb;omega)).trans hj8) ((hW.block _ (Xc hg8) (by show w.heap.size≠fb;omega)).trans hg8)) (IntWalk.i64_in _ (by omega)))
   have hnk:=Ym hf8
   have Hf8:=Xa hf8
   clear hf8 hx8 hj8 hg8 hgr hok hfr hmr
   by_cases h1:x.cat=c
   ·have k1:(x.cat == c)=true:=by simp[h1]
    by_cases h2:x.frm=i
    ·have k2:(x.frm == i)=true:=by simp[h2]
     by_cases h3:x.unt=k
     ·have k3:(x.unt == k)=true:=by simp[h3]
      have hN:Hid (Xq c i k 0 (its.xs.take j++[x])=Xq c i k 0 (its.xs.take j)++[(x.cost,Zt j i k)]):=by show _=_;rw[Hsn.out,if_pos ⟨h1,h2,h3⟩,Hjl.out,Nat.zero_add]
      clear h1 h2 h3
      go_wp2_with fail
      refine cT.out.mono ?_
      rintro e w9 ⟨rfl,hf9,hO9⟩
      have hok9:Hid (FoundOk X w9 (Xdy f x.cost 1 ⟨-1,j,i,k,⟨none,0,0⟩⟩) (Fd.of bigN (Xq c i k 0 (its.xs.take j++[x])))):=by
       show FoundOk _ _ _ _
       rw[hN.out,Xrh]
       exact hok8.out.take (m:=1) (fun t y h=>h.only hO9 (fun b hb h=>by rw[show b=fb from hb] at h;exact hnk h.1)) (Xnx X w9 j i k)
      have hO10:=hO8.trans hO9
      have Hf9:=Xa hf9
      clear hf9 hO9 cT hok8
      go_wp2_with fail
      go_roundw
      case rel=>exact⟨j+1,_,by omega,by go_num,Hf9.out,by rw[Htk.out];exact hok9,hO10⟩
      case measure=>simp[intOf];omega
     ·have k3:(x.unt == k)=false:=by simp[h3]
      have hN:Hid (Xq c i k 0 (its.xs.take j++[x])=Xq c i k 0 (its.xs.take j)):=by show _=_;rw[Hsn.out,if_neg (fun h=>h3 h.2.2),List.append_nil]
      clear h1 h2 h3 cT
      go_wp2_with fail
      go_roundw
      case rel=>exact⟨j+1,f,by omega,by go_num,Hf8.out,by rw[Htk.out,hN.out];exact hok8,hO8⟩
      case measure=>simp[intOf];omega
    ·have k2:(x.frm == i)=false:=by simp[h2]
     have hN:Hid (Xq c i k 0 (its.xs.take j++[x])=Xq c i k 0 (its.xs.take j)):=by show _=_;rw[Hsn.out,if_neg (fun h=>h2 h.2.1),List.append_nil]
     clear h1 h2 cT
     go_wp2_with fail
     go_roundw
     case rel=>exact⟨j+1,f,by omega,by go_num,Hf8.out,by rw[Htk.out,hN.out];exact hok8,hO8⟩
     case measure=>simp[intOf];omega
   ·have k1:(x.cat == c)=false:=by simp[h1]
    have hN:Hid (Xq c i k 0 (its.xs.take j++[x])=Xq c i k 0 (its.xs.take j)):=by show _=_;rw[Hsn.out,if_neg (fun h=>h1 h.1),List.append_nil]
    clear h1 cT
    go_wp2_with fail
    go_roundw
    case rel=>exact⟨j+1,f,by omega,by go_num,Hf8.out,by rw[Htk.out,hN.out];exact hok8,hO8⟩
    case measure=>simp[intOf];omega
  ·have hjl:j=its.xs.length:=by omega
   subst hjl
   have HN:Hid (FoundOk X wr f (Fd.of bigN (Xq c i k 0 its.xs))):=by
    have h:=hok.out
    rw[List.take_length] at h
    exact h
   have hO2:=hO1.trans hO
   go_wp2_with fail
   exact bodyPost_ret (results_none rfl _ _ _) rfl ⟨rfl,f,hfr.out,HN.out,hO2⟩
end Go.Proofs.YthojaplnimoacaaGreatDoor
namespace Go.Proofs.YthojaplnimoacaaGreatDoor
open Go.RowKit Go.Han
set_option maxRecDepth 100000
theorem laidGK:laidOutB Tryz.prog=true:=by kernel_rfl
theorem Qf:Maps.Keyed Tryz.prog 91:=Maps.Keyed.of_law (deep_law_laid laidGK (m:=2) (by omega) (of_decide_eq_true (by kernel_rfl)) (by kernel_rfl) (by kernel_rfl))
theorem Xe9 : ∃ fs : Array Field, Tryz.prog.underlying 91 = some (.struct fs) ∧ fs.toList.map (fun f => (f.name, f.type, f.offset)) = [("cat", 3, 0), ("from", 3, 1), ("until", 3, 2)] ∧ Tryz.prog.cellsOf 91 = 3 ∧ Tryz.prog.keyType 91 = true := ⟨_, Tryz.underlying91, by kernel_rfl, by kernel_rfl, by kernel_rfl⟩
theorem Xdr:Tryz.prog.cellsOf 3=1:=by kernel_rfl
structure X8 where
 cat:Int
 frm:Int
 unt:Int
deriving DecidableEq
def Xar (k:X8):Lit:=.string (keyBytes [.int .i64 k.cat,.int .i64 k.frm,.int .i64 k.unt])
def Qd (k:X8):Value:=.agg #[.int .i64 k.cat,.int .i64 k.frm,.int .i64 k.unt]
def Zx (k:X8):Prop:=(Lit.int .i64 k.cat).wf=true∧(Lit.int .i64 k.frm).wf=true∧(Lit.int .i64 k.unt).wf=true
theorem Xcz (n:Nat) (k:X8) (h:Zx k):Tryz.prog.keyLits (n+2) 91 [.int .i64 k.cat,.int .i64 k.frm,.int .i64 k.unt]=some [.int .i64 k.cat,.int .i64 k.frm,.int .i64 k.unt]:=by
 obtain⟨fs,hu,hf,hc,hk⟩:=Xe9
 obtain⟨h1,h2,h3⟩:=h
 unfold Program.keyLits
 rw[hu]
 have hfs : ∃ f0 f1 f2, fs.toList = [f0, f1, f2] ∧ f0.name = "cat" ∧ f0.type = 3 ∧ f0.offset = 0 ∧ f1.name = "from" ∧ f1.type = 3 ∧ f1.offset = 1 ∧ f2.name = "until" ∧ f2.type = 3 ∧ f2.offset = 2 := by
  match hl:fs.toList with
  | [f0,f1,f2] =>
   rw[hl] at hf
   simp at hf
   exact⟨f0,f1,f2,rfl,hf.1.1,hf.1.2.1,hf.1.2.2,hf.2.1.1,hf.2.1.2.1,hf.2.1.2.2,hf.2.2.1,hf.2.2.2.1,hf.2.2.2.2⟩
  | []=>rw[hl] at hf;simp at hf
  | [_]=>rw[hl] at hf;simp at hf
  | [_,_]=>rw[hl] at hf;simp at hf
  | _ :: _ :: _ :: _ :: _=>rw[hl] at hf;simp at hf
 obtain⟨f0,f1,f2,hl,n0,t0,o0,n1,t1,o1,n2,t2,o2⟩:=hfs
 have hall : fs.all (fun f => f.name != "_") = true := by
  rw[← Array.all_toList,hl]
  simp[n0,n1,n2]
 simp only[hc,hall,List.length_cons,List.length_nil,and_self,if_true,hl,List.mapM_cons,List.mapM_nil,t0,o0,t1,o1,t2,o2,Xdr]
 have e0:Tryz.prog.keyLits (n+1) 3 ((([.int .i64 k.cat,.int .i64 k.frm,.int .i64 k.unt]:List Value).drop 0).take 1)=some [.int .i64 k.cat]:=by
  simp[Program.keyLits,Tryz.underlying3,h1]
 have e1:Tryz.prog.keyLits (n+1) 3 ((([.int .i64 k.cat,.int .i64 k.frm,.int .i64 k.unt]:List Value).drop 1).take 1)=some [.int .i64 k.frm]:=by
  simp[Program.keyLits,Tryz.underlying3,h2]
 have e2:Tryz.prog.keyLits (n+1) 3 ((([.int .i64 k.cat,.int .i64 k.frm,.int .i64 k.unt]:List Value).drop 2).take 1)=some [.int .i64 k.unt]:=by
  simp[Program.keyLits,Tryz.underlying3,h3]
 rw[e0,e1,e2]
 rfl
theorem Xmh (k:X8) (h:Zx k):keyOf Tryz.prog 91 (Qd k)=some (Xar k):=by
 obtain⟨fs,hu,hf,hc,hk⟩:=Xe9
 have hfm:(Qd k).formed Tryz.prog 91=true:=by
  unfold Qd
  simp[Value.formed,hu,hc]
 unfold keyOf
 rw[hu]
 simp only[hk,hfm,Bool.and_self,if_true]
 have e:=Xcz (Tryz.prog.types.size-1) k h
 have hsz:Tryz.prog.types.size-1+2=Tryz.prog.types.size+1:=by
  have:0<Tryz.prog.types.size:=of_decide_eq_true (by kernel_rfl)
  omega
 rw[hsz] at e
 show ((Tryz.prog.keyLits (Tryz.prog.types.size+1) 91 [.int .i64 k.cat,.int .i64 k.frm,.int .i64 k.unt]).map fun ls=>Lit.string (keyBytes ls))=_
 rw[e]
 rfl
theorem Xpz (v:Value) (l:Lit) (h:keyOf Tryz.prog 91 v=some l):∃k,Zx k∧v=Qd k∧l=Xar k:=by
 obtain⟨fs,hu,hf,hc,hk⟩:=Xe9
 have h0:=h
 unfold keyOf at h
 rw[hu] at h
 simp only at h
 split at h
 ·rename_i hb
  simp only[Bool.and_eq_true] at hb
  obtain⟨_,hfm⟩:=hb
  have hag:∃cs:Array Value,v = .agg cs∧cs.size=3:=by
   unfold Value.formed at hfm
   rw[hu] at hfm
   cases v<;>simp at hfm
   rename_i cs
   exact⟨cs,rfl,by rw[hfm,hc]⟩
  obtain⟨cs,rfl,hsz⟩:=hag
  have hl2:∃a b c,cs.toList=[a,b,c]:=by
   match hcl:cs.toList with
   | [a,b,c]=>exact⟨a,b,c,rfl⟩
   | []=>have:=congrArg List.length hcl;rw[Array.length_toList,hsz] at this;simp at this
   | [_]=>have:=congrArg List.length hcl;rw[Array.length_toList,hsz] at this;simp at this
   | [_,_]=>have:=congrArg List.length hcl;rw[Array.length_toList,hsz] at this;simp at this
   | _ :: _ :: _ :: _ :: _=>have:=congrArg List.length hcl;rw[Array.length_toList,hsz] at this;simp at this
  obtain⟨a,b,c,hab⟩:=hl2
  cases hkl:Tryz.prog.keyLits (Tryz.prog.types.size+1) 91 (Value.agg cs).cells.toList with
  | none=>rw[hkl] at h;cases h
  | some ls =>
   have hcl:(Value.agg cs).cells.toList=[a,b,c]:=by simpa[Value.cells] using hab
   rw[hcl] at hkl
   have hk2:=hkl
   unfold Program.keyLits at hk2
   rw[hu] at hk2
   have hfs:∃f0 f1 f2,fs.toList=[f0,f1,f2]∧f0.type=3∧f0.offset=0∧f1.type=3∧f1.offset=1∧f2.type=3∧f2.offset=2:=by
    match hl:fs.toList with
    | [f0,f1,f2] =>
     rw[hl] at hf
     simp at hf
     exact⟨f0,f1,f2,rfl,hf.1.2.1,hf.1.2.2,hf.2.1.2.1,hf.2.1.2.2,hf.2.2.2.1,hf.2.2.2.2⟩
    | []=>rw[hl] at hf;simp at hf
    | [_]=>rw[hl] at hf;simp at hf
    | [_,_]=>rw[hl] at hf;simp at hf
    | _ :: _ :: _ :: _ :: _=>rw[hl] at hf;simp at hf
   obtain⟨f0,f1,f2,hl,t0,o0,t1,o1,t2,o2⟩:=hfs
   simp only[hl,List.mapM_cons,List.mapM_nil,t0,o0,t1,o1,t2,o2,Xdr] at hk2
   have hd:∃d,Tryz.prog.types.size=d+1:=⟨Tryz.prog.types.size-1,by have:0<Tryz.prog.types.size:=of_decide_eq_true (by kernel_rfl);omega⟩
   obtain⟨d,hd⟩:=hd
   have intwf:∀(x:Value) (n:Int),Tryz.prog.keyLits Tryz.prog.types.size 3 [x]=some [.int .i64 n]→x = .int .i64 n→(Lit.int .i64 n).wf=true:=fun x n h7 hx=>by
    subst hx
    rw[hd] at h7
    unfold Program.keyLits at h7
    rw[Tryz.underlying3] at h7
    simp at h7
    exact h7
   split at hk2
   ·cases e0:Tryz.prog.keyLits Tryz.prog.types.size 3 (([a,b,c].drop 0).take 1) with
    | none=>rw[e0] at hk2;cases hk2
    | some l0 =>
     cases e1:Tryz.prog.keyLits Tryz.prog.types.size 3 (([a,b,c].drop 1).take 1) with
     | none=>rw[e0,e1] at hk2;cases hk2
     | some l1 =>
      cases e2:Tryz.prog.keyLits Tryz.prog.types.size 3 (([a,b,c].drop 2).take 1) with
      | none=>rw[e0,e1,e2] at hk2;cases hk2
      | some l2 =>
       obtain⟨n,hn1,hn2⟩:=keyLits_int' Tryz.underlying3 e0
       obtain⟨m,hm1,hm2⟩:=keyLits_int' Tryz.underlying3 e1
       obtain⟨q,hq1,hq2⟩:=keyLits_int' Tryz.underlying3 e2
       simp at hn1 hm1 hq1
       subst hn1 hm1 hq1
       subst hn2 hm2 hq2
       have hgood:Zx ⟨n,m,q⟩:=⟨intwf _ n e0 rfl,intwf _ m e1 rfl,intwf _ q e2 rfl⟩
       have hv:Value.agg cs=Qd ⟨n,m,q⟩:=by
        unfold Qd
        congr 1
        apply Array.ext'
        simpa using hab
       refine⟨⟨n,m,q⟩,hgood,hv,?_⟩
       rw[hv,Xmh _ hgood] at h0
       exact(Option.some.inj h0).symm
   ·cases hk2
 ·cases h
theorem Xpy (x y:X8) (hx:Zx x) (hy:Zx y) (h:Xar x=Xar y):x=y:=by
 unfold Xar at h
 have e:=keyLits_inj (Xcz 0 x hx) (Xcz 0 y hy) (by simpa using h)
 obtain⟨a,s,t⟩:=x
 obtain⟨b,u,v⟩:=y
 simp only[List.cons.injEq,Lit.int.injEq,true_and,and_true] at e
 rw[e.1,e.2.1,e.2.2]
def Uy:X2 Tryz.prog 91 X8:=⟨Qd,Xar,Zx,Xmh,Xpz,Xpy⟩
def FoundG.val (f:FoundG):Value:=.agg #[.bool f.ok,.int .i64 f.cost,.int .i64 f.rule,.int .i64 f.item,.int .i64 f.frm,.int .i64 f.unt,.slice f.kids.addr f.kids.len f.kids.cap,.int .i64 f.many]
theorem Xks (x y:FoundG) (h:x.val=y.val):x=y:=by
 obtain⟨a,b,c,d,e,f,⟨g,h1,i⟩,j⟩:=x
 obtain⟨a',b',c',d',e',f',⟨g',h1',i'⟩,j'⟩:=y
 simp[FoundG.val] at h
 obtain⟨rfl,rfl,rfl,rfl,rfl,rfl,⟨rfl,rfl,rfl⟩,rfl⟩:=h
 rfl
def foundShape:ElemShape FoundG:=⟨FoundG.val,Xks⟩
def Xf2:FoundG:=⟨false,0,0,0,0,0,⟨none,0,0⟩,0⟩
theorem Xam (w:World):(zeroValue 86).run Tryz.prog w = .ok (foundShape.val Xf2) w:=by kernel_rfl
theorem Xat:Tryz.prog.underlying 155=some (.map 91 86):=by rw[Tryz.underlying155]
theorem Tc {x:Int} (h : -4611686018427387904≤x) (h2:x≤4611686018427387904):(Lit.int .i64 x).wf=true:=by
 simp[Lit.wf,IntKind.min,IntKind.max,IntKind.signed,IntKind.bits];omega
theorem Uw {α β:Type} {P:Program} {k t e:TypeId} {w:World} (K:Maps.Keyed P k) (ht:P.underlying t=some (.map k e)) (S:X2 P k α) (E:ElemShape β) (z0:β) {b n:Nat} {f:α→Option β} (hz:(zeroValue e).run P w = .ok (E.val z0) w) (hown:MapF w S E b n f) (key:α) (hgood:S.good key) :
  (Instr.lookup t (.map (some b)) (S.val key) false).run P w = .ok (E.val ((f key).getD z0)) w:=by
 obtain⟨D,h1,h2⟩:=hown
 obtain⟨v,ps,hrun,hv⟩:=h1.lookup K ht hz (E.read_val z0) (S.of key hgood)
 obtain⟨g1,g2⟩:=h2 key hgood
 obtain⟨c,rfl,hc⟩:=E.read_inv hv
 simp only[Prod.mk.injEq] at hc
 cases hf:f key with
 | none =>
  have:=g1 hf
  rw[Maps.atKey_of_not_has this] at hc
  cases hc.1
  exact hrun
 | some c' =>
  obtain⟨g3,g4⟩:=g2 c' hf
  rw[g4] at hc
  cases hc.1
  exact hrun
def KidS.val (k:KidS):Value:=.slice k.addr k.len k.cap
theorem Xi1 (x y:KidS) (h:x.val=y.val):x=y:=by
 obtain⟨a,b,c⟩:=x
 obtain⟨a',b',c'⟩:=y
 simp[KidS.val] at h
 obtain⟨rfl,rfl,rfl⟩:=h
 rfl
def slcShape:ElemShape KidS:=⟨KidS.val,Xi1⟩
theorem T1:Tryz.prog.underlying 156=some (.map 3 22):=by rw[Tryz.underlying156]
theorem Xaz (w:World):(zeroValue 22).run Tryz.prog w = .ok (slcShape.val ⟨none,0,0⟩) w:=by kernel_rfl
def intW:X2 Tryz.prog 3 Int:=Xp2 Tryz.underlying3
theorem U8:Maps.Keyed Tryz.prog 3:=Maps.int_keyed Tryz.underlying3
def WordOk (Q:Nat→Prop) (W:World) (o:Option KidS) (items:List ItemG) (i:Int):Prop :=
 match o with
 | none=>∀s,Xm items i s=false
 | some v=>∃xs:List ByteArray,v.len=xs.length∧StrS.lies W ⟨v.addr,v.cap,xs⟩∧(∃b off,v.addr=some ⟨b,off,none⟩∧Q b)∧∀s,(xs.any fun y=>decide (y=s))=Xm items i s
theorem Xhy {W W':World} {s:StrS} {b off:Nat} (h:s.lies W) (hs:s.addr=some ⟨b,off,none⟩) (hb:W'.heap[b]? = W.heap[b]?) (hz:W.heap.size≤W'.heap.size):s.lies W':=by
 refine⟨?_,h.cap,h.max,h.nil⟩
 rcases h.rd with h0|⟨b',off',he,hlt,hc⟩
 ·exact .inl h0
 ·rw[hs] at he
  cases he
  exact .inr ⟨b,off,hs,Nat.lt_of_lt_of_le hlt hz,fun j u hu=>(World.cell?_of_block (w:=W) hb).trans (hc j u hu)⟩
theorem WordOk.keep {Q:Nat→Prop} {W W':World} {o:Option KidS} {items:List ItemG} {i:Int} (h:WordOk Q W o items i) (hk:∀b,Q b→W'.heap[b]? = W.heap[b]?) (hz:W.heap.size≤W'.heap.size):WordOk Q W' o items i:=by
 cases o with
 | none=>exact h
 | some v =>
  obtain⟨xs,h1,h2,⟨b,off,h3,h4⟩,h5⟩:=h
  exact⟨xs,h1,Xhy h2 h3 (hk b h4) hz,⟨b,off,h3,h4⟩,h5⟩
def WordsM (Q:Nat→Prop) (W:World) (wb:Nat) (items:List ItemG):Prop:=∃(n:Nat) (f:Int→Option KidS),MapF W intW slcShape wb n f∧∀i,WordOk Q W (f i) items i
theorem WordsM.keep {Q:Nat→Prop} {W W':World} {wb:Nat} {items:List ItemG} (h:WordsM Q W wb items) (hw:W'.heap[wb]? = W.heap[wb]?) (hk:∀b,Q b→W'.heap[b]? = W.heap[b]?) (hz:W.heap.size≤W'.heap.size):WordsM Q W' wb items:=by
 obtain⟨n,f,h1,h2⟩:=h
 exact⟨n,f,h1.of_block hw,fun i=>(h2 i).keep hk hz⟩
theorem WordsM.lt {Q:Nat→Prop} {W:World} {wb:Nat} {items:List ItemG} (h:WordsM Q W wb items):wb<W.heap.size:=by obtain⟨n,f,h1,_⟩:=h;exact h1.lt
theorem WordsM.look {Q:Nat→Prop} {W:World} {wb:Nat} {items:List ItemG} (h:WordsM Q W wb items) {i:Int} (h1 : -4611686018427387904≤i) (h2:i≤4611686018427387904) :
  ∃(A:Option Addr) (cp:Nat) (xs:List ByteArray),(∀W',W'.heap[wb]? = W.heap[wb]? → (Instr.lookup 156 (.map (some wb)) (.int .i64 i) false).run Tryz.prog W' = .ok (.slice A xs.length cp) W')∧(∀W',(∀b,Q b→W'.heap[b]? = W.heap[b]?)→W.heap.size≤W'.heap.size→StrS.lies W' ⟨A,cp,xs⟩)∧∀s,(xs.any fun y=>decide (y=s))=Xm items i s:=by
 obtain⟨n,f,hm,hf⟩:=h
 have hrun:=fun (W':World) (hw:W'.heap[wb]? = W.heap[wb]?)=>Uw U8 T1 intW slcShape ⟨none,0,0⟩ (Xaz W') (hm.of_block hw) i (Tc h1 h2)
 have hi:=hf i
 cases hfi:f i with
 | none =>
  rw[hfi] at hrun hi
  have hl:∀V:World,StrS.lies V ⟨none,0,[]⟩:=fun V=>⟨.inl rfl,Nat.le_refl _,by show (0:Nat)≤_;omega,fun _=>rfl⟩
  exact⟨none,0,[],hrun,fun V _ _=>hl V,fun s=>by rw[hi s];rfl⟩
 | some v =>
  rw[hfi] at hrun hi
  obtain⟨xs,e1,e2,⟨b,off,e3,e4⟩,e5⟩:=hi
  refine⟨v.addr,v.cap,xs,?_,fun V hV hz=>Xhy e2 e3 (hV b e4) hz,e5⟩
  rw[← e1];exact hrun
structure ChEnv (w0:World) (cb kb wb top:Nat) (g:Gram) (its:SlS ItemG) (n:Nat) (W:World):Prop where
 low:Below w0.heap.size w0 W
 chart:Xbd W cb g its n kb wb
 words:WordsM (fun b=>b<top∧b≠kb) W wb its.xs
 hc:w0.heap.size≤cb∧cb<top
 hk:w0.heap.size≤kb∧kb<top
 hw:w0.heap.size≤wb∧wb<top
 kw:kb≠wb
 top:top≤W.heap.size
 kmap:∃es c,W.heap[kb]? = some (.map es c)
theorem ChEnv.kc {w0:World} {cb kb wb top:Nat} {g:Gram} {its:SlS ItemG} {n:Nat} {W:World} (h:ChEnv w0 cb kb wb top g its n W):cb≠kb:=by
 rintro rfl
 obtain⟨es,c,hm⟩:=h.kmap
 have:=h.chart
 unfold Xbd at this
 rw[hm] at this;cases this
theorem ChEnv.keep {w0:World} {cb kb wb top:Nat} {g:Gram} {its:SlS ItemG} {n:Nat} {W W':World} (h:ChEnv w0 cb kb wb top g its n W) (ho:W'.os=W.os) (ht:W'.tape=W.tape) (hp:W'.output=W.output) (hz:W.heap.size≤W'.heap.size) (hk:∀b,b<top→b≠kb→W'.heap[b]? = W.heap[b]?) (hm:∃es c,W'.heap[kb]? = some (.map es c)):ChEnv w0 cb kb wb top g its n W' :=
 ⟨⟨ho.trans h.low.os,ht.trans h.low.tape,hp.trans h.low.output,Nat.le_trans h.low.size hz,fun b hb=>(hk b (by have:=h.hk;omega) (by have:=h.hk;omega)).trans (h.low.block b hb)⟩,(hk cb h.hc.2 h.kc).trans h.chart,h.words.keep (hk wb h.hw.2 (Ne.symm h.kw)) (fun b hb=>hk b hb.1 hb.2) hz,h.hc,h.hk,h.hw,h.kw,Nat.le_trans h.top hz,hm⟩
theorem ChEnv.ext {w0:World} {cb kb wb top:Nat} {g:Gram} {its:SlS ItemG} {n:Nat} {W W':World} (h:ChEnv w0 cb kb wb top g its n W) (hb:Below W.heap.size W W'):ChEnv w0 cb kb wb top g its n W':=by
 refine h.keep hb.os hb.tape hb.output hb.size (fun b hp _=>hb.block b (Nat.lt_of_lt_of_le hp h.top)) ?_
 obtain⟨es,c,hm⟩:=h.kmap
 exact⟨es,c,Xh hb hm⟩
theorem ChEnv.only {w0:World} {cb kb wb top:Nat} {g:Gram} {its:SlS ItemG} {n:Nat} {W W':World} (h:ChEnv w0 cb kb wb top g its n W) {M:Nat→Prop} (hO:Only M W W') (hM:∀b,M b→b=kb∨top≤b) (hm:∃es c,W'.heap[kb]? = some (.map es c)):ChEnv w0 cb kb wb top g its n W' :=
 h.keep hO.os hO.tape hO.output hO.size (fun b hp hne=>hO.block b (Nat.lt_of_lt_of_le hp h.top) fun hb=>by rcases hM b hb with e|e;exact hne e;omega) hm
def Xc0 (C N:Nat):List X8:=(List.range C).flatMap fun (c:Nat)=>(List.range (N+1)).flatMap fun (i:Nat)=>(List.range (N+1)).map fun (k:Nat)=>⟨(c:Int),(i:Int),(k:Int)⟩
theorem Xni {C N c i k:Nat} (hc:c<C) (hi:i≤N) (hk:k≤N):(⟨(c:Int),(i:Int),(k:Int)⟩:X8)∈Xc0 C N :=
 List.mem_flatMap.2 ⟨c,List.mem_range.2 hc,List.mem_flatMap.2 ⟨i,List.mem_range.2 (by omega),List.mem_map.2 ⟨k,List.mem_range.2 (by omega),rfl⟩⟩⟩
theorem Xc8 {α:Type} (f:Nat→List α) (m:Nat) (h:∀i,(f i).length=m):∀n,((List.range n).flatMap f).length=n*m
 | 0=>by simp
 | n+1=>by rw[List.range_succ,List.flatMap_append,List.length_append,Xc8 f m h n];simp[h];rw[Nat.succ_mul]
theorem Xnh (C N:Nat):(Xc0 C N).length=C*((N+1)*(N+1)):=by
 refine Xc8 _ _ (fun c=>?_) C
 refine Xc8 _ _ (fun i=>?_) (N+1)
 rw[List.length_map,List.length_range]
theorem Xng {C N:Nat} (hC:C≤32) (hN:N≤16):(Xc0 C N).length≤9248:=by
 rw[Xnh]
 have h1:(N+1)*(N+1)≤17*17:=Nat.mul_le_mul (by omega) (by omega)
 have h2:=Nat.mul_le_mul hC h1
 omega
def updF (f:X8→Option FoundG) (x:X8) (c:FoundG):X8→Option FoundG:=fun y=>if y=x then some c else f y
theorem Xe1 (f:X8→Option FoundG) (x:X8) (c:FoundG) (hx:f x=none):∀l:List X8,l.countP (fun y=>(f y).isSome)≤l.countP (fun y=>(updF f x c y).isSome)∧(x∈l→l.countP (fun y=>(f y).isSome)+1≤l.countP (fun y=>(updF f x c y).isSome))
 | []=>⟨Nat.le_refl _,fun h=>by cases h⟩
 | y :: l=>by
  obtain⟨h1,h2⟩:=Xe1 f x c hx l
  rw[List.countP_cons,List.countP_cons]
  by_cases e:y=x
  ·subst e
   rw[show updF f y c y=some c by unfold updF;rw[if_pos rfl],hx]
   simp only[Option.isSome_none,Option.isSome_some,if_true,Bool.false_eq_true,if_false]
   exact⟨by omega,fun _=>by omega⟩
  ·rw[show updF f x c y=f y by unfold updF;rw[if_neg e]]
   refine⟨by omega,fun h=>?_⟩
   rcases List.mem_cons.1 h with h|h
   ·exact absurd h.symm e
   ·have:=h2 h;omega
def muK (g:Gram) (x:X8):Nat:=muG g x.cat x.frm.toNat x.unt.toNat
def Grew (g:Gram) (m:Nat) (f f':X8→Option FoundG):Prop:=∀x,f' x≠none→f x≠none∨muK g x<m
theorem Grew.refl (g:Gram) (m:Nat) (f:X8→Option FoundG):Grew g m f f:=fun _ h => .inl h
theorem Grew.trans {g:Gram} {m:Nat} {f f' f'':X8→Option FoundG} (h:Grew g m f f') (k:Grew g m f' f''):Grew g m f f'':=fun x hx=>by
 rcases k x hx with h1|h1
 ·exact h x h1
 ·exact .inr h1
theorem Grew.mono {g:Gram} {m m':Nat} {f f':X8→Option FoundG} (h:Grew g m f f') (hm:m≤m'):Grew g m' f f':=fun x hx=>(h x hx).imp id fun h=>by omega
structure KnownF (X:Nat→Prop) (g:Gram) (items:List ItemG) (N:Nat) (kb:Nat) (f:X8→Option FoundG) (W:World):Prop where
 map:MapF W Uy foundShape kb ((Xc0 g.cats.xs.length N).countP fun x=>(f x).isSome) f
 ok:∀x fd,f x=some fd→∃i k:Nat,x.frm=i∧x.unt=k∧FoundOk X W fd (Fd.of bigN (derG g items x.cat i k))
theorem KnownF.keep {X X':Nat→Prop} {g:Gram} {items:List ItemG} {N kb:Nat} {f:X8→Option FoundG} {W W':World} (h:KnownF X g items N kb f W) (hk:W'.heap[kb]? = W.heap[kb]?) (ht:∀t x,TreeW X W t x→TreeW X' W' t x):KnownF X' g items N kb f W' :=
 ⟨h.map.of_block hk,fun x fd hx=>by obtain⟨i,k,h1,h2,h3⟩:=h.ok x fd hx;exact⟨i,k,h1,h2,h3.keep ht⟩⟩
theorem KnownF.ext {X:Nat→Prop} {g:Gram} {items:List ItemG} {N kb:Nat} {f:X8→Option FoundG} {W W':World} (h:KnownF X g items N kb f W) (hb:Below W.heap.size W W'):KnownF X g items N kb f W' :=
 h.keep (hb.block _ h.map.lt) fun _ _ ht=>ht.ext hb
theorem KnownF.kmap {X:Nat→Prop} {g:Gram} {items:List ItemG} {N kb:Nat} {f:X8→Option FoundG} {W:World} (h:KnownF X g items N kb f W):∃es c,W.heap[kb]? = some (.map es c):=by
 obtain⟨_,⟨_,_,hm,_⟩,_⟩:=h.map
 exact⟨_,_,hm⟩
theorem Xcy {c i k:Int} (h1 : -4611686018427387904≤c∧c≤4611686018427387904) (h2 : -4611686018427387904≤i∧i≤4611686018427387904) (h3 : -4611686018427387904≤k∧k≤4611686018427387904):Zx ⟨c,i,k⟩:=⟨Tc h1.1 h1.2,Tc h2.1 h2.2,Tc h3.1 h3.2⟩
theorem KnownF.look {X:Nat→Prop} {g:Gram} {items:List ItemG} {N kb:Nat} {f:X8→Option FoundG} {W:World} (h:KnownF X g items N kb f W) {c i k:Int} (hg:Zx ⟨c,i,k⟩) :
  (Instr.lookup 155 (.map (some kb)) (.agg #[.int .i64 c,.int .i64 i,.int .i64 k]) true).run Tryz.prog W = .ok (.tuple #[((f ⟨c,i,k⟩).getD Xf2).val,.bool (f ⟨c,i,k⟩).isSome]) W :=
 Uv W Qf Xat Uy foundShape Xf2 (Xam W) h.map ⟨c,i,k⟩ hg
theorem KnownF.store {X:Nat→Prop} {g:Gram} {items:List ItemG} {N kb:Nat} {f:X8→Option FoundG} {W:World} (h:KnownF X g items N kb f W) {c i k:Nat} (hc:c<g.cats.xs.length) (hi:i≤N) (hk:k≤N) (hC:g.cats.xs.length≤32) (hN:N≤16) (hn:f ⟨c,i,k⟩=none)
  {fd:FoundG} (hf:FoundOk X W fd (Fd.of bigN (derG g items c i k))) :
  ∃W',(Instr.mapUpdate 155 (.map (some kb)) (.agg #[.int .i64 c,.int .i64 i,.int .i64 k]) (.agg #[.bool fd.ok,.int .i64 fd.cost,.int .i64 fd.rule,.int .i64 fd.item,.int .i64 fd.frm,.int .i64 fd.unt,.slice fd.kids.addr fd.kids.len fd.kids.cap,.int .i64 fd.many])).run Tryz.prog W = .ok () W' ∧
   KnownF X g items N kb (updF f ⟨c,i,k⟩ fd) W'∧FoundOk X W' fd (Fd.of bigN (derG g items c i k))∧Only (fun j=>j=kb) W W'∧W'.heap.size=W.heap.size:=by
 have hcount:=Xe1 f ⟨c,i,k⟩ fd hn (Xc0 g.cats.xs.length N)
 have hmem:=Xni hc hi hk
 have hle:(Xc0 g.cats.xs.length N).countP (fun x=>(f x).isSome)≤9248:=Nat.le_trans List.countP_le_length (Xng hC hN)
 obtain⟨W',hrun,hm,hg,hz⟩:=h.map.store _ Qf Xat (by unfold maxLen;omega) (⟨c,i,k⟩:X8) fd (Xcy ⟨by omega,by omega⟩ ⟨by omega,by omega⟩ ⟨by omega,by omega⟩)
 obtain⟨es,cl,hkm⟩:=h.kmap
 have hO:Only (fun j=>j=kb) W W':=⟨hg.os,hg.tape,hg.output,hg.size,fun b hb hne=>hg.block b hb (fun e=>hne (by have e:=Option.some.inj e;exact e.symm ▸ rfl))⟩
 have ht:∀t x,TreeW X W t x→TreeW X W' t x:=fun t x ht=>ht.only hO fun b hb h=>by
  obtain⟨⟨cs,fr,hb'⟩,_⟩:=h
  rw[show b=kb from hb,hkm] at hb'
  cases hb'
 have hf':=hf.keep ht
 refine⟨W',hrun,⟨hm.mono (hcount.2 hmem),fun x fd' hx=>?_⟩,hf',hO,hz⟩
 unfold updF at hx
 split at hx
 ·rename_i e
  cases hx
  subst e
  exact⟨i,k,rfl,rfl,hf'⟩
 ·obtain⟨i',k',h1,h2,h3⟩:=h.ok x fd' hx
  exact⟨i',k',h1,h2,h3.keep ht⟩
def TreeG.cells (x:TreeG):List Value:=[.int .i64 x.rule,.int .i64 x.item,.int .i64 x.frm,.int .i64 x.unt,.slice x.kids.addr x.kids.len x.kids.cap]
theorem TreeG.size_cells (x:TreeG):x.cells.length=5:=rfl
theorem Xk0:(Tryz.prog.info? 32).map (fun i=>(i.size,i.bytes))=some (5,56):=by kernel_rfl
abbrev OwnK (w:World) (base:Nat) (v:Value) (l:List TreeG):Prop:=OwnL TreeG.cells 32 5 w base v l
structure KidsW (X:Nat→Prop) (base:Nat) (v:Value) (kids:List TreeV) (ks:List TreeG) (W:World):Prop where
 own:OwnK W base v ks
 at_:KidsAt W (fun b=>KidP W b∧¬(X b∨v.ownBlock=some b)) kids (ks.map TreeG.cells)
theorem KidsW.nil (X:Nat→Prop) (base:Nat) (W:World):KidsW X base (.slice none 0 0) [] [] W:=⟨OwnL.nil _ _ _ _ _,rfl⟩
theorem KidsW.len {X:Nat→Prop} {base:Nat} {v:Value} {kids:List TreeV} {ks:List TreeG} {W:World} (h:KidsW X base v kids ks W):ks.length=kids.length:=by
 have:=Xbo h.at_
 rwa [List.length_map] at this
theorem KidsAt.other {w w':World} {P P':Nat→Prop} {l:List TreeV} {css:List (List Value)} (h:KidsAt w P l css) (hk:∀b,P b→b<w.heap.size→w'.heap[b]? = w.heap[b]?) (hs:w.heap.size≤w'.heap.size) (hP:∀b,P b→P' b):KidsAt w' P' l css:=KidsAt.keep hk hs hP h
theorem KidsW.keep {X:Nat→Prop} {base:Nat} {v:Value} {kids:List TreeV} {ks:List TreeG} {W W':World} (h:KidsW X base v kids ks W) (hz:W.heap.size≤W'.heap.size) (hk:∀b,(v.ownBlock=some b∨(KidP W b∧¬X b))→W'.heap[b]? = W.heap[b]?):KidsW X base v kids ks W' :=
 ⟨h.own.block fun g hg=>hk g (.inl hg),h.at_.other (fun b ⟨h1,h2⟩ _=>hk b (.inr ⟨h1,fun hx=>h2 (.inl hx)⟩)) hz fun b ⟨⟨cs,fr,h1⟩,h2⟩=>⟨⟨cs,fr,(hk b (.inr ⟨⟨cs,fr,h1⟩,fun hx=>h2 (.inl hx)⟩)).trans h1⟩,h2⟩⟩
theorem OwnK.kid {W:World} {base:Nat} {v:Value} {ks:List TreeG} (h:OwnK W base v ks) {g:Nat} (hg:v.ownBlock=some g):KidP W g:=by
 rcases h.2 with ⟨h1,_⟩|⟨g9,c9,cur,h1,_,h3,_⟩
 ·rw[h1] at hg;cases hg
 ·rw[h1] at hg;cases hg;exact⟨_,_,h3⟩
theorem KidsW.snoc {X:Nat→Prop} {base:Nat} {v v':Value} {kids:List TreeV} {ks:List TreeG} {W W1:World} (h:KidsW X base v kids ks W) {t:TreeV} {x:TreeG} (ht:TreeW (fun b=>X b∨v.ownBlock=some b) W t x) (ho:OwnK W1 base v' (ks++[x])) (hg:W.grownBy W1 v.ownBlock) (hv:v'.ownBlock=v.ownBlock∨v'.ownBlock=some W.heap.size):KidsW X base v' (kids++[t]) (ks++[x]) W1:=by
 have hk:∀b,KidP W b∧¬(X b∨v.ownBlock=some b)→b<W.heap.size→W1.heap[b]? = W.heap[b]? := fun b hb hlt=>hg.block b hlt fun e=>hb.2 (.inr e.symm)
 have hP:∀b,KidP W b∧¬(X b∨v.ownBlock=some b)→KidP W1 b∧¬(X b∨v'.ownBlock=some b):=fun b ⟨⟨cs,fr,h1⟩,h2⟩=>⟨⟨cs,fr,(hk b ⟨⟨cs,fr,h1⟩,h2⟩ (Xc h1)).trans h1⟩,fun hx=>by
  rcases hx with hx|hx
  ·exact h2 (.inl hx)
  ·rcases hv with e|e
   ·exact h2 (.inr (e ▸ hx))
   ·rw[e] at hx
    cases hx
    have:=Xc h1
    omega⟩
 refine⟨ho,?_⟩
 rw[List.map_append]
 exact KidsAt.snoc (TreeAt.keep hk hg.size hP ht) (h.at_.other hk hg.size hP)
theorem KidsW.tree {X:Nat→Prop} {base:Nat} {v:Value} {kids:List TreeV} {ks:List TreeG} {W:World} (h:KidsW X base v kids ks W) (hX:∀b,X b→b<base) (r j i k:Int) :
  ∃A cap,v = .slice A kids.length cap∧TreeW X W (.node r j i k kids) ⟨r,j,i,k,⟨A,kids.length,cap⟩⟩:=by
 have hl:=h.len
 obtain⟨A,c,rfl,hr,hn⟩:=h.own.form (by decide)
 have hb:ks.length≤c∧c≤9223372036854775807∧(0<ks.length→∃b off,A=some ⟨b,off,none⟩∧base≤b∧KidP W b):=by
  rcases h.own.2 with ⟨h1,h2⟩|⟨g9,c9,cur,h1,h2,h3,h4,h5,_⟩
  ·injection h1 with _ e2 e3
   exact⟨by omega,by omega,fun h0=>by omega⟩
  ·injection h1 with e1 _ e3
   subst e3
   exact⟨h4,by unfold maxLen at h5;omega,fun _=>⟨g9,0,e1,h2,_,_,h3⟩⟩
 rw[hl] at hb
 refine⟨A,c,by rw[hl],?_⟩
 unfold TreeW TreeAt
 refine⟨A,c,ks.map TreeG.cells,rfl,hb.1,hb.2.1,fun h0=>?_,fun h0=>?_,?_,h.at_.other (fun _ _ _=>rfl) (Nat.le_refl _) fun b hb=>⟨hb.1,fun hx=>hb.2 (.inl hx)⟩⟩
 ·have:=hn h0
  rw[this] at hl
  exact List.eq_nil_of_length_eq_zero hl.symm
 ·obtain⟨b,off,e,h1,h2⟩:=hb.2.2 h0
  exact⟨b,off,e,h2,fun hx=>by have:=hX b hx;omega⟩
 ·have e:(ks.map TreeG.cells).flatten=ks.flatMap TreeG.cells:=by rw[List.flatMap_def]
  rw[e];exact hr
end Go.Proofs.YthojaplnimoacaaGreatDoor
/- A group of operations of a drawn region, each of which tells of its own result alone, in whatever world: their orders need not be told apart. Plain theorems about the machine's steps. Conditions: none. -/
namespace Go.Han
open Go.RowKit
section
variable {P:Program} {ops:Array Oper} {C:World→Prop} {Q:Exit→Act→World→Prop} {m:Nat}
theorem Y4 {F:Fence} {n:Nat} {c:Code} {a:Act} {w:World} (Psi:Act→World→Prop) (h:c.wpIn F n P (Exit.then Psi (fun _ _ _=>False)) a w) (k:∀a v,Psi a v→Q .normal a v):c.wpIn F n P Q a w :=
 wpIn_mono h (fun e a' v hh=>by
  cases e with
  | normal=>exact k a' v hh
  | _=>exact hh.elim)
end
end Go.Han
/- In a round of a range over a function: drawn regions, as inside the wide fence. Plain theorems about the machine's steps. Conditions: none. -/
namespace Go.Han
open Go.RowKit
section
variable {P:Program}
def Q8 (ops:Array Oper):Bool:=ops.all fun o=>match o.op with | .defer _=>false|_=>true
theorem Xi7 {ops:Array Oper} (h:Q8 ops=true) {i:Nat} {o:Oper} (ho:ops[i]? = some o):∀c,o.op ≠ .defer c:=by
 intro c hc
 unfold Q8 at h
 rw[Array.all_eq_true] at h
 obtain⟨hi,rfl⟩:=Array.getElem?_eq_some_iff.1 ho
 have:=h i hi
 rw[hc] at this
 cases this
theorem Xh0 {o:Oper} {m l:Nat} {a:Act} {w:World} {K:Act→World→Prop} {Q:Exit→Act→World→Prop} (ho:∀c,o.op ≠ .defer c) (h:o.wpIn Fence.wide m P a w K Q):o.wpIn (Fence.wide.inRound l) m P a w K Q:=by
 unfold Oper.wpIn at h ⊢
 rw[Oper.semAt_eq _ _ _ ho] at h ⊢
 exact h
theorem Xdj {ops:Array Oper} {m l:Nat} {Q:Exit→Act→World→Prop} (hd:Q8 ops=true):∀(f:Nat) (listed:Array Bool) (a:Act) (w:World),wpAnyIn Fence.wide m P .any ops Q f listed a w→wpAnyIn (Fence.wide.inRound l) m P .any ops Q f listed a w
 | 0,_,_,_,h=>h
 | f+1,listed,a,w,h=>by
  refine⟨h.1,fun i hi=>?_⟩
  have hk:=wpOpIn_mono (K':=wpAnyIn (Fence.wide.inRound l) m P .any ops Q f (listed.setIfInBounds i true)) (fun a' w' h'=>Xdj hd f _ a' w' h') (h.2 i hi)
  unfold wpOpIn at hk ⊢
  cases ho:ops[i]? with
  | none=>rw[ho] at hk;exact hk
  | some o =>
   rw[ho] at hk
   simp only at hk ⊢
   split at hk
   ·rename_i hw
    rw[if_pos hw]
    exact Xh0 (Xi7 hd ho) hk
   ·rename_i hw
    rw[if_neg hw]
    exact hk
theorem Xcq {id m l:Nat} {ops:Array Oper} {Q:Exit→Act→World→Prop} {a:Act} {w:World} (hd:Q8 ops=true) (hm:P.follows .mixedOrders=true) (h:wpAnyIn Fence.wide m P .any ops Q ops.size (Array.replicate ops.size false) a w.drew):(Code.region id ops true).wpIn (Fence.wide.inRound l) m P Q a w :=
 wpIn_region_any hm (Xdj hd _ _ _ _ h)
theorem T2 {id m l:Nat} {ops:Array Oper} {Q:Exit→Act→World→Prop} {a:Act} {w:World} (C:World→Prop) (hd:Q8 ops=true) (hm:P.follows .mixedOrders=true) (h:wpAnyC m P ops C Q ops.size (Array.replicate ops.size false) a w.drew):(Code.region id ops true).wpIn (Fence.wide.inRound l) m P Q a w :=
 Xcq hd hm h.any
theorem Xy {m:Nat} {ops:Array Oper} {o:Oper} {a:Act} {w w':World} {K:Act→World→Prop} {Q:Exit→Act→World→Prop} {E:Prop} (hgd:o.guard=none) (s x:Operand) (t:TypeId)
  (ho:o.op = .call {callee:=.builtin .append,args:=#[s,x],argTypes:=#[t,t]}) {v u v':Value} (hs:a.eval s=v) (hx:a.eval x=u) (hrun:(Builtin.append_ #[t,t] o.type #[v,u]).run P w = .ok v' w') (h:K (a.put o.dst v') w') :
  if Region.wanted o (yielded ops a.tmps)=true then Oper.wpIn Fence.wide m P o a w K Q else E:=by
 have hw:Region.wanted o (yielded ops a.tmps)=true:=by simp[Region.wanted,hgd]
 rw[if_pos hw]
 unfold Oper.wpIn
 refine⟨?_,?_⟩
 ·simp[Oper.about,ho,resolve,Target.leads,Sem.run_pure]
 ·rw[Oper.semAt_plain Fence.wide _ _ (by rw[ho];intro c hc';cases hc')]
  simp[execOp,ho,resolve,invoke,builtin,hs,hx,hrun,Result.andThen]
  exact h
theorem Xbz {F:Fence} {n:Nat} {c:Code} {Q:Exit→Act→World→Prop} {a aF:Act} {w w':World} (h:c.wpIn F n P (Exit.then (fun a' v=>a'=aF∧v=w') (fun _ _ _=>False)) a w) (k:Q .normal aF w'):c.wpIn F n P Q a w :=
 wpIn_mono h (fun e a' v hh=>by
  cases e with
  | normal=>obtain⟨h2,h3⟩:=hh;subst h2 h3;exact k
  | _=>exact hh.elim)
def PanD (D:Act→Prop) (PhiP:List PanicEntry→World→Prop) (e:Exit) (a':Act) (v:World):Prop:=∃ch,e = .panic ch∧D a'∧PhiP ch v
def KeepF (a:Act) (k:Nat) (a':Act):Prop:=a'.defers=a.defers∧∀i,i<k→a'.tmps[i]? = a.tmps[i]?
def Xmf (k:Nat):Option Nat→Bool
 | none=>true
 | some j=>Nat.ble k j
theorem KeepF.put {a a1:Act} {k:Nat} {d:Option Nat} {v:Value} (hd:Xmf k d=true) (h:KeepF a k (a1.put d v)):KeepF a k a1:=by
 cases d with
 | none=>exact h
 | some j =>
  obtain⟨h1,h3⟩:=h
  refine⟨h1,fun i hi=>?_⟩
  have hj:j≠i:=by have:k≤j:=Nat.le_of_ble_eq_true hd;omega
  have:(a1.tmps.setIfInBounds j v)[i]? = a.tmps[i]? := h3 i hi
  rwa [Array.getElem?_setIfInBounds_ne hj] at this
theorem KeepF.of_take {a a':Act} {k:Nat} (hd:a'.defers=a.defers) (h:a'.tmps.toList.take k=a.tmps.toList.take k):KeepF a k a' :=
 ⟨hd,fun i hi=>by
  have h1:(a'.tmps.toList.take k)[i]? = (a.tmps.toList.take k)[i]? := by rw[h]
  rwa [List.getElem?_take,List.getElem?_take,if_pos hi,if_pos hi,Array.getElem?_toList,Array.getElem?_toList] at h1⟩
theorem PanD.put {a a1:Act} {k:Nat} {PhiP:List PanicEntry→World→Prop} {d:Option Nat} {v:Value} {c:List PanicEntry} {w:World} (hd:Xmf k d=true) (h:PanD (KeepF a k) PhiP (.panic c) (a1.put d v) w):PanD (KeepF a k) PhiP (.panic c) a1 w:=by
 obtain⟨ch,h1,h2,h3⟩:=h
 exact⟨ch,h1,h2.put hd,h3⟩
theorem Xd1 {F:Fence} {n:Nat} {c:Code} {Q:Exit→Act→World→Prop} {a:Act} {w:World} (k:Nat) (PhiP:List PanicEntry→World→Prop) (h:c.wpIn F n P (PanD (KeepF a k) PhiP) a w) (hk:∀ch a' v,KeepF a k a'→PhiP ch v→Q (.panic ch) a' v):c.wpIn F n P Q a w :=
 wpIn_mono h (fun e a' v ⟨ch,he,h2,h3⟩=>by subst he;exact hk ch a' v h2 h3)
theorem Td {β:Type} {F:Fence} {n:Nat} {c:Code} {Q:Exit→Act→World→Prop} {a:Act} {w:World} (upd:β→Act→Act) (Phi:β→World→Prop) (h:c.wpIn F n P (Exit.then (fun a' v=>∃u,a'=upd u a∧Phi u v) (fun _ _ _=>False)) a w) (k:∀u v,Phi u v→Q .normal (upd u a) v):c.wpIn F n P Q a w :=
 wpIn_mono h (fun e a' v hh=>by
  cases e with
  | normal=>obtain⟨u,h2,h3⟩:=hh;subst h2;exact k u v h3
  | _=>exact hh.elim)
end
end Go.Han
namespace Go.Proofs.YthojaplnimoacaaGreatDoor
open Go.RowKit Go.Han
attribute [local irreducible] wpStill wpQuiet
set_option maxRecDepth 100000
def I6 (n:Int):Prop := -9223372036854775808≤n∧n≤9223372036854775807
mutual
def Z6:TreeV→Prop
 | .node r j i k l=>I6 r∧I6 j∧I6 i∧I6 k∧Ve l
def Ve:List TreeV→Prop
 | []=>True
 | t :: l=>Z6 t∧Ve l
end
theorem Qb:∀ {l:List TreeV},Ve l→∀t∈l,Z6 t
 | [],_,t,ht=>by cases ht
 | x :: l,h,t,ht=>by
  unfold Ve at h
  rcases List.mem_cons.1 ht with rfl|ht
  ·exact h.1
  ·exact Qb h.2 t ht
theorem Xnd {t:TreeV} (h:Z6 t):I6 t.frm∧I6 t.unt:=by
 cases t
 unfold Z6 at h
 exact⟨h.2.2.1,h.2.2.2.1⟩
theorem Xdp {g:Gram} {items:List ItemG} {n m:Nat} (hg:Yu g) (hi:Zr n m items) {t:TreeV} {c cost:Int} (h:X6 g items t c=(cost,true)):0≤cost∧cost≤1000*X5 t:=by
 obtain⟨i,k,_,_,_,_,hm⟩:=Xgx hg hi t c cost h
 have:=Xe2 hg hi _ _ _ _ _ hm
 exact this
structure LiesSt (g:Gram) (items:List ItemG) (R:Int×Bool) (ps:List PartG) (l:List TreeV) (k:Int) (p:Nat) (ks:List TreeV) (at_ cost:Int):Prop where
 eq:Z9 (Xm items) (ps.drop p) (Yl g items ks) at_ k cost=R
 sub:∀t∈ks,t∈l
 fit:I6 at_
 lo:0≤cost
 hi:cost+1000*Xp ks≤1000*(1+Xp l)
section
variable {g:Gram} {items:List ItemG} {R:Int×Bool} {ps:List PartG} {l:List TreeV} {k:Int} {p:Nat} {ks:List TreeV} {at_ cost:Int}
theorem LiesSt.start {c:Int} (h0:0≤c) (h1:c≤1000) {i:Int} (hi:I6 i):LiesSt g items (Z9 (Xm items) ps (Yl g items l) i k c) ps l k 0 l i c :=
 ⟨rfl,fun _ h=>h,hi,h0,by omega⟩
theorem LiesSt.done (h:LiesSt g items R ps l k ps.length ks at_ cost):R=(cost,decide (ks=[]) && decide (at_=k)):=by
 have:=h.eq
 rw[List.drop_length] at this
 rw[← this]
 unfold Z9
 congr 2
 cases ks<;>simp[Yl]
theorem LiesSt.text_no (h:LiesSt g items R ps l k p ks at_ cost) (hp:p<ps.length) (ht:ps[p].text.size≠0) (hn:¬(at_<k∧Xm items at_ ps[p].text=true)):R=(0,false):=by
 have:=h.eq
 rw[List.drop_eq_getElem_cons hp,U9 ht,if_neg hn] at this
 exact this.symm
theorem LiesSt.text (h:LiesSt g items R ps l k p ks at_ cost) (hp:p<ps.length) (ht:ps[p].text.size≠0) (hn:at_<k) (hw:Xm items at_ ps[p].text=true) (hk:I6 k):LiesSt g items R ps l k (p+1) ks (at_+1) cost:=by
 have:=h.eq
 rw[List.drop_eq_getElem_cons hp,U9 ht,if_pos ⟨hn,hw⟩] at this
 exact⟨this,h.sub,by have:=h.fit;unfold I6 at *;omega,h.lo,h.hi⟩
theorem LiesSt.none (h:LiesSt g items R ps l k p [] at_ cost) (hp:p<ps.length) (ht:¬ps[p].text.size≠0):R=(0,false):=by
 have:=h.eq
 rw[List.drop_eq_getElem_cons hp,Yl,Xbt ht] at this
 exact this.symm
theorem LiesSt.cat_frm {t:TreeV} {ks':List TreeV} (h:LiesSt g items R ps l k p (t :: ks') at_ cost) (hp:p<ps.length) (ht:¬ps[p].text.size≠0) (hn:t.frm≠at_):R=(0,false):=by
 have:=h.eq
 rw[List.drop_eq_getElem_cons hp,Yl,U3 ht] at this
 simp only at this
 rw[if_neg hn] at this
 exact this.symm
theorem LiesSt.cat_no {t:TreeV} {ks':List TreeV} (h:LiesSt g items R ps l k p (t :: ks') at_ cost) (hp:p<ps.length) (ht:¬ps[p].text.size≠0) (hf:t.frm=at_) (hn:(X6 g items t ps[p].no).2=false):R=(0,false):=by
 have:=h.eq
 rw[List.drop_eq_getElem_cons hp,Yl,U3 ht] at this
 simp only at this
 rw[if_pos hf,if_neg (by rw[hn];simp)] at this
 exact this.symm
theorem LiesSt.cat {n m:Nat} (hg:Yu g) (hi:Zr n m items) (hfit:∀t∈l,Z6 t) {t:TreeV} {ks':List TreeV} (h:LiesSt g items R ps l k p (t :: ks') at_ cost) (hp:p<ps.length) (ht:¬ps[p].text.size≠0) (hf:t.frm=at_) {c:Int} (hn:X6 g items t ps[p].no=(c,true)):LiesSt g items R ps l k (p+1) ks' t.unt (cost+c):=by
 have:=h.eq
 rw[List.drop_eq_getElem_cons hp,Yl,U3 ht] at this
 simp only at this
 rw[if_pos hf,hn] at this
 simp only[if_true] at this
 have hb:=Xdp hg hi hn
 have h1:=h.hi
 have h2:=h.lo
 rw[Xp] at h1
 exact⟨this,fun x hx=>h.sub x (List.mem_cons_of_mem _ hx),(Xnd (hfit t (h.sub t (List.mem_cons_self ..)))).2,by omega,by push_cast at h1;omega⟩
end
theorem i6_wf {x:Int} (h:I6 x):(Lit.int .i64 x).wf=true:=by
 unfold I6 at h
 simp[Lit.wf,IntKind.min,IntKind.max,IntKind.signed,IntKind.bits]
 omega
theorem WordsM.lookW {Q:Nat→Prop} {W:World} {wb:Nat} {items:List ItemG} (h:WordsM Q W wb items) {i:Int} (h1:I6 i) :
  ∃(A:Option Addr) (cp:Nat) (xs:List ByteArray),(∀W',W'.heap[wb]? = W.heap[wb]? → (Instr.lookup 156 (.map (some wb)) (.int .i64 i) false).run Tryz.prog W' = .ok (.slice A xs.length cp) W')∧(∀W',(∀b,Q b→W'.heap[b]? = W.heap[b]?)→W.heap.size≤W'.heap.size→StrS.lies W' ⟨A,cp,xs⟩)∧∀s,(xs.any fun y=>decide (y=s))=Xm items i s:=by
 obtain⟨n,f,hm,hf⟩:=h
 have hrun:=fun (W':World) (hw:W'.heap[wb]? = W.heap[wb]?)=>Uw U8 T1 intW slcShape ⟨none,0,0⟩ (Xaz W') (hm.of_block hw) i (i6_wf h1)
 have hi:=hf i
 cases hfi:f i with
 | none =>
  rw[hfi] at hrun hi
  have hl:∀V:World,StrS.lies V ⟨none,0,[]⟩:=fun V=>⟨.inl rfl,Nat.le_refl _,by show (0:Nat)≤_;omega,fun _=>rfl⟩
  exact⟨none,0,[],hrun,fun V _ _=>hl V,fun s=>by rw[hi s];rfl⟩
 | some v =>
  rw[hfi] at hrun hi
  obtain⟨xs,e1,e2,⟨b,off,e3,e4⟩,e5⟩:=hi
  refine⟨v.addr,v.cap,xs,?_,fun V hV hz=>Xhy e2 e3 (hV b e4) hz,e5⟩
  rw[← e1];exact hrun
theorem Xoh (A:Option Addr) (cp n:Nat) (W:World) (h:1≤n) :
  (Instr.slice 30 (.slice A n cp) (some (.int .i64 1)) none none).run Tryz.prog W = .ok (.slice (subA A cp 1 5) (n-1) (cp-1)) W:=by
 have e:=run_slice_l (P:=Tryz.prog) (w:=W) 30 A n cp (by rw[Tryz.underlying30];rfl) .i64 (1:Int) (by omega) (by omega)
 rw[e]
 have h3:(Go.sizeOf (Tryz.prog.elem 30)).run Tryz.prog W = .ok 5 W:=by kernel_rfl
 rw[h3]
 rfl
theorem Xqn {w:World} {P:Nat→Prop} {t:TreeV} {l:List TreeV} {css:List (List Value)} {A:Option Addr} {cp:Nat} (hr:Rd w A css.flatten) (hk:KidsAt w P (t :: l) css) (hc:l.length+1≤cp) :
  ∃css',KidsAt w P l css'∧Rd w (subA A cp 1 5) css'.flatten:=by
 unfold KidsAt at hk
 obtain⟨cs,css',rfl,h1,h2⟩:=hk
 refine⟨css',h2,?_⟩
 have h5:=Xbv h1
 unfold subA
 rw[List.flatten_cons] at hr
 rcases hr with h0|⟨b,off,rfl,hb,hcl⟩
 ·have:=congrArg List.length h0
  rw[List.length_append,h5] at this
  simp at this
 ·split
  ·rename_i hcp
   have:l=[]:=List.eq_nil_of_length_eq_zero (by omega)
   subst this
   unfold KidsAt at h2
   rw[h2]
   exact .inl rfl
  ·refine .inr ⟨b,off+5,rfl,hb,fun j u hu=>?_⟩
   rw[Nat.add_assoc]
   refine hcl (5+j) u ?_
   rw[List.getElem?_append_right (by omega),h5,Nat.add_sub_cancel_left]
   exact hu
def T5 (g:Gram) (items:List ItemG) (t:TreeV) (c:Int) (w:World) (e:Ending) (w':World):Prop :=
 e = .returned (.tuple #[.int .i64 (X6 g items t c).1,.bool (X6 g items t c).2])∧Below w.heap.size w w'
set_option maxHeartbeats 4000000 in
theorem Xpr {g:Gram} {its:SlS ItemG} {N:Nat} {e0:World} (hil:ItemsAt e0 its) (_hfew:its.xs.length≤16384) (cb kb wb top:Nat) (xj xi xu:Int) (l:List TreeV) (xa:Option Addr) (xc:Nat) (c:Int) (w:World) (hE:ChEnv e0 cb kb wb top g its N w) :
  Calls Tryz.prog 58 #[.pointer (some ⟨cb,0,none⟩),.agg #[.int .i64 (-1),.int .i64 xj,.int .i64 xi,.int .i64 xu,.slice xa l.length xc],.int .i64 c] w (T5 g its.xs (.node (-1) xj xi xu l) c w):=by
 obtain⟨w1,hw1⟩:∃w1,w.alloc (.cells #[.int .i64 (-1),.int .i64 xj,.int .i64 xi,.int .i64 xu,.slice xa l.length xc] 32)=w1:=⟨_,rfl⟩
 have hB1:=Yn hw1
 have hz1:=Yv hw1
 have y0:=gblk hz1 0
 have y1:=gblk hz1 1
 have y2:=gblk hz1 2
 have y3:=gblk hz1 3
 have y4:=gblk hz1 4
 have hE1:=hE.ext hB1
 have hch:=hE1.chart
 have c0:=gblk hch 0
 have c1:=gblk hch 1
 have c2:=gblk hch 2
 have c3:=gblk hch 3
 have c4:=gblk hch 4
 have c5:=gblk hch 5
 have c6:=gblk hch 6
 have c7:=gblk hch 7
 have c8:=gblk hch 8
 have c9:=gblk hch 9
 have HE1:=Xa hE1
 have HB1:=Xa hB1
 have Hz1:=Xa hz1
 have hlz:=Xc hz1
 clear hz1 hB1 hch hE
 have HD:=Xa (show X6 g its.xs (.node (-1) xj xi xu l) c=(if xj<0∨(its.xs.length:Int)≤xj∨0<l.length then (0,false) else match its.xs[xj.toNat]? with|some x=>(x.cost,decide (x.cat=c) && decide (x.frm=xi) && decide (x.unt=xu))|none=>(0,false)) by rw[X6,if_pos rfl];rfl)
 by_cases h1:xj<0
 ·have q1:decide (xj<0)=true:=decide_eq_true h1
  have HR:=Xa (HD.out.trans (if_pos (.inl h1)))
  clear HD
  go_enter Tryz.func58,Tryz.ntmps58
  go_wp2_with fail
  go_still (by kernel_rfl)
  go_wp2_with fail
  exact bodyPost_ret (v:=.tuple #[.int .i64 0,.bool false]) (by simp[results,Tryz.results58,go_sem]) rfl ⟨by rw[HR.out],Xb HB1.out (Xi (Below.refl _ _))⟩
 have q1:decide (xj<0)=false:=decide_eq_false h1
 by_cases h2:(its.xs.length:Int)≤xj
 ·have q2:decide ((its.xs.length:Int)≤xj)=true:=decide_eq_true h2
  have HR:=Xa (HD.out.trans (if_pos (.inr (.inl h2))))
  clear HD
  go_enter Tryz.func58,Tryz.ntmps58
  go_wp2_with fail
  go_still (by kernel_rfl)
  go_wp2_with fail
  exact bodyPost_ret (v:=.tuple #[.int .i64 0,.bool false]) (by simp[results,Tryz.results58,go_sem]) rfl ⟨by rw[HR.out],Xb HB1.out (Xi (Below.refl _ _))⟩
 have q2:decide ((its.xs.length:Int)≤xj)=false:=decide_eq_false h2
 by_cases h3:0<l.length
 ·have q3:decide ((0:Int)<(l.length:Int))=true:=decide_eq_true (by omega)
  have HR:=Xa (HD.out.trans (if_pos (.inr (.inr h3))))
  clear HD
  go_enter Tryz.func58,Tryz.ntmps58
  go_wp2_with fail
  go_still (by kernel_rfl)
  go_wp2_with fail
  exact bodyPost_ret (v:=.tuple #[.int .i64 0,.bool false]) (by simp[results,Tryz.results58,go_sem]) rfl ⟨by rw[HR.out],Xb HB1.out (Xi (Below.refl _ _))⟩
 have q3:decide ((0:Int)<(l.length:Int))=false:=decide_eq_false (by omega)
 obtain⟨jn,rfl⟩:∃jn:Nat,xj=(jn:Int):=⟨xj.toNat,by omega⟩
 have hlt:jn<its.xs.length:=by omega
 have HR0:=Xa (HD.out.trans (if_neg (by omega)))
 rw[show ((jn:Int)).toNat=jn by omega,List.getElem?_eq_getElem hlt] at HR0
 obtain⟨bi,oi,hAi,hbi,hci⟩:=hil.lies.at_ ItemG.size_cells (by omega) hlt
 have HC:Hid (∀V,Below w1.heap.size w1 V→V.cell? ⟨cb,6,none⟩=some (.slice (some ⟨bi,oi,none⟩) its.xs.length its.cap)∧(V.cell? ⟨w.heap.size,1,none⟩=some (.int .i64 (jn:Int))∧V.cell? ⟨w.heap.size,2,none⟩=some (.int .i64 xi)∧V.cell? ⟨w.heap.size,3,none⟩=some (.int .i64 xu))∧V.cell? ⟨bi,oi+jn*6,none⟩=some (.int .i64 its.xs[jn].cat)∧V.cell? ⟨bi,oi+jn*6+1,none⟩=some (.int .i64 its.xs[jn].frm)∧V.cell? ⟨bi,oi+jn*6+2,none⟩=some (.int .i64 its.xs[jn].unt)∧V.cell? ⟨bi,oi+jn*6+3,none⟩=some (.int .i64 its.xs[jn].cost)∧V.cell? ⟨bi,oi+jn*6+4,none⟩=some (.slice its.xs[jn].tgt.addr its.xs[jn].tgt.xs.length its.xs[jn].tgt.cap)∧V.cell? ⟨bi,oi+jn*6+5,none⟩=some (.int .i64 its.xs[jn].term)):=fun V hV=>by
  have hh:=(HE1.out.ext hV).chart
  have hz:=Xh hV Hz1.out
  have hW:=(HE1.out.ext hV).low
  refine⟨by rw[← hAi];exact gblk hh 6,⟨gblk hz 1,gblk hz 2,gblk hz 3⟩,hci jn hlt V hW 0 _ rfl,hci jn hlt V hW 1 _ rfl,hci jn hlt V hW 2 _ rfl,hci jn hlt V hW 3 _ rfl,hci jn hlt V hW 4 _ rfl,hci jn hlt V hW 5 _ rfl⟩
 rw[hAi] at c6
 clear hci hAi HD
 generalize its.xs[jn]=z at *
 have hlw:=Xa (Xi (Xi (Below.refl w1.heap.size w1)))
 go_enter Tryz.func58,Tryz.ntmps58
 go_wp2_with fail
 go_still (by kernel_rfl)
 go_wp2_with fail
 refine wpIn_wide (n:=0) |>.1 ?_
 refine Y4 _ ?_ (fun _ _ h=>h)
 refine Xo (fun V=>Below w1.heap.size w1 V) (by kernel_rfl) ?_
 refine Xd (i:=0) rfl (by kernel_rfl) (fun _ _ _ h=>h) (fun V hV=>(by obtain⟨m0,⟨m1,m2,m3⟩,r0,r1,r2,r3,r4,r5⟩:=HC.out V hV;go_simp<;>rfl)) ?_
 refine Xd (i:=1) rfl (by kernel_rfl) (fun _ _ _ h=>h) (fun V hV=>(by obtain⟨m0,⟨m1,m2,m3⟩,r0,r1,r2,r3,r4,r5⟩:=HC.out V hV;go_simp<;>rfl)) ?_
 refine Xd (i:=2) rfl (by kernel_rfl) (fun _ _ _ h=>h) (fun V hV=>(by obtain⟨m0,⟨m1,m2,m3⟩,r0,r1,r2,r3,r4,r5⟩:=HC.out V hV;go_simp<;>rfl)) ?_
 refine Xd (i:=3) rfl (by kernel_rfl) (fun _ _ _ h=>h) (fun V hV=>(by obtain⟨m0,⟨m1,m2,m3⟩,r0,r1,r2,r3,r4,r5⟩:=HC.out V hV;go_simp<;>rfl)) ?_
 refine Xd (i:=4) rfl (by kernel_rfl) (fun _ _ _ h=>h) (fun V hV=>(by obtain⟨m0,⟨m1,m2,m3⟩,r0,r1,r2,r3,r4,r5⟩:=HC.out V hV;go_simp<;>rfl)) ?_
 refine Xd (i:=5) rfl (by kernel_rfl) (fun _ _ _ h=>h) (fun V hV=>(by obtain⟨m0,⟨m1,m2,m3⟩,r0,r1,r2,r3,r4,r5⟩:=HC.out V hV;go_simp<;>rfl)) ?_
 refine Xd (i:=6) rfl (by kernel_rfl) (fun _ _ _ h=>h) (fun V hV=>(by obtain⟨m0,⟨m1,m2,m3⟩,r0,r1,r2,r3,r4,r5⟩:=HC.out V hV;go_simp<;>rfl)) ?_
 refine Xd (i:=7) (v:=.agg #[.int .i64 z.cat,.int .i64 z.frm,.int .i64 z.unt,.int .i64 z.cost,.slice z.tgt.addr z.tgt.xs.length z.tgt.cap,.int .i64 z.term]) rfl (by kernel_rfl) (fun _ _ _ h=>h) (fun V hV=>(by obtain⟨m0,⟨m1,m2,m3⟩,r0,r1,r2,r3,r4,r5⟩:=HC.out V hV;go_simp)) ?_
 refine Xg (i:=8) hlw.out (by kernel_rfl) rfl (fun K hK=>?_)
 go_simp
 refine hK _ _ ?_
 clear hK K
 have hB8:=Xe hlw.out (.cells #[.int .i64 0,.int .i64 0,.int .i64 0,.int .i64 0,.slice none 0 0,.int .i64 0] 47)
 refine Xg (i:=9) hB8 (by kernel_rfl) rfl (fun K hK=>?_)
 go_simp
 refine hK _ _ ?_
 clear hK K
 obtain⟨w2,hw2⟩:∃w2,(w1.alloc (.cells #[.int .i64 z.cat,.int .i64 z.frm,.int .i64 z.unt,.int .i64 z.cost,.slice z.tgt.addr z.tgt.xs.length z.tgt.cap,.int .i64 z.term] 47)).drew.drew=w2:=⟨_,rfl⟩
 have hb2:Below w1.heap.size w1 w2:=by rw[← hw2];exact Xi (Xi (Xe (Below.refl _ _) _))
 have hz2:w2.heap[w1.heap.size]? = some (.cells #[.int .i64 z.cat,.int .i64 z.frm,.int .i64 z.unt,.int .i64 z.cost,.slice z.tgt.addr z.tgt.xs.length z.tgt.cap,.int .i64 z.term] 47 (0,0)):=by rw[← hw2];exact World.alloc_heap_new _ _
 rw[hw2]
 refine Xl hb2 (by kernel_rfl) ?_ _
 obtain⟨m0,⟨m1,m2,m3⟩,r0,r1,r2,r3,r4,r5⟩:=HC.out w2 hb2
 have e0:=gblk hz2 0
 have e1:=gblk hz2 1
 have e2:=gblk hz2 2
 have e3:=gblk hz2 3
 have e4:=gblk hz2 4
 have e5:=gblk hz2 5
 have Hb2:=Xa (Xb HB1.out hb2)
 replace HR0:Hid (X6 g its.xs (.node (-1) (jn:Int) xi xu l) c=(z.cost,decide (z.cat=c) && decide (z.frm=xi) && decide (z.unt=xu))):=HR0.out
 clear hz2 hb2 hw2 hB8 hlw r0 r1 r2 r3 r4 r5 m0 c0 c1 c2 c3 c4 c5 c6 c7 c8 c9 y0 y1 y2 y3 y4
 by_cases h1:z.cat=c
 rotate_left
 ·have k1:(z.cat == c)=false:=by simpa using h1
  have HR:=Xa (show X6 g its.xs (.node (-1) (jn:Int) xi xu l) c=(z.cost,false) by rw[HR0.out,decide_eq_false h1];rfl)
  clear HR0 h1
  go_wp2_with fail
  go_still (by kernel_rfl)
  go_wp2_with fail
  exact bodyPost_ret (v:=.tuple #[.int .i64 z.cost,.bool false]) (by simp[results,Tryz.results58,go_sem]) rfl ⟨by rw[HR.out],Xb Hb2.out (Xi (Below.refl _ _))⟩
 have k1:(z.cat == c)=true:=by simpa using h1
 replace HR0:Hid (X6 g its.xs (.node (-1) (jn:Int) xi xu l) c=(z.cost,decide (z.frm=xi) && decide (z.unt=xu))):=by have h:=HR0.out;rw[decide_eq_true h1] at h;exact h
 by_cases h2:z.frm=xi
 rotate_left
 ·have k2:(z.frm == xi)=false:=by simpa using h2
  have HR:=Xa (show X6 g its.xs (.node (-1) (jn:Int) xi xu l) c=(z.cost,false) by rw[HR0.out,decide_eq_false h2];rfl)
  clear HR0 h2
  go_wp2_with fail
  go_still (by kernel_rfl)
  go_wp2_with fail
  exact bodyPost_ret (v:=.tuple #[.int .i64 z.cost,.bool false]) (by simp[results,Tryz.results58,go_sem]) rfl ⟨by rw[HR.out],Xb Hb2.out (Xi (Below.refl _ _))⟩
 have k2:(z.frm == xi)=true:=by simpa using h2
 replace HR0:Hid (X6 g its.xs (.node (-1) (jn:Int) xi xu l) c=(z.cost,decide (z.unt=xu))):=by have h:=HR0.out;rw[decide_eq_true h2] at h;exact h
 by_cases h3:z.unt=xu
 rotate_left
 ·have k3:(z.unt == xu)=false:=by simpa using h3
  have HR:=Xa (show X6 g its.xs (.node (-1) (jn:Int) xi xu l) c=(z.cost,false) by rw[HR0.out,decide_eq_false h3])
  clear HR0 h3
  go_wp2_with fail
  go_still (by kernel_rfl)
  go_wp2_with fail
  exact bodyPost_ret (v:=.tuple #[.int .i64 z.cost,.bool false]) (by simp[results,Tryz.results58,go_sem]) rfl ⟨by rw[HR.out],Xb Hb2.out (Xi (Below.refl _ _))⟩
 have k3:(z.unt == xu)=true:=by simpa using h3
 have HR:=Xa (show X6 g its.xs (.node (-1) (jn:Int) xi xu l) c=(z.cost,true) by rw[HR0.out,decide_eq_true h3])
 clear HR0 h1 h2 h3
 go_wp2_with fail
 go_still (by kernel_rfl)
 go_wp2_with fail
 exact bodyPost_ret (v:=.tuple #[.int .i64 z.cost,.bool true]) (by simp[results,Tryz.results58,go_sem]) rfl ⟨by rw[HR.out],Xb Hb2.out (Xi (Below.refl _ _))⟩
set_option maxHeartbeats 8000000 in
theorem Xre {g:Gram} {its:SlS ItemG} {N:Nat} {e0:World} (hgl:g.lies e0) (cb kb wb top:Nat) (xr xj xi xu:Int) (l:List TreeV) (xa:Option Addr) (xc:Nat) (c:Int) (w:World) (hE:ChEnv e0 cb kb wb top g its N w)
  (hr1:xr ≠ -1) (hbad:∀(rn:Nat) (h:rn<g.rules.xs.length),xj = -1→xr=(rn:Int)→g.rules.xs[rn].no≠c) :
  Calls Tryz.prog 58 #[.pointer (some ⟨cb,0,none⟩),.agg #[.int .i64 xr,.int .i64 xj,.int .i64 xi,.int .i64 xu,.slice xa l.length xc],.int .i64 c] w (T5 g its.xs (.node xr xj xi xu l) c w):=by
 obtain⟨w1,hw1⟩:∃w1,w.alloc (.cells #[.int .i64 xr,.int .i64 xj,.int .i64 xi,.int .i64 xu,.slice xa l.length xc] 32)=w1:=⟨_,rfl⟩
 have hB1:=Yn hw1
 have hz1:=Yv hw1
 have y0:=gblk hz1 0
 have y1:=gblk hz1 1
 have y2:=gblk hz1 2
 have y3:=gblk hz1 3
 have y4:=gblk hz1 4
 have hE1:=hE.ext hB1
 have hch:=hE1.chart
 have c0:=gblk hch 0
 have c1:=gblk hch 1
 have c2:=gblk hch 2
 have c3:=gblk hch 3
 have c4:=gblk hch 4
 have c5:=gblk hch 5
 have c6:=gblk hch 6
 have c7:=gblk hch 7
 have c8:=gblk hch 8
 have c9:=gblk hch 9
 have HE1:=Xa hE1
 have HB1:=Xa hB1
 have Hz1:=Xa hz1
 have hlz:=Xc hz1
 clear hz1 hB1 hch hE
 have k0:(xr == -1)=false:=by simpa using hr1
 have HD:=Xa (show X6 g its.xs (.node xr xj xi xu l) c=(if xj ≠ -1∨xr<0∨(g.rules.xs.length:Int)≤xr then (0,false) else match g.rules.xs[xr.toNat]? with|none=>(0,false)|some x=>if x.no=c then Z9 (Xm its.xs) x.parts.xs (Yl g its.xs l) xi xu x.cost else (0,false)) by rw[X6,if_neg hr1];rfl)
 by_cases h1:xj ≠ -1
 ·have q1:(xj != -1)=true:=by simpa using h1
  have HR:=Xa (HD.out.trans (if_pos (.inl h1)))
  clear hbad
  clear HD
  go_enter Tryz.func58,Tryz.ntmps58
  go_wp2_with fail
  go_still (by kernel_rfl)
  go_wp2_with fail
  exact bodyPost_ret (v:=.tuple #[.int .i64 0,.bool false]) (by simp[results,Tryz.results58,go_sem]) rfl ⟨by rw[HR.out],Xb HB1.out (Xi (Below.refl _ _))⟩
 have hj1:xj = -1:=by simpa using h1
 subst hj1
 by_cases h2:xr<0
 ·have q2:decide (xr<0)=true:=decide_eq_true h2
  have HR:=Xa (HD.out.trans (if_pos (.inr (.inl h2))))
  clear HD
  go_enter Tryz.func58,Tryz.ntmps58
  go_wp2_with fail
  go_still (by kernel_rfl)
  go_wp2_with fail
  exact bodyPost_ret (v:=.tuple #[.int .i64 0,.bool false]) (by simp[results,Tryz.results58,go_sem]) rfl ⟨by rw[HR.out],Xb HB1.out (Xi (Below.refl _ _))⟩
 have q2:decide (xr<0)=false:=decide_eq_false h2
 by_cases h3:(g.rules.xs.length:Int)≤xr
 ·have q3:decide ((g.rules.xs.length:Int)≤xr)=true:=decide_eq_true h3
  have HR:=Xa (HD.out.trans (if_pos (.inr (.inr h3))))
  clear HD
  go_enter Tryz.func58,Tryz.ntmps58
  go_wp2_with fail
  go_still (by kernel_rfl)
  go_wp2_with fail
  exact bodyPost_ret (v:=.tuple #[.int .i64 0,.bool false]) (by simp[results,Tryz.results58,go_sem]) rfl ⟨by rw[HR.out],Xb HB1.out (Xi (Below.refl _ _))⟩
 have q3:decide ((g.rules.xs.length:Int)≤xr)=false:=decide_eq_false h3
 obtain⟨rn,rfl⟩:∃rn:Nat,xr=(rn:Int):=⟨xr.toNat,by omega⟩
 have hlt:rn<g.rules.xs.length:=by omega
 have HR0:=HD.out.trans (if_neg (by omega))
 rw[show ((rn:Int)).toNat=rn by omega,List.getElem?_eq_getElem hlt] at HR0
 obtain⟨bR,oR,hRa,hbR,hRc⟩:=hgl.rules.at_ RuleG.size_cells (by omega) hlt
 have d0:w1.cell? ⟨bR,oR+rn*5,none⟩=some (.string g.rules.xs[rn].cat):=hRc rn hlt w1 HE1.out.low 0 _ rfl
 have d1:w1.cell? ⟨bR,oR+rn*5+1,none⟩=some (.int .i64 g.rules.xs[rn].no):=hRc rn hlt w1 HE1.out.low 1 _ rfl
 have d2:w1.cell? ⟨bR,oR+rn*5+2,none⟩=some (.slice g.rules.xs[rn].parts.addr g.rules.xs[rn].parts.xs.length g.rules.xs[rn].parts.cap):=hRc rn hlt w1 HE1.out.low 2 _ rfl
 have d3:w1.cell? ⟨bR,oR+rn*5+3,none⟩=some (.slice g.rules.xs[rn].gives.addr g.rules.xs[rn].gives.xs.length g.rules.xs[rn].gives.cap):=hRc rn hlt w1 HE1.out.low 3 _ rfl
 have d4:w1.cell? ⟨bR,oR+rn*5+4,none⟩=some (.int .i64 g.rules.xs[rn].cost):=hRc rn hlt w1 HE1.out.low 4 _ rfl
 have hno:=hbad rn hlt rfl rfl
 have hbR1:bR<w1.heap.size:=Nat.lt_of_lt_of_le hbR HE1.out.low.size
 rw[hRa] at c5
 clear hRc HD hr1
 generalize g.rules.xs[rn]=ru at *
 simp only at HR0
 have k1:(ru.no != c)=true:=by simpa using hno
 have k1b:(ru.no == c)=false:=by simpa using hno
 have HR:=Xa (HR0.trans (if_neg hno))
 clear HR0
 go_enter Tryz.func58,Tryz.ntmps58
 go_wp2_with fail
 go_still (by kernel_rfl)
 go_wp2_with fail
 exact bodyPost_ret (v:=.tuple #[.int .i64 0,.bool false]) (by simp[results,Tryz.results58,go_sem]) rfl ⟨by rw[HR.out],Xb HB1.out (Xi (Below.refl _ _))⟩
end Go.Proofs.YthojaplnimoacaaGreatDoor
