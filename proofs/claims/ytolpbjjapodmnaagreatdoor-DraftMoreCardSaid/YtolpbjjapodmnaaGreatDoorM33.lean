/- Texts of this claim, one after the other: Opg1g, Opg2g, Opg3g, Opg4g, Opg5, Opg8, OpgK. -/
import Derived.Test.YtolpbjjapodmnaaGreatDoorM9
import Derived.Test.YtolpbjjapodmnaaGreatDoorTie
import Derived.Test.YtolpbjjapodmnaaGreatDoorM13
import Derived.Test.YtolpbjjapodmnaaGreatDoorM19
import Derived.Test.YtolpbjjapodmnaaGreatDoorM12
import Derived.Lib.LaidU8T
import Derived.PinnedBridge
import Derived.OpenVars
import Derived.Deep.Slices
import Derived.Deep.Fields
import Derived.Lib.SmallJoins
import Derived.ProofKit
import Derived.LaidMore
import Derived.OpenShut
import Derived.Lay
import Derived.Stop.Joined
import Derived.Below
import Derived.ChangeSame
import Derived.Carry
import Derived.Lib.LaidTab
/- How the arguments of the statements read, where four tables are listed: those of package utf8, spots, changes, slices of them. -/
namespace Go.Proofs.YtolpbjjapodmnaaGreatDoor
open Go.RowKit Go.Han Go.ChangeShapes Go.WideShapes Go.ChangeAt Go.Deep
set_option maxRecDepth 100000
def uren:Go.Shelf.Ren:=⟨fun n=>n,fun|5=>5|119=>327|138=>329|139=>330|n=>n,fun|3=>1|4=>2|n=>n⟩
theorem X0i:ownKnob Tryz.prog.godebug=none:=by kernel_rfl
theorem X2m:U8Types Tryz.prog uren:=⟨by kernel_rfl,by kernel_rfl,by kernel_rfl,by kernel_rfl⟩
theorem X2l:U8Extra Tryz.prog uren:=⟨by kernel_rfl,by kernel_rfl,by kernel_rfl,by kernel_rfl,by kernel_rfl,by kernel_rfl,by kernel_rfl⟩
theorem Xuq:(Rows.laid_unicode_utf8_acceptRanges:DataW Unit)=Lib.acceptData:=by kernel_rfl
abbrev Xbv : List (String × DataW Unit) := [("unicode/utf8.acceptRanges", Rows.laid_unicode_utf8_acceptRanges), ("unicode.White_Space", Rows.laid_unicode_White_Space), ("strings.asciiSpace", Rows.laid_strings_asciiSpace), ("unicode/utf8.first", Rows.laid_unicode_utf8_first)]
theorem X2j {W:World} (h:laidMetH Tryz.prog Xbv W):Tabs W:=by
 rw[MakeChecks.laidMetH_plain _ _ _ (by kernel_rfl)] at h;have h1 := Lib.laidMet.reads h (n := "unicode/utf8.acceptRanges") (d := Rows.laid_unicode_utf8_acceptRanges) (by simp [Xbv])
 have h2 := Lib.laidMet.reads h (n := "unicode/utf8.first") (d := Rows.laid_unicode_utf8_first) (by simp [Xbv])
 rw[Xuq] at h1;rw[show (Rows.laid_unicode_utf8_first:DataW Unit)=Lib.firstData from Pinned.utf8First_eq] at h2;exact utf8Tabs_of_readsT X2m X2l h2 h1
theorem X0w:(Rows.laid_strings_asciiSpace:DataW Unit)=Lib.tabData .u8 Lib.asciiSpaceTab:=by kernel_rfl
theorem X00 {W:World} (h:laidMetH Tryz.prog Xbv W):TabsG W:=by
 refine⟨X2j h,?_⟩;rw[MakeChecks.laidMetH_plain _ _ _ (by kernel_rfl)] at h;have h1 := Lib.laidMet.reads h (n := "strings.asciiSpace") (d := Rows.laid_strings_asciiSpace) (by simp [Xbv])
 rw[X0w] at h1;obtain⟨g,t,cs,fuel,p,hg,ht,hvar,hd⟩:=h1;obtain rfl := Option.some.inj ((show Tryz.prog.globalNamed "strings.asciiSpace" = some 3 by kernel_rfl).symm.trans hg)
 obtain rfl:=Option.some.inj ((show (Tryz.prog.globals[3]?).map (·.type)=some 327 by kernel_rfl).symm.trans ht);show W.var? Tryz.prog "strings.asciiSpace" = _
 have h2:=Lib.cells_of_tab Tryz.underlying327 Tryz.underlying5 (by kernel_rfl) (by kernel_rfl) hd;rw[hvar,<- h2]
section
variable {H:Type} {enc:TypeId×Value->H} {w:World} {base:Nat} {spare:Nat->Bool} {held:Bool}
theorem Zn:Tryz.prog.cellsOf 3=1:=by kernel_rfl
theorem Y3:Tryz.prog.cellsOf 9=1:=by kernel_rfl
theorem X2 {fs:Array Field} {l:List (TypeId×Nat)} (h:fs.toList.map (fun f=>(f.type,f.offset))=l) {i:Nat} {t o:Nat} (hi:l[i]? = some (t,o)):∃f,fs[i]? = some f/\f.type=t/\f.offset=o:=by
 rw[<- h,List.getElem?_map] at hi;cases hf:fs.toList[i]? with
 | none=>rw[hf] at hi;cases hi
 | some f =>
  rw[hf] at hi;simp only[Option.map_some,Option.some.injEq,Prod.mk.injEq] at hi;exact⟨f,by simpa using hf,hi.1,hi.2⟩
theorem Xsf {P:Program} {f:Func} {s:ChangeSpec} {apart fresh handsOn again:Bool} {W W':World} {args:Array Value} {v:Value} {ds gs:List (DataW H)} {before pa pv:List MemPlace}
  (hW:DataW.Whole enc P f.params.toList s.vars apart W args.toList ds gs before)
  (hres:∀(b:Nat) (sp:Nat->Bool) (hd:Bool),DataW.TrodAll enc P W' b sp hd f.resultTypes.toList (v.resultList f.resultTypes.size) (s.fn H (ds++gs)).results [])
  (hargs:∀sp:Nat->Bool,(∀p∈before,sp p.block=true)->DataW.TrodAll enc P W' 0 sp true f.params.toList args.toList (s.fn H (ds++gs)).args pa)
  (hvars:∀sp:Nat->Bool,(∀p∈before,sp p.block=true)->DataW.TrodVars enc P W' sp s.vars (s.fn H (ds++gs)).vars pv)
  (hps:before=pa++pv) (hb:Below W.heap.size W W')
  (hok:∀(j:Nat) (t:TypeId) (r:Value),f.resultTypes[j]? = some t->(v.resultList f.resultTypes.size)[j]? = some r->Value.okWide P W' .any 0 t r) :
  s.post enc P f apart fresh handsOn again W args v W':=by
 have hlt:∀p∈before,p.block<W.heap.size:=fun p hp=>hW.lt p hp;have hold:∀p∈before,(fun b=>decide (b<W.heap.size)) p.block=true:=fun p hp=>by simpa using hlt p hp
 refine⟨ds,gs,before,[],pa,pv,hW,hres _ _ _,hargs _ hold,hvars _ hold,World.keptBut_mono (fun p hp=>⟨hp,?_⟩) (hb.frame (· ∈ before)),fun _=>?_⟩
 ·rw[hps,List.mem_append] at hp
  exact Or.inr hp
 ·obtain⟨_,_,_,_,_,hz,hn⟩:=hW
  refine⟨hok,_,_,([]++pa)++pv,⟨[]++pa,pv,trodAll_append (hargs _ (fun _ _=>rfl)) (hres _ _ _),hvars _ (fun _ _=>rfl),rfl,?_,?_⟩,?_⟩
  ·intro b off hp
   have hin:MemPlace.cell b off∈before:=(by rw[hps];simpa using hp);rw[hb.frozen (hlt _ hin)];exact hz b off hin
  ·intro ha
   have:=hn ha;rw[hps] at this
   simpa using this
  ·intro p hp _
   rw[hps]
   simpa using hp
end
end Go.Proofs.YtolpbjjapodmnaaGreatDoor
/- Cards: arguments that are only read, all at once. -/
namespace Go.Proofs.YtolpbjjapodmnaaGreatDoor
open Go.RowKit Go.Han Go.ChangeShapes Go.WideShapes Go.ChangeAt Go.Deep
set_option maxRecDepth 100000
theorem Xzz:laidOutB Tryz.prog=true:=by kernel_rfl
theorem Xnk (os:Os) (args:Array Value):laidMetH Tryz.prog Xbv ((World.laidAll Tryz.prog os Xbv).forCall (fun _ _=>0) ⟨#[],args,[]⟩).memory:=by
 rw[MakeChecks.laidMetH_plain _ _ _ (by kernel_rfl)];exact laidMet_laidAll _ (by kernel_rfl) (by kernel_rfl)
section
variable {H:Type} {enc:TypeId×Value->H} {P:Program} {w:World} {base:Nat} {spare:Nat->Bool} {held:Bool}
theorem Xdb (hl:laidOutB P=true) {W W':World} (hb:Below W.heap.size W W') {sp:Nat->Bool}:∀ {ts:List TypeId} {vs:List Value} {ds:List (DataW H)} {ps:List MemPlace},(ts.all fun t=>P.readableRec t && decide (t<P.types.size))=true ->
  DataW.TrodAll enc P W 0 (fun _=>true) true ts vs ds ps->(∀x∈ps,x.block<W.heap.size)->(∀x∈ps,sp x.block=true)->DataW.TrodAll enc P W' 0 sp true ts vs ds ps
 | [],vs,ds,ps,_,h,_,_=>by
  obtain⟨rfl,rfl,rfl⟩:=trodAll_nil h;exact trodAll_mk0
 | t :: ts,vs,ds,ps,hr,h,hlt,hsp=>by
  simp only[List.all_cons,Bool.and_eq_true,decide_eq_true_eq] at hr;obtain⟨v,vs',d,ds',p,q,rfl,rfl,rfl,hd,hrest⟩:=trodAll_cons h
  exact trodAll_cons_mk (WideElems.Trod_stays hl hr.1.1 hr.1.2 hd (fun x hx=>hb.same (hlt x (by simp[hx]))) (fun x hx=>hsp x (by simp[hx])))
   (Xdb hl hb hr.2 hrest (fun x hx=>hlt x (by simp[hx])) (fun x hx=>hsp x (by simp[hx])))
end
end Go.Proofs.YtolpbjjapodmnaaGreatDoor
/- How terms and slices of strings read. -/
namespace Go.Proofs.YtolpbjjapodmnaaGreatDoor
open Go.RowKit Go.Han Go.ChangeShapes Go.WideShapes Go.ChangeAt Go.Deep
set_option maxRecDepth 100000
section
variable {H:Type} {enc:TypeId×Value->H} {w:World} {base:Nat} {spare:Nat->Bool} {held:Bool}
theorem Vx {α:Type} (f:α->List Value) (s:Nat) (d0:α) {t e:TypeId} (ht:Tryz.prog.underlying t=some (.slice e)) (hs:Tryz.prog.cellsOf e=s) (hs0:0<s) (hf:∀y,(f y).length=s)
  (R:α->Prop) (hel:∀(fuel:Nat) (cs:List Value) (x:DataW H×List MemPlace),DataW.trod enc Tryz.prog w 0 spare held fuel e cs=some x->∃y:α,cs=f y/\R y)
  {fuel:Nat} {cs:List Value} {x:DataW H×List MemPlace} (h:DataW.trod enc Tryz.prog w 0 spare held fuel t cs=some x) :
  ∃(A:Option Addr) (cp:Nat) (l:List α),cs=[.slice A l.length cp]/\Rd w A (l.flatMap f)/\(A=none->l=[])/\l.length<=maxLen/\l.length<=cp/\cp<=maxLen/\∀x∈l,R x:=by
 rcases open_slice ht h with ⟨rfl,_⟩|⟨a,len,cap,m,n,D,Pl,rfl,_,hl,hm,hmm,_,hi⟩
 ·exact⟨none,0,[],rfl,Rd.nil _ _,fun _=>rfl,Nat.zero_le _,Nat.le_refl _,Nat.zero_le _,fun x hx=>by cases hx⟩
 ·have hlm:len<=m:=by rw[hmm];split<;>omega
  have each:∀i,i<len->∃y:α,R y/\∀j u,(f y)[j]? = some u->w.cell? (a.add (i*s+j))=some u:=by
   intro i hil;obtain⟨cs',hc,htr⟩:=hi i (by omega);obtain⟨y,rfl,hRy⟩:=hel _ _ _ htr;refine⟨y,hRy,fun j u hu=>?_⟩;rw[hs] at hc;obtain⟨_,hcl,hat⟩:=World.cells?_some hc;have hj:j<s:=(by rw[<- hf y];exact(List.getElem?_eq_some_iff.1 hu).1);rw[<- Go.Deep.add_add,hat j hj,hu]
  refine⟨some a,cap,(List.range len).map (fun i=>if h:i<len then Classical.choose (each i h) else d0),by rw[List.length_map,List.length_range],?_,(fun h=>by cases h),by rw[List.length_map,List.length_range];omega,by rw[List.length_map,List.length_range];omega,by omega,fun x hx=>?_⟩;rotate_left
  ·obtain⟨i,hi,rfl⟩:=List.mem_map.1 hx
   rw[dif_pos (List.mem_range.1 hi)];exact(Classical.choose_spec (each i (List.mem_range.1 hi))).1
  rcases Nat.eq_zero_or_pos len with rfl|hpos
  ·exact .inl (by simp)
  ·have hsp:a.spot=none/\a.block<w.heap.size:=by
    obtain⟨y0,_,h0⟩:=each 0 hpos;have hl0:0<(f y0).length:=(by rw[hf];exact hs0);have:=h0 0 _ (List.getElem?_eq_getElem hl0);rw[Nat.zero_mul,Nat.zero_add] at this;have hc:w.cell? a=some _:=this;refine⟨?_,Ql hc⟩;unfold World.cell? at hc;split at hc
    ·split at hc
     ·cases hc
     ·rename_i hn;simpa using hn
    ·cases hc
   obtain⟨b,off,sp⟩:=a;obtain⟨rfl,hb⟩:=hsp;refine .inr ⟨b,off,rfl,hb,fun j u hu=>?_⟩
   have hj:j<len*s:=by
    have:=(List.getElem?_eq_some_iff.1 hu).1
    rwa [Y0 f s hf,List.length_map,List.length_range] at this
   have hk:j / s<len:=(by rw[Nat.div_lt_iff_lt_mul hs0];exact hj);have hjs:j % s<s:=Nat.mod_lt _ hs0;have e:j / s*s+j % s=j:=(by rw[Nat.mul_comm];exact Nat.div_add_mod j s);have hg:=Xh8 f s hf ((List.range len).map (fun i=>if h:i<len then Classical.choose (each i h) else d0)) (j / s) (j % s) (by simpa using hk) hjs;rw[e,hu,List.getElem_map,List.getElem_range,dif_pos hk] at hg;have:=(Classical.choose_spec (each (j / s) hk)).2 (j % s) u hg.symm;rw[e] at this;unfold Addr.add at this;split at this
   ·rename_i h0;subst h0;exact this
   ·exact this
theorem Xfx:∀l:List ByteArray,strs l=l.flatMap (fun b:ByteArray=>[Value.string b])
 | []=>rfl
 | b :: l=>by rw[List.flatMap_cons,<- Xfx l];rfl
theorem Xcv {fuel:Nat} {cs:List Value} {x:DataW H×List MemPlace} (h:DataW.trod enc Tryz.prog w 0 spare held fuel 22 cs=some x):∃s:StrS,cs=[s.val]/\s.lies w:=by
 obtain⟨A,cp,l,rfl,hr,hn,hm,hl,hc,_⟩:=Vx (fun b:ByteArray=>[Value.string b]) 1 ⟨#[]⟩ Tryz.underlying22 (by kernel_rfl) (by decide) (fun _=>rfl) (fun _=>True) (fun fuel cs x h=>by
  obtain⟨s,hs,_⟩:=DataW.trod_string Tryz.underlying9 h;exact⟨s,hs,trivial⟩) h
 refine⟨⟨A,cp,l⟩,rfl,⟨?_,hl,by unfold maxLen at hc;show cp<=_;omega,hn⟩⟩;show Rd w A (strs l);rw[Xfx];exact hr
theorem X02:∃fs:Array Field,Tryz.prog.underlying 56=some (.struct fs)/\fs.toList.map (fun f=>(f.type,f.offset))=[(3,0),(3,1),(3,2),(3,3),(22,4),(22,5),(9,6),(4,7)]/\Tryz.prog.cellsOf 56=8:=⟨_,Tryz.underlying56,by kernel_rfl,by kernel_rfl⟩
theorem Xao:Tryz.prog.cellsOf 22=1:=by kernel_rfl
theorem Xqu:Tryz.prog.cellsOf 4=1:=by kernel_rfl
theorem Xxm {fuel:Nat} {cs:List Value} {x:DataW H×List MemPlace} (h:DataW.trod enc Tryz.prog w 0 spare held fuel 56 cs=some x):∃y:Term,cs=y.cells/\y.lies w:=by
 obtain⟨fs,hu,hf,hc⟩:=X02;obtain⟨xs,n,_,_,hlen,hxl,hat⟩:=DataW.trod_struct hu h;rw[hc] at hlen;have hsz:fs.size=8:=by have:=congrArg List.length hf;simpa using this
 obtain⟨f0,e0,t0,o0⟩:=X2 hf (i:=0) rfl;obtain⟨f1,e1,t1,o1⟩:=X2 hf (i:=1) rfl;obtain⟨f2,e2,t2,o2⟩:=X2 hf (i:=2) rfl;obtain⟨f3,e3,t3,o3⟩:=X2 hf (i:=3) rfl;obtain⟨f4,e4,t4,o4⟩:=X2 hf (i:=4) rfl;obtain⟨f5,e5,t5,o5⟩:=X2 hf (i:=5) rfl;obtain⟨f6,e6,t6,o6⟩:=X2 hf (i:=6) rfl;obtain⟨f7,e7,t7,o7⟩:=X2 hf (i:=7) rfl;have h0:=hat 0 f0 e0;have h1:=hat 1 f1 e1;have h2:=hat 2 f2 e2;have h3:=hat 3 f3 e3;have h4:=hat 4 f4 e4;have h5:=hat 5 f5 e5;have h6:=hat 6 f6 e6;have h7:=hat 7 f7 e7;rw[t0,o0,Zn,List.getElem?_eq_getElem (by omega)] at h0;rw[t1,o1,Zn,List.getElem?_eq_getElem (by omega)] at h1;rw[t2,o2,Zn,List.getElem?_eq_getElem (by omega)] at h2;rw[t3,o3,Zn,List.getElem?_eq_getElem (by omega)] at h3;rw[t4,o4,Xao,List.getElem?_eq_getElem (by omega)] at h4;rw[t5,o5,Xao,List.getElem?_eq_getElem (by omega)] at h5;rw[t6,o6,Y3,List.getElem?_eq_getElem (by omega)] at h6;rw[t7,o7,Xqu,List.getElem?_eq_getElem (by omega)] at h7;obtain⟨a,ha,_⟩:=DataW.trod_int Tryz.underlying3 h0;obtain⟨b,hb,_⟩:=DataW.trod_int Tryz.underlying3 h1;obtain⟨c,hc',_⟩:=DataW.trod_int Tryz.underlying3 h2;obtain⟨d,hd,_⟩:=DataW.trod_int Tryz.underlying3 h3;obtain⟨e,he,le⟩:=Xcv h4;obtain⟨f,hf',lf⟩:=Xcv h5;obtain⟨g,hg,_⟩:=DataW.trod_string Tryz.underlying9 h6;obtain⟨i,hi,_⟩:=DataW.trod_bool Tryz.underlying4 h7
 match cs,hlen with
 | [c0,c1,c2,c3,c4,c5,c6,c7],_ =>
  simp at ha hb hc' hd he hf' hg hi;exact⟨⟨a,b,c,d,e,f,g,i⟩,by rw[ha,hb,hc',hd,he,hf',hg,hi];rfl,le,lf⟩
theorem Xr7 {fuel:Nat} {cs:List Value} {x:DataW H×List MemPlace} (h:DataW.trod enc Tryz.prog w 0 spare held fuel 43 cs=some x) :
  ∃(A:Option Addr) (cp:Nat) (l:List Term),cs=[.slice A l.length cp]/\TermsAt w A l/\(A=none->l=[])/\l.length<=maxLen:=by
 obtain⟨A,cp,l,rfl,hr,hn,hm,hl,hc,hR⟩:=Vx Term.cells 8 ⟨0,0,0,0,⟨none,0,[]⟩,⟨none,0,[]⟩,⟨#[]⟩,false⟩ Tryz.underlying43 (by kernel_rfl) (by decide) Term.size_cells (fun y=>y.lies w) (fun _ _ _ h=>Xxm h) h;exact⟨A,cp,l,rfl,⟨hr,hR⟩,hn,hm⟩
end
end Go.Proofs.YtolpbjjapodmnaaGreatDoor
/- How terms read, with the slice's capacity. -/
namespace Go.Proofs.YtolpbjjapodmnaaGreatDoor
open Go.RowKit Go.Han Go.ChangeShapes Go.WideShapes Go.ChangeAt Go.Deep
set_option maxRecDepth 100000
section
variable {H:Type} {enc:TypeId×Value->H} {w:World} {base:Nat} {spare:Nat->Bool} {held:Bool}
end
end Go.Proofs.YtolpbjjapodmnaaGreatDoor
/- How grammars and items read. -/
namespace Go.Proofs.YtolpbjjapodmnaaGreatDoor
open Go.RowKit Go.Han Go.ChangeShapes Go.WideShapes Go.ChangeAt Go.Deep
set_option maxRecDepth 100000
section
variable {H:Type} {enc:TypeId×Value->H} {w:World} {base:Nat} {spare:Nat->Bool} {held:Bool}
theorem Xnu:Tryz.prog.cellsOf 76=1:=by kernel_rfl
theorem Xnt:Tryz.prog.cellsOf 77=1:=by kernel_rfl
theorem Xjv:Tryz.prog.cellsOf 23=1:=by kernel_rfl
theorem Xnv:Tryz.prog.cellsOf 24=1:=by kernel_rfl
theorem Xjg {fuel:Nat} {cs:List Value} {x:DataW H×List MemPlace} (h:DataW.trod enc Tryz.prog w 0 spare held fuel 22 cs=some x):∃s:StrS,cs=[s.val]/\s.lies w/\∀b∈s.xs,b.size<=maxLen:=by
 obtain⟨A,cp,l,rfl,hr,hn,hm,hl,hc,hR⟩:=Vx (fun b:ByteArray=>[Value.string b]) 1 ⟨#[]⟩ Tryz.underlying22 (by kernel_rfl) (by decide) (fun _=>rfl) (fun b=>b.size<=maxLen) (fun fuel cs x h=>by
  obtain⟨s,hs,_,hz⟩:=DataW.trod_string Tryz.underlying9 h;exact⟨s,hs,hz⟩) h
 refine⟨⟨A,cp,l⟩,rfl,⟨?_,hl,by unfold maxLen at hc;show cp<=_;omega,hn⟩,hR⟩;show Rd w A (strs l);rw[Xfx];exact hr
theorem Xye:∃fs:Array Field,Tryz.prog.underlying 81=some (.struct fs)/\fs.toList.map (fun f=>(f.type,f.offset))=[(9,0),(3,1),(9,2)]/\Tryz.prog.cellsOf 81=3:=⟨_,Tryz.underlying81,by kernel_rfl,by kernel_rfl⟩
theorem Xxj {fuel:Nat} {cs:List Value} {x:DataW H×List MemPlace} (h:DataW.trod enc Tryz.prog w 0 spare held fuel 81 cs=some x):∃y:PartG,cs=y.cells/\y.cat.size<=maxLen:=by
 obtain⟨fs,hu,hf,hc⟩:=Xye;obtain⟨xs,n,_,_,hlen,hxl,hat⟩:=DataW.trod_struct hu h;rw[hc] at hlen;have hsz:fs.size=3:=by have:=congrArg List.length hf;simpa using this
 obtain⟨f0,e0,t0,o0⟩:=X2 hf (i:=0) rfl;obtain⟨f1,e1,t1,o1⟩:=X2 hf (i:=1) rfl;obtain⟨f2,e2,t2,o2⟩:=X2 hf (i:=2) rfl;have h0:=hat 0 f0 e0;have h1:=hat 1 f1 e1;have h2:=hat 2 f2 e2;rw[t0,o0,Y3,List.getElem?_eq_getElem (by omega)] at h0;rw[t1,o1,Zn,List.getElem?_eq_getElem (by omega)] at h1;rw[t2,o2,Y3,List.getElem?_eq_getElem (by omega)] at h2;obtain⟨a0,g0,_,z0⟩:=DataW.trod_string Tryz.underlying9 h0;obtain⟨a1,g1,_⟩:=DataW.trod_int Tryz.underlying3 h1;obtain⟨a2,g2,_,z2⟩:=DataW.trod_string Tryz.underlying9 h2
 match cs,hlen with
 | [c0,c1,c2],_ =>
  simp at g0 g1 g2;exact⟨⟨a0,a1,a2⟩,by rw[g0,g1,g2];rfl,z0⟩
theorem Xr5 {fuel:Nat} {cs:List Value} {x:DataW H×List MemPlace} (h:DataW.trod enc Tryz.prog w 0 spare held fuel 76 cs=some x) :
  ∃s:SlS PartG,cs=[s.val]/\s.lies PartG.cells w/\∀y∈s.xs,y.cat.size<=maxLen:=by
 obtain⟨A,cp,l,rfl,hr,hn,hm,hl,hc,hR⟩:=Vx PartG.cells 3 ⟨⟨#[]⟩,0,⟨#[]⟩⟩ Tryz.underlying76 (by kernel_rfl) (by decide) PartG.size_cells (fun y=>y.cat.size<=maxLen) (fun _ _ _ h=>Xxj h) h;exact⟨⟨A,cp,l⟩,rfl,⟨hr,hl,by unfold maxLen at hc;show cp<=_;omega,hn⟩,hR⟩
theorem Xyc:∃fs:Array Field,Tryz.prog.underlying 176=some (.struct fs)/\fs.toList.map (fun f=>(f.type,f.offset))=[(3,0),(9,1)]/\Tryz.prog.cellsOf 176=2:=⟨_,Tryz.underlying176,by kernel_rfl,by kernel_rfl⟩
theorem Xxi {fuel:Nat} {cs:List Value} {x:DataW H×List MemPlace} (h:DataW.trod enc Tryz.prog w 0 spare held fuel 176 cs=some x):∃y:GiveG,cs=y.cells/\True:=by
 obtain⟨fs,hu,hf,hc⟩:=Xyc;obtain⟨xs,n,_,_,hlen,hxl,hat⟩:=DataW.trod_struct hu h;rw[hc] at hlen;have hsz:fs.size=2:=by have:=congrArg List.length hf;simpa using this
 obtain⟨f0,e0,t0,o0⟩:=X2 hf (i:=0) rfl;obtain⟨f1,e1,t1,o1⟩:=X2 hf (i:=1) rfl;have h0:=hat 0 f0 e0;have h1:=hat 1 f1 e1;rw[t0,o0,Zn,List.getElem?_eq_getElem (by omega)] at h0;rw[t1,o1,Y3,List.getElem?_eq_getElem (by omega)] at h1;obtain⟨a0,g0,_⟩:=DataW.trod_int Tryz.underlying3 h0;obtain⟨a1,g1,_,z1⟩:=DataW.trod_string Tryz.underlying9 h1
 match cs,hlen with
 | [c0,c1],_ =>
  simp at g0 g1;exact⟨⟨a0,a1⟩,by rw[g0,g1];rfl,trivial⟩
theorem Xr4 {fuel:Nat} {cs:List Value} {x:DataW H×List MemPlace} (h:DataW.trod enc Tryz.prog w 0 spare held fuel 77 cs=some x) :
  ∃s:SlS GiveG,cs=[s.val]/\s.lies GiveG.cells w/\∀y∈s.xs,True:=by
 obtain⟨A,cp,l,rfl,hr,hn,hm,hl,hc,hR⟩:=Vx GiveG.cells 2 ⟨0,⟨#[]⟩⟩ Tryz.underlying77 (by kernel_rfl) (by decide) GiveG.size_cells (fun y=>True) (fun _ _ _ h=>Xxi h) h;exact⟨⟨A,cp,l⟩,rfl,⟨hr,hl,by unfold maxLen at hc;show cp<=_;omega,hn⟩,hR⟩
theorem Xuk:∃fs:Array Field,Tryz.prog.underlying 60=some (.struct fs)/\fs.toList.map (fun f=>(f.type,f.offset))=[(9,0),(9,1),(3,2),(22,3),(3,4)]/\Tryz.prog.cellsOf 60=5:=⟨_,Tryz.underlying60,by kernel_rfl,by kernel_rfl⟩
theorem Xs7 {fuel:Nat} {cs:List Value} {x:DataW H×List MemPlace} (h:DataW.trod enc Tryz.prog w 0 spare held fuel 60 cs=some x):∃y:EntryG,cs=y.cells/\y.lies w/\y.cat.size<=maxLen:=by
 obtain⟨fs,hu,hf,hc⟩:=Xuk;obtain⟨xs,n,_,_,hlen,hxl,hat⟩:=DataW.trod_struct hu h;rw[hc] at hlen;have hsz:fs.size=5:=by have:=congrArg List.length hf;simpa using this
 obtain⟨f0,e0,t0,o0⟩:=X2 hf (i:=0) rfl;obtain⟨f1,e1,t1,o1⟩:=X2 hf (i:=1) rfl;obtain⟨f2,e2,t2,o2⟩:=X2 hf (i:=2) rfl;obtain⟨f3,e3,t3,o3⟩:=X2 hf (i:=3) rfl;obtain⟨f4,e4,t4,o4⟩:=X2 hf (i:=4) rfl;have h0:=hat 0 f0 e0;have h1:=hat 1 f1 e1;have h2:=hat 2 f2 e2;have h3:=hat 3 f3 e3;have h4:=hat 4 f4 e4;rw[t0,o0,Y3,List.getElem?_eq_getElem (by omega)] at h0;rw[t1,o1,Y3,List.getElem?_eq_getElem (by omega)] at h1;rw[t2,o2,Zn,List.getElem?_eq_getElem (by omega)] at h2;rw[t3,o3,Xao,List.getElem?_eq_getElem (by omega)] at h3;rw[t4,o4,Zn,List.getElem?_eq_getElem (by omega)] at h4;obtain⟨a0,g0,_,z0⟩:=DataW.trod_string Tryz.underlying9 h0;obtain⟨a1,g1,_,z1⟩:=DataW.trod_string Tryz.underlying9 h1;obtain⟨a2,g2,_⟩:=DataW.trod_int Tryz.underlying3 h2;obtain⟨a3,g3,l3,z3⟩:=Xjg h3;obtain⟨a4,g4,_⟩:=DataW.trod_int Tryz.underlying3 h4
 match cs,hlen with
 | [c0,c1,c2,c3,c4],_ =>
  simp at g0 g1 g2 g3 g4;exact⟨⟨a0,a1,a2,a3,a4⟩,by rw[g0,g1,g2,g3,g4];rfl,l3,z1⟩
theorem Xo7 {fuel:Nat} {cs:List Value} {x:DataW H×List MemPlace} (h:DataW.trod enc Tryz.prog w 0 spare held fuel 23 cs=some x) :
  ∃s:SlS EntryG,cs=[s.val]/\s.lies EntryG.cells w/\∀y∈s.xs,y.lies w/\y.cat.size<=maxLen:=by
 obtain⟨A,cp,l,rfl,hr,hn,hm,hl,hc,hR⟩:=Vx EntryG.cells 5 ⟨⟨#[]⟩,⟨#[]⟩,0,⟨none,0,[]⟩,0⟩ Tryz.underlying23 (by kernel_rfl) (by decide) EntryG.size_cells (fun y=>y.lies w/\y.cat.size<=maxLen) (fun _ _ _ h=>Xs7 h) h;exact⟨⟨A,cp,l⟩,rfl,⟨hr,hl,by unfold maxLen at hc;show cp<=_;omega,hn⟩,hR⟩
theorem Xyg:∃fs:Array Field,Tryz.prog.underlying 79=some (.struct fs)/\fs.toList.map (fun f=>(f.type,f.offset))=[(9,0),(3,1),(76,2),(77,3),(3,4)]/\Tryz.prog.cellsOf 79=5:=⟨_,Tryz.underlying79,by kernel_rfl,by kernel_rfl⟩
theorem Xxk {fuel:Nat} {cs:List Value} {x:DataW H×List MemPlace} (h:DataW.trod enc Tryz.prog w 0 spare held fuel 79 cs=some x):∃y:RuleG,cs=y.cells/\(y.lies w/\y.cat.size<=maxLen/\∀p∈y.parts.xs,p.cat.size<=maxLen):=by
 obtain⟨fs,hu,hf,hc⟩:=Xyg;obtain⟨xs,n,_,_,hlen,hxl,hat⟩:=DataW.trod_struct hu h;rw[hc] at hlen;have hsz:fs.size=5:=by have:=congrArg List.length hf;simpa using this
 obtain⟨f0,e0,t0,o0⟩:=X2 hf (i:=0) rfl;obtain⟨f1,e1,t1,o1⟩:=X2 hf (i:=1) rfl;obtain⟨f2,e2,t2,o2⟩:=X2 hf (i:=2) rfl;obtain⟨f3,e3,t3,o3⟩:=X2 hf (i:=3) rfl;obtain⟨f4,e4,t4,o4⟩:=X2 hf (i:=4) rfl;have h0:=hat 0 f0 e0;have h1:=hat 1 f1 e1;have h2:=hat 2 f2 e2;have h3:=hat 3 f3 e3;have h4:=hat 4 f4 e4;rw[t0,o0,Y3,List.getElem?_eq_getElem (by omega)] at h0;rw[t1,o1,Zn,List.getElem?_eq_getElem (by omega)] at h1;rw[t2,o2,Xnu,List.getElem?_eq_getElem (by omega)] at h2;rw[t3,o3,Xnt,List.getElem?_eq_getElem (by omega)] at h3;rw[t4,o4,Zn,List.getElem?_eq_getElem (by omega)] at h4;obtain⟨a0,g0,_,z0⟩:=DataW.trod_string Tryz.underlying9 h0;obtain⟨a1,g1,_⟩:=DataW.trod_int Tryz.underlying3 h1;obtain⟨a2,g2,l2,z2⟩:=Xr5 h2;obtain⟨a3,g3,l3,z3⟩:=Xr4 h3;obtain⟨a4,g4,_⟩:=DataW.trod_int Tryz.underlying3 h4
 match cs,hlen with
 | [c0,c1,c2,c3,c4],_ =>
  simp at g0 g1 g2 g3 g4;exact⟨⟨a0,a1,a2,a3,a4⟩,by rw[g0,g1,g2,g3,g4];rfl,⟨l2,l3⟩,z0,z2⟩
theorem Xr6 {fuel:Nat} {cs:List Value} {x:DataW H×List MemPlace} (h:DataW.trod enc Tryz.prog w 0 spare held fuel 24 cs=some x) :
  ∃s:SlS RuleG,cs=[s.val]/\s.lies RuleG.cells w/\∀y∈s.xs,(y.lies w/\y.cat.size<=maxLen/\∀p∈y.parts.xs,p.cat.size<=maxLen):=by
 obtain⟨A,cp,l,rfl,hr,hn,hm,hl,hc,hR⟩:=Vx RuleG.cells 5 ⟨⟨#[]⟩,0,⟨none,0,[]⟩,⟨none,0,[]⟩,0⟩ Tryz.underlying24 (by kernel_rfl) (by decide) RuleG.size_cells (fun y=>(y.lies w/\y.cat.size<=maxLen/\∀p∈y.parts.xs,p.cat.size<=maxLen)) (fun _ _ _ h=>Xxk h) h;exact⟨⟨A,cp,l⟩,rfl,⟨hr,hl,by unfold maxLen at hc;show cp<=_;omega,hn⟩,hR⟩
theorem Xzh:∃fs:Array Field,Tryz.prog.underlying 26=some (.struct fs)/\fs.toList.map (fun f=>(f.type,f.offset))=[(9,0),(22,1),(9,2),(3,3),(23,4),(24,5)]/\Tryz.prog.cellsOf 26=6:=⟨_,Tryz.underlying26,by kernel_rfl,by kernel_rfl⟩
theorem Xxl {fuel:Nat} {cs:List Value} {x:DataW H×List MemPlace} (h:DataW.trod enc Tryz.prog w 0 spare held fuel 26 cs=some x):∃y:Gram,cs=y.cells/\y.lies w/\y.short:=by
 obtain⟨fs,hu,hf,hc⟩:=Xzh;obtain⟨xs,n,_,_,hlen,hxl,hat⟩:=DataW.trod_struct hu h;rw[hc] at hlen;have hsz:fs.size=6:=by have:=congrArg List.length hf;simpa using this
 obtain⟨f0,e0,t0,o0⟩:=X2 hf (i:=0) rfl;obtain⟨f1,e1,t1,o1⟩:=X2 hf (i:=1) rfl;obtain⟨f2,e2,t2,o2⟩:=X2 hf (i:=2) rfl;obtain⟨f3,e3,t3,o3⟩:=X2 hf (i:=3) rfl;obtain⟨f4,e4,t4,o4⟩:=X2 hf (i:=4) rfl;obtain⟨f5,e5,t5,o5⟩:=X2 hf (i:=5) rfl;have h0:=hat 0 f0 e0;have h1:=hat 1 f1 e1;have h2:=hat 2 f2 e2;have h3:=hat 3 f3 e3;have h4:=hat 4 f4 e4;have h5:=hat 5 f5 e5;rw[t0,o0,Y3,List.getElem?_eq_getElem (by omega)] at h0;rw[t1,o1,Xao,List.getElem?_eq_getElem (by omega)] at h1;rw[t2,o2,Y3,List.getElem?_eq_getElem (by omega)] at h2;rw[t3,o3,Zn,List.getElem?_eq_getElem (by omega)] at h3;rw[t4,o4,Xjv,List.getElem?_eq_getElem (by omega)] at h4;rw[t5,o5,Xnv,List.getElem?_eq_getElem (by omega)] at h5;obtain⟨a0,g0,_,z0⟩:=DataW.trod_string Tryz.underlying9 h0;obtain⟨a1,g1,l1,z1⟩:=Xjg h1;obtain⟨a2,g2,_,z2⟩:=DataW.trod_string Tryz.underlying9 h2;obtain⟨a3,g3,_⟩:=DataW.trod_int Tryz.underlying3 h3;obtain⟨a4,g4,l4,z4⟩:=Xo7 h4;obtain⟨a5,g5,l5,z5⟩:=Xr6 h5
 match cs,hlen with
 | [c0,c1,c2,c3,c4,c5],_ =>
  simp at g0 g1 g2 g3 g4 g5;exact⟨⟨a0,a1,a2,a3,a4,a5⟩,by rw[g0,g1,g2,g3,g4,g5];rfl,⟨l1,l4,fun x hx=>(z4 x hx).1,l5,fun x hx=>(z5 x hx).1⟩,⟨z1,z2,fun x hx=>(z4 x hx).2,fun x hx=>(z5 x hx).2.1,fun x hx=>(z5 x hx).2.2⟩⟩
theorem Xp6 {t:Int} (h:(Lit.int .u8 t).wf=true):t=(t.toNat:Int)/\t.toNat<=255:=by
 have h1:=h;simp only[Lit.wf,Bool.and_eq_true,decide_eq_true_eq] at h1;have e1:IntKind.u8.min=0:=by decide
 have e2:IntKind.u8.max=255:=by decide
 rw[e1,e2] at h1;omega
end
end Go.Proofs.YtolpbjjapodmnaaGreatDoor
/- Cards: eight and nine arguments. -/
namespace Go.Proofs.YtolpbjjapodmnaaGreatDoor
open Go.RowKit Go.Han Go.ChangeShapes Go.WideShapes Go.ChangeAt Go.Deep
set_option maxRecDepth 100000
section
variable {H:Type} {enc:TypeId×Value->H} {P:Program} {w:World} {base:Nat} {spare:Nat->Bool} {held:Bool}
theorem Xus {t0 t1 t2 t3 t4 t5 t6 t7 t8:TypeId} {args:Array Value} {ds:List (DataW H)} {ps:List MemPlace} (h:DataW.TrodAll enc P w base spare held [t0,t1,t2,t3,t4,t5,t6,t7,t8] args.toList ds ps) :
  ∃v0 v1 v2 v3 v4 v5 v6 v7 v8 d0 d1 d2 d3 d4 d5 d6 d7 d8 p0 p1 p2 p3 p4 p5 p6 p7 p8,args=#[v0,v1,v2,v3,v4,v5,v6,v7,v8]/\ds=[d0,d1,d2,d3,d4,d5,d6,d7,d8]/\DataW.Trod enc P w base spare held t0 v0 d0 p0/\DataW.Trod enc P w base spare held t1 v1 d1 p1/\DataW.Trod enc P w base spare held t2 v2 d2 p2/\DataW.Trod enc P w base spare held t3 v3 d3 p3/\DataW.Trod enc P w base spare held t4 v4 d4 p4/\DataW.Trod enc P w base spare held t5 v5 d5 p5/\DataW.Trod enc P w base spare held t6 v6 d6 p6/\DataW.Trod enc P w base spare held t7 v7 d7 p7/\DataW.Trod enc P w base spare held t8 v8 d8 p8:=by
 obtain⟨v0,s0,d0,e0,p0,q0,hargs,rfl,rfl,h0,r0⟩:=trodAll_cons h;obtain⟨v1,s1,d1,e1,p1,q1,rfl,rfl,rfl,h1,r1⟩:=trodAll_cons r0;obtain⟨v2,s2,d2,e2,p2,q2,rfl,rfl,rfl,h2,r2⟩:=trodAll_cons r1;obtain⟨v3,s3,d3,e3,p3,q3,rfl,rfl,rfl,h3,r3⟩:=trodAll_cons r2;obtain⟨v4,s4,d4,e4,p4,q4,rfl,rfl,rfl,h4,r4⟩:=trodAll_cons r3;obtain⟨v5,s5,d5,e5,p5,q5,rfl,rfl,rfl,h5,r5⟩:=trodAll_cons r4;obtain⟨v6,s6,d6,e6,p6,q6,rfl,rfl,rfl,h6,r6⟩:=trodAll_cons r5;obtain⟨v7,s7,d7,e7,p7,q7,rfl,rfl,rfl,h7,r7⟩:=trodAll_cons r6;obtain⟨v8,s8,d8,e8,p8,q8,rfl,rfl,rfl,h8,r8⟩:=trodAll_cons r7;obtain⟨rfl,rfl,rfl⟩:=trodAll_nil r8;exact⟨v0,v1,v2,v3,v4,v5,v6,v7,v8,d0,d1,d2,d3,d4,d5,d6,d7,d8,p0,p1,p2,p3,p4,p5,p6,p7,p8,by cases args;simp_all,rfl,h0,h1,h2,h3,h4,h5,h6,h7,h8⟩
end
end Go.Proofs.YtolpbjjapodmnaaGreatDoor
/- Cards: the bounds of a number. -/
namespace Go.Proofs.YtolpbjjapodmnaaGreatDoor
open Go.RowKit Go.Han Go.ChangeShapes Go.WideShapes Go.ChangeAt Go.Deep
set_option maxRecDepth 100000
theorem X10 {t:Int} (h:(Lit.int .i64 t).wf=true) : -9223372036854775808<=t/\t<=9223372036854775807:=by
 have h1:=h;simp only[Lit.wf,Bool.and_eq_true,decide_eq_true_eq] at h1;have e1:IntKind.i64.min = -9223372036854775808:=by decide
 have e2:IntKind.i64.max=9223372036854775807:=by decide
 rw[e1,e2] at h1;exact h1
end Go.Proofs.YtolpbjjapodmnaaGreatDoor
