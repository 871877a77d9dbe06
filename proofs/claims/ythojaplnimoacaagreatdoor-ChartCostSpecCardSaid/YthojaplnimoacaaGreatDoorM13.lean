/- Texts of this claim, one after the other: TagB, Opg5, TraP, TraQ, TraS, ChaV, Law29s. -/
import Derived.Test.YthojaplnimoacaaGreatDoorM11
import Derived.Test.YthojaplnimoacaaGreatDoorM12
import Derived.Test.YthojaplnimoacaaGreatDoorM4
import Derived.Test.YthojaplnimoacaaGreatDoorM5
import Derived.Test.YthojaplnimoacaaGreatDoorM10
namespace Go.Proofs.YthojaplnimoacaaGreatDoor
open Go.RowKit Go.Han
attribute [local irreducible] wpStill wpQuiet
attribute [local go_sem] Oper.semAt_some
set_option maxRecDepth 100000
structure TagG where
 g:Gram
 m:Nat
 ws:StrS
def overW (w V:World):World:={V with os:=w.os,tape:=w.tape,output:=w.output}
theorem Xle {w V:World} (hs:w.heap.size≤V.heap.size) (hk:∀k,k<w.heap.size→V.heap[k]? = w.heap[k]?):Below w.heap.size w (overW w V):=⟨rfl,rfl,rfl,hs,hk⟩
theorem Xnz {w V:World} {s:StrS} (h:s.lies (overW w V)):s.lies V:=⟨h.rd,h.cap,h.max,h.nil⟩
structure TagD (w V:World) (T:TagG):Prop where
 size:w.heap.size≤V.heap.size
 low:∀k,k<w.heap.size→V.heap[k]? = w.heap[k]?
 g:T.g.lies w
 ws:T.ws.lies w
theorem TagD.ext {w V V':World} {T:TagG} (h:TagD w V T) (hb:Below V.heap.size V V'):TagD w V' T:=⟨Nat.le_trans h.size hb.size,fun k hk=>(hb.block k (Nat.lt_of_lt_of_le hk h.size)).trans (h.low k hk),h.g,h.ws⟩
theorem TagD.cats {w V:World} {T:TagG} (h:TagD w V T):T.g.cats.lies V:=Xnz (h.g.cats.ext (Xle h.size h.low))
theorem TagD.far {w V:World} {T:TagG} (h:TagD w V T) {s:StrS} (hs:s.lies w):FarI w.heap.size V s:=FarI.low hs h.low h.size
end Go.Proofs.YthojaplnimoacaaGreatDoor
namespace Go.Proofs.YthojaplnimoacaaGreatDoor
open Go.RowKit Go.Han Go.ChangeShapes Go.WideShapes Go.ChangeAt Go.Deep
set_option maxRecDepth 100000
section
variable {H:Type} {enc:TypeId×Value→H} {w:World} {base:Nat} {spare:Nat→Bool} {held:Bool}
theorem Xih:Tryz.prog.cellsOf 101=1:=by kernel_rfl
theorem Xig:Tryz.prog.cellsOf 102=1:=by kernel_rfl
theorem Xf4:Tryz.prog.cellsOf 23=1:=by kernel_rfl
theorem Xii:Tryz.prog.cellsOf 24=1:=by kernel_rfl
theorem Xbw {fuel:Nat} {cs:List Value} {x:DataW H×List MemPlace} (h:DataW.trod enc Tryz.prog w 0 spare held fuel 22 cs=some x):∃s:StrS,cs=[s.val]∧s.lies w∧∀b∈s.xs,b.size≤maxLen:=by
 obtain⟨A,cp,l,rfl,hr,hn,hm,hl,hc,hR⟩:=Ub (fun b:ByteArray=>[Value.string b]) 1 ⟨#[]⟩ Tryz.underlying22 (by kernel_rfl) (by decide) (fun _=>rfl) (fun b=>b.size≤maxLen) (fun fuel cs x h=>by
  obtain⟨s,hs,_,hz⟩:=DataW.trod_string Tryz.underlying9 h
  exact⟨s,hs,hz⟩) h
 refine⟨⟨A,cp,l⟩,rfl,⟨?_,hl,by unfold maxLen at hc;show cp≤_;omega,hn⟩,hR⟩
 show Rd w A (strs l)
 rw[Xhe];exact hr
theorem Xpa:∃fs:Array Field,Tryz.prog.underlying 150=some (.struct fs)∧fs.toList.map (fun f=>(f.type,f.offset))=[(9,0),(3,1),(9,2)]∧Tryz.prog.cellsOf 150=3:=⟨_,Tryz.underlying150,by kernel_rfl,by kernel_rfl⟩
theorem Xoq {fuel:Nat} {cs:List Value} {x:DataW H×List MemPlace} (h:DataW.trod enc Tryz.prog w 0 spare held fuel 150 cs=some x):∃y:PartG,cs=y.cells∧y.cat.size≤maxLen:=by
 obtain⟨fs,hu,hf,hc⟩:=Xpa
 obtain⟨xs,n,_,_,hlen,hxl,hat⟩:=DataW.trod_struct hu h
 rw[hc] at hlen
 have hsz:fs.size=3:=by have:=congrArg List.length hf;simpa using this
 obtain⟨f0,e0,t0,o0⟩:=X3 hf (i:=0) rfl
 obtain⟨f1,e1,t1,o1⟩:=X3 hf (i:=1) rfl
 obtain⟨f2,e2,t2,o2⟩:=X3 hf (i:=2) rfl
 have h0:=hat 0 f0 e0
 have h1:=hat 1 f1 e1
 have h2:=hat 2 f2 e2
 rw[t0,o0,Y0,List.getElem?_eq_getElem (by omega)] at h0
 rw[t1,o1,Yz,List.getElem?_eq_getElem (by omega)] at h1
 rw[t2,o2,Y0,List.getElem?_eq_getElem (by omega)] at h2
 obtain⟨a0,g0,_,z0⟩:=DataW.trod_string Tryz.underlying9 h0
 obtain⟨a1,g1,_⟩:=DataW.trod_int Tryz.underlying3 h1
 obtain⟨a2,g2,_,z2⟩:=DataW.trod_string Tryz.underlying9 h2
 match cs,hlen with
 | [c0,c1,c2],_ =>
  simp at g0 g1 g2
  exact⟨⟨a0,a1,a2⟩,by rw[g0,g1,g2];rfl,z0⟩
theorem Xla {fuel:Nat} {cs:List Value} {x:DataW H×List MemPlace} (h:DataW.trod enc Tryz.prog w 0 spare held fuel 101 cs=some x) :
  ∃s:SlS PartG,cs=[s.val]∧s.lies PartG.cells w∧∀y∈s.xs,y.cat.size≤maxLen:=by
 obtain⟨A,cp,l,rfl,hr,hn,hm,hl,hc,hR⟩:=Ub PartG.cells 3 ⟨⟨#[]⟩,0,⟨#[]⟩⟩ Tryz.underlying101 (by kernel_rfl) (by decide) PartG.size_cells (fun y=>y.cat.size≤maxLen) (fun _ _ _ h=>Xoq h) h
 exact⟨⟨A,cp,l⟩,rfl,⟨hr,hl,by unfold maxLen at hc;show cp≤_;omega,hn⟩,hR⟩
theorem Xo8:∃fs:Array Field,Tryz.prog.underlying 152=some (.struct fs)∧fs.toList.map (fun f=>(f.type,f.offset))=[(3,0),(9,1)]∧Tryz.prog.cellsOf 152=2:=⟨_,Tryz.underlying152,by kernel_rfl,by kernel_rfl⟩
theorem Xop {fuel:Nat} {cs:List Value} {x:DataW H×List MemPlace} (h:DataW.trod enc Tryz.prog w 0 spare held fuel 152 cs=some x):∃y:GiveG,cs=y.cells∧True:=by
 obtain⟨fs,hu,hf,hc⟩:=Xo8
 obtain⟨xs,n,_,_,hlen,hxl,hat⟩:=DataW.trod_struct hu h
 rw[hc] at hlen
 have hsz:fs.size=2:=by have:=congrArg List.length hf;simpa using this
 obtain⟨f0,e0,t0,o0⟩:=X3 hf (i:=0) rfl
 obtain⟨f1,e1,t1,o1⟩:=X3 hf (i:=1) rfl
 have h0:=hat 0 f0 e0
 have h1:=hat 1 f1 e1
 rw[t0,o0,Yz,List.getElem?_eq_getElem (by omega)] at h0
 rw[t1,o1,Y0,List.getElem?_eq_getElem (by omega)] at h1
 obtain⟨a0,g0,_⟩:=DataW.trod_int Tryz.underlying3 h0
 obtain⟨a1,g1,_,z1⟩:=DataW.trod_string Tryz.underlying9 h1
 match cs,hlen with
 | [c0,c1],_ =>
  simp at g0 g1
  exact⟨⟨a0,a1⟩,by rw[g0,g1];rfl,trivial⟩
theorem Xk9 {fuel:Nat} {cs:List Value} {x:DataW H×List MemPlace} (h:DataW.trod enc Tryz.prog w 0 spare held fuel 102 cs=some x) :
  ∃s:SlS GiveG,cs=[s.val]∧s.lies GiveG.cells w∧∀y∈s.xs,True:=by
 obtain⟨A,cp,l,rfl,hr,hn,hm,hl,hc,hR⟩:=Ub GiveG.cells 2 ⟨0,⟨#[]⟩⟩ Tryz.underlying102 (by kernel_rfl) (by decide) GiveG.size_cells (fun y=>True) (fun _ _ _ h=>Xop h) h
 exact⟨⟨A,cp,l⟩,rfl,⟨hr,hl,by unfold maxLen at hc;show cp≤_;omega,hn⟩,hR⟩
theorem Xmt:∃fs:Array Field,Tryz.prog.underlying 70=some (.struct fs)∧fs.toList.map (fun f=>(f.type,f.offset))=[(9,0),(9,1),(3,2),(22,3),(3,4)]∧Tryz.prog.cellsOf 70=5:=⟨_,Tryz.underlying70,by kernel_rfl,by kernel_rfl⟩
theorem Xl1 {fuel:Nat} {cs:List Value} {x:DataW H×List MemPlace} (h:DataW.trod enc Tryz.prog w 0 spare held fuel 70 cs=some x):∃y:EntryG,cs=y.cells∧y.lies w∧y.cat.size≤maxLen:=by
 obtain⟨fs,hu,hf,hc⟩:=Xmt
 obtain⟨xs,n,_,_,hlen,hxl,hat⟩:=DataW.trod_struct hu h
 rw[hc] at hlen
 have hsz:fs.size=5:=by have:=congrArg List.length hf;simpa using this
 obtain⟨f0,e0,t0,o0⟩:=X3 hf (i:=0) rfl
 obtain⟨f1,e1,t1,o1⟩:=X3 hf (i:=1) rfl
 obtain⟨f2,e2,t2,o2⟩:=X3 hf (i:=2) rfl
 obtain⟨f3,e3,t3,o3⟩:=X3 hf (i:=3) rfl
 obtain⟨f4,e4,t4,o4⟩:=X3 hf (i:=4) rfl
 have h0:=hat 0 f0 e0
 have h1:=hat 1 f1 e1
 have h2:=hat 2 f2 e2
 have h3:=hat 3 f3 e3
 have h4:=hat 4 f4 e4
 rw[t0,o0,Y0,List.getElem?_eq_getElem (by omega)] at h0
 rw[t1,o1,Y0,List.getElem?_eq_getElem (by omega)] at h1
 rw[t2,o2,Yz,List.getElem?_eq_getElem (by omega)] at h2
 rw[t3,o3,Xbe,List.getElem?_eq_getElem (by omega)] at h3
 rw[t4,o4,Yz,List.getElem?_eq_getElem (by omega)] at h4
 obtain⟨a0,g0,_,z0⟩:=DataW.trod_string Tryz.underlying9 h0
 obtain⟨a1,g1,_,z1⟩:=DataW.trod_string Tryz.underlying9 h1
 obtain⟨a2,g2,_⟩:=DataW.trod_int Tryz.underlying3 h2
 obtain⟨a3,g3,l3,z3⟩:=Xbw h3
 obtain⟨a4,g4,_⟩:=DataW.trod_int Tryz.underlying3 h4
 match cs,hlen with
 | [c0,c1,c2,c3,c4],_ =>
  simp at g0 g1 g2 g3 g4
  exact⟨⟨a0,a1,a2,a3,a4⟩,by rw[g0,g1,g2,g3,g4];rfl,l3,z1⟩
theorem Xjc {fuel:Nat} {cs:List Value} {x:DataW H×List MemPlace} (h:DataW.trod enc Tryz.prog w 0 spare held fuel 23 cs=some x) :
  ∃s:SlS EntryG,cs=[s.val]∧s.lies EntryG.cells w∧∀y∈s.xs,y.lies w∧y.cat.size≤maxLen:=by
 obtain⟨A,cp,l,rfl,hr,hn,hm,hl,hc,hR⟩:=Ub EntryG.cells 5 ⟨⟨#[]⟩,⟨#[]⟩,0,⟨none,0,[]⟩,0⟩ Tryz.underlying23 (by kernel_rfl) (by decide) EntryG.size_cells (fun y=>y.lies w∧y.cat.size≤maxLen) (fun _ _ _ h=>Xl1 h) h
 exact⟨⟨A,cp,l⟩,rfl,⟨hr,hl,by unfold maxLen at hc;show cp≤_;omega,hn⟩,hR⟩
theorem Xpb:∃fs:Array Field,Tryz.prog.underlying 104=some (.struct fs)∧fs.toList.map (fun f=>(f.type,f.offset))=[(9,0),(3,1),(101,2),(102,3),(3,4)]∧Tryz.prog.cellsOf 104=5:=⟨_,Tryz.underlying104,by kernel_rfl,by kernel_rfl⟩
theorem Xor {fuel:Nat} {cs:List Value} {x:DataW H×List MemPlace} (h:DataW.trod enc Tryz.prog w 0 spare held fuel 104 cs=some x):∃y:RuleG,cs=y.cells∧(y.lies w∧y.cat.size≤maxLen∧∀p∈y.parts.xs,p.cat.size≤maxLen):=by
 obtain⟨fs,hu,hf,hc⟩:=Xpb
 obtain⟨xs,n,_,_,hlen,hxl,hat⟩:=DataW.trod_struct hu h
 rw[hc] at hlen
 have hsz:fs.size=5:=by have:=congrArg List.length hf;simpa using this
 obtain⟨f0,e0,t0,o0⟩:=X3 hf (i:=0) rfl
 obtain⟨f1,e1,t1,o1⟩:=X3 hf (i:=1) rfl
 obtain⟨f2,e2,t2,o2⟩:=X3 hf (i:=2) rfl
 obtain⟨f3,e3,t3,o3⟩:=X3 hf (i:=3) rfl
 obtain⟨f4,e4,t4,o4⟩:=X3 hf (i:=4) rfl
 have h0:=hat 0 f0 e0
 have h1:=hat 1 f1 e1
 have h2:=hat 2 f2 e2
 have h3:=hat 3 f3 e3
 have h4:=hat 4 f4 e4
 rw[t0,o0,Y0,List.getElem?_eq_getElem (by omega)] at h0
 rw[t1,o1,Yz,List.getElem?_eq_getElem (by omega)] at h1
 rw[t2,o2,Xih,List.getElem?_eq_getElem (by omega)] at h2
 rw[t3,o3,Xig,List.getElem?_eq_getElem (by omega)] at h3
 rw[t4,o4,Yz,List.getElem?_eq_getElem (by omega)] at h4
 obtain⟨a0,g0,_,z0⟩:=DataW.trod_string Tryz.underlying9 h0
 obtain⟨a1,g1,_⟩:=DataW.trod_int Tryz.underlying3 h1
 obtain⟨a2,g2,l2,z2⟩:=Xla h2
 obtain⟨a3,g3,l3,z3⟩:=Xk9 h3
 obtain⟨a4,g4,_⟩:=DataW.trod_int Tryz.underlying3 h4
 match cs,hlen with
 | [c0,c1,c2,c3,c4],_ =>
  simp at g0 g1 g2 g3 g4
  exact⟨⟨a0,a1,a2,a3,a4⟩,by rw[g0,g1,g2,g3,g4];rfl,⟨l2,l3⟩,z0,z2⟩
theorem Xlb {fuel:Nat} {cs:List Value} {x:DataW H×List MemPlace} (h:DataW.trod enc Tryz.prog w 0 spare held fuel 24 cs=some x) :
  ∃s:SlS RuleG,cs=[s.val]∧s.lies RuleG.cells w∧∀y∈s.xs,(y.lies w∧y.cat.size≤maxLen∧∀p∈y.parts.xs,p.cat.size≤maxLen):=by
 obtain⟨A,cp,l,rfl,hr,hn,hm,hl,hc,hR⟩:=Ub RuleG.cells 5 ⟨⟨#[]⟩,0,⟨none,0,[]⟩,⟨none,0,[]⟩,0⟩ Tryz.underlying24 (by kernel_rfl) (by decide) RuleG.size_cells (fun y=>(y.lies w∧y.cat.size≤maxLen∧∀p∈y.parts.xs,p.cat.size≤maxLen)) (fun _ _ _ h=>Xor h) h
 exact⟨⟨A,cp,l⟩,rfl,⟨hr,hl,by unfold maxLen at hc;show cp≤_;omega,hn⟩,hR⟩
theorem Xp0:∃fs:Array Field,Tryz.prog.underlying 26=some (.struct fs)∧fs.toList.map (fun f=>(f.type,f.offset))=[(9,0),(22,1),(9,2),(3,3),(23,4),(24,5)]∧Tryz.prog.cellsOf 26=6:=⟨_,Tryz.underlying26,by kernel_rfl,by kernel_rfl⟩
theorem Xos {fuel:Nat} {cs:List Value} {x:DataW H×List MemPlace} (h:DataW.trod enc Tryz.prog w 0 spare held fuel 26 cs=some x):∃y:Gram,cs=y.cells∧y.lies w∧y.short:=by
 obtain⟨fs,hu,hf,hc⟩:=Xp0
 obtain⟨xs,n,_,_,hlen,hxl,hat⟩:=DataW.trod_struct hu h
 rw[hc] at hlen
 have hsz:fs.size=6:=by have:=congrArg List.length hf;simpa using this
 obtain⟨f0,e0,t0,o0⟩:=X3 hf (i:=0) rfl
 obtain⟨f1,e1,t1,o1⟩:=X3 hf (i:=1) rfl
 obtain⟨f2,e2,t2,o2⟩:=X3 hf (i:=2) rfl
 obtain⟨f3,e3,t3,o3⟩:=X3 hf (i:=3) rfl
 obtain⟨f4,e4,t4,o4⟩:=X3 hf (i:=4) rfl
 obtain⟨f5,e5,t5,o5⟩:=X3 hf (i:=5) rfl
 have h0:=hat 0 f0 e0
 have h1:=hat 1 f1 e1
 have h2:=hat 2 f2 e2
 have h3:=hat 3 f3 e3
 have h4:=hat 4 f4 e4
 have h5:=hat 5 f5 e5
 rw[t0,o0,Y0,List.getElem?_eq_getElem (by omega)] at h0
 rw[t1,o1,Xbe,List.getElem?_eq_getElem (by omega)] at h1
 rw[t2,o2,Y0,List.getElem?_eq_getElem (by omega)] at h2
 rw[t3,o3,Yz,List.getElem?_eq_getElem (by omega)] at h3
 rw[t4,o4,Xf4,List.getElem?_eq_getElem (by omega)] at h4
 rw[t5,o5,Xii,List.getElem?_eq_getElem (by omega)] at h5
 obtain⟨a0,g0,_,z0⟩:=DataW.trod_string Tryz.underlying9 h0
 obtain⟨a1,g1,l1,z1⟩:=Xbw h1
 obtain⟨a2,g2,_,z2⟩:=DataW.trod_string Tryz.underlying9 h2
 obtain⟨a3,g3,_⟩:=DataW.trod_int Tryz.underlying3 h3
 obtain⟨a4,g4,l4,z4⟩:=Xjc h4
 obtain⟨a5,g5,l5,z5⟩:=Xlb h5
 match cs,hlen with
 | [c0,c1,c2,c3,c4,c5],_ =>
  simp at g0 g1 g2 g3 g4 g5
  exact⟨⟨a0,a1,a2,a3,a4,a5⟩,by rw[g0,g1,g2,g3,g4,g5];rfl,⟨l1,l4,fun x hx=>(z4 x hx).1,l5,fun x hx=>(z5 x hx).1⟩,⟨z1,z2,fun x hx=>(z4 x hx).2,fun x hx=>(z5 x hx).2.1,fun x hx=>(z5 x hx).2.2⟩⟩
theorem Xp3:∃fs:Array Field,Tryz.prog.underlying 47=some (.struct fs)∧fs.toList.map (fun f=>(f.type,f.offset))=[(3,0),(3,1),(3,2),(3,3),(22,4),(3,5)]∧Tryz.prog.cellsOf 47=6:=⟨_,Tryz.underlying47,by kernel_rfl,by kernel_rfl⟩
theorem Xot {fuel:Nat} {cs:List Value} {x:DataW H×List MemPlace} (h:DataW.trod enc Tryz.prog w 0 spare held fuel 47 cs=some x):∃y:ItemG,cs=y.cells∧y.tgt.lies w:=by
 obtain⟨fs,hu,hf,hc⟩:=Xp3
 obtain⟨xs,n,_,_,hlen,hxl,hat⟩:=DataW.trod_struct hu h
 rw[hc] at hlen
 have hsz:fs.size=6:=by have:=congrArg List.length hf;simpa using this
 obtain⟨f0,e0,t0,o0⟩:=X3 hf (i:=0) rfl
 obtain⟨f1,e1,t1,o1⟩:=X3 hf (i:=1) rfl
 obtain⟨f2,e2,t2,o2⟩:=X3 hf (i:=2) rfl
 obtain⟨f3,e3,t3,o3⟩:=X3 hf (i:=3) rfl
 obtain⟨f4,e4,t4,o4⟩:=X3 hf (i:=4) rfl
 obtain⟨f5,e5,t5,o5⟩:=X3 hf (i:=5) rfl
 have h0:=hat 0 f0 e0
 have h1:=hat 1 f1 e1
 have h2:=hat 2 f2 e2
 have h3:=hat 3 f3 e3
 have h4:=hat 4 f4 e4
 have h5:=hat 5 f5 e5
 rw[t0,o0,Yz,List.getElem?_eq_getElem (by omega)] at h0
 rw[t1,o1,Yz,List.getElem?_eq_getElem (by omega)] at h1
 rw[t2,o2,Yz,List.getElem?_eq_getElem (by omega)] at h2
 rw[t3,o3,Yz,List.getElem?_eq_getElem (by omega)] at h3
 rw[t4,o4,Xbe,List.getElem?_eq_getElem (by omega)] at h4
 rw[t5,o5,Yz,List.getElem?_eq_getElem (by omega)] at h5
 obtain⟨a0,g0,_⟩:=DataW.trod_int Tryz.underlying3 h0
 obtain⟨a1,g1,_⟩:=DataW.trod_int Tryz.underlying3 h1
 obtain⟨a2,g2,_⟩:=DataW.trod_int Tryz.underlying3 h2
 obtain⟨a3,g3,_⟩:=DataW.trod_int Tryz.underlying3 h3
 obtain⟨a4,g4,l4,z4⟩:=Xbw h4
 obtain⟨a5,g5,_⟩:=DataW.trod_int Tryz.underlying3 h5
 match cs,hlen with
 | [c0,c1,c2,c3,c4,c5],_ =>
  simp at g0 g1 g2 g3 g4 g5
  exact⟨⟨a0,a1,a2,a3,a4,a5⟩,by rw[g0,g1,g2,g3,g4,g5];rfl,l4⟩
theorem Xlc {fuel:Nat} {cs:List Value} {x:DataW H×List MemPlace} (h:DataW.trod enc Tryz.prog w 0 spare held fuel 27 cs=some x) :
  ∃s:SlS ItemG,cs=[s.val]∧s.lies ItemG.cells w∧∀y∈s.xs,y.tgt.lies w:=by
 obtain⟨A,cp,l,rfl,hr,hn,hm,hl,hc,hR⟩:=Ub ItemG.cells 6 ⟨0,0,0,0,⟨none,0,[]⟩,0⟩ Tryz.underlying27 (by kernel_rfl) (by decide) ItemG.size_cells (fun y=>y.tgt.lies w) (fun _ _ _ h=>Xot h) h
 exact⟨⟨A,cp,l⟩,rfl,⟨hr,hl,by unfold maxLen at hc;show cp≤_;omega,hn⟩,hR⟩
theorem Xj0 {t:Int} (h:(Lit.int .u8 t).wf=true):t=(t.toNat:Int)∧t.toNat≤255:=by
 have h1:=h
 simp only[Lit.wf,Bool.and_eq_true,decide_eq_true_eq] at h1
 have e1:IntKind.u8.min=0:=by decide
 have e2:IntKind.u8.max=255:=by decide
 rw[e1,e2] at h1
 omega
end
end Go.Proofs.YthojaplnimoacaaGreatDoor
namespace Go.Proofs.YthojaplnimoacaaGreatDoor
open Go.RowKit Go.Han
set_option maxRecDepth 100000
/-! ### increasing lists of numbers -/
structure TgP where
 text:ByteArray
 deps:List Int
 term:Int
deriving DecidableEq
def putI (n:Int):List Int→List Int
 | []=>[n]
 | x :: l=>if x<n then x :: putI n l else if x=n then x :: l else n :: x :: l
def putsI (a l:List Int):List Int:=l.foldl (fun a n=>putI n a) a
def IncI (l:List Int):Prop:=l.Pairwise (· < ·)
/-! ### translations -/
def TgP.more (l:List Int) (x:TgP):TgP:=⟨x.text,putsI x.deps l,x.term⟩
/-! ### what rules give -/
/-! ### the Kids of a rule -/
/-! ### each word counts -/
structure TransOk (i k:Int) (ab:List Int) (l:List TgP):Prop where
 some_:l≠[]
 cover:∀n,i≤n→n<k→∃x∈l,n∈x.deps
 above:∀x∈l,∀n∈ab,n∈x.deps
 inside:∀x∈l,IncI x.deps∧x.deps≠[]∧∀n∈x.deps,n∈ab∨(i≤n∧n<k)
 text:∀x∈l,x.text.size≠0
/-! ### word by word -/
def WideAt (l:List ItemG) (i:Int):Option ItemG→Prop
 | none=>∀x∈l,¬(0≤x.cat∧x.frm=i)
 | some b=>∃pre post,l=pre++b :: post∧0≤b.cat∧b.frm=i∧(∀x∈pre,0≤x.cat→x.frm=i→x.unt<b.unt)∧∀x∈post,0≤x.cat→x.frm=i→x.unt≤b.unt
theorem TransOk.append {i j k:Int} {ab:List Int} {a b:List TgP} (ha:TransOk i j ab a) (hb:TransOk j k ab b) (h1:i≤j) (h2:j≤k):TransOk i k ab (a++b):=by
 refine⟨fun h=>ha.some_ (List.append_eq_nil_iff.1 h).1,fun n hn hk=>?_,fun x hx=>?_,fun x hx=>?_,fun x hx=>?_⟩
 ·by_cases h:n<j
  ·obtain⟨x,hx,h⟩:=ha.cover n hn h
   exact⟨x,List.mem_append_left _ hx,h⟩
  ·obtain⟨x,hx,h⟩:=hb.cover n (by omega) hk
   exact⟨x,List.mem_append_right _ hx,h⟩
 ·rcases List.mem_append.1 hx with hx|hx
  ·exact ha.above x hx
  ·exact hb.above x hx
 ·rcases List.mem_append.1 hx with hx|hx
  ·obtain⟨e1,e2,e3⟩:=ha.inside x hx
   exact⟨e1,e2,fun n hn=>by rcases e3 n hn with h|h;exact .inl h;exact .inr (by omega)⟩
  ·obtain⟨e1,e2,e3⟩:=hb.inside x hx
   exact⟨e1,e2,fun n hn=>by rcases e3 n hn with h|h;exact .inl h;exact .inr (by omega)⟩
 ·rcases List.mem_append.1 hx with hx|hx
  ·exact ha.text x hx
  ·exact hb.text x hx
/-! ### a word that is replaced -/
/-! ### a further item -/
theorem Xoe {α β γ:Type} (f:α→β→γ) {a a':List (Int×α)} {b b':List (Int×β)} (h:a.Sublist a') (k:b.Sublist b'):(Y7 f a b).Sublist (Y7 f a' b'):=by
 unfold Y7
 induction h with
 | slnil=>exact .slnil
 | cons x h ih =>
  rw[List.flatMap_cons]
  exact ih.trans (List.sublist_append_right _ _)
 | cons_cons x h ih =>
  rw[List.flatMap_cons,List.flatMap_cons]
  exact(k.map _).append ih
theorem Xdq {α β:Type} {f g:α→List β}:∀ {l:List α},(∀x∈l,(f x).Sublist (g x))→(l.flatMap f).Sublist (l.flatMap g)
 | [],_ => .slnil
 | x :: l,h=>by
  rw[List.flatMap_cons,List.flatMap_cons]
  exact(h x (List.mem_cons_self ..)).append (Xdq fun y hy=>h y (List.mem_cons_of_mem _ hy))
theorem Xc3 {st st':Int→ByteArray→Bool} (hs:∀i s,st i s=true→st' i s=true) {A B:Int→Nat→Nat→List Dv} (hA:∀c u v,(A c u v).Sublist (B c u v)):∀(ps:List PartG) (i k:Nat),(Ye st A ps i k).Sublist (Ye st' B ps i k)
 | [],i,k=>by unfold Ye;exact List.Sublist.refl _
 | p :: ps,i,k=>by
  unfold Ye
  split
  ·split
   ·rename_i h
    rw[if_pos ⟨h.1,hs _ _ h.2⟩]
    exact Xc3 hs hA ps _ _
   ·exact List.nil_sublist _
  ·exact Xdq fun m _=>Xoe _ (hA _ _ _) (Xc3 hs hA ps m k)
theorem Xfp {st st':Int→ByteArray→Bool} (hs:∀i s,st i s=true→st' i s=true) {A B:Int→Nat→Nat→List Dv} (hA:∀c u v,(A c u v).Sublist (B c u v)) (c:Int) (i k:Nat):∀(j:Nat) (rs:List RuleG),(X4 st A c i k j rs).Sublist (X4 st' B c i k j rs)
 | j,[] => .slnil
 | j,r :: l=>by
  unfold X4 Xac
  refine List.Sublist.append ?_ (Xfp hs hA c i k (j+1) l)
  split
  ·exact(Xc3 hs hA r.parts.xs i k).map _
  ·exact .slnil
theorem Xa4 (c i k:Int) (x:ItemG):∀(j:Nat) (l:List ItemG),(Xq c i k j l).Sublist (Xq c i k j (l++[x]))
 | j,[]=>List.nil_sublist _
 | j,y :: l=>by
  rw[List.cons_append]
  unfold Xq
  exact(List.Sublist.refl _).append (Xa4 c i k x (j+1) l)
theorem Xm7 (g:Gram) (items:List ItemG) (x:ItemG):∀(f:Nat) (c:Int) (i k:Nat),(derF g items f c i k).Sublist (derF g (items++[x]) f c i k)
 | 0,_,_,_ => .slnil
 | f+1,c,i,k=>by
  unfold derF
  exact(Xa4 _ _ _ _ _ _).append (Xfp (fun i s h=>by unfold Xm at *;rw[List.any_append,h];rfl) (fun c u v=>Xm7 g items x f c u v) _ _ _ _ _)
theorem firstM_sub {α:Type} {l m:List (Int×α)} (h:l.Sublist m) {x:Int×α} (hx:Xv l=some x):∃y,Xv m=some y∧y.1≤x.1:=by
 cases hy:Xv m with
 | none =>
  have:=Zw hy
  subst this
  rw[List.sublist_nil.1 h] at hx;cases hx
 | some y=>exact⟨y,rfl,(Zv hy).2 x (h.subset (Zv hx).1)⟩
/-! ### another order -/
/-! ### without an item -/
mutual
def Vu (n:Nat):TreeV→Bool
 | .node r j _ _ l=>(decide (r = -1) && decide (j=n)) || Za n l
def Za (n:Nat):List TreeV→Bool
 | []=>false
 | t :: l=>Vu n t || Za n l
end
mutual
def Uk (n:Nat):TreeV→TreeV
 | .node r j i k l => .node r (if r = -1∧(n:Int)≤j then j-1 else j) i k (Z3 n l)
def Z3 (n:Nat):List TreeV→List TreeV
 | []=>[]
 | t :: l=>Uk n t :: Z3 n l
end
def cutD (n:Nat) (x:Dv):Option Dv:=if Vu n x.2 then none else some (x.1,Uk n x.2)
def cutK (n:Nat) (x:Dk):Option Dk:=if Za n x.2 then none else some (x.1,Z3 n x.2)
theorem Xod (n:Nat) (a:List Dv) (b:List Dk):(Y7 List.cons a b).filterMap (cutK n)=Y7 List.cons (a.filterMap (cutD n)) (b.filterMap (cutK n)):=by
 unfold Y7
 induction a with
 | nil=>rfl
 | cons x a ih =>
  rw[List.flatMap_cons,List.filterMap_append,ih,List.filterMap_cons]
  unfold cutD
  by_cases hu:Vu n x.2
  ·rw[if_pos hu]
   have:(b.map fun y=>(x.1+y.1,x.2 :: y.2)).filterMap (cutK n)=[]:=by
    rw[List.filterMap_map]
    refine List.filterMap_eq_nil_iff.2 fun y _=>?_
    simp[cutK,Za,hu]
   rw[this];rfl
  ·rw[if_neg hu]
   simp only
   rw[List.flatMap_cons]
   congr 1
   rw[List.filterMap_map,List.map_filterMap]
   congr 1
   funext y
   simp only[Function.comp,cutK,Za,Z3]
   by_cases hy:Za n y.2
   ·simp[hu,hy]
   ·simp[hu,hy]
theorem Xc2 {st st':Int→ByteArray→Bool} (hs:∀i s,st' i s=st i s) (n:Nat) {A B:Int→Nat→Nat→List Dv} (hA:∀c u v,0≤c→B c u v=(A c u v).filterMap (cutD n)):∀(ps:List PartG) (i k:Nat),(∀p∈ps,p.text.size=0→0≤p.no)→Ye st' B ps i k=(Ye st A ps i k).filterMap (cutK n)
 | [],i,k,_=>by unfold Ye;split<;>rfl
 | p :: ps,i,k,hc=>by
  unfold Ye
  rw[hs]
  split
  ·split
   ·exact Xc2 hs n hA ps _ _ fun q hq=>hc q (List.mem_cons_of_mem _ hq)
   ·rfl
  ·rename_i hp
   rw[List.filterMap_flatMap]
   congr 1
   funext m
   rw[Xod,hA _ _ _ (hc p (List.mem_cons_self ..) (by simpa using hp)),Xc2 hs n hA ps m k fun q hq=>hc q (List.mem_cons_of_mem _ hq)]
theorem Xfo {st st':Int→ByteArray→Bool} (hs:∀i s,st' i s=st i s) (n:Nat) {A B:Int→Nat→Nat→List Dv} (hA:∀c u v,0≤c→B c u v=(A c u v).filterMap (cutD n)) (c:Int) (i k:Nat):∀(j:Nat) (rs:List RuleG),(∀r∈rs,∀p∈r.parts.xs,p.text.size=0→0≤p.no)→X4 st' B c i k j rs=(X4 st A c i k j rs).filterMap (cutD n)
 | j,[],_=>rfl
 | j,r :: l,hc=>by
  unfold X4 Xac
  rw[List.filterMap_append,Xfo hs n hA c i k (j+1) l fun q hq=>hc q (List.mem_cons_of_mem _ hq)]
  congr 1
  split
  ·rw[Xc2 hs n hA r.parts.xs i k (hc r (List.mem_cons_self ..)),List.filterMap_map,List.map_filterMap]
   congr 1
   funext y
   have e:¬((j:Int) = -1):=by omega
   simp only[Function.comp,cutD,cutK,Vu,Uk,e,decide_false,Bool.false_and,Bool.false_or,false_and,if_false]
   by_cases hy:Za n y.2
   ·simp[hy]
   ·simp[hy]
  ·rfl
theorem Xca (c i k:Int) (hc:0≤c) (n:Nat):∀(j:Nat) (l:List ItemG),n≤j→(Xq c i k (j+1) l).filterMap (cutD n)=Xq c i k j l
 | j,[],_=>rfl
 | j,x :: l,h=>by
  unfold Xq
  rw[List.filterMap_append,Xca c i k hc n (j+1) l (by omega)]
  congr 1
  split
  ·have e1:¬((j:Int)+1=n):=by omega
   have e2:(n:Int)≤(j:Int)+1:=by omega
   simp[cutD,Zt,Vu,Za,Uk,Z3,e1,e2]
  ·rfl
theorem Xfd (c i k:Int) (hc:0≤c):∀(d j:Nat) (l:List ItemG),d<l.length→Xq c i k j (l.eraseIdx d)=(Xq c i k j l).filterMap (cutD (j+d))
 | d,j,[],h=>by simp at h
 | 0,j,x :: l,_=>by
  rw[List.eraseIdx_zero,List.tail_cons]
  conv=>rhs;unfold Xq
  rw[List.filterMap_append,Nat.add_zero,Xca c i k hc j j l (Nat.le_refl _)]
  split
  ·simp[cutD,Zt,Vu]
  ·rfl
 | d+1,j,x :: l,h=>by
  rw[List.eraseIdx_cons_succ]
  unfold Xq
  rw[List.filterMap_append,Xfd c i k hc d (j+1) l (by simpa using h)]
  rw[show j+1+d=j+(d+1) by omega]
  congr 1
  split
  ·have e1:¬((j:Int)=((j+(d+1):Nat):Int)):=by omega
   have e2:¬(((j+(d+1):Nat):Int)≤(j:Int)):=by omega
   simp only[cutD,Zt,Vu,Za,Uk,Z3,List.filterMap_cons,List.filterMap_nil,e1,e2,decide_true,decide_false,Bool.and_false,Bool.or_false,and_false,if_false,Bool.false_eq_true]
  ·rfl
theorem Xio {g:Gram} (hg:Yu g) {items:List ItemG} {d:Nat} {x:ItemG} (hd:items[d]? = some x) (hx:x.cat ≠ -1):∀(f:Nat) (c:Int) (i k:Nat),0≤c→derF g (items.eraseIdx d) f c i k=(derF g items f c i k).filterMap (cutD d)
 | 0,_,_,_,_=>rfl
 | f+1,c,i,k,hc=>by
  unfold derF
  have hl:d<items.length:=(List.getElem?_eq_some_iff.1 hd).1
  rw[List.filterMap_append,Xfd c i k hc d 0 items hl,Nat.zero_add]
  congr 1
  refine Xfo (fun i s=>?_) d (fun c u v hc=>Xio hg hd hx f c u v hc) c i k 0 g.rules.xs fun r hr p hp h0=>(hg.part r hr p hp h0).2
  unfold Xm
  have e:items=items.take d++x :: items.drop (d+1):=by
   have h1:=List.getElem?_eq_some_iff.1 hd
   conv=>lhs;rw[← List.take_append_drop d items,List.drop_eq_getElem_cons h1.1,h1.2]
  rw[List.eraseIdx_eq_take_drop_succ]
  conv=>rhs;rw[e]
  rw[List.any_append,List.any_append,List.any_cons]
  simp[hx]
theorem Xe4 (d:Nat):∀(l:List Dv) (t:Dv),Xv l=some t→Vu d t.2=false→Xv (l.filterMap (cutD d))=some (t.1,Uk d t.2)
 | [],t,h,_=>by cases h
 | x :: l,t,h,hu=>by
  rw[Yo] at h
  rw[List.filterMap_cons]
  cases hl:Xv l with
  | none =>
   rw[hl] at h
   cases h
   have:=Zw hl
   subst this
   unfold cutD
   rw[hu];rfl
  | some y =>
   rw[hl,Xt] at h
   split at h
   ·rename_i hlt
    cases h
    have ih:=Xe4 d l _ hl hu
    unfold cutD at ih ⊢
    cases hux:Vu d x.2
    ·simp only[Bool.false_eq_true,if_false]
     rw[Yo,ih,Xt,if_pos hlt]
    ·simp only[if_true]
     exact ih
   ·rename_i hlt
    cases h
    unfold cutD
    rw[hu]
    simp only[Bool.false_eq_true,if_false]
    rw[Yo]
    cases hf:Xv (l.filterMap fun x=>if Vu d x.2=true then none else some (x.1,Uk d x.2)) with
    | none=>rfl
    | some z =>
     rw[Xt,if_neg]
     obtain⟨q,hq,hz⟩:=List.mem_filterMap.1 (Zv hf).1
     have h9:=(Zv hl).2 q hq
     split at hz
     ·cases hz
     ·cases hz;simp;omega
end Go.Proofs.YthojaplnimoacaaGreatDoor
/- The examples with which the statements about charts begin, in plain Lean. -/
namespace Go.Proofs.YthojaplnimoacaaGreatDoor
open Go.RowKit Go.Han
set_option maxRecDepth 100000
def nS:ByteArray:=⟨#[115]⟩
def nNp:ByteArray:=⟨#[110,112]⟩
def nV:ByteArray:=⟨#[118]⟩
def nUnd:ByteArray:=⟨#[117,110,100]⟩
def nAnd:ByteArray:=⟨#[97,110,100]⟩
def nG:ByteArray:=⟨#[103]⟩
def nX:ByteArray:=⟨#[120]⟩
def noS:ByteArray:=⟨#[]⟩
def Z4 (A:Nat→Option Addr):Gram:=⟨nG,⟨A 0,3,[nS,nNp,nV]⟩,nS,0,⟨none,0,[]⟩,⟨A 1,3,[
 ⟨nS,0,⟨A 2,2,[⟨nNp,1,noS⟩,⟨nV,2,noS⟩]⟩,⟨A 3,2,[⟨0,noS⟩,⟨1,noS⟩]⟩,1⟩,
 ⟨nS,0,⟨A 4,1,[⟨nNp,1,noS⟩]⟩,⟨A 5,1,[⟨0,noS⟩]⟩,0⟩,
 ⟨nNp,1,⟨A 6,3,[⟨nNp,1,noS⟩,⟨noS,0,nUnd⟩,⟨nNp,1,noS⟩]⟩,⟨A 7,3,[⟨0,noS⟩,⟨0,nAnd⟩,⟨2,noS⟩]⟩,2⟩]⟩⟩
def Vp (a:Option Addr) (c i k:Int):ItemG:=⟨c,i,i+1,k,⟨a,1,[nX]⟩, -1⟩
def undI (a:Option Addr) (i:Int):ItemG:=⟨-1,i,i+1,0,⟨a,1,[nUnd]⟩, -1⟩
def Xby:TreeV:=.node 0 (-1) 0 2 [Zt 2 0 1,Zt 1 1 2]
def Xj9:TreeV:=.node 2 (-1) 2 5 [Zt 2 2 3,Zt 4 4 5]
def Xab:TreeV:=.node 1 (-1) 0 5 [.node 2 (-1) 0 5 [Zt 0 0 1,Xj9]]
variable (A:Nat→Option Addr) (a b c d e:Option Addr)
end Go.Proofs.YthojaplnimoacaaGreatDoor
