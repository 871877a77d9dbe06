/- The statement ChartCostSpec: whatever its arguments, the law returns true and its arguments read as they did. Conditions: none beyond the statement's own (the listed tables are laid as the program's text lays them). -/
import Derived.Test.YthojaplnimoacaaGreatDoorM32
import Derived.Test.YthojaplnimoacaaGreatDoorM30
import Derived.Test.YthojaplnimoacaaGreatDoorCards
import Derived.SevenTiedAt
namespace Go.Proofs.YthojaplnimoacaaGreatDoor
open Go.RowKit Go.Han Go.ChangeShapes Go.WideShapes Go.ChangeAt
set_option maxRecDepth 100000
theorem Xus (os:Os) (started:os.Started) (H:Type) (enc:TypeId×Value→H) :
  ReturnsInHanded {} Tryz.checked os 4 .any (fun w args=>(Rows.chartCostSpecSpec.pre enc Tryz.prog Tryz.f4 [] false w args∧laidMetH Tryz.prog Q5 w)∧sizedMet enc Tryz.prog Tryz.f4 (OpenSpec.ofChange Rows.chartCostSpecSpec) false w args)
   (Rows.chartCostSpecSpec.post enc Tryz.prog Tryz.f4 false true false false):=by
 refine returnsInHanded_of_change_and (C:=Tryz.checked) (X:=fun w _=>laidMetH Tryz.prog Q5 w) (fun _ _ _ hh h=>h.of_heap hh) Xqj started (by kernel_rfl) Tryz.func4
  (ChangeSpec.witness_shaped (enc:=enc) (C:=Tryz.checked) (os:=os) (X:=fun w _=>laidMetH Tryz.prog Q5 w) false (World.laidAll Tryz.prog os Q5) #[.agg #[.string ⟨#[]⟩,.slice none 0 0,.string ⟨#[]⟩,.int .i64 0,.slice none 0 0,.slice none 0 0],.slice none 0 0,.int .i64 0,.agg #[.int .i64 0,.int .i64 0,.int .i64 0,.int .i64 0,.slice none 0 0]] 8 (World.laidAll_os _ _ _)
   (World.shaped_of_ZipB (by kernel_rfl) (by kernel_rfl)) (by kernel_rfl) (by kernel_rfl) (by kernel_rfl) (Xh9 os _)) ?_
 intro W base args ds gs before hval0 hW _ _ hL _
 have hval:∀(j:Nat) t v,Tryz.f4.params[j]? = some t→args[j]? = some v→Value.okWide Tryz.prog W .any base t v:=hval0
 have hW':=hW
 obtain⟨p,q,hA0,hV,rfl,_,_⟩:=hW
 have hA:DataW.TrodAll enc Tryz.prog W 0 (fun _=>true) true Tryz.f4.params.toList args.toList ds p:=hA0
 clear hA0 hval0
 obtain⟨rfl,rfl⟩:=trodVars_none hV
 have hK:=hA
 rw[Tryz.params4] at hA hval
 obtain⟨v0,v1,v2,v3,d0,d1,d2,d3,p0,p1,p2,p3,rfl,rfl,h0,h1,h2,h3⟩:=Xmz hA
 obtain⟨fu0,hf0⟩:=h0
 obtain⟨c0,hc0,hli0⟩:=Xos hf0
 obtain⟨cs0,rfl,_⟩:=okWide_struct Tryz.underlying26 (hval 0 26 v0 rfl rfl)
 obtain rfl:cs0=c0.cells.toArray:=by
  have h1:cs0.toList=c0.cells:=by simpa[Value.cells] using hc0
  rw[← h1]
 obtain⟨fu1,hf1⟩:=h1
 obtain⟨s1,hs1,hli1,hlt1⟩:=Xlc hf1
 obtain⟨a1,n1,c1,rfl⟩:=okWide_slice Tryz.underlying27 (hval 1 27 v1 rfl rfl)
 obtain⟨rfl,rfl,rfl⟩:a1=s1.addr∧n1=s1.xs.length∧c1=s1.cap:=by simpa[Value.cells,SlS.val] using hs1
 obtain⟨t2,rfl,_,_,wt2⟩:=open_int Tryz.underlying3 (hval 2 3 v2 rfl rfl) h2
 obtain⟨fu3,hf3⟩:=h3
 obtain⟨t3,y3,hc3,hli3⟩:=Xsh hf3
 obtain⟨cs3,rfl,_⟩:=okWide_struct Tryz.underlying32 (hval 3 32 v3 rfl rfl)
 obtain rfl:cs3=y3.cells.toArray:=by
  have h1:cs3.toList=y3.cells:=by simpa[Value.cells] using hc3
  rw[← h1]
 simp only[List.append_nil] at hW'
 have hlt:∀x∈p,x.block<W.heap.size:=fun x hx=>hW'.lt x hx
 refine(Xut c0 s1 t2 t3 y3 W (Xqy hL) hli0.1 hli0.2 ⟨hli1,hlt1⟩ hli3.1 hli3.2).mono ?_
 rintro e W' ⟨rfl,hb⟩
 exact⟨_,rfl,Xli (pa:=p) (pv:=[]) hW' (fun _ _ _=>trodAll_mk1 (shut_bool Tryz.underlying4 _)) (fun sp hsp=>Xbc Xp7 hb (by kernel_rfl) hK hlt hsp) (fun _ _=>rfl) (by simp) hb (ok_one (by kernel_rfl) rfl (okWide_bool_mk Tryz.underlying4 _))⟩
theorem Xuv:(Rows.chartCostSpecRow.inPlace == Program.inPlace Tryz.pinned.checked.prog 4)=true:=by kernel_rfl
theorem Xuw:(Rows.chartCostSpecRow.unfollowed == Program.unfollowed Tryz.pinned.checked.prog 4)=true:=by kernel_rfl
theorem Xux:(Rows.chartCostSpecRow.recurses == Program.recurses Tryz.pinned.checked.prog 4)=true:=by kernel_rfl
theorem Xuy:(Rows.chartCostSpecRow.named == Program.varsNamed Tryz.pinned.checked.prog 4)=true:=by kernel_rfl
theorem Xuz:laidOutB Tryz.pinned.checked.prog=true:=by kernel_rfl
theorem Xu0:joinedFacts Tryz.pinned.checked.prog 4 Tryz.f4 Rows.chartCostSpecSpec Rows.chartCostSpecRow=true:=by
 unfold joinedFacts
 rw[Xuv,Xuw,Xux,Xuy,Xuz]
 kernel_rfl
theorem Xuu:Rows.ChartCostSpecSaid :=
 OpenClaim.holds_of_wide 4 Tryz.f4 rfl rfl rfl rfl rfl rfl rfl ⟨rfl,rfl,rfl,rfl,rfl⟩ rfl rfl rfl rfl rfl (by kernel_rfl) Tryz.func4 Xu0
  (of_decide_eq_true (by kernel_rfl)) (by unfold Func.isWrapper;first|(rw[if_pos (by decide +kernel)];kernel_rfl)|(rw[if_neg (by decide +kernel)];exact⟨rfl,rfl⟩))
  (fun os started H enc _=>Xus os started H enc)
theorem chartCostSpec_holds:Rows.ChartCostSpecCardSaid :=
 Claim7.holds_tied_plain_at .later [] [.data, .listed, .data, .pinned] true (true, "30698be7890dba548eeda11c348ff460acc937c0db29686212c6c56c895cf292") true
  Xuu (fun _ h=>by cases h) (by kernel_rfl) (fun _ h=>by cases h) chartCostSpec_row_tie rfl ⟨rfl,rfl⟩ (by kernel_rfl) rfl
  (fun f fn hf hfn=>by
   obtain rfl : f = 4 := Option.some.inj ((show Tryz.prog.funcNamed "hansard/hansardlaw29.ChartCostSpec" = some 4 by kernel_rfl).symm.trans hf) |>.symm
   obtain rfl:fn=Tryz.f4:=(Option.some.inj (Tryz.func4.symm.trans hfn)).symm
   exact⟨by kernel_rfl,fun j t ht=>by
    rw[Tryz.params4] at ht
    have hm:t∈[26,27,3,32]:=by simpa using Array.mem_of_getElem? ht
    have hall:([26,27,3,32].all fun u => !Tryz.prog.wantsStandIn u)=true:=by kernel_rfl
    exact(show Tryz.prog.wantsStandIn t=false by simpa using List.all_eq_true.1 hall t hm)⟩)
  (by kernel_rfl)
#print axioms chartCostSpec_holds
end Go.Proofs.YthojaplnimoacaaGreatDoor
