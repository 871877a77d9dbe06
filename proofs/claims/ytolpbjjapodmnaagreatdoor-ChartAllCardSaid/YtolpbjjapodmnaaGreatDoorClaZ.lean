/- The statement ChartAll: whatever its arguments, the law returns true and its arguments read as they did. Conditions: none beyond the statement's own (the listed tables are laid as the program's text lays them). -/
import Derived.Test.YtolpbjjapodmnaaGreatDoorM24
import Derived.Test.YtolpbjjapodmnaaGreatDoorCards
import Derived.SevenTiedAt
namespace Go.Proofs.YtolpbjjapodmnaaGreatDoor
open Go.RowKit Go.Han Go.ChangeShapes Go.WideShapes Go.ChangeAt
set_option maxRecDepth 100000
theorem Xvd (os:Os) (started:os.Started) (H:Type) (enc:TypeId×Value→H) :
  ReturnsInHanded {} Tryz.checked os 3 .any (fun w args=>(Rows.chartAllSpec.pre enc Tryz.prog Tryz.f3 [] false w args∧laidMetH Tryz.prog Q5 w)∧sizedMet enc Tryz.prog Tryz.f3 (OpenSpec.ofChange Rows.chartAllSpec) false w args)
   (Rows.chartAllSpec.post enc Tryz.prog Tryz.f3 false true false false):=by
 refine returnsInHanded_of_change_and (C:=Tryz.checked) (X:=fun w _=>laidMetH Tryz.prog Q5 w) (fun _ _ _ hh h=>h.of_heap hh) Xqj started (by kernel_rfl) Tryz.func3
  (ChangeSpec.witness_shaped (enc:=enc) (C:=Tryz.checked) (os:=os) (X:=fun w _=>laidMetH Tryz.prog Q5 w) false (World.laidAll Tryz.prog os Q5) #[.agg #[.string ⟨#[]⟩,.slice none 0 0,.string ⟨#[]⟩,.int .i64 0,.slice none 0 0,.slice none 0 0],.slice none 0 0,.int .i64 0] 8 (World.laidAll_os _ _ _)
   (World.shaped_of_ZipB (by kernel_rfl) (by kernel_rfl)) (by kernel_rfl) (by kernel_rfl) (by kernel_rfl) (Xh9 os _)) ?_
 intro W base args ds gs before hval0 hW _ _ hL _
 have hval:∀(j:Nat) t v,Tryz.f3.params[j]? = some t→args[j]? = some v→Value.okWide Tryz.prog W .any base t v:=hval0
 have hW':=hW
 obtain⟨p,q,hA0,hV,rfl,_,_⟩:=hW
 have hA:DataW.TrodAll enc Tryz.prog W 0 (fun _=>true) true Tryz.f3.params.toList args.toList ds p:=hA0
 clear hA0 hval0
 obtain⟨rfl,rfl⟩:=trodVars_none hV
 have hK:=hA
 rw[Tryz.params3] at hA hval
 obtain⟨v0,v1,v2,d0,d1,d2,p0,p1,p2,rfl,rfl,h0,h1,h2⟩:=args_three hA
 obtain⟨fu0,hf0⟩:=h0
 obtain⟨c0,hc0,hli0⟩:=Xos hf0
 obtain⟨cs0,rfl,_⟩:=okWide_struct Tryz.underlying26 (hval 0 26 v0 rfl rfl)
 obtain rfl:cs0=c0.cells.toArray:=by
  have h1:cs0.toList=c0.cells:=by simpa[Value.cells] using hc0
  rw[← h1]
 obtain⟨fu1,hf1⟩:=h1
 obtain⟨s1,hs1,hli1,hlt1⟩:=Xlc hf1
 obtain⟨a1,n1,c1,rfl⟩:=okWide_slice Tryz.underlying27 (hval 1 27 v1 rfl rfl)
 obtain⟨rfl,rfl,rfl⟩:a1=s1.addr∧n1=s1.xs.length∧c1=s1.cap:=by simpa[Value.cells,SlS.val] using hs1
 obtain⟨t2,rfl,_,_,wt2⟩:=open_int Tryz.underlying3 (hval 2 3 v2 rfl rfl) h2
 simp only[List.append_nil] at hW'
 have hlt:∀x∈p,x.block<W.heap.size:=fun x hx=>hW'.lt x hx
 refine(Xvj c0 s1 t2 W (Xqy hL) hli0.1 hli0.2 ⟨hli1,hlt1⟩).mono ?_
 rintro e W' ⟨rfl,hb⟩
 exact⟨_,rfl,Xli (pa:=p) (pv:=[]) hW' (fun _ _ _=>trodAll_mk1 (shut_bool Tryz.underlying4 _)) (fun sp hsp=>Xbc Xp7 hb (by kernel_rfl) hK hlt hsp) (fun _ _=>rfl) (by simp) hb (ok_one (by kernel_rfl) rfl (okWide_bool_mk Tryz.underlying4 _))⟩
theorem Xvl:(Rows.chartAllRow.inPlace == Program.inPlace Tryz.pinned.checked.prog 3)=true:=by kernel_rfl
theorem Xvm:(Rows.chartAllRow.unfollowed == Program.unfollowed Tryz.pinned.checked.prog 3)=true:=by kernel_rfl
theorem Xvn:(Rows.chartAllRow.recurses == Program.recurses Tryz.pinned.checked.prog 3)=true:=by kernel_rfl
theorem Xvo:(Rows.chartAllRow.named == Program.varsNamed Tryz.pinned.checked.prog 3)=true:=by kernel_rfl
theorem Xvp:laidOutB Tryz.pinned.checked.prog=true:=by kernel_rfl
theorem Xvq:joinedFacts Tryz.pinned.checked.prog 3 Tryz.f3 Rows.chartAllSpec Rows.chartAllRow=true:=by
 unfold joinedFacts
 rw[Xvl,Xvm,Xvn,Xvo,Xvp]
 kernel_rfl
theorem Xvk:Rows.ChartAllSaid :=
 OpenClaim.holds_of_wide 3 Tryz.f3 rfl rfl rfl rfl rfl rfl rfl ⟨rfl,rfl,rfl,rfl,rfl⟩ rfl rfl rfl rfl rfl (by kernel_rfl) Tryz.func3 Xvq
  (of_decide_eq_true (by kernel_rfl)) (by unfold Func.isWrapper;first|(rw[if_pos (by decide +kernel)];kernel_rfl)|(rw[if_neg (by decide +kernel)];exact⟨rfl,rfl⟩))
  (fun os started H enc _=>Xvd os started H enc)
theorem Xwc:Rows.chartAllRow.wfByText (OpenSpec.ofChange Rows.chartAllSpec)=true:=by kernel_rfl
theorem Xwd : Tryz.pinned.checked.prog.mainIs = some (true, "34618b88a901a3bb4c1e59626f10f104d5765580c10b77705c380d4b9b7b1ce9".toList) := by kernel_rfl
theorem Xwe : Tryz.prog.funcNamed "hansard/hansardlaw29.ChartAll" = some 3 := by kernel_rfl
theorem Xwf:true=Tryz.pinned.checked.prog.looks []:=by kernel_rfl
theorem Xwg:([26,27,3].all fun u => !Tryz.prog.wantsStandIn u)=true:=by kernel_rfl
theorem Xwh:false=Rows.chartAllRow.goesBy Tryz.pinned.checked.prog:=by kernel_rfl
theorem Xwi:∀f fn,Tryz.pinned.checked.prog.funcNamed Rows.chartAllRow.func=some f→Tryz.pinned.checked.prog.funcs[f]? = some fn→true=Tryz.pinned.checked.prog.looks []∧∀(j:Nat) t,fn.params[j]? = some t→Tryz.pinned.checked.prog.wantsStandIn t=false:=fun f fn hf hfn=>by
 obtain rfl:f=3:=Option.some.inj (Xwe.symm.trans hf) |>.symm
 obtain rfl:fn=Tryz.f3:=(Option.some.inj (Tryz.func3.symm.trans hfn)).symm
 refine⟨Xwf,fun j t ht=>?_⟩
 rw[Tryz.params3] at ht
 have hm:t∈[26,27,3]:=by simpa using Array.mem_of_getElem? ht
 exact(show Tryz.prog.wantsStandIn t=false by simpa using List.all_eq_true.1 Xwg t hm)
theorem chartAll_holds:Rows.ChartAllCardSaid :=
 Claim7.holds_tied_plain_at .later [] [.data, .listed, .data, .pinned] true (true, "34618b88a901a3bb4c1e59626f10f104d5765580c10b77705c380d4b9b7b1ce9") true Xvk (fun _ h => by cases h) Xwc (fun _ h => by cases h) chartAll_row_tie rfl ⟨rfl, rfl⟩ Xwd rfl Xwi Xwh
#print axioms chartAll_holds
end Go.Proofs.YtolpbjjapodmnaaGreatDoor
