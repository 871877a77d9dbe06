/- The statement TranslateWords: whatever its arguments, the law returns true and its arguments read as they did. Conditions: none beyond the statement's own (the listed tables are laid as the program's text lays them). -/
import Derived.Test.YtolpbjjapodmnaaGreatDoorM29
import Derived.Test.YtolpbjjapodmnaaGreatDoorM34
import Derived.Test.YtolpbjjapodmnaaGreatDoorCards
import Derived.SevenTiedAt
namespace Go.Proofs.YtolpbjjapodmnaaGreatDoor
open Go.RowKit Go.Han Go.ChangeShapes Go.WideShapes Go.ChangeAt
set_option maxRecDepth 100000
theorem X9q (os:Os) (started:os.Started) (H:Type) (enc:TypeId×Value→H) :
  ReturnsInHanded {} Tryz.checked os 9 .any (fun w args=>(Rows.translateWordsSpec.pre enc Tryz.prog Tryz.f9 [] false w args∧laidMetH Tryz.prog Q5 w)∧sizedMet enc Tryz.prog Tryz.f9 (OpenSpec.ofChange Rows.translateWordsSpec) false w args)
   (Rows.translateWordsSpec.post enc Tryz.prog Tryz.f9 false true false false):=by
 refine returnsInHanded_of_change_and (C:=Tryz.checked) (X:=fun w _=>laidMetH Tryz.prog Q5 w) (fun _ _ _ hh h=>h.of_heap hh) Xqj started (by kernel_rfl) Tryz.func9
  (ChangeSpec.witness_shaped (enc:=enc) (C:=Tryz.checked) (os:=os) (X:=fun w _=>laidMetH Tryz.prog Q5 w) false (World.laidAll Tryz.prog os Q5) #[.agg #[.string ⟨#[]⟩,.slice none 0 0,.string ⟨#[]⟩,.int .i64 0,.slice none 0 0,.slice none 0 0],.slice none 0 0,.int .i64 0,.slice none 0 0,.int .i64 0,.int .i64 0] 8 (World.laidAll_os _ _ _)
   (World.shaped_of_ZipB (by kernel_rfl) (by kernel_rfl)) (by kernel_rfl) (by kernel_rfl) (by kernel_rfl) (Xh9 os _)) ?_
 intro W base args ds gs before hval0 hW _ _ hL _
 have hval:∀(j:Nat) t v,Tryz.f9.params[j]? = some t→args[j]? = some v→Value.okWide Tryz.prog W .any base t v:=hval0
 have hW':=hW
 obtain⟨p,q,hA0,hV,rfl,_,_⟩:=hW
 have hA:DataW.TrodAll enc Tryz.prog W 0 (fun _=>true) true Tryz.f9.params.toList args.toList ds p:=hA0
 clear hA0 hval0
 obtain⟨rfl,rfl⟩:=trodVars_none hV
 have hK:=hA
 rw[Tryz.params9] at hA hval
 obtain⟨v0,v1,v2,v3,v4,v5,d0,d1,d2,d3,d4,d5,p0,p1,p2,p3,p4,p5,rfl,rfl,h0,h1,h2,h3,h4,h5⟩:=X71 hA
 obtain⟨fu0,hf0⟩:=h0
 obtain⟨c0,hc0,hli0⟩:=Xos hf0
 obtain⟨cs0,rfl,_⟩:=okWide_struct Tryz.underlying26 (hval 0 26 v0 rfl rfl)
 obtain rfl:cs0=c0.cells.toArray:=by
  have h1:cs0.toList=c0.cells:=by simpa[Value.cells] using hc0
  rw[← h1]
 obtain⟨fu1,hf1⟩:=h1
 obtain⟨A1,cp1,l1,hl1,hr1,hAn1,hm1⟩:=X5n hf1
 obtain⟨a1,n1,c1,rfl⟩:=okWide_slice Tryz.underlying43 (hval 1 43 v1 rfl rfl)
 obtain⟨rfl,rfl,rfl⟩:a1=A1∧n1=l1.length∧c1=cp1:=by simpa[Value.cells] using hl1
 obtain⟨t2,rfl,_,_,wt2⟩:=open_int Tryz.underlying3 (hval 2 3 v2 rfl rfl) h2
 obtain⟨fu3,hf3⟩:=h3
 obtain⟨s3,hs3,hli3⟩:=X0k hf3
 obtain⟨a3,n3,c3,rfl⟩:=okWide_slice Tryz.underlying22 (hval 3 22 v3 rfl rfl)
 obtain⟨rfl,rfl,rfl⟩:a3=s3.addr∧n3=s3.xs.length∧c3=s3.cap:=by simpa[Value.cells,StrS.val] using hs3
 obtain⟨t4,rfl,_,_,wt4⟩:=open_int Tryz.underlying3 (hval 4 3 v4 rfl rfl) h4
 obtain⟨t5,rfl,_,_,wt5⟩:=open_int Tryz.underlying3 (hval 5 3 v5 rfl rfl) h5
 simp only[List.append_nil] at hW'
 have hlt:∀x∈p,x.block<W.heap.size:=fun x hx=>hW'.lt x hx
 refine(X9r X5v c0 _ _ l1 t2 s3 t4 t5 W (Xqy hL) hli0.1 hli0.2 hr1 (by unfold maxLen at hm1;omega) hli3).mono ?_
 rintro e W' ⟨rfl,hb⟩
 exact⟨_,rfl,Xli (pa:=p) (pv:=[]) hW' (fun _ _ _=>trodAll_mk1 (shut_bool Tryz.underlying4 _)) (fun sp hsp=>Xbc Xp7 hb (by kernel_rfl) hK hlt hsp) (fun _ _=>rfl) (by simp) hb (ok_one (by kernel_rfl) rfl (okWide_bool_mk Tryz.underlying4 _))⟩
theorem X9u:(Rows.translateWordsRow.inPlace == Program.inPlace Tryz.pinned.checked.prog 9)=true:=by kernel_rfl
theorem X9v:(Rows.translateWordsRow.unfollowed == Program.unfollowed Tryz.pinned.checked.prog 9)=true:=by kernel_rfl
theorem X9w:(Rows.translateWordsRow.recurses == Program.recurses Tryz.pinned.checked.prog 9)=true:=by kernel_rfl
theorem X9x:(Rows.translateWordsRow.named == Program.varsNamed Tryz.pinned.checked.prog 9)=true:=by kernel_rfl
theorem X9y:laidOutB Tryz.pinned.checked.prog=true:=by kernel_rfl
theorem X96:joinedFacts Tryz.pinned.checked.prog 9 Tryz.f9 Rows.translateWordsSpec Rows.translateWordsRow=true:=by
 unfold joinedFacts
 rw[X9u,X9v,X9w,X9x,X9y]
 kernel_rfl
theorem X9s:Rows.TranslateWordsSaid :=
 OpenClaim.holds_of_wide 9 Tryz.f9 rfl rfl rfl rfl rfl rfl rfl ⟨rfl,rfl,rfl,rfl,rfl⟩ rfl rfl rfl rfl rfl (by kernel_rfl) Tryz.func9 X96
  (of_decide_eq_true (by kernel_rfl)) (by unfold Func.isWrapper;first|(rw[if_pos (by decide +kernel)];kernel_rfl)|(rw[if_neg (by decide +kernel)];exact⟨rfl,rfl⟩))
  (fun os started H enc _=>X9q os started H enc)
theorem X9z:Rows.translateWordsRow.wfByText (OpenSpec.ofChange Rows.translateWordsSpec)=true:=by kernel_rfl
theorem X90 : Tryz.pinned.checked.prog.mainIs = some (true, "34618b88a901a3bb4c1e59626f10f104d5765580c10b77705c380d4b9b7b1ce9".toList) := by kernel_rfl
theorem X91 : Tryz.prog.funcNamed "hansard/hansardlaw30.TranslateWords" = some 9 := by kernel_rfl
theorem X92:true=Tryz.pinned.checked.prog.looks []:=by kernel_rfl
theorem X93:([26,43,3,22,3,3].all fun u => !Tryz.prog.wantsStandIn u)=true:=by kernel_rfl
theorem X94:false=Rows.translateWordsRow.goesBy Tryz.pinned.checked.prog:=by kernel_rfl
theorem X95:∀f fn,Tryz.pinned.checked.prog.funcNamed Rows.translateWordsRow.func=some f→Tryz.pinned.checked.prog.funcs[f]? = some fn→true=Tryz.pinned.checked.prog.looks []∧∀(j:Nat) t,fn.params[j]? = some t→Tryz.pinned.checked.prog.wantsStandIn t=false:=fun f fn hf hfn=>by
 obtain rfl:f=9:=Option.some.inj (X91.symm.trans hf) |>.symm
 obtain rfl:fn=Tryz.f9:=(Option.some.inj (Tryz.func9.symm.trans hfn)).symm
 refine⟨X92,fun j t ht=>?_⟩
 rw[Tryz.params9] at ht
 have hm:t∈[26,43,3,22,3,3]:=by simpa using Array.mem_of_getElem? ht
 exact(show Tryz.prog.wantsStandIn t=false by simpa using List.all_eq_true.1 X93 t hm)
theorem translateWords_holds:Rows.TranslateWordsCardSaid :=
 Claim7.holds_tied_plain_at .later [] [.data, .listed, .data, .pinned] true (true, "34618b88a901a3bb4c1e59626f10f104d5765580c10b77705c380d4b9b7b1ce9") true X9s (fun _ h => by cases h) X9z (fun _ h => by cases h) translateWords_row_tie rfl ⟨rfl, rfl⟩ X90 rfl X95 X94
#print axioms translateWords_holds
end Go.Proofs.YtolpbjjapodmnaaGreatDoor
