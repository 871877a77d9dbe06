/- The statement TranslateRevised: whatever its arguments, the law returns true and its arguments read as they did. Conditions: none beyond the statement's own (the listed tables are laid as the program's text lays them). -/
import Derived.Test.YtolpbjjapodmnaaGreatDoorOpg8
import Derived.Test.YtolpbjjapodmnaaGreatDoorM35
import Derived.Test.YtolpbjjapodmnaaGreatDoorCards
import Derived.SevenTiedAt
namespace Go.Proofs.YtolpbjjapodmnaaGreatDoor
open Go.RowKit Go.Han Go.ChangeShapes Go.WideShapes Go.ChangeAt
set_option maxRecDepth 100000
theorem Yax (os:Os) (started:os.Started) (H:Type) (enc:TypeId×Value→H) :
  ReturnsInHanded {} Tryz.checked os 8 .any (fun w args=>(Rows.translateRevisedSpec.pre enc Tryz.prog Tryz.f8 [] false w args∧laidMetH Tryz.prog Q5 w)∧sizedMet enc Tryz.prog Tryz.f8 (OpenSpec.ofChange Rows.translateRevisedSpec) false w args)
   (Rows.translateRevisedSpec.post enc Tryz.prog Tryz.f8 false true false false):=by
 refine returnsInHanded_of_change_and (C:=Tryz.checked) (X:=fun w _=>laidMetH Tryz.prog Q5 w) (fun _ _ _ hh h=>h.of_heap hh) Xqj started (by kernel_rfl) Tryz.func8
  (ChangeSpec.witness_shaped (enc:=enc) (C:=Tryz.checked) (os:=os) (X:=fun w _=>laidMetH Tryz.prog Q5 w) false (World.laidAll Tryz.prog os Q5) #[.agg #[.string ⟨#[]⟩,.slice none 0 0,.string ⟨#[]⟩,.int .i64 0,.slice none 0 0,.slice none 0 0],.slice none 0 0,.int .i64 0,.slice none 0 0,.int .i64 0,.int .i64 0,.int .u8 0,.string ⟨#[]⟩] 8 (World.laidAll_os _ _ _)
   (World.shaped_of_ZipB (by kernel_rfl) (by kernel_rfl)) (by kernel_rfl) (by kernel_rfl) (by kernel_rfl) (Xh9 os _)) ?_
 intro W base args ds gs before hval0 hW _ _ hL _
 have hval:∀(j:Nat) t v,Tryz.f8.params[j]? = some t→args[j]? = some v→Value.okWide Tryz.prog W .any base t v:=hval0
 have hW':=hW
 obtain⟨p,q,hA0,hV,rfl,_,_⟩:=hW
 have hA:DataW.TrodAll enc Tryz.prog W 0 (fun _=>true) true Tryz.f8.params.toList args.toList ds p:=hA0
 clear hA0 hval0
 obtain⟨rfl,rfl⟩:=trodVars_none hV
 have hK:=hA
 rw[Tryz.params8] at hA hval
 obtain⟨v0,v1,v2,v3,v4,v5,v6,v7,d0,d1,d2,d3,d4,d5,d6,d7,p0,p1,p2,p3,p4,p5,p6,p7,rfl,rfl,h0,h1,h2,h3,h4,h5,h6,h7⟩:=Ybk hA
 obtain⟨fu0,hf0⟩:=h0
 obtain⟨c0,hc0,hli0⟩:=Xos hf0
 obtain⟨cs0,rfl,_⟩:=okWide_struct Tryz.underlying26 (hval 0 26 v0 rfl rfl)
 obtain rfl:cs0=c0.cells.toArray:=by
  have h1:cs0.toList=c0.cells:=by simpa[Value.cells] using hc0
  rw[← h1]
 obtain⟨fu1,hf1⟩:=h1
 obtain⟨A1,cp1,l1,hl1,hr1,hAn1,hm1⟩:=X5n hf1
 obtain⟨a1,n1,c1,rfl⟩:=okWide_slice Tryz.underlying43 (hval 1 43 v1 rfl rfl)
 obtain⟨rfl,rfl,rfl⟩:a1=A1∧n1=l1.length∧c1=cp1:=by simpa[Value.cells] using hl1
 obtain⟨t2,rfl,_,_,wt2⟩:=open_int Tryz.underlying3 (hval 2 3 v2 rfl rfl) h2
 obtain⟨fu3,hf3⟩:=h3
 obtain⟨s3,hs3,hli3⟩:=X0k hf3
 obtain⟨a3,n3,c3,rfl⟩:=okWide_slice Tryz.underlying22 (hval 3 22 v3 rfl rfl)
 obtain⟨rfl,rfl,rfl⟩:a3=s3.addr∧n3=s3.xs.length∧c3=s3.cap:=by simpa[Value.cells,StrS.val] using hs3
 obtain⟨t4,rfl,_,_,wt4⟩:=open_int Tryz.underlying3 (hval 4 3 v4 rfl rfl) h4
 obtain⟨t5,rfl,_,_,wt5⟩:=open_int Tryz.underlying3 (hval 5 3 v5 rfl rfl) h5
 obtain⟨t6,rfl,_,_,wt6⟩:=open_int Tryz.underlying5 (hval 6 5 v6 rfl rfl) h6
 obtain⟨m6,rfl,hu6⟩:∃m:Nat,t6=(m:Int)∧m≤255:=⟨t6.toNat,(Xj0 wt6).1,(Xj0 wt6).2⟩
 obtain⟨s7,rfl⟩:=okWide_string Tryz.underlying9 (hval 7 9 v7 rfl rfl)
 simp only[List.append_nil] at hW'
 have hlt:∀x∈p,x.block<W.heap.size:=fun x hx=>hW'.lt x hx
 refine(Yay X5v c0 _ _ l1 t2 s3 t4 t5 m6 s7 W (Xqy hL) hli0.1 hli0.2 hr1 (by unfold maxLen at hm1;omega) hli3 hu6).mono ?_
 rintro e W' ⟨rfl,hb⟩
 exact⟨_,rfl,Xli (pa:=p) (pv:=[]) hW' (fun _ _ _=>trodAll_mk1 (shut_bool Tryz.underlying4 _)) (fun sp hsp=>Xbc Xp7 hb (by kernel_rfl) hK hlt hsp) (fun _ _=>rfl) (by simp) hb (ok_one (by kernel_rfl) rfl (okWide_bool_mk Tryz.underlying4 _))⟩
theorem Ya0:(Rows.translateRevisedRow.inPlace == Program.inPlace Tryz.pinned.checked.prog 8)=true:=by kernel_rfl
theorem Ya1:(Rows.translateRevisedRow.unfollowed == Program.unfollowed Tryz.pinned.checked.prog 8)=true:=by kernel_rfl
theorem Ya2:(Rows.translateRevisedRow.recurses == Program.recurses Tryz.pinned.checked.prog 8)=true:=by kernel_rfl
theorem Ya3:(Rows.translateRevisedRow.named == Program.varsNamed Tryz.pinned.checked.prog 8)=true:=by kernel_rfl
theorem Ya4:laidOutB Tryz.pinned.checked.prog=true:=by kernel_rfl
theorem Ybc:joinedFacts Tryz.pinned.checked.prog 8 Tryz.f8 Rows.translateRevisedSpec Rows.translateRevisedRow=true:=by
 unfold joinedFacts
 rw[Ya0,Ya1,Ya2,Ya3,Ya4]
 kernel_rfl
theorem Yaz:Rows.TranslateRevisedSaid :=
 OpenClaim.holds_of_wide 8 Tryz.f8 rfl rfl rfl rfl rfl rfl rfl ⟨rfl,rfl,rfl,rfl,rfl⟩ rfl rfl rfl rfl rfl (by kernel_rfl) Tryz.func8 Ybc
  (of_decide_eq_true (by kernel_rfl)) (by unfold Func.isWrapper;first|(rw[if_pos (by decide +kernel)];kernel_rfl)|(rw[if_neg (by decide +kernel)];exact⟨rfl,rfl⟩))
  (fun os started H enc _=>Yax os started H enc)
theorem Ya5:Rows.translateRevisedRow.wfByText (OpenSpec.ofChange Rows.translateRevisedSpec)=true:=by kernel_rfl
theorem Ya6 : Tryz.pinned.checked.prog.mainIs = some (true, "34618b88a901a3bb4c1e59626f10f104d5765580c10b77705c380d4b9b7b1ce9".toList) := by kernel_rfl
theorem Ya7 : Tryz.prog.funcNamed "hansard/hansardlaw30.TranslateRevised" = some 8 := by kernel_rfl
theorem Ya8:true=Tryz.pinned.checked.prog.looks []:=by kernel_rfl
theorem Ya9:([26,43,3,22,3,3,5,9].all fun u => !Tryz.prog.wantsStandIn u)=true:=by kernel_rfl
theorem Yba:false=Rows.translateRevisedRow.goesBy Tryz.pinned.checked.prog:=by kernel_rfl
theorem Ybb:∀f fn,Tryz.pinned.checked.prog.funcNamed Rows.translateRevisedRow.func=some f→Tryz.pinned.checked.prog.funcs[f]? = some fn→true=Tryz.pinned.checked.prog.looks []∧∀(j:Nat) t,fn.params[j]? = some t→Tryz.pinned.checked.prog.wantsStandIn t=false:=fun f fn hf hfn=>by
 obtain rfl:f=8:=Option.some.inj (Ya7.symm.trans hf) |>.symm
 obtain rfl:fn=Tryz.f8:=(Option.some.inj (Tryz.func8.symm.trans hfn)).symm
 refine⟨Ya8,fun j t ht=>?_⟩
 rw[Tryz.params8] at ht
 have hm:t∈[26,43,3,22,3,3,5,9]:=by simpa using Array.mem_of_getElem? ht
 exact(show Tryz.prog.wantsStandIn t=false by simpa using List.all_eq_true.1 Ya9 t hm)
theorem translateRevised_holds:Rows.TranslateRevisedCardSaid :=
 Claim7.holds_tied_plain_at .later [] [.data, .listed, .data, .pinned] true (true, "34618b88a901a3bb4c1e59626f10f104d5765580c10b77705c380d4b9b7b1ce9") true Yaz (fun _ h => by cases h) Ya5 (fun _ h => by cases h) translateRevised_row_tie rfl ⟨rfl, rfl⟩ Ya6 rfl Ybb Yba
#print axioms translateRevised_holds
end Go.Proofs.YtolpbjjapodmnaaGreatDoor
