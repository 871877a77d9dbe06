/- The statement DraftMore: whatever its arguments, the law returns true and its arguments read as they did. Conditions: none beyond the statement's own (the listed tables are laid as the program's text lays them). -/
import Derived.Test.YtolpbjjapodmnaaGreatDoorM33
import Derived.Test.YtolpbjjapodmnaaGreatDoorM32
import Derived.Test.YtolpbjjapodmnaaGreatDoorCards
import Derived.SevenTiedAt
namespace Go.Proofs.YtolpbjjapodmnaaGreatDoor
open Go.RowKit Go.Han Go.ChangeShapes Go.WideShapes Go.ChangeAt
set_option maxRecDepth 100000
theorem X2q (os:Os) (started:os.Started) (H:Type) (enc:TypeId×Value->H) :
  ReturnsInHanded {} Tryz.checked os 13 .any (fun w args=>(Rows.draftMoreSpec.pre enc Tryz.prog Tryz.f13 [] false w args/\laidMetH Tryz.prog Xbv w)/\sizedMet enc Tryz.prog Tryz.f13 (OpenSpec.ofChange Rows.draftMoreSpec) false w args)
   (Rows.draftMoreSpec.post enc Tryz.prog Tryz.f13 false true false false):=by
 refine returnsInHanded_of_change_and (C:=Tryz.checked) (X:=fun w _=>laidMetH Tryz.prog Xbv w) (fun _ _ _ hh h=>h.of_heap hh) X0i started (by kernel_rfl) Tryz.func13
  (ChangeSpec.witness_shaped (enc:=enc) (C:=Tryz.checked) (os:=os) (X:=fun w _=>laidMetH Tryz.prog Xbv w) false (World.laidAll Tryz.prog os Xbv) #[.agg #[.string ⟨#[]⟩,.slice none 0 0,.string ⟨#[]⟩,.int .i64 0,.slice none 0 0,.slice none 0 0],.slice none 0 0,.int .i64 0,.slice none 0 0,.slice none 0 0,.int .i64 0,.string ⟨#[]⟩,.int .i64 0,.int .i64 0] 8 (World.laidAll_os _ _ _)
   (World.shaped_of_ZipB (by kernel_rfl) (by kernel_rfl)) (by kernel_rfl) (by kernel_rfl) (by kernel_rfl) (Xnk os _)) ?_
 intro W base args ds gs before hval0 hW _ _ hL _;have hval:∀(j:Nat) t v,Tryz.f13.params[j]? = some t->args[j]? = some v->Value.okWide Tryz.prog W .any base t v:=hval0;have hW':=hW;obtain⟨p,q,hA0,hV,rfl,_,_⟩:=hW;have hA:DataW.TrodAll enc Tryz.prog W 0 (fun _=>true) true Tryz.f13.params.toList args.toList ds p:=hA0;clear hA0 hval0;obtain⟨rfl,rfl⟩:=trodVars_none hV;have hK:=hA;rw[Tryz.params13] at hA hval;obtain⟨v0,v1,v2,v3,v4,v5,v6,v7,v8,d0,d1,d2,d3,d4,d5,d6,d7,d8,p0,p1,p2,p3,p4,p5,p6,p7,p8,rfl,rfl,h0,h1,h2,h3,h4,h5,h6,h7,h8⟩:=Xus hA;obtain⟨fu0,hf0⟩:=h0;obtain⟨c0,hc0,hli0⟩:=Xxl hf0;obtain⟨cs0,rfl,_⟩:=okWide_struct Tryz.underlying26 (hval 0 26 v0 rfl rfl)
 obtain rfl:cs0=c0.cells.toArray:=by
  have h1:cs0.toList=c0.cells:=by simpa[Value.cells] using hc0
  rw[<- h1]
 obtain⟨fu1,hf1⟩:=h1;obtain⟨A1,cp1,l1,hl1,hr1,hAn1,hm1⟩:=Xr7 hf1;obtain⟨a1,n1,c1,rfl⟩:=okWide_slice Tryz.underlying43 (hval 1 43 v1 rfl rfl);obtain⟨rfl,rfl,rfl⟩:a1=A1/\n1=l1.length/\c1=cp1:=by simpa[Value.cells] using hl1
 obtain⟨t2,rfl,_,_,wt2⟩:=open_int Tryz.underlying3 (hval 2 3 v2 rfl rfl) h2;obtain⟨fu3,hf3⟩:=h3;obtain⟨s3,hs3,hli3⟩:=Xcv hf3;obtain⟨a3,n3,c3,rfl⟩:=okWide_slice Tryz.underlying22 (hval 3 22 v3 rfl rfl);obtain⟨rfl,rfl,rfl⟩:a3=s3.addr/\n3=s3.xs.length/\c3=s3.cap:=by simpa[Value.cells,StrS.val] using hs3
 obtain⟨fu4,hf4⟩:=h4;obtain⟨s4,hs4,hli4⟩:=Xcv hf4;obtain⟨a4,n4,c4,rfl⟩:=okWide_slice Tryz.underlying22 (hval 4 22 v4 rfl rfl);obtain⟨rfl,rfl,rfl⟩:a4=s4.addr/\n4=s4.xs.length/\c4=s4.cap:=by simpa[Value.cells,StrS.val] using hs4
 obtain⟨t5,rfl,_,_,wt5⟩:=open_int Tryz.underlying3 (hval 5 3 v5 rfl rfl) h5;obtain⟨s6,rfl⟩:=okWide_string Tryz.underlying9 (hval 6 9 v6 rfl rfl);obtain⟨t7,rfl,_,_,wt7⟩:=open_int Tryz.underlying3 (hval 7 3 v7 rfl rfl) h7;obtain⟨t8,rfl,_,_,wt8⟩:=open_int Tryz.underlying3 (hval 8 3 v8 rfl rfl) h8;simp only[List.append_nil] at hW';have hlt:∀x∈p,x.block<W.heap.size:=fun x hx=>hW'.lt x hx;refine(X1h Xsv c0 _ _ l1 t2 s3 s4 t5 s6 t7 t8 W (X00 hL) hli0.1 hli0.2 hr1 (by unfold maxLen at hm1;omega) hli3 hli4 (X10 wt5)).mono ?_;rintro e W' ⟨rfl,hb⟩;exact⟨_,rfl,Xsf (pa:=p) (pv:=[]) hW' (fun _ _ _=>trodAll_mk1 (shut_bool Tryz.underlying4 _)) (fun sp hsp=>Xdb Xzz hb (by kernel_rfl) hK hlt hsp) (fun _ _=>rfl) (by simp) hb (ok_one (by kernel_rfl) rfl (okWide_bool_mk Tryz.underlying4 _))⟩
theorem X2s:(Rows.draftMoreRow.inPlace == Program.inPlace Tryz.pinned.checked.prog 13)=true:=by kernel_rfl
theorem X2t:(Rows.draftMoreRow.unfollowed == Program.unfollowed Tryz.pinned.checked.prog 13)=true:=by kernel_rfl
theorem X2u:(Rows.draftMoreRow.recurses == Program.recurses Tryz.pinned.checked.prog 13)=true:=by kernel_rfl
theorem X2v:(Rows.draftMoreRow.named == Program.varsNamed Tryz.pinned.checked.prog 13)=true:=by kernel_rfl
theorem X2w:laidOutB Tryz.pinned.checked.prog=true:=by kernel_rfl
theorem X24:joinedFacts Tryz.pinned.checked.prog 13 Tryz.f13 Rows.draftMoreSpec Rows.draftMoreRow=true:=by
 unfold joinedFacts;rw[X2s,X2t,X2u,X2v,X2w]
 kernel_rfl
theorem X2r:Rows.DraftMoreSaid :=
 OpenClaim.holds_of_wide 13 Tryz.f13 rfl rfl rfl rfl rfl rfl rfl ⟨rfl,rfl,rfl,rfl,rfl⟩ rfl rfl rfl rfl rfl (by kernel_rfl) Tryz.func13 X24
  (of_decide_eq_true (by kernel_rfl)) (by unfold Func.isWrapper;first|(rw[if_pos (by decide +kernel)];kernel_rfl)|(rw[if_neg (by decide +kernel)];exact⟨rfl,rfl⟩))
  (fun os started H enc _=>X2q os started H enc)
theorem X2x:Rows.draftMoreRow.wfByText (OpenSpec.ofChange Rows.draftMoreSpec)=true:=by kernel_rfl
theorem X2y : Tryz.pinned.checked.prog.mainIs = some (true, "34618b88a901a3bb4c1e59626f10f104d5765580c10b77705c380d4b9b7b1ce9".toList) := by kernel_rfl
theorem X2z : Tryz.prog.funcNamed "hansard/hansardlaw33.DraftMore" = some 13 := by kernel_rfl
theorem X20:true=Tryz.pinned.checked.prog.looks []:=by kernel_rfl
theorem X21:([26,43,3,22,22,3,9,3,3].all fun u => !Tryz.prog.wantsStandIn u)=true:=by kernel_rfl
theorem X22:false=Rows.draftMoreRow.goesBy Tryz.pinned.checked.prog:=by kernel_rfl
theorem X23:∀f fn,Tryz.pinned.checked.prog.funcNamed Rows.draftMoreRow.func=some f->Tryz.pinned.checked.prog.funcs[f]? = some fn->true=Tryz.pinned.checked.prog.looks []/\∀(j:Nat) t,fn.params[j]? = some t->Tryz.pinned.checked.prog.wantsStandIn t=false:=fun f fn hf hfn=>by
 obtain rfl:f=13:=Option.some.inj (X2z.symm.trans hf) |>.symm
 obtain rfl:fn=Tryz.f13:=(Option.some.inj (Tryz.func13.symm.trans hfn)).symm;refine⟨X20,fun j t ht=>?_⟩;rw[Tryz.params13] at ht;have hm:t∈[26,43,3,22,22,3,9,3,3]:=by simpa using Array.mem_of_getElem? ht
 exact(show Tryz.prog.wantsStandIn t=false by simpa using List.all_eq_true.1 X21 t hm)
theorem draftMore_holds:Rows.DraftMoreCardSaid :=
 Claim7.holds_tied_plain_at .later [] [.data, .listed, .data, .pinned] true (true, "34618b88a901a3bb4c1e59626f10f104d5765580c10b77705c380d4b9b7b1ce9") true X2r (fun _ h => by cases h) X2x (fun _ h => by cases h) draftMore_row_tie rfl ⟨rfl, rfl⟩ X2y rfl X23 X22
#print axioms draftMore_holds
end Go.Proofs.YtolpbjjapodmnaaGreatDoor
