/- Texts of this claim, one after the other: Term3, R26a, R26b, GrmJ, R26c, R26d. -/
import Derived.Test.YtolpbjjapodmnaaGreatDoorM3
import Derived.BigQuiet
namespace Go.Proofs.YtolpbjjapodmnaaGreatDoor
open Go.RowKit Go.Han
attribute [local irreducible] wpStill wpQuiet
set_option maxRecDepth 100000
theorem Xqx (xs:List ByteArray) (k:Nat) (h:k<xs.length):(strs xs)[k]? = some (.string xs[k]):=by simp[strs,h]
theorem StrS.at_ {w:World} {s:StrS} (h:s.lies w) {k:Nat} (hk:k<s.xs.length):∃b off,s.addr=some ⟨b,off,none⟩∧b<w.heap.size∧∀(j:Nat) (hj:j<s.xs.length),w.cell? ⟨b,off+j,none⟩=some (.string s.xs[j]):=by
 obtain⟨b,off,h1,h2,h3⟩:=h.rd.at_ (k:=k) (by simpa[strs] using hk)
 exact⟨b,off,h1,h2,fun j hj=>h3 j _ (Xqx _ _ hj)⟩
theorem X7x (s:ByteArray) (w:World) (hT:Tabs w):Calls Tryz.prog 241 #[.string s] w fun e w'=>e = .returned (.bool (!Yi s))∧Below w.heap.size w w':=by
 have cW:=Xa (Xq6 s w hT)
 generalize Yi s=b at *
 go_enter Tryz.func241,Tryz.ntmps241
 go_wp2_with fail
 refine cW.out.mono ?_
 rintro e w' ⟨rfl,hb⟩
 go_wp2_with fail
 go_ret
 exact⟨rfl,hb⟩
def X9b (xs:List ByteArray) (w:World) (e:Ending) (w':World):Prop:=∃i:Int,e = .returned (.int .i64 i)∧((xs.all Yi=true∧i = -1)∨(xs.all Yi=false∧0≤i))∧Below w.heap.size w w'
theorem X1k (s:StrS) (w:World) (hT:Tabs w) (hs:s.lies w):Calls Tryz.prog 173 #[s.val,.func (.func 241) #[] #[]] w (X9b s.xs w):=by
 obtain⟨A,cp,xs⟩:=s
 have hmx:xs.length≤9223372036854775807:=Nat.le_trans hs.cap hs.max
 have hat:=Xa (fun k hk=>StrS.at_ hs (k:=k) hk)
 have en:=enters_of (P:=Tryz.prog) Tryz.func241 (by kernel_rfl) rfl
 clear hs
 unfold StrS.val
 go_enter Tryz.func173,Tryz.ntmps173
 go_wp2_with fail
 go_loopw [8] (fun i wr=>∃k:Nat,k≤xs.length∧i = .int .i64 k∧Below w.heap.size w wr∧Hid ((xs.take k).all Yi=true)) (fun i _=>xs.length-(intOf i).toNat)
 case atStart=>exact⟨0,Nat.zero_le _,rfl,Below.refl _ _,rfl⟩
 case round =>
  obtain⟨k,hk,rfl,hB,HR⟩:=hrel
  by_cases hlt:k<xs.length
  ·obtain⟨b,off,he,hb,hc⟩:=hat.out k hlt
   change A=_ at he
   change ∀(j:Nat) (hj:j<xs.length),w.cell? ⟨b,off+j,none⟩=some (.string xs[j]) at hc
   subst he
   have d0:=(hB.cell (p:=⟨b,off+k,none⟩) hb).trans (hc k hlt)
   have cW:=Xa (X7x xs[k] wr (Xh6 hT hB))
   have Hs:Hid ((xs.take (k+1)).all Yi=((xs.take k).all Yi && Yi xs[k])):=by
    show _=_
    rw[List.take_succ_eq_append_getElem hlt,List.all_append];simp
   have Hf:Hid (Yi xs[k]=false→xs.all Yi=false):=fun h=>List.all_eq_false.2 ⟨_,List.getElem_mem hlt,by simp[h]⟩
   clear hc
   generalize xs[k]=x at *
   cases hx:Yi x
   ·have HF:=Xa (Hf.out hx)
    have hcw:=cW.out
    rw[hx] at hcw
    have CW:=Xa hcw
    clear hx hcw cW Hs Hf
    go_wp2_with fail
    refine CW.out.mono ?_
    rintro e w' ⟨rfl,hb⟩
    go_wp2_with fail
    go_ret
    exact⟨k,rfl,.inr ⟨HF.out,by omega⟩,Xb hB hb⟩
   ·have HF:Hid ((xs.take (k+1)).all Yi=true):=by show _=_;rw[Hs.out,HR.out,hx];rfl
    have hcw:=cW.out
    rw[hx] at hcw
    have CW:=Xa hcw
    clear hx hcw cW Hs Hf
    go_wp2_with fail
    refine CW.out.mono ?_
    rintro e w' ⟨rfl,hb⟩
    go_wp2_with fail
    go_roundw
    case rel=>exact⟨k+1,by omega,by go_num,Xb hB hb,HF⟩
    case measure=>simp[intOf];omega
  ·have HF:Hid (xs.all Yi=true):=by
    show _=_
    have h:=HR.out
    rw[List.take_of_length_le (by omega)] at h
    exact h
   clear HR
   go_wp2_with fail
   go_ret
   exact⟨-1,rfl,.inl ⟨HF.out,rfl⟩,hB⟩
theorem Xzn (s:StrS) (w:World) (hT:Tabs w) (hs:s.lies w):Calls Tryz.prog 117 #[s.val,.func (.func 241) #[] #[]] w fun e w'=>e = .returned (.bool (!s.xs.all Yi))∧Below w.heap.size w w':=by
 have cI:=Xa (X1k s w hT hs)
 obtain⟨v,hv⟩:∃v,s.val=v:=⟨_,rfl⟩
 rw[hv] at cI ⊢
 clear hv
 go_enter Tryz.func117,Tryz.ntmps117
 go_wp2_with fail
 refine cI.out.mono ?_
 rintro e w1 ⟨i,rfl,h,hb⟩
 rcases h with ⟨h,rfl⟩|⟨h,h0⟩
 ·have H:=Xa h
  clear h
  go_wp2_with fail
  go_ret
  exact⟨by rw[H.out];rfl,hb⟩
 ·have H:=Xa h
  clear h
  go_wp2_with fail
  go_ret
  exact⟨by rw[H.out];simp,hb⟩
theorem X1x (s:StrS) (w:World) (hT:Tabs w) (hs:s.lies w):Calls Tryz.prog 199 #[s.val] w fun e w'=>e = .returned (.bool (Xmm s.xs))∧Below w.heap.size w w':=by
 have cI:=Xa (fun w hT hs=>Xzn s w hT hs)
 have hmx:s.xs.length≤9223372036854775807:=Nat.le_trans hs.cap hs.max
 have hv:s.val = .slice s.addr s.xs.length s.cap:=rfl
 rw[hv] at cI ⊢
 clear hv
 by_cases h1:1≤s.xs.length
 ·by_cases h2:s.xs.length≤4
  ·have H:Hid (Xmm s.xs=s.xs.all Yi):=by show _=_;unfold Xmm;rw[decide_eq_true h1,decide_eq_true h2];rfl
   go_enter Tryz.func199,Tryz.ntmps199
   go_wp2_with fail
   refine(cI.out w hT hs).mono ?_
   rintro e w1 ⟨rfl,hb⟩
   go_wp2_with fail
   go_ret
   exact⟨by rw[H.out];simp,hb⟩
  ·have H:Hid (Xmm s.xs=false):=by show _=_;unfold Xmm;rw[decide_eq_false h2];simp
   go_enter Tryz.func199,Tryz.ntmps199
   go_wp2_with fail
   go_ret
   exact⟨by rw[H.out];rfl,Below.refl _ _⟩
 ·have H:Hid (Xmm s.xs=false):=by show _=_;unfold Xmm;rw[decide_eq_false h1];rfl
  have h0:s.xs.length=0:=by omega
  go_enter Tryz.func199,Tryz.ntmps199
  go_wp2_with fail
  go_ret
  exact⟨by rw[H.out];rfl,Below.refl _ _⟩
theorem Xcm {x y:ByteArray} (h:x.toList=y.toList):x=y:=by rw[ByteArray.toList_eq,ByteArray.toList_eq] at h;exact ByteArray.ext (Array.toList_inj.1 h)
theorem Xd6 (s t:StrS) (w:World) (hs:s.lies w) (ht:t.lies w):Calls Tryz.prog 31 #[s.val,t.val] w fun e w'=>e = .returned (.bool (decide (s.xs=t.xs)))∧Below w.heap.size w w':=by
 obtain⟨A,c,l⟩:=s
 obtain⟨B,d,l'⟩:=t
 have hm:l.length≤9223372036854775807:=Nat.le_trans hs.cap hs.max
 have hat:=Xa (fun k hk=>StrS.at_ hs (k:=k) hk)
 have hat':=Xa (fun k hk=>StrS.at_ ht (k:=k) hk)
 show Calls _ _ #[.slice A l.length c,.slice B l'.length d] w fun e w'=>e = .returned (.bool (decide (l=l')))∧_
 clear hs ht
 by_cases hl:l.length=l'.length
 ·have hne:((l.length:Int) != (l'.length:Int))=false:=by simp[hl]
  have Hl:=Xa hl
  clear hl
  go_enter Tryz.func31,Tryz.ntmps31
  go_wp2_with fail
  go_loopw [5] (fun i wr=>∃k:Nat,k≤l.length∧i = .int .i64 k∧Below w.heap.size w wr∧Hid (l.take k=l'.take k)) (fun i _=>l.length-(intOf i).toNat)
  case atStart=>exact⟨0,Nat.zero_le _,rfl,Below.refl _ _,rfl⟩
  case round =>
   obtain⟨k,hk,rfl,hB,HR⟩:=hrel
   by_cases hlt:k<l.length
   ·have hlt':k<l'.length:=by have:=Hl.out;omega
    obtain⟨b,off,he,hb,hc⟩:=hat.out k hlt
    obtain⟨b',off',he',hb',hc'⟩:=hat'.out k hlt'
    change A=_ at he
    change B=_ at he'
    change ∀(j:Nat) (hj:j<l.length),w.cell? ⟨b,off+j,none⟩=some (.string l[j]) at hc
    change ∀(j:Nat) (hj:j<l'.length),w.cell? ⟨b',off'+j,none⟩=some (.string l'[j]) at hc'
    subst he he'
    have h1:=(hB.cell (p:=⟨b,off+k,none⟩) hb).trans (hc k hlt)
    have h2:=(hB.cell (p:=⟨b',off'+k,none⟩) hb').trans (hc' k hlt')
    have htk:l.take (k+1)=l.take k++[l[k]]:=List.take_succ_eq_append_getElem hlt
    have htk':l'.take (k+1)=l'.take k++[l'[k]]:=List.take_succ_eq_append_getElem hlt'
    have Htk:=Xa htk
    have Htk':=Xa htk'
    have hf:Hid (l=l'→l[k]=l'[k]):=by rintro rfl;rfl
    clear hc hc' htk htk'
    generalize l[k]=x at *
    generalize l'[k]=y at *
    by_cases hxy:x=y
    ·subst hxy
     have g1:(x.toList != x.toList)=false:=by simp
     have g2:(x.toList == x.toList)=true:=by simp
     go_wp2_with fail
     go_still (by kernel_rfl)
     go_wp2
     go_roundw
     case rel=>exact⟨k+1,by omega,by go_num,hB.drew,by show _=_;rw[Htk.out,Htk'.out,HR.out]⟩
     case measure=>simp[intOf];omega
    ·have HF:Hid (decide (l=l')=false):=decide_eq_false (fun h=>hxy (hf.out h))
     have hxl:¬x.toList=y.toList:=fun h=>hxy (by rw[ByteArray.toList_eq,ByteArray.toList_eq] at h;cases x with|mk a=>cases y with|mk b=>cases a;cases b;simp at h;rw[h])
     have g1:(x.toList != y.toList)=true:=by simpa using hxl
     have g2:(x.toList == y.toList)=false:=by simpa using hxl
     clear hxy hxl
     go_wp2_with fail
     go_still (by kernel_rfl)
     go_wp2
     go_ret
     exact⟨by rw[HF.out];rfl,hB.drew⟩
   ·have HF:Hid (decide (l=l')=true):=by
     refine decide_eq_true ?_
     obtain rfl:k=l.length:=by omega
     have h:=HR.out
     rw[List.take_length,List.take_of_length_le (by have:=Hl.out;omega)] at h
     exact h
    clear HR
    go_wp2_with fail
    go_ret
    exact⟨by rw[HF.out];rfl,hB⟩
 ·have hne:((l.length:Int) != (l'.length:Int))=true:=by simp;omega
  have HF:Hid (decide (l=l')=false):=decide_eq_false (fun h=>hl (by rw[h]))
  clear hl
  go_enter Tryz.func31,Tryz.ntmps31
  go_wp2_with fail
  go_ret
  exact⟨by rw[HF.out];rfl,Below.refl _ _⟩
theorem Xag (s t:StrS) (w:World) (hs:s.lies w) (ht:t.lies w):Calls Tryz.prog 31 #[.slice s.addr s.xs.length s.cap,.slice t.addr t.xs.length t.cap] w fun e w'=>e = .returned (.bool (decide (s.xs=t.xs)))∧Below w.heap.size w w':=Xd6 s t w hs ht
end Go.Proofs.YtolpbjjapodmnaaGreatDoor
namespace Go.Proofs.YtolpbjjapodmnaaGreatDoor
open Go.RowKit Go.Han
set_option maxRecDepth 100000
/-! ### Gives -/
def Ui (n:Nat) (y:GiveG):Bool:=if y.text.size=0 then decide (0≤y.part) && decide (y.part<n) else decide (y.part=0) && Xw y.text
def Q7 (gives:List GiveG):Nat→List PartG→Bool
 | _,[]=>true
 | k,p :: l=>(decide (Ya gives k=1) == decide (p.text.size=0)) && decide (Ya gives k≤1) && Q7 gives (k+1) l
theorem Qh (gives:List GiveG):∀(k:Nat) (l:List PartG),Q7 gives k l=true↔∀(j:Nat) (p:PartG),l[j]? = some p→(Ya gives (k+j)=1↔p.text.size=0)∧Ya gives (k+j)≤1
 | k,[]=>by simp[Q7]
 | k,p :: l=>by
  unfold Q7
  rw[Bool.and_eq_true,Bool.and_eq_true,Qh gives (k+1) l]
  constructor
  ·rintro⟨⟨h1,h2⟩,h3⟩ j q hq
   cases j with
   | zero =>
    simp at hq;subst hq
    simp only[beq_iff_eq,decide_eq_decide,decide_eq_true_eq] at h1 h2
    exact⟨h1,h2⟩
   | succ j =>
    have:=h3 j q (by simpa using hq)
    rw[show k+1+j=k+(j+1) by omega] at this
    exact this
  ·intro h
   have h0:=h 0 p rfl
   rw[Nat.add_zero] at h0
   refine⟨⟨?_,?_⟩,fun j q hq=>?_⟩
   ·simp only[beq_iff_eq,decide_eq_decide];exact h0.1
   ·simpa using h0.2
   ·have:=h (j+1) q (by simpa using hq)
    rw[show k+(j+1)=k+1+j by omega] at this
    exact this
theorem Xbl (gives:List GiveG):∀(k:Nat) (l:List PartG),Tn gives k l=true↔∀(j:Nat) (p:PartG),l[j]? = some p→p.text.size=0→Ya gives (k+j)=1
 | k,[]=>by simp[Tn]
 | k,p :: l=>by
  unfold Tn
  rw[Bool.and_eq_true,Xbl gives (k+1) l]
  constructor
  ·rintro⟨h1,h3⟩ j q hq h0
   cases j with
   | zero =>
    simp at hq;subst hq
    simp[h0] at h1
    simpa using h1
   | succ j =>
    have:=h3 j q (by simpa using hq) h0
    rw[show k+1+j=k+(j+1) by omega] at this
    exact this
  ·intro h
   have h0:=h 0 p rfl
   rw[Nat.add_zero] at h0
   refine⟨?_,fun j q hq hq0=>?_⟩
   ·by_cases hp:p.text.size=0
    ·simp[hp,h0 hp]
    ·simp[hp]
   ·have:=h (j+1) q (by simpa using hq) hq0
    rw[show k+(j+1)=k+1+j by omega] at this
    exact this
theorem Xnf {gives:List GiveG} {k:Nat} {y:GiveG} (hy:y∈gives) (h1:y.text.size=0) (h2:y.part=(k:Int)):0<Ya gives k:=by
 unfold Ya
 rw[List.countP_pos_iff]
 exact⟨y,hy,by simp[h1,h2]⟩
theorem Xkv (gives:List GiveG) (parts:List PartG):(gives.all (Zs parts) && Tn gives 0 parts)=(gives.all (Ui parts.length) && Q7 gives 0 parts):=by
 rw[Bool.eq_iff_iff,Bool.and_eq_true,Bool.and_eq_true,Xbl,Qh,List.all_eq_true,List.all_eq_true]
 simp only[Nat.zero_add]
 constructor
 ·rintro⟨h1,h2⟩
  have hw:∀y∈gives,Ui parts.length y=true:=by
   intro y hy
   have:=h1 y hy
   unfold Zs at this
   unfold Ui
   split
   ·rename_i h0
    rw[if_pos h0] at this
    unfold Th at this
    simp only[Bool.and_eq_true,decide_eq_true_eq] at this
    obtain⟨ha,hb⟩:=this
    split at hb
    ·rename_i p hp
     have:=(List.getElem?_eq_some_iff.1 hp).1
     simp only[Bool.and_eq_true,decide_eq_true_eq]
     omega
    ·cases hb
   ·rename_i h0
    rw[if_neg h0] at this
    exact this
  refine⟨hw,fun j p hp=>?_⟩
  by_cases h0:p.text.size=0
  ·have:=h2 j p hp h0
   exact⟨⟨fun _=>h0,fun _=>this⟩,by omega⟩
  ·have hz:Ya gives j=0:=by
    unfold Ya
    rw[List.countP_eq_zero]
    intro y hy hc
    simp only[Bool.and_eq_true,decide_eq_true_eq] at hc
    have:=h1 y hy
    unfold Zs at this
    rw[if_pos hc.1] at this
    unfold Th at this
    simp only[Bool.and_eq_true,decide_eq_true_eq] at this
    obtain⟨ha,hb⟩:=this
    rw[hc.2,Int.toNat_natCast,hp] at hb
    simp[h0] at hb
   exact⟨⟨fun h=>by omega,fun h=>absurd h h0⟩,by omega⟩
 ·rintro⟨h1,h2⟩
  refine⟨fun y hy=>?_,fun j p hp h0=>(h2 j p hp).1.2 h0⟩
  have:=h1 y hy
  unfold Ui at this
  unfold Zs
  split
  ·rename_i h0
   rw[if_pos h0] at this
   simp only[Bool.and_eq_true,decide_eq_true_eq] at this
   unfold Th
   obtain⟨p,hp⟩:∃p,parts[y.part.toNat]? = some p:=⟨_,List.getElem?_eq_getElem (by omega)⟩
   rw[hp]
   simp only[Bool.and_eq_true,decide_eq_true_eq]
   refine⟨this.1,?_⟩
   have h3:=h2 _ p hp
   have h4:=Xnf (k:=y.part.toNat) hy h0 (by omega)
   exact h3.1.1 (by omega)
  ·rename_i h0
   rw[if_neg h0] at this
   exact this
theorem Xbm (l:List GiveG) (y:GiveG) (k:Nat):Ya (l++[y]) k=Ya l k+(if y.text.size=0∧y.part=(k:Int) then 1 else 0):=by
 unfold Ya
 rw[List.countP_append]
 congr 1
 by_cases h:y.text.size=0∧y.part=(k:Int)
 ·rw[if_pos h,List.countP_cons,List.countP_nil,if_pos (by rw[decide_eq_true h.1,decide_eq_true h.2];rfl)]
 ·rw[if_neg h]
  rw[List.countP_eq_zero]
  intro z hz hc
  rw[List.mem_singleton] at hz
  subst hz
  simp only[Bool.and_eq_true,decide_eq_true_eq] at hc
  exact h hc
theorem Xe8 (l:List GiveG) (k:Nat):Ya l k≤l.length:=List.countP_le_length
end Go.Proofs.YtolpbjjapodmnaaGreatDoor
namespace Go.Proofs.YtolpbjjapodmnaaGreatDoor
open Go.RowKit Go.Han
attribute [local irreducible] wpStill wpQuiet
set_option maxRecDepth 100000
def Uo (x:RuleG):Bool:=match x.parts.xs with|[p]=>decide (p.text.size=0)|_=>false
end Go.Proofs.YtolpbjjapodmnaaGreatDoor
