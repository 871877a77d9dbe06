/- Texts of this claim, one after the other: Term3, R26a, R26b, GrmJ, R26c, R26d. -/
import Derived.Test.YtolpbjjapodmnaaGreatDoorM3
import Derived.BigQuiet
namespace Go.Proofs.YtolpbjjapodmnaaGreatDoor
open Go.RowKit Go.Han
set_option maxRecDepth 100000
attribute [local irreducible] wpStill wpQuiet
set_option maxHeartbeats 8000000
theorem X0z (xs:List ByteArray) (k:Nat) (h:k<xs.length):(strs xs)[k]? = some (.string xs[k]):=by simp[strs,h]
theorem StrS.at_ {w:World} {s:StrS} (h:s.lies w) {k:Nat} (hk:k<s.xs.length):∃b off,s.addr=some ⟨b,off,none⟩/\b<w.heap.size/\∀(j:Nat) (hj:j<s.xs.length),w.cell? ⟨b,off+j,none⟩=some (.string s.xs[j]):=by
 obtain⟨b,off,h1,h2,h3⟩:=h.rd.at_ (k:=k) (by simpa[strs] using hk);exact⟨b,off,h1,h2,fun j hj=>h3 j _ (X0z _ _ hj)⟩
theorem Xx2 (s:ByteArray) (w:World) (hT:Tabs w):Calls Tryz.prog 241 #[.string s] w fun e w'=>e = .returned (.bool (!Xq s))/\Below w.heap.size w w':=by
 have cW:=Xa (Xew s w hT);generalize Xq s=b at *;go_enter Tryz.func241,Tryz.ntmps241
 go_wp2_with fail
 refine cW.out.mono ?_;rintro e w' ⟨rfl,hb⟩;go_wp2_with fail
 go_ret;exact⟨rfl,hb⟩
def X1j (xs:List ByteArray) (w:World) (e:Ending) (w':World):Prop:=∃i:Int,e = .returned (.int .i64 i)/\((xs.all Xq=true/\i = -1)\/(xs.all Xq=false/\0<=i))/\Below w.heap.size w w'
theorem Xii (s:StrS) (w:World) (hT:Tabs w) (hs:s.lies w):Calls Tryz.prog 173 #[s.val,.func (.func 241) #[] #[]] w (X1j s.xs w):=by
 obtain⟨A,cp,xs⟩:=s;have hmx:xs.length<=9223372036854775807:=Nat.le_trans hs.cap hs.max;have hat:=Xa (fun k hk=>StrS.at_ hs (k:=k) hk);have en:=enters_of (P:=Tryz.prog) Tryz.func241 (by kernel_rfl) rfl;clear hs;unfold StrS.val;go_enter Tryz.func173,Tryz.ntmps173
 go_wp2_with fail
 go_loopw [8] (fun i wr=>∃k:Nat,k<=xs.length/\i = .int .i64 k/\Below w.heap.size w wr/\Hid ((xs.take k).all Xq=true)) (fun i _=>xs.length-(intOf i).toNat)
 case atStart=>exact⟨0,Nat.zero_le _,rfl,bo_q,rfl⟩
 case round =>
  obtain⟨k,hk,rfl,hB,HR⟩:=hrel;by_cases hlt:k<xs.length
  ·obtain⟨b,off,he,hb,hc⟩:=hat.out k hlt
   change A=_ at he;change ∀(j:Nat) (hj:j<xs.length),w.cell? ⟨b,off+j,none⟩=some (.string xs[j]) at hc;subst he;have d0:=(hB.cell (p:=⟨b,off+k,none⟩) hb).trans (hc k hlt);have cW:=Xa (Xx2 xs[k] wr (Xa8 hT hB))
   have Hs:Hid ((xs.take (k+1)).all Xq=((xs.take k).all Xq && Xq xs[k])):=by
    show _=_;rw[List.take_succ_eq_append_getElem hlt,List.all_append];simp
   have Hf:Hid (Xq xs[k]=false->xs.all Xq=false):=fun h=>List.all_eq_false.2 ⟨_,List.getElem_mem hlt,by simp[h]⟩;clear hc;generalize xs[k]=x at *;cases hx:Xq x
   ·have HF:=Xa (Hf.out hx)
    have hcw:=cW.out;rw[hx] at hcw;have CW:=Xa hcw;clear hx hcw cW Hs Hf;go_wp2_with fail
    refine CW.out.mono ?_;rintro e w' ⟨rfl,hb⟩;go_wp2_with fail
    go_ret;exact⟨k,rfl,.inr ⟨HF.out,by omega⟩,Xb hB hb⟩
   ·have HF:Hid ((xs.take (k+1)).all Xq=true):=by show _=_;rw[Hs.out,HR.out,hx];rfl
    have hcw:=cW.out;rw[hx] at hcw;have CW:=Xa hcw;clear hx hcw cW Hs Hf;go_wp2_with fail
    refine CW.out.mono ?_;rintro e w' ⟨rfl,hb⟩;go_wp2_with fail
    go_roundw
    case rel=>exact⟨k+1,by omega,by go_num,Xb hB hb,HF⟩
    case measure=>simp[intOf];omega
  ·have HF:Hid (xs.all Xq=true):=by
    show _=_;have h:=HR.out;rw[List.take_of_length_le (by omega)] at h;exact h
   clear HR;go_wp2_with fail
   go_ret;exact⟨-1,rfl,.inl ⟨HF.out,rfl⟩,hB⟩
theorem Xeb (s:StrS) (w:World) (hT:Tabs w) (hs:s.lies w):Calls Tryz.prog 117 #[s.val,.func (.func 241) #[] #[]] w fun e w'=>e = .returned (.bool (!s.xs.all Xq))/\Below w.heap.size w w':=by
 have cI:=Xa (Xii s w hT hs);obtain⟨v,hv⟩:∃v,s.val=v:=⟨_,rfl⟩
 rw[hv] at cI ⊢;clear hv;go_enter Tryz.func117,Tryz.ntmps117
 go_wp2_with fail
 refine cI.out.mono ?_;rintro e w1 ⟨i,rfl,h,hb⟩;rcases h with ⟨h,rfl⟩|⟨h,h0⟩
 ·have H:=Xa h
  clear h;go_wp2_with fail
  go_ret;exact⟨by rw[H.out];rfl,hb⟩
 ·have H:=Xa h
  clear h;go_wp2_with fail
  go_ret;exact⟨by rw[H.out];simp,hb⟩
theorem Xiz (s:StrS) (w:World) (hT:Tabs w) (hs:s.lies w):Calls Tryz.prog 199 #[s.val] w fun e w'=>e = .returned (.bool (Zb s.xs))/\Below w.heap.size w w':=by
 have cI:=Xa (fun w hT hs=>Xeb s w hT hs);have hmx:s.xs.length<=9223372036854775807:=Nat.le_trans hs.cap hs.max;have hv:s.val = .slice s.addr s.xs.length s.cap:=rfl;rw[hv] at cI ⊢;clear hv;by_cases h1:1<=s.xs.length
 ·by_cases h2:s.xs.length<=4
  ·have H:Hid (Zb s.xs=s.xs.all Xq):=by show _=_;unfold Zb;rw[decide_eq_true h1,decide_eq_true h2];rfl
   go_enter Tryz.func199,Tryz.ntmps199
   go_wp2_with fail
   refine(cI.out w hT hs).mono ?_;rintro e w1 ⟨rfl,hb⟩;go_wp2_with fail
   go_ret;exact⟨by rw[H.out];simp,hb⟩
  ·have H:Hid (Zb s.xs=false):=by show _=_;unfold Zb;rw[decide_eq_false h2];simp
   go_enter Tryz.func199,Tryz.ntmps199
   go_wp2_with fail
   go_ret;exact⟨by rw[H.out];rfl,bo_q⟩
 ·have H:Hid (Zb s.xs=false):=by show _=_;unfold Zb;rw[decide_eq_false h1];rfl
  have h0:s.xs.length=0:=by omega
  go_enter Tryz.func199,Tryz.ntmps199
  go_wp2_with fail
  go_ret;exact⟨by rw[H.out];rfl,bo_q⟩
theorem Xub {x y:ByteArray} (h:x.toList=y.toList):x=y:=by rw[ByteArray.toList_eq,ByteArray.toList_eq] at h;exact ByteArray.ext (Array.toList_inj.1 h)
/-! ### Gives -/
def To (n:Nat) (y:GiveG):Bool:=if y.text.size=0 then decide (0<=y.part) && decide (y.part<n) else decide (y.part=0) && Zc y.text
def Xbx (gives:List GiveG):Nat->List PartG->Bool
 | _,[]=>true
 | k,p :: l=>(decide (Yw gives k=1) == decide (p.text.size=0)) && decide (Yw gives k<=1) && Xbx gives (k+1) l
theorem Xa0 (gives:List GiveG):∀(k:Nat) (l:List PartG),Xbx gives k l=true↔∀(j:Nat) (p:PartG),l[j]? = some p->(Yw gives (k+j)=1↔p.text.size=0)/\Yw gives (k+j)<=1
 | k,[]=>by simp[Xbx]
 | k,p :: l=>by
  unfold Xbx;rw[Bool.and_eq_true,Bool.and_eq_true,Xa0 gives (k+1) l];constructor
  ·rintro⟨⟨h1,h2⟩,h3⟩ j q hq
   cases j with
   | zero =>
    simp at hq;subst hq;simp only[beq_iff_eq,decide_eq_decide,decide_eq_true_eq] at h1 h2;exact⟨h1,h2⟩
   | succ j =>
    have:=h3 j q (by simpa using hq);rw[show k+1+j=k+(j+1) by omega] at this;exact this
  ·intro h
   have h0:=h 0 p rfl;rw[Nat.add_zero] at h0;refine⟨⟨?_,?_⟩,fun j q hq=>?_⟩
   ·simp only[beq_iff_eq,decide_eq_decide];exact h0.1
   ·simpa using h0.2
   ·have:=h (j+1) q (by simpa using hq)
    rw[show k+(j+1)=k+1+j by omega] at this;exact this
theorem Xie (gives:List GiveG):∀(k:Nat) (l:List PartG),U4 gives k l=true↔∀(j:Nat) (p:PartG),l[j]? = some p->p.text.size=0->Yw gives (k+j)=1
 | k,[]=>by simp[U4]
 | k,p :: l=>by
  unfold U4;rw[Bool.and_eq_true,Xie gives (k+1) l];constructor
  ·rintro⟨h1,h3⟩ j q hq h0
   cases j with
   | zero =>
    simp at hq;subst hq;simp[h0] at h1
    simpa using h1
   | succ j =>
    have:=h3 j q (by simpa using hq) h0;rw[show k+1+j=k+(j+1) by omega] at this;exact this
  ·intro h
   have h0:=h 0 p rfl;rw[Nat.add_zero] at h0;refine⟨?_,fun j q hq hq0=>?_⟩
   ·by_cases hp:p.text.size=0
    ·simp[hp,h0 hp]
    ·simp[hp]
   ·have:=h (j+1) q (by simpa using hq) hq0
    rw[show k+(j+1)=k+1+j by omega] at this;exact this
theorem Xvm {gives:List GiveG} {k:Nat} {y:GiveG} (hy:y∈gives) (h1:y.text.size=0) (h2:y.part=(k:Int)):0<Yw gives k:=by
 unfold Yw;rw[List.countP_pos_iff];exact⟨y,hy,by simp[h1,h2]⟩
theorem Xrf (gives:List GiveG) (parts:List PartG):(gives.all (Xgc parts) && U4 gives 0 parts)=(gives.all (To parts.length) && Xbx gives 0 parts):=by
 rw[Bool.eq_iff_iff,Bool.and_eq_true,Bool.and_eq_true,Xie,Xa0,List.all_eq_true,List.all_eq_true];simp only[Nat.zero_add];constructor
 ·rintro⟨h1,h2⟩
  have hw:∀y∈gives,To parts.length y=true:=by
   intro y hy;have:=h1 y hy;unfold Xgc at this;unfold To;split
   ·rename_i h0
    rw[if_pos h0] at this;unfold Xej at this;simp only[Bool.and_eq_true,decide_eq_true_eq] at this;obtain⟨ha,hb⟩:=this;split at hb
    ·rename_i p hp
     have:=(List.getElem?_eq_some_iff.1 hp).1;simp only[Bool.and_eq_true,decide_eq_true_eq];omega
    ·cases hb
   ·rename_i h0
    rw[if_neg h0] at this;exact this
  refine⟨hw,fun j p hp=>?_⟩;by_cases h0:p.text.size=0
  ·have:=h2 j p hp h0
   exact⟨⟨fun _=>h0,fun _=>this⟩,by omega⟩
  ·have hz:Yw gives j=0:=by
    unfold Yw;rw[List.countP_eq_zero];intro y hy hc;simp only[Bool.and_eq_true,decide_eq_true_eq] at hc;have:=h1 y hy;unfold Xgc at this;rw[if_pos hc.1] at this;unfold Xej at this;simp only[Bool.and_eq_true,decide_eq_true_eq] at this;obtain⟨ha,hb⟩:=this;rw[hc.2,Int.toNat_natCast,hp] at hb;simp[h0] at hb
   exact⟨⟨fun h=>by omega,fun h=>absurd h h0⟩,by omega⟩
 ·rintro⟨h1,h2⟩
  refine⟨fun y hy=>?_,fun j p hp h0=>(h2 j p hp).1.2 h0⟩;have:=h1 y hy;unfold To at this;unfold Xgc;split
  ·rename_i h0
   rw[if_pos h0] at this;simp only[Bool.and_eq_true,decide_eq_true_eq] at this;unfold Xej;obtain⟨p,hp⟩:∃p,parts[y.part.toNat]? = some p:=⟨_,List.getElem?_eq_getElem (by omega)⟩
   rw[hp];simp only[Bool.and_eq_true,decide_eq_true_eq];refine⟨this.1,?_⟩;have h3:=h2 _ p hp;have h4:=Xvm (k:=y.part.toNat) hy h0 (by omega);exact h3.1.1 (by omega)
  ·rename_i h0
   rw[if_neg h0] at this;exact this
theorem Xif (l:List GiveG) (y:GiveG) (k:Nat):Yw (l++[y]) k=Yw l k+(if y.text.size=0/\y.part=(k:Int) then 1 else 0):=by
 unfold Yw;rw[List.countP_append]
 congr 1
 by_cases h:y.text.size=0/\y.part=(k:Int)
 ·rw[if_pos h,List.countP_cons,List.countP_nil,if_pos (by rw[decide_eq_true h.1,decide_eq_true h.2];rfl)]
 ·rw[if_neg h]
  rw[List.countP_eq_zero];intro z hz hc;rw[List.mem_singleton] at hz;subst hz;simp only[Bool.and_eq_true,decide_eq_true_eq] at hc;exact h hc
theorem Xoq (l:List GiveG) (k:Nat):Yw l k<=l.length:=List.countP_le_length
def Xqv (x:RuleG):Bool:=match x.parts.xs with|[p]=>decide (p.text.size=0)|_=>false
end Go.Proofs.YtolpbjjapodmnaaGreatDoor
