/- Texts of this claim, one after the other: GrmA, GrmI, Map, MapD, GrmB, Opg1g. -/
import Derived.Test.YthojaplnimoacaaGreatDoorM3
import Derived.Test.YthojaplnimoacaaGreatDoorM2
import Derived.Test.YthojaplnimoacaaGreatDoorShelfG
import Derived.Test.YthojaplnimoacaaGreatDoorTie
import Derived.Maps.RangeWalk
import Derived.Maps.OwnSet
import Derived.StringKeys
import Derived.Lib.AppendIntMem
import Derived.Lib.LaidU8T
import Derived.PinnedBridge
import Derived.OpenVars
import Derived.Deep.Slices
import Derived.Deep.Fields
import Derived.Lib.SmallJoins
import Derived.ProofKit
import Derived.LaidMore
import Derived.OpenShut
import Derived.Lay
import Derived.Stop.Joined
import Derived.Below
import Derived.ChangeSame
import Derived.Carry
import Derived.Lib.LaidTab
namespace Go.Proofs.YthojaplnimoacaaGreatDoor
open Go.RowKit Go.Han
attribute [local irreducible] wpStill wpQuiet
set_option maxRecDepth 100000
theorem Tr {α:Type} {P:α→Bool} {xs:List α} {k:Nat} (h:k<xs.length):(xs.take (k+1)).any P=((xs.take k).any P || P xs[k]):=by
 rw[List.take_succ_eq_append_getElem h,List.any_append];simp
def FnBox (w:World) (bo:Nat) (ty:TypeId) (g:Nat) (lb:Array Value):Prop:=w.heap[bo]? = some (.cells #[.func (.func g) #[] lb] ty (0,0))
theorem FnBox.ext {w w':World} {bo:Nat} {ty:TypeId} {g:Nat} {lb:Array Value} (h:FnBox w bo ty g lb) (hb:Below w.heap.size w w'):FnBox w' bo ty g lb:=Xh hb h
theorem Tg {α:Type} (P:α→Bool) (xs:List α):xs.any (fun x => !P x) = !xs.all P:=by
 induction xs with
 | nil=>rfl
 | cons x xs ih=>simp only[List.any_cons,List.all_cons,ih];cases P x<;>simp
/-! ### at string -/
set_option maxHeartbeats 1000000 in
theorem Xno (A:Option Addr) (cp:Nat) (xs:List ByteArray) (fid:Nat) (lb:Array Value) (P:ByteArray→Bool) (w:World) (hr:Rd w A (xs.flatMap (fun b:ByteArray=>[Value.string b]))) (hm:xs.length≤9223372036854775807) (eg:∀args w,(callFunc fid args).run Tryz.prog w = .ok (.enter fid args) w)
  (hf:∀W,Below w.heap.size w W→∀x∈xs,Calls Tryz.prog fid (#[.string x]++lb) W fun e w'=>e = .returned (.bool (P x))∧Below W.heap.size W w') :
  Calls Tryz.prog 145 #[.slice A xs.length cp,.func (.func fid) #[] lb] w fun e w'=>∃k:Int,e = .returned (.int .i64 k)∧decide (0≤k)=xs.any P∧Below w.heap.size w w':=by
 have Hf:=Xa hf
 have HS:=Xa hr
 clear hf hr
 go_enter Tryz.func145,Tryz.ntmps145
 go_wp2_with fail
 go_loopw [8] (fun i wr=>∃k:Nat,k≤xs.length∧i = .int .i64 k∧Below w.heap.size w wr∧Hid ((xs.take k).any P=false)) (fun i _=>xs.length-(intOf i).toNat)
 case atStart=>exact⟨0,Nat.zero_le _,rfl,Below.refl _ _,rfl⟩
 case round =>
  obtain⟨k,hk,rfl,hB,HR⟩:=hrel
  by_cases hlt:k<xs.length
  ·obtain⟨b,off,rfl,hb,hc⟩:=HS.out.elem (s:=1) (fun _=>rfl) (by omega) (k:=k) hlt
   have d0:wr.cell? ⟨b,off+k,none⟩=some (.string xs[k]):=by
    have h:=hc 0 _ rfl
    rw[Nat.mul_one] at h
    exact(hB.cell (p:=⟨b,off+k,none⟩) hb).trans h
   have cF:=Xa (Hf.out wr hB xs[k] (List.getElem_mem hlt))
   have Htk:=Xa (Tr (P:=P) hlt)
   have hmem:=List.getElem_mem hlt
   have Hmem:=Xa hmem
   clear hc hmem
   generalize xs[k]=x at *
   go_wp2_with fail
   refine cF.out.mono ?_
   rintro e w1 ⟨rfl,hb1⟩
   have hB1:=Xb hB hb1
   cases hP:P x
   ·have HN:Hid ((xs.take (k+1)).any P=false):=by show _=_;rw[Htk.out,HR.out,hP];rfl
    clear hP
    go_wp2_with fail
    go_roundw
    case rel=>exact⟨k+1,by omega,by go_num,hB1,HN⟩
    case measure=>simp[intOf];omega
   ·have HN:Hid (xs.any P=true):=List.any_eq_true.2 ⟨x,Hmem.out,hP⟩
    clear hP
    go_wp2_with fail
    go_ret
    exact⟨k,rfl,by rw[HN.out];exact decide_eq_true (by omega),hB1⟩
  ·have HN:Hid (xs.any P=false):=by
    have h:=HR.out
    rw[List.take_of_length_le (by omega)] at h
    exact h
   go_wp2_with fail
   go_ret
   exact⟨-1,rfl,by rw[HN.out];rfl,hB⟩
theorem Xgv (A:Option Addr) (cp:Nat) (xs:List ByteArray) (fid:Nat) (lb:Array Value) (P:ByteArray→Bool) (w:World) (hr:Rd w A (xs.flatMap (fun b:ByteArray=>[Value.string b]))) (hm:xs.length≤9223372036854775807) (eg:∀args w,(callFunc fid args).run Tryz.prog w = .ok (.enter fid args) w)
  (hf:∀W,Below w.heap.size w W→∀x∈xs,Calls Tryz.prog fid (#[.string x]++lb) W fun e w'=>e = .returned (.bool (P x))∧Below W.heap.size W w') :
  Calls Tryz.prog 100 #[.slice A xs.length cp,.func (.func fid) #[] lb] w fun e w'=>e = .returned (.bool (xs.any P))∧Below w.heap.size w w':=by
 have cI:=Xa (Xno A cp xs fid lb P w hr hm eg hf)
 clear hr hf eg
 go_enter Tryz.func100,Tryz.ntmps100
 go_wp2_with fail
 refine cI.out.mono ?_
 rintro e w1 ⟨k,rfl,hk,hb1⟩
 cases hP:xs.any P
 ·rw[hP] at hk
  have g1:decide (k≥0)=false:=hk
  have g2:k<0:=by have:=of_decide_eq_false hk;omega
  clear hk
  go_wp2_with fail
  go_ret
  exact⟨by first|rfl|(rw[hP];rfl)|(rw[hP];simp;omega),hb1⟩
 ·rw[hP] at hk
  have g1:decide (k≥0)=true:=hk
  have g2:0≤k:=of_decide_eq_true hk
  clear hk
  go_wp2_with fail
  go_ret
  exact⟨by first|rfl|(rw[hP];rfl)|(rw[hP];simp;omega),hb1⟩
theorem Xoa (bo g:Nat) (lb:Array Value) (P:ByteArray→Bool) (x:ByteArray) (w:World) (hbo:FnBox w bo 62 g lb) (eg:∀args w,(callFunc g args).run Tryz.prog w = .ok (.enter g args) w)
  (hf:∀W,Below w.heap.size w W→Calls Tryz.prog g (#[.string x]++lb) W fun e w'=>e = .returned (.bool (P x))∧Below W.heap.size W w') :
  Calls Tryz.prog 220 #[.string x,.pointer (some ⟨bo,0,none⟩)] w fun e w'=>e = .returned (.bool (!P x))∧Below w.heap.size w w':=by
 have c0:=Xj hbo
 have hlt:=Xc hbo
 have Hf:=Xa hf
 clear hf hbo
 go_enter Tryz.func220,Tryz.ntmps220
 go_wp2_with fail
 refine(Hf.out _ (Below.refl _ _)).mono ?_
 rintro e w1 ⟨rfl,hb1⟩
 go_wp2_with fail
 go_ret
 exact⟨rfl,hb1⟩
set_option maxHeartbeats 1000000 in
theorem Xpl (bl:Nat) (A:Option Addr) (cp:Nat) (xs:List ByteArray) (g:Nat) (lb:Array Value) (P:ByteArray→Bool) (w:World) (hbl:w.heap[bl]? = some (.cells #[.slice A xs.length cp] 22 (0,0))) (hr:Rd w A (xs.flatMap (fun b:ByteArray=>[Value.string b]))) (hm:xs.length≤9223372036854775807) (eg:∀args w,(callFunc g args).run Tryz.prog w = .ok (.enter g args) w)
  (hf:∀W,Below w.heap.size w W→∀x∈xs,Calls Tryz.prog g (#[.string x]++lb) W fun e w'=>e = .returned (.bool (P x))∧Below W.heap.size W w') :
  Calls Tryz.prog 194 #[.func (.func g) #[] lb,.slice (some ⟨bl,0,none⟩) 1 1] w fun e w'=>e = .returned (.bool (xs.all P))∧Below w.heap.size w w':=by
 obtain⟨W1,hW1⟩:∃W1,w.alloc (.cells #[.func (.func g) #[] lb] 62)=W1:=⟨_,rfl⟩
 have hB1:Below w.heap.size w W1:=by subst hW1;exact Xe (Below.refl _ _) _
 have hbo:FnBox W1 w.heap.size 62 g lb:=by subst hW1;exact World.alloc_heap_new _ _
 have c0:=Xj (Xh hB1 hbl)
 have hmf:∀(fn:Fn) (first cap:Array Value) (w:World),(Instr.makeFunc fn first cap).run Tryz.prog w = .ok (.func fn first cap) w:=fun _ _ _ _=>rfl
 have cC:=Xa (Xgv A cp xs 220 #[.pointer (some ⟨w.heap.size,0,none⟩)] (fun x => !P x) W1 (hr.ext hB1) hm (enters_of Tryz.func220 (by kernel_rfl) rfl)
  (fun W hW x hx=>Xoa w.heap.size g lb P x W (hbo.ext hW) eg fun V hV=>hf V (Xb hB1 (Xb hW hV)) x hx))
 have HA:=Xa (Tg P xs)
 have HW1:=Xa hW1
 clear hf hr hbl hW1 hbo
 go_enter Tryz.func194,Tryz.ntmps194
 go_wp2_with fail
 rw[HW1.out]
 clear HW1
 go_loopw [9] (fun i wr=>(i = .int .i64 0∧wr=W1)∨(i = .int .i64 1∧Below w.heap.size w wr∧Hid (xs.all P=true))) (fun i _=>1-(intOf i).toNat)
 case atStart=>exact .inl ⟨rfl,rfl⟩
 case round =>
  rcases hrel with ⟨rfl,rfl⟩|⟨rfl,hB,HR⟩
  ·go_wp2_with fail
   refine cC.out.mono ?_
   rintro e w1 ⟨rfl,hb1⟩
   rw[HA.out]
   have hB2:=Xb hB1 hb1
   clear cC hb1 hB1 c0
   cases hP:xs.all P
   ·go_wp2_with fail
    go_ret
    exact⟨by rw[hP];rfl,hB2⟩
   ·have HR:=Xa hP
    clear hP
    go_wp2_with fail
    go_roundw
    case rel=>exact .inr ⟨rfl,hB2,HR⟩
    case measure=>simp[intOf]
  ·clear c0 cC
   go_wp2_with fail
   go_ret
   exact⟨by rw[HR.out];rfl,hB⟩
/-! ### at hansard/api.Entry -/
set_option maxHeartbeats 1000000 in
theorem Xnl (A:Option Addr) (cp:Nat) (xs:List EntryG) (fid:Nat) (lb:Array Value) (P:EntryG→Bool) (w:World) (hr:Rd w A (xs.flatMap EntryG.cells)) (hm:xs.length≤9223372036854775807) (eg:∀args w,(callFunc fid args).run Tryz.prog w = .ok (.enter fid args) w)
  (hf:∀W,Below w.heap.size w W→∀x∈xs,Calls Tryz.prog fid (#[.agg #[.string x.text,.string x.cat,.int .i64 x.no,.slice x.gives.addr x.gives.xs.length x.gives.cap,.int .i64 x.cost]]++lb) W fun e w'=>e = .returned (.bool (P x))∧Below W.heap.size W w') :
  Calls Tryz.prog 232 #[.slice A xs.length cp,.func (.func fid) #[] lb] w fun e w'=>∃k:Int,e = .returned (.int .i64 k)∧decide (0≤k)=xs.any P∧Below w.heap.size w w':=by
 have Hf:=Xa hf
 have HS:=Xa hr
 clear hf hr
 go_enter Tryz.func232,Tryz.ntmps232
 go_wp2_with fail
 go_loopw [8] (fun i wr=>∃k:Nat,k≤xs.length∧i = .int .i64 k∧Below w.heap.size w wr∧Hid ((xs.take k).any P=false)) (fun i _=>xs.length-(intOf i).toNat)
 case atStart=>exact⟨0,Nat.zero_le _,rfl,Below.refl _ _,rfl⟩
 case round =>
  obtain⟨k,hk,rfl,hB,HR⟩:=hrel
  by_cases hlt:k<xs.length
  ·obtain⟨b,off,rfl,hb,hc⟩:=HS.out.elem (s:=5) (fun _=>rfl) (by omega) (k:=k) hlt
   have d0:wr.cell? ⟨b,off+k*5,none⟩=some _:=(hB.cell (p:=⟨b,off+k*5,none⟩) hb).trans (hc 0 _ rfl)
   have d1:wr.cell? ⟨b,off+k*5+1,none⟩=some _:=(hB.cell (p:=⟨b,off+k*5+1,none⟩) hb).trans (hc 1 _ rfl)
   have d2:wr.cell? ⟨b,off+k*5+2,none⟩=some _:=(hB.cell (p:=⟨b,off+k*5+2,none⟩) hb).trans (hc 2 _ rfl)
   have d3:wr.cell? ⟨b,off+k*5+3,none⟩=some _:=(hB.cell (p:=⟨b,off+k*5+3,none⟩) hb).trans (hc 3 _ rfl)
   have d4:wr.cell? ⟨b,off+k*5+4,none⟩=some _:=(hB.cell (p:=⟨b,off+k*5+4,none⟩) hb).trans (hc 4 _ rfl)
   have cF:=Xa (Hf.out wr hB xs[k] (List.getElem_mem hlt))
   have Htk:=Xa (Tr (P:=P) hlt)
   have hmem:=List.getElem_mem hlt
   have Hmem:=Xa hmem
   clear hc hmem
   generalize xs[k]=x at *
   go_wp2_with fail
   refine cF.out.mono ?_
   rintro e w1 ⟨rfl,hb1⟩
   have hB1:=Xb hB hb1
   cases hP:P x
   ·have HN:Hid ((xs.take (k+1)).any P=false):=by show _=_;rw[Htk.out,HR.out,hP];rfl
    clear hP
    go_wp2_with fail
    go_roundw
    case rel=>exact⟨k+1,by omega,by go_num,hB1,HN⟩
    case measure=>simp[intOf];omega
   ·have HN:Hid (xs.any P=true):=List.any_eq_true.2 ⟨x,Hmem.out,hP⟩
    clear hP
    go_wp2_with fail
    go_ret
    exact⟨k,rfl,by rw[HN.out];exact decide_eq_true (by omega),hB1⟩
  ·have HN:Hid (xs.any P=false):=by
    have h:=HR.out
    rw[List.take_of_length_le (by omega)] at h
    exact h
   go_wp2_with fail
   go_ret
   exact⟨-1,rfl,by rw[HN.out];rfl,hB⟩
theorem Xm5 (A:Option Addr) (cp:Nat) (xs:List EntryG) (fid:Nat) (lb:Array Value) (P:EntryG→Bool) (w:World) (hr:Rd w A (xs.flatMap EntryG.cells)) (hm:xs.length≤9223372036854775807) (eg:∀args w,(callFunc fid args).run Tryz.prog w = .ok (.enter fid args) w)
  (hf:∀W,Below w.heap.size w W→∀x∈xs,Calls Tryz.prog fid (#[.agg #[.string x.text,.string x.cat,.int .i64 x.no,.slice x.gives.addr x.gives.xs.length x.gives.cap,.int .i64 x.cost]]++lb) W fun e w'=>e = .returned (.bool (P x))∧Below W.heap.size W w') :
  Calls Tryz.prog 223 #[.slice A xs.length cp,.func (.func fid) #[] lb] w fun e w'=>e = .returned (.bool (xs.any P))∧Below w.heap.size w w':=by
 have cI:=Xa (Xnl A cp xs fid lb P w hr hm eg hf)
 clear hr hf eg
 go_enter Tryz.func223,Tryz.ntmps223
 go_wp2_with fail
 refine cI.out.mono ?_
 rintro e w1 ⟨k,rfl,hk,hb1⟩
 cases hP:xs.any P
 ·rw[hP] at hk
  have g1:decide (k≥0)=false:=hk
  have g2:k<0:=by have:=of_decide_eq_false hk;omega
  clear hk
  go_wp2_with fail
  go_ret
  exact⟨by first|rfl|(rw[hP];rfl)|(rw[hP];simp;omega),hb1⟩
 ·rw[hP] at hk
  have g1:decide (k≥0)=true:=hk
  have g2:0≤k:=of_decide_eq_true hk
  clear hk
  go_wp2_with fail
  go_ret
  exact⟨by first|rfl|(rw[hP];rfl)|(rw[hP];simp;omega),hb1⟩
theorem Xn6 (bo g:Nat) (lb:Array Value) (P:EntryG→Bool) (x:EntryG) (w:World) (hbo:FnBox w bo 246 g lb) (eg:∀args w,(callFunc g args).run Tryz.prog w = .ok (.enter g args) w)
  (hf:∀W,Below w.heap.size w W→Calls Tryz.prog g (#[.agg #[.string x.text,.string x.cat,.int .i64 x.no,.slice x.gives.addr x.gives.xs.length x.gives.cap,.int .i64 x.cost]]++lb) W fun e w'=>e = .returned (.bool (P x))∧Below W.heap.size W w') :
  Calls Tryz.prog 224 #[.agg #[.string x.text,.string x.cat,.int .i64 x.no,.slice x.gives.addr x.gives.xs.length x.gives.cap,.int .i64 x.cost],.pointer (some ⟨bo,0,none⟩)] w fun e w'=>e = .returned (.bool (!P x))∧Below w.heap.size w w':=by
 have c0:=Xj hbo
 have hlt:=Xc hbo
 have Hf:=Xa hf
 clear hf hbo
 go_enter Tryz.func224,Tryz.ntmps224
 go_wp2_with fail
 refine(Hf.out _ (Xe (Below.refl _ _) _)).mono ?_
 rintro e w1 ⟨rfl,hb1⟩
 go_wp2_with fail
 go_ret
 exact⟨rfl,Xb (Xe (Below.refl _ _) _) hb1⟩
set_option maxHeartbeats 1000000 in
theorem Xpf (bl:Nat) (A:Option Addr) (cp:Nat) (xs:List EntryG) (g:Nat) (lb:Array Value) (P:EntryG→Bool) (w:World) (hbl:w.heap[bl]? = some (.cells #[.slice A xs.length cp] 23 (0,0))) (hr:Rd w A (xs.flatMap EntryG.cells)) (hm:xs.length≤9223372036854775807) (eg:∀args w,(callFunc g args).run Tryz.prog w = .ok (.enter g args) w)
  (hf:∀W,Below w.heap.size w W→∀x∈xs,Calls Tryz.prog g (#[.agg #[.string x.text,.string x.cat,.int .i64 x.no,.slice x.gives.addr x.gives.xs.length x.gives.cap,.int .i64 x.cost]]++lb) W fun e w'=>e = .returned (.bool (P x))∧Below W.heap.size W w') :
  Calls Tryz.prog 198 #[.func (.func g) #[] lb,.slice (some ⟨bl,0,none⟩) 1 1] w fun e w'=>e = .returned (.bool (xs.all P))∧Below w.heap.size w w':=by
 obtain⟨W1,hW1⟩:∃W1,w.alloc (.cells #[.func (.func g) #[] lb] 246)=W1:=⟨_,rfl⟩
 have hB1:Below w.heap.size w W1:=by subst hW1;exact Xe (Below.refl _ _) _
 have hbo:FnBox W1 w.heap.size 246 g lb:=by subst hW1;exact World.alloc_heap_new _ _
 have c0:=Xj (Xh hB1 hbl)
 have hmf:∀(fn:Fn) (first cap:Array Value) (w:World),(Instr.makeFunc fn first cap).run Tryz.prog w = .ok (.func fn first cap) w:=fun _ _ _ _=>rfl
 have cC:=Xa (Xm5 A cp xs 224 #[.pointer (some ⟨w.heap.size,0,none⟩)] (fun x => !P x) W1 (hr.ext hB1) hm (enters_of Tryz.func224 (by kernel_rfl) rfl)
  (fun W hW x hx=>Xn6 w.heap.size g lb P x W (hbo.ext hW) eg fun V hV=>hf V (Xb hB1 (Xb hW hV)) x hx))
 have HA:=Xa (Tg P xs)
 have HW1:=Xa hW1
 clear hf hr hbl hW1 hbo
 go_enter Tryz.func198,Tryz.ntmps198
 go_wp2_with fail
 rw[HW1.out]
 clear HW1
 go_loopw [9] (fun i wr=>(i = .int .i64 0∧wr=W1)∨(i = .int .i64 1∧Below w.heap.size w wr∧Hid (xs.all P=true))) (fun i _=>1-(intOf i).toNat)
 case atStart=>exact .inl ⟨rfl,rfl⟩
 case round =>
  rcases hrel with ⟨rfl,rfl⟩|⟨rfl,hB,HR⟩
  ·go_wp2_with fail
   refine cC.out.mono ?_
   rintro e w1 ⟨rfl,hb1⟩
   rw[HA.out]
   have hB2:=Xb hB1 hb1
   clear cC hb1 hB1 c0
   cases hP:xs.all P
   ·go_wp2_with fail
    go_ret
    exact⟨by rw[hP];rfl,hB2⟩
   ·have HR:=Xa hP
    clear hP
    go_wp2_with fail
    go_roundw
    case rel=>exact .inr ⟨rfl,hB2,HR⟩
    case measure=>simp[intOf]
  ·clear c0 cC
   go_wp2_with fail
   go_ret
   exact⟨by rw[HR.out];rfl,hB⟩
/-! ### at hansard/api.Part -/
set_option maxHeartbeats 1000000 in
theorem Xnm (A:Option Addr) (cp:Nat) (xs:List PartG) (fid:Nat) (lb:Array Value) (P:PartG→Bool) (w:World) (hr:Rd w A (xs.flatMap PartG.cells)) (hm:xs.length≤9223372036854775807) (eg:∀args w,(callFunc fid args).run Tryz.prog w = .ok (.enter fid args) w)
  (hf:∀W,Below w.heap.size w W→∀x∈xs,Calls Tryz.prog fid (#[.agg #[.string x.cat,.int .i64 x.no,.string x.text]]++lb) W fun e w'=>e = .returned (.bool (P x))∧Below W.heap.size W w') :
  Calls Tryz.prog 231 #[.slice A xs.length cp,.func (.func fid) #[] lb] w fun e w'=>∃k:Int,e = .returned (.int .i64 k)∧decide (0≤k)=xs.any P∧Below w.heap.size w w':=by
 have Hf:=Xa hf
 have HS:=Xa hr
 clear hf hr
 go_enter Tryz.func231,Tryz.ntmps231
 go_wp2_with fail
 go_loopw [8] (fun i wr=>∃k:Nat,k≤xs.length∧i = .int .i64 k∧Below w.heap.size w wr∧Hid ((xs.take k).any P=false)) (fun i _=>xs.length-(intOf i).toNat)
 case atStart=>exact⟨0,Nat.zero_le _,rfl,Below.refl _ _,rfl⟩
 case round =>
  obtain⟨k,hk,rfl,hB,HR⟩:=hrel
  by_cases hlt:k<xs.length
  ·obtain⟨b,off,rfl,hb,hc⟩:=HS.out.elem (s:=3) (fun _=>rfl) (by omega) (k:=k) hlt
   have d0:wr.cell? ⟨b,off+k*3,none⟩=some _:=(hB.cell (p:=⟨b,off+k*3,none⟩) hb).trans (hc 0 _ rfl)
   have d1:wr.cell? ⟨b,off+k*3+1,none⟩=some _:=(hB.cell (p:=⟨b,off+k*3+1,none⟩) hb).trans (hc 1 _ rfl)
   have d2:wr.cell? ⟨b,off+k*3+2,none⟩=some _:=(hB.cell (p:=⟨b,off+k*3+2,none⟩) hb).trans (hc 2 _ rfl)
   have cF:=Xa (Hf.out wr hB xs[k] (List.getElem_mem hlt))
   have Htk:=Xa (Tr (P:=P) hlt)
   have hmem:=List.getElem_mem hlt
   have Hmem:=Xa hmem
   clear hc hmem
   generalize xs[k]=x at *
   go_wp2_with fail
   refine cF.out.mono ?_
   rintro e w1 ⟨rfl,hb1⟩
   have hB1:=Xb hB hb1
   cases hP:P x
   ·have HN:Hid ((xs.take (k+1)).any P=false):=by show _=_;rw[Htk.out,HR.out,hP];rfl
    clear hP
    go_wp2_with fail
    go_roundw
    case rel=>exact⟨k+1,by omega,by go_num,hB1,HN⟩
    case measure=>simp[intOf];omega
   ·have HN:Hid (xs.any P=true):=List.any_eq_true.2 ⟨x,Hmem.out,hP⟩
    clear hP
    go_wp2_with fail
    go_ret
    exact⟨k,rfl,by rw[HN.out];exact decide_eq_true (by omega),hB1⟩
  ·have HN:Hid (xs.any P=false):=by
    have h:=HR.out
    rw[List.take_of_length_le (by omega)] at h
    exact h
   go_wp2_with fail
   go_ret
   exact⟨-1,rfl,by rw[HN.out];rfl,hB⟩
theorem Xm6 (A:Option Addr) (cp:Nat) (xs:List PartG) (fid:Nat) (lb:Array Value) (P:PartG→Bool) (w:World) (hr:Rd w A (xs.flatMap PartG.cells)) (hm:xs.length≤9223372036854775807) (eg:∀args w,(callFunc fid args).run Tryz.prog w = .ok (.enter fid args) w)
  (hf:∀W,Below w.heap.size w W→∀x∈xs,Calls Tryz.prog fid (#[.agg #[.string x.cat,.int .i64 x.no,.string x.text]]++lb) W fun e w'=>e = .returned (.bool (P x))∧Below W.heap.size W w') :
  Calls Tryz.prog 221 #[.slice A xs.length cp,.func (.func fid) #[] lb] w fun e w'=>e = .returned (.bool (xs.any P))∧Below w.heap.size w w':=by
 have cI:=Xa (Xnm A cp xs fid lb P w hr hm eg hf)
 clear hr hf eg
 go_enter Tryz.func221,Tryz.ntmps221
 go_wp2_with fail
 refine cI.out.mono ?_
 rintro e w1 ⟨k,rfl,hk,hb1⟩
 cases hP:xs.any P
 ·rw[hP] at hk
  have g1:decide (k≥0)=false:=hk
  have g2:k<0:=by have:=of_decide_eq_false hk;omega
  clear hk
  go_wp2_with fail
  go_ret
  exact⟨by first|rfl|(rw[hP];rfl)|(rw[hP];simp;omega),hb1⟩
 ·rw[hP] at hk
  have g1:decide (k≥0)=true:=hk
  have g2:0≤k:=of_decide_eq_true hk
  clear hk
  go_wp2_with fail
  go_ret
  exact⟨by first|rfl|(rw[hP];rfl)|(rw[hP];simp;omega),hb1⟩
theorem Xn8 (bo g:Nat) (lb:Array Value) (P:PartG→Bool) (x:PartG) (w:World) (hbo:FnBox w bo 247 g lb) (eg:∀args w,(callFunc g args).run Tryz.prog w = .ok (.enter g args) w)
  (hf:∀W,Below w.heap.size w W→Calls Tryz.prog g (#[.agg #[.string x.cat,.int .i64 x.no,.string x.text]]++lb) W fun e w'=>e = .returned (.bool (P x))∧Below W.heap.size W w') :
  Calls Tryz.prog 222 #[.agg #[.string x.cat,.int .i64 x.no,.string x.text],.pointer (some ⟨bo,0,none⟩)] w fun e w'=>e = .returned (.bool (!P x))∧Below w.heap.size w w':=by
 have c0:=Xj hbo
 have hlt:=Xc hbo
 have Hf:=Xa hf
 clear hf hbo
 go_enter Tryz.func222,Tryz.ntmps222
 go_wp2_with fail
 refine(Hf.out _ (Xe (Below.refl _ _) _)).mono ?_
 rintro e w1 ⟨rfl,hb1⟩
 go_wp2_with fail
 go_ret
 exact⟨rfl,Xb (Xe (Below.refl _ _) _) hb1⟩
set_option maxHeartbeats 1000000 in
theorem Xph (bl:Nat) (A:Option Addr) (cp:Nat) (xs:List PartG) (g:Nat) (lb:Array Value) (P:PartG→Bool) (w:World) (hbl:w.heap[bl]? = some (.cells #[.slice A xs.length cp] 101 (0,0))) (hr:Rd w A (xs.flatMap PartG.cells)) (hm:xs.length≤9223372036854775807) (eg:∀args w,(callFunc g args).run Tryz.prog w = .ok (.enter g args) w)
  (hf:∀W,Below w.heap.size w W→∀x∈xs,Calls Tryz.prog g (#[.agg #[.string x.cat,.int .i64 x.no,.string x.text]]++lb) W fun e w'=>e = .returned (.bool (P x))∧Below W.heap.size W w') :
  Calls Tryz.prog 197 #[.func (.func g) #[] lb,.slice (some ⟨bl,0,none⟩) 1 1] w fun e w'=>e = .returned (.bool (xs.all P))∧Below w.heap.size w w':=by
 obtain⟨W1,hW1⟩:∃W1,w.alloc (.cells #[.func (.func g) #[] lb] 247)=W1:=⟨_,rfl⟩
 have hB1:Below w.heap.size w W1:=by subst hW1;exact Xe (Below.refl _ _) _
 have hbo:FnBox W1 w.heap.size 247 g lb:=by subst hW1;exact World.alloc_heap_new _ _
 have c0:=Xj (Xh hB1 hbl)
 have hmf:∀(fn:Fn) (first cap:Array Value) (w:World),(Instr.makeFunc fn first cap).run Tryz.prog w = .ok (.func fn first cap) w:=fun _ _ _ _=>rfl
 have cC:=Xa (Xm6 A cp xs 222 #[.pointer (some ⟨w.heap.size,0,none⟩)] (fun x => !P x) W1 (hr.ext hB1) hm (enters_of Tryz.func222 (by kernel_rfl) rfl)
  (fun W hW x hx=>Xn8 w.heap.size g lb P x W (hbo.ext hW) eg fun V hV=>hf V (Xb hB1 (Xb hW hV)) x hx))
 have HA:=Xa (Tg P xs)
 have HW1:=Xa hW1
 clear hf hr hbl hW1 hbo
 go_enter Tryz.func197,Tryz.ntmps197
 go_wp2_with fail
 rw[HW1.out]
 clear HW1
 go_loopw [9] (fun i wr=>(i = .int .i64 0∧wr=W1)∨(i = .int .i64 1∧Below w.heap.size w wr∧Hid (xs.all P=true))) (fun i _=>1-(intOf i).toNat)
 case atStart=>exact .inl ⟨rfl,rfl⟩
 case round =>
  rcases hrel with ⟨rfl,rfl⟩|⟨rfl,hB,HR⟩
  ·go_wp2_with fail
   refine cC.out.mono ?_
   rintro e w1 ⟨rfl,hb1⟩
   rw[HA.out]
   have hB2:=Xb hB1 hb1
   clear cC hb1 hB1 c0
   cases hP:xs.all P
   ·go_wp2_with fail
    go_ret
    exact⟨by rw[hP];rfl,hB2⟩
   ·have HR:=Xa hP
    clear hP
    go_wp2_with fail
    go_roundw
    case rel=>exact .inr ⟨rfl,hB2,HR⟩
    case measure=>simp[intOf]
  ·clear c0 cC
   go_wp2_with fail
   go_ret
   exact⟨by rw[HR.out];rfl,hB⟩
/-! ### at hansard/api.Rule -/
set_option maxHeartbeats 1000000 in
theorem Xnn (A:Option Addr) (cp:Nat) (xs:List RuleG) (fid:Nat) (lb:Array Value) (P:RuleG→Bool) (w:World) (hr:Rd w A (xs.flatMap RuleG.cells)) (hm:xs.length≤9223372036854775807) (eg:∀args w,(callFunc fid args).run Tryz.prog w = .ok (.enter fid args) w)
  (hf:∀W,Below w.heap.size w W→∀x∈xs,Calls Tryz.prog fid (#[.agg #[.string x.cat,.int .i64 x.no,.slice x.parts.addr x.parts.xs.length x.parts.cap,.slice x.gives.addr x.gives.xs.length x.gives.cap,.int .i64 x.cost]]++lb) W fun e w'=>e = .returned (.bool (P x))∧Below W.heap.size W w') :
  Calls Tryz.prog 226 #[.slice A xs.length cp,.func (.func fid) #[] lb] w fun e w'=>∃k:Int,e = .returned (.int .i64 k)∧decide (0≤k)=xs.any P∧Below w.heap.size w w':=by
 have Hf:=Xa hf
 have HS:=Xa hr
 clear hf hr
 go_enter Tryz.func226,Tryz.ntmps226
 go_wp2_with fail
 go_loopw [8] (fun i wr=>∃k:Nat,k≤xs.length∧i = .int .i64 k∧Below w.heap.size w wr∧Hid ((xs.take k).any P=false)) (fun i _=>xs.length-(intOf i).toNat)
 case atStart=>exact⟨0,Nat.zero_le _,rfl,Below.refl _ _,rfl⟩
 case round =>
  obtain⟨k,hk,rfl,hB,HR⟩:=hrel
  by_cases hlt:k<xs.length
  ·obtain⟨b,off,rfl,hb,hc⟩:=HS.out.elem (s:=5) (fun _=>rfl) (by omega) (k:=k) hlt
   have d0:wr.cell? ⟨b,off+k*5,none⟩=some _:=(hB.cell (p:=⟨b,off+k*5,none⟩) hb).trans (hc 0 _ rfl)
   have d1:wr.cell? ⟨b,off+k*5+1,none⟩=some _:=(hB.cell (p:=⟨b,off+k*5+1,none⟩) hb).trans (hc 1 _ rfl)
   have d2:wr.cell? ⟨b,off+k*5+2,none⟩=some _:=(hB.cell (p:=⟨b,off+k*5+2,none⟩) hb).trans (hc 2 _ rfl)
   have d3:wr.cell? ⟨b,off+k*5+3,none⟩=some _:=(hB.cell (p:=⟨b,off+k*5+3,none⟩) hb).trans (hc 3 _ rfl)
   have d4:wr.cell? ⟨b,off+k*5+4,none⟩=some _:=(hB.cell (p:=⟨b,off+k*5+4,none⟩) hb).trans (hc 4 _ rfl)
   have cF:=Xa (Hf.out wr hB xs[k] (List.getElem_mem hlt))
   have Htk:=Xa (Tr (P:=P) hlt)
   have hmem:=List.getElem_mem hlt
   have Hmem:=Xa hmem
   clear hc hmem
   generalize xs[k]=x at *
   go_wp2_with fail
   refine cF.out.mono ?_
   rintro e w1 ⟨rfl,hb1⟩
   have hB1:=Xb hB hb1
   cases hP:P x
   ·have HN:Hid ((xs.take (k+1)).any P=false):=by show _=_;rw[Htk.out,HR.out,hP];rfl
    clear hP
    go_wp2_with fail
    go_roundw
    case rel=>exact⟨k+1,by omega,by go_num,hB1,HN⟩
    case measure=>simp[intOf];omega
   ·have HN:Hid (xs.any P=true):=List.any_eq_true.2 ⟨x,Hmem.out,hP⟩
    clear hP
    go_wp2_with fail
    go_ret
    exact⟨k,rfl,by rw[HN.out];exact decide_eq_true (by omega),hB1⟩
  ·have HN:Hid (xs.any P=false):=by
    have h:=HR.out
    rw[List.take_of_length_le (by omega)] at h
    exact h
   go_wp2_with fail
   go_ret
   exact⟨-1,rfl,by rw[HN.out];rfl,hB⟩
theorem Xgu (A:Option Addr) (cp:Nat) (xs:List RuleG) (fid:Nat) (lb:Array Value) (P:RuleG→Bool) (w:World) (hr:Rd w A (xs.flatMap RuleG.cells)) (hm:xs.length≤9223372036854775807) (eg:∀args w,(callFunc fid args).run Tryz.prog w = .ok (.enter fid args) w)
  (hf:∀W,Below w.heap.size w W→∀x∈xs,Calls Tryz.prog fid (#[.agg #[.string x.cat,.int .i64 x.no,.slice x.parts.addr x.parts.xs.length x.parts.cap,.slice x.gives.addr x.gives.xs.length x.gives.cap,.int .i64 x.cost]]++lb) W fun e w'=>e = .returned (.bool (P x))∧Below W.heap.size W w') :
  Calls Tryz.prog 201 #[.slice A xs.length cp,.func (.func fid) #[] lb] w fun e w'=>e = .returned (.bool (xs.any P))∧Below w.heap.size w w':=by
 have cI:=Xa (Xnn A cp xs fid lb P w hr hm eg hf)
 clear hr hf eg
 go_enter Tryz.func201,Tryz.ntmps201
 go_wp2_with fail
 refine cI.out.mono ?_
 rintro e w1 ⟨k,rfl,hk,hb1⟩
 cases hP:xs.any P
 ·rw[hP] at hk
  have g1:decide (k≥0)=false:=hk
  have g2:k<0:=by have:=of_decide_eq_false hk;omega
  clear hk
  go_wp2_with fail
  go_ret
  exact⟨by first|rfl|(rw[hP];rfl)|(rw[hP];simp;omega),hb1⟩
 ·rw[hP] at hk
  have g1:decide (k≥0)=true:=hk
  have g2:0≤k:=of_decide_eq_true hk
  clear hk
  go_wp2_with fail
  go_ret
  exact⟨by first|rfl|(rw[hP];rfl)|(rw[hP];simp;omega),hb1⟩
theorem Xn9 (bo g:Nat) (lb:Array Value) (P:RuleG→Bool) (x:RuleG) (w:World) (hbo:FnBox w bo 243 g lb) (eg:∀args w,(callFunc g args).run Tryz.prog w = .ok (.enter g args) w)
  (hf:∀W,Below w.heap.size w W→Calls Tryz.prog g (#[.agg #[.string x.cat,.int .i64 x.no,.slice x.parts.addr x.parts.xs.length x.parts.cap,.slice x.gives.addr x.gives.xs.length x.gives.cap,.int .i64 x.cost]]++lb) W fun e w'=>e = .returned (.bool (P x))∧Below W.heap.size W w') :
  Calls Tryz.prog 225 #[.agg #[.string x.cat,.int .i64 x.no,.slice x.parts.addr x.parts.xs.length x.parts.cap,.slice x.gives.addr x.gives.xs.length x.gives.cap,.int .i64 x.cost],.pointer (some ⟨bo,0,none⟩)] w fun e w'=>e = .returned (.bool (!P x))∧Below w.heap.size w w':=by
 have c0:=Xj hbo
 have hlt:=Xc hbo
 have Hf:=Xa hf
 clear hf hbo
 go_enter Tryz.func225,Tryz.ntmps225
 go_wp2_with fail
 refine(Hf.out _ (Xe (Below.refl _ _) _)).mono ?_
 rintro e w1 ⟨rfl,hb1⟩
 go_wp2_with fail
 go_ret
 exact⟨rfl,Xb (Xe (Below.refl _ _) _) hb1⟩
set_option maxHeartbeats 1000000 in
theorem Xpj (bl:Nat) (A:Option Addr) (cp:Nat) (xs:List RuleG) (g:Nat) (lb:Array Value) (P:RuleG→Bool) (w:World) (hbl:w.heap[bl]? = some (.cells #[.slice A xs.length cp] 24 (0,0))) (hr:Rd w A (xs.flatMap RuleG.cells)) (hm:xs.length≤9223372036854775807) (eg:∀args w,(callFunc g args).run Tryz.prog w = .ok (.enter g args) w)
  (hf:∀W,Below w.heap.size w W→∀x∈xs,Calls Tryz.prog g (#[.agg #[.string x.cat,.int .i64 x.no,.slice x.parts.addr x.parts.xs.length x.parts.cap,.slice x.gives.addr x.gives.xs.length x.gives.cap,.int .i64 x.cost]]++lb) W fun e w'=>e = .returned (.bool (P x))∧Below W.heap.size W w') :
  Calls Tryz.prog 199 #[.func (.func g) #[] lb,.slice (some ⟨bl,0,none⟩) 1 1] w fun e w'=>e = .returned (.bool (xs.all P))∧Below w.heap.size w w':=by
 obtain⟨W1,hW1⟩:∃W1,w.alloc (.cells #[.func (.func g) #[] lb] 243)=W1:=⟨_,rfl⟩
 have hB1:Below w.heap.size w W1:=by subst hW1;exact Xe (Below.refl _ _) _
 have hbo:FnBox W1 w.heap.size 243 g lb:=by subst hW1;exact World.alloc_heap_new _ _
 have c0:=Xj (Xh hB1 hbl)
 have hmf:∀(fn:Fn) (first cap:Array Value) (w:World),(Instr.makeFunc fn first cap).run Tryz.prog w = .ok (.func fn first cap) w:=fun _ _ _ _=>rfl
 have cC:=Xa (Xgu A cp xs 225 #[.pointer (some ⟨w.heap.size,0,none⟩)] (fun x => !P x) W1 (hr.ext hB1) hm (enters_of Tryz.func225 (by kernel_rfl) rfl)
  (fun W hW x hx=>Xn9 w.heap.size g lb P x W (hbo.ext hW) eg fun V hV=>hf V (Xb hB1 (Xb hW hV)) x hx))
 have HA:=Xa (Tg P xs)
 have HW1:=Xa hW1
 clear hf hr hbl hW1 hbo
 go_enter Tryz.func199,Tryz.ntmps199
 go_wp2_with fail
 rw[HW1.out]
 clear HW1
 go_loopw [9] (fun i wr=>(i = .int .i64 0∧wr=W1)∨(i = .int .i64 1∧Below w.heap.size w wr∧Hid (xs.all P=true))) (fun i _=>1-(intOf i).toNat)
 case atStart=>exact .inl ⟨rfl,rfl⟩
 case round =>
  rcases hrel with ⟨rfl,rfl⟩|⟨rfl,hB,HR⟩
  ·go_wp2_with fail
   refine cC.out.mono ?_
   rintro e w1 ⟨rfl,hb1⟩
   rw[HA.out]
   have hB2:=Xb hB1 hb1
   clear cC hb1 hB1 c0
   cases hP:xs.all P
   ·go_wp2_with fail
    go_ret
    exact⟨by rw[hP];rfl,hB2⟩
   ·have HR:=Xa hP
    clear hP
    go_wp2_with fail
    go_roundw
    case rel=>exact .inr ⟨rfl,hB2,HR⟩
    case measure=>simp[intOf]
  ·clear c0 cC
   go_wp2_with fail
   go_ret
   exact⟨by rw[HR.out];rfl,hB⟩
/-! ### numbers -/
theorem Xm1 (ba bb:Nat) (a b n:Int) (w:World) (ha:w.heap[ba]? = some (.cells #[.int .i64 a] 3 (0,0))) (hb:w.heap[bb]? = some (.cells #[.int .i64 b] 3 (0,0))) :
  Calls Tryz.prog 219 #[.int .i64 n,.pointer (some ⟨ba,0,none⟩),.pointer (some ⟨bb,0,none⟩)] w fun e w'=>e = .returned (.bool (decide (a≤n) && decide (n≤b)))∧Below w.heap.size w w':=by
 have c0:=Xj ha
 have c1:=Xj hb
 go_enter Tryz.func219,Tryz.ntmps219
 go_wp2
 all_goals go_ret
 all_goals (refine⟨?_,Below.refl _ _⟩;simp[*];try omega)
theorem Xn7 (bo g:Nat) (lb:Array Value) (P:Int→Bool) (x:Int) (w:World) (hbo:FnBox w bo 127 g lb) (eg:∀args w,(callFunc g args).run Tryz.prog w = .ok (.enter g args) w)
  (hf:∀W,Below w.heap.size w W→Calls Tryz.prog g (#[.int .i64 x]++lb) W fun e w'=>e = .returned (.bool (P x))∧Below W.heap.size W w') :
  Calls Tryz.prog 230 #[.int .i64 x,.pointer (some ⟨bo,0,none⟩)] w fun e w'=>e = .returned (.bool (!P x))∧Below w.heap.size w w':=by
 have c0:=Xj hbo
 have Hf:=Xa hf
 clear hf hbo
 go_enter Tryz.func230,Tryz.ntmps230
 go_wp2_with fail
 refine(Hf.out _ (Below.refl _ _)).mono ?_
 rintro e w1 ⟨rfl,hb1⟩
 go_wp2_with fail
 go_ret
 exact⟨rfl,hb1⟩
set_option maxHeartbeats 1000000 in
theorem Xpg (bl:Nat) (bn:Nat) (n:Int) (g:Nat) (lb:Array Value) (P:Int→Bool) (w:World) (hbl:w.heap[bl]? = some (.cells #[.slice (some ⟨bn,0,none⟩) 1 1] 61 (0,0))) (hbn:w.heap[bn]? = some (.cells #[.int .i64 n] 3 (0,0))) (eg:∀args w,(callFunc g args).run Tryz.prog w = .ok (.enter g args) w)
  (hf:∀W,Below w.heap.size w W→∀x,Calls Tryz.prog g (#[.int .i64 x]++lb) W fun e w'=>e = .returned (.bool (P x))∧Below W.heap.size W w') :
  Calls Tryz.prog 218 #[.func (.func g) #[] lb,.slice (some ⟨bl,0,none⟩) 1 1] w fun e w'=>e = .returned (.bool (P n))∧Below w.heap.size w w':=by
 obtain⟨W1,hW1⟩:∃W1,w.alloc (.cells #[.func (.func g) #[] lb] 127)=W1:=⟨_,rfl⟩
 have hB1:Below w.heap.size w W1:=by subst hW1;exact Xe (Below.refl _ _) _
 have hbo:FnBox W1 w.heap.size 127 g lb:=by subst hW1;exact World.alloc_heap_new _ _
 have c0:=Xj (Xh hB1 hbl)
 have hr:Rd W1 (some ⟨bn,0,none⟩) ([n].map (.int .i64)):=Yw (Xh hB1 hbn) rfl
 have hmf:∀(fn:Fn) (first cap:Array Value) (w:World),(Instr.makeFunc fn first cap).run Tryz.prog w = .ok (.func fn first cap) w:=fun _ _ _ _=>rfl
 have cC:=Xa (Tu 230 #[.pointer (some ⟨w.heap.size,0,none⟩)] (fun x => !P x) (some ⟨bn,0,none⟩) 1 [n] W1 ⟨enters_of Tryz.func230 (by kernel_rfl) rfl,
  fun x W hW=>Xn7 w.heap.size g lb P x W (hbo.ext hW) eg fun V hV=>hf V (Xb hB1 (Xb hW hV)) x⟩ hr (by simp))
 have HA:Hid (([n].any fun x => !P x) = !P n):=by show _=_;simp
 have HW1:=Xa hW1
 clear hf hr hbl hbn hW1 hbo
 go_enter Tryz.func218,Tryz.ntmps218
 go_wp2_with fail
 rw[HW1.out]
 clear HW1
 go_loopw [9] (fun i wr=>(i = .int .i64 0∧wr=W1)∨(i = .int .i64 1∧Below w.heap.size w wr∧Hid (P n=true))) (fun i _=>1-(intOf i).toNat)
 case atStart=>exact .inl ⟨rfl,rfl⟩
 case round =>
  rcases hrel with ⟨rfl,rfl⟩|⟨rfl,hB,HR⟩
  ·go_wp2_with fail
   refine cC.out.mono ?_
   rintro e w1 ⟨rfl,hb1⟩
   rw[HA.out]
   have hB2:=Xb hB1 hb1
   clear cC hb1 hB1 c0
   cases hP:P n
   ·go_wp2_with fail
    go_ret
    exact⟨by rw[hP];rfl,hB2⟩
   ·have HR:=Xa hP
    clear hP
    go_wp2_with fail
    go_roundw
    case rel=>exact .inr ⟨rfl,hB2,HR⟩
    case measure=>simp[intOf]
  ·clear c0 cC
   go_wp2_with fail
   go_ret
   exact⟨by rw[HR.out];rfl,hB⟩
theorem Xpm (a b n:Int) (bn:Nat) (w:World) (hbn:w.heap[bn]? = some (.cells #[.int .i64 n] 3 (0,0))) :
  Calls Tryz.prog 193 #[.int .i64 a,.int .i64 b,.slice (some ⟨bn,0,none⟩) 1 1] w fun e w'=>e = .returned (.bool (decide (a≤n) && decide (n≤b)))∧Below w.heap.size w w':=by
 obtain⟨W1,hW1⟩:∃W1,w.alloc (.cells #[.int .i64 a] 3)=W1:=⟨_,rfl⟩
 obtain⟨W2,hW2⟩:∃W2,W1.alloc (.cells #[.int .i64 b] 3)=W2:=⟨_,rfl⟩
 obtain⟨W3,hW3⟩:∃W3,W2.alloc (.cells #[.slice (some ⟨bn,0,none⟩) 1 1] 61)=W3:=⟨_,rfl⟩
 have hB1:Below w.heap.size w W1:=by subst hW1;exact Xe (Below.refl _ _) _
 have hB2:Below W1.heap.size W1 W2:=by subst hW2;exact Xe (Below.refl _ _) _
 have hB3:Below W2.heap.size W2 W3:=by subst hW3;exact Xe (Below.refl _ _) _
 have k1:W1.heap[w.heap.size]? = some (.cells #[.int .i64 a] 3 (0,0)):=by subst hW1;exact World.alloc_heap_new _ _
 have k2:W2.heap[W1.heap.size]? = some (.cells #[.int .i64 b] 3 (0,0)):=by subst hW2;exact World.alloc_heap_new _ _
 have k3:W3.heap[W2.heap.size]? = some (.cells #[.slice (some ⟨bn,0,none⟩) 1 1] 61 (0,0)):=by subst hW3;exact World.alloc_heap_new _ _
 have z1:W1.heap.size=w.heap.size+1:=by subst hW1;simp
 have z2:W2.heap.size=w.heap.size+2:=by subst hW2;simp[z1]
 have k1':=((Xb hB2 hB3).block _ (Xc k1)).trans k1
 have k2':=Xh hB3 k2
 have kn:=((Xb (Xb hB1 hB2) hB3).block _ (Xc hbn)).trans hbn
 have cA:=Xa (Xpg W2.heap.size bn n 219 #[.pointer (some ⟨w.heap.size,0,none⟩),.pointer (some ⟨W1.heap.size,0,none⟩)] (fun x=>decide (a≤x) && decide (x≤b)) W3 k3 kn (enters_of Tryz.func219 (by kernel_rfl) rfl)
  (fun W hW x=>Xm1 _ _ a b x W (Xh hW k1') (Xh hW k2')))
 rw[z2,z1] at cA
 have hB:=Xb (Xb hB1 hB2) hB3
 have hmf:∀(fn:Fn) (first cap:Array Value) (w:World),(Instr.makeFunc fn first cap).run Tryz.prog w = .ok (.func fn first cap) w:=fun _ _ _ _=>rfl
 have HW:Hid (((w.alloc (.cells #[.int .i64 a] 3)).alloc (.cells #[.int .i64 b] 3)).alloc (.cells #[.slice (some ⟨bn,0,none⟩) 1 1] 61)=W3):=by show _=_;rw[hW1,hW2,hW3]
 clear k1 k2 k3 k1' k2' kn hW1 hW2 hW3 hB1 hB2 hB3 z1 z2 hbn
 go_enter Tryz.func193,Tryz.ntmps193
 go_wp2_with fail
 rw[HW.out]
 refine cA.out.mono ?_
 rintro e w1 ⟨rfl,hb1⟩
 go_wp2_with fail
 go_ret
 exact⟨rfl,Xb hB hb1⟩
end Go.Proofs.YthojaplnimoacaaGreatDoor
namespace Go.Proofs.YthojaplnimoacaaGreatDoor
open Go.RowKit Go.Han
set_option maxRecDepth 100000
/-! ### the map of the names -/
def Y6:Nat→List ByteArray→ByteArray→Option Int
 | _,[],_=>none
 | i,x :: l,s=>match Y6 (i+1) l s with|some n=>some n|none=>if x=s then some (i:Int) else none
theorem Xff (x s:ByteArray):∀(i:Nat) (l:List ByteArray),Y6 i (l++[x]) s=if s=x then some ((i+l.length:Nat):Int) else Y6 i l s
 | i,[]=>by
  simp only[List.nil_append,Y6,List.length_nil,Nat.add_zero]
  by_cases h:x=s
  ·rw[if_pos h,if_pos h.symm]
  ·rw[if_neg h,if_neg (fun e=>h e.symm)]
 | i,y :: l=>by
  rw[List.cons_append,Y6,Y6,Xff x s (i+1) l,List.length_cons]
  rw[show i+1+l.length=i+(l.length+1) by omega]
  by_cases h:s=x
  ·rw[if_pos h,if_pos h]
  ·rw[if_neg h,if_neg h]
theorem Xbr (s:ByteArray):∀(i:Nat) (l:List ByteArray),(Y6 i l s).isSome↔s∈l
 | i,[]=>by simp[Y6]
 | i,x :: l=>by
  rw[Y6,List.mem_cons]
  have:=Xbr s (i+1) l
  cases h:Y6 (i+1) l s with
  | some n=>rw[h] at this;simp at this;simp[this]
  | none =>
   rw[h] at this
   simp at this
   by_cases e:x=s
   ·simp[e]
   ·have:¬s=x:=fun h=>e h.symm
    simp[*]
theorem Xnk (s x:ByteArray) (l:List ByteArray):idxF s (x :: l)=if x=s then 0 else if idxF s l = -1 then -1 else idxF s l+1:=rfl
theorem Xdv (s:ByteArray):∀(i:Nat) (l:List ByteArray),l.Nodup→Y6 i l s=if 0≤idxF s l then some (i+idxF s l) else none
 | i,[],_=>by simp[Y6,idxF]
 | i,x :: l,h=>by
  rw[List.nodup_cons] at h
  have ih:=Xdv s (i+1) l h.2
  have hm:=Vo s l
  have hge:=Xed s l
  have hc:=Xnk s x l
  by_cases h0:0≤idxF s l
  ·have e:¬x=s:=fun e=>h.1 (by rw[e];exact hm.1 h0)
   have hn:¬idxF s l = -1:=by omega
   rw[if_neg e,if_neg hn] at hc
   rw[if_pos h0] at ih
   rw[Y6,ih]
   simp only
   rw[hc,if_pos (by omega)]
   congr 1;omega
  ·have hn:idxF s l = -1:=by omega
   rw[if_neg h0] at ih
   rw[Y6,ih]
   simp only
   by_cases e:x=s
   ·rw[if_pos e] at hc
    rw[hc,if_pos e,if_pos (by omega)];simp
   ·rw[if_neg e,if_pos hn] at hc
    rw[hc,if_neg e,if_neg (by omega)]
def Uq:List ByteArray→List ByteArray
 | []=>[]
 | x :: l=>if (l.any fun y=>decide (y=x))=true then Uq l else x :: Uq l
theorem T6 (x:ByteArray) (l:List ByteArray):(l.any fun y=>decide (y=x))=true↔x∈l:=by
 rw[List.any_eq_true]
 constructor
 ·rintro⟨y,hy,h⟩;rw[← of_decide_eq_true h];exact hy
 ·intro h;exact⟨x,h,by simp⟩
theorem Qi (x:ByteArray) (l:List ByteArray):Uq (x :: l)=if (l.any fun y=>decide (y=x))=true then Uq l else x :: Uq l:=rfl
theorem Tx (s:ByteArray):∀l,s∈Uq l↔s∈l
 | []=>Iff.rfl
 | x :: l=>by
  rw[Qi]
  have:=Tx s l
  by_cases h:(l.any fun y=>decide (y=x))=true
  ·rw[if_pos h,this,List.mem_cons]
   exact⟨.inr,fun h'=>h'.elim (fun e=>by rw[e];exact(T6 x l).1 h) id⟩
  ·rw[if_neg h,List.mem_cons,List.mem_cons,this]
theorem Tj:∀l,(Uq l).Nodup
 | []=>List.nodup_nil
 | x :: l=>by
  rw[Qi]
  by_cases h:(l.any fun y=>decide (y=x))=true
  ·rw[if_pos h];exact Tj l
  ·rw[if_neg h]
   exact List.nodup_cons.2 ⟨fun h'=>h ((T6 x l).2 ((Tx x l).1 h')),Tj l⟩
theorem Xja:∀l,(Uq l).length≤l.length
 | []=>Nat.le_refl _
 | x :: l=>by
  rw[Qi]
  have:=Xja l
  split<;>simp<;>omega
theorem Xg4:∀l:List ByteArray,(Uq l).length=l.length↔l.Nodup
 | []=>by simp[Uq]
 | x :: l=>by
  rw[Qi]
  have h1:=Xg4 l
  have h2:=Xja l
  rw[List.nodup_cons]
  by_cases h:(l.any fun y=>decide (y=x))=true
  ·rw[if_pos h,List.length_cons]
   constructor
   ·intro e;omega
   ·rintro⟨h',_⟩;exact absurd ((T6 x l).1 h) h'
  ·rw[if_neg h,List.length_cons,List.length_cons]
   constructor
   ·intro e;exact⟨fun h'=>h ((T6 x l).2 h'),h1.1 (by omega)⟩
   ·rintro⟨_,h'⟩;rw[h1.2 h']
end Go.Proofs.YthojaplnimoacaaGreatDoor
/- Maps as functions: what a map of the call's own holds at each key; ranging over one. No program in sight. -/
namespace Go.Han
open Go.Maps (Keyed)
section
variable {α β:Type} {P:Program} {k:TypeId}
structure X2 (P:Program) (k:TypeId) (α:Type) where
 val:α→Value
 lit:α→Lit
 good:α→Prop
 of:∀x,good x→keyOf P k (val x)=some (lit x)
 inv:∀v l,keyOf P k v=some l→∃x,good x∧v=val x∧l=lit x
 inj:∀x y,good x→good y→lit x=lit y→x=y
structure ElemShape (β:Type) where
 val:β→Value
 inj:∀x y,val x=val y→x=y
noncomputable def ElemShape.read (E:ElemShape β) (v:Value):Option (DataW β×List MemPlace) :=
 open Classical in if h:∃c,v=E.val c then some (.held (Classical.choose h),[]) else none
theorem ElemShape.read_val (E:ElemShape β) (c:β):E.read (E.val c)=some (.held c,[]):=by
 unfold ElemShape.read
 have h:∃c',E.val c=E.val c':=⟨c,rfl⟩
 rw[dif_pos h,E.inj _ _ (Classical.choose_spec h).symm]
theorem ElemShape.read_inv (E:ElemShape β) {v:Value} {y:DataW β×List MemPlace} (h:E.read v=some y):∃c,v=E.val c∧y=(.held c,[]):=by
 unfold ElemShape.read at h
 split at h
 ·rename_i hc
  cases h
  exact⟨Classical.choose hc,Classical.choose_spec hc,rfl⟩
 ·cases h
def HoldsAt (S:X2 P k α) (D:DataW β) (f:α→Option β):Prop :=
 ∀x,S.good x→(f x=none→Maps.has D (S.lit x)=false)∧∀c,f x=some c→Maps.has D (S.lit x)=true∧∀z,D.atKey (S.lit x) z = .held c
def MapF (w:World) (S:X2 P k α) (E:ElemShape β) (b n:Nat) (f:α→Option β):Prop :=
 ∃D:DataW β,w.ownsMap P k E.read b n D∧HoldsAt S D f
theorem MapF.lt {w:World} {S:X2 P k α} {E:ElemShape β} {b n:Nat} {f:α→Option β} (h:MapF w S E b n f):b<w.heap.size:=let ⟨_,h1,_⟩:=h;h1.lt
theorem MapF.made (w:World) (S:X2 P k α) (E:ElemShape β):MapF (w.alloc (.map #[] 0)) S E w.heap.size 0 (fun _=>none) :=
 ⟨.map [],World.ownsMap_made w P k E.read,fun x _=>⟨fun _=>rfl,fun c h=>by cases h⟩⟩
theorem MapF.mono {w:World} {S:X2 P k α} {E:ElemShape β} {b n n':Nat} {f:α→Option β} (h:MapF w S E b n f) (hn:n≤n'):MapF w S E b n' f :=
 let ⟨D,h1,h2⟩:=h;⟨D,h1.mono hn,h2⟩
theorem MapF.of_block {w w':World} {S:X2 P k α} {E:ElemShape β} {b n:Nat} {f:α→Option β} (h:MapF w S E b n f) (hb:w'.heap[b]? = w.heap[b]?):MapF w' S E b n f:=by
 obtain⟨D,⟨es,clock,h1,h2⟩,h3⟩:=h
 exact⟨D,⟨es,clock,hb.trans h1,h2⟩,h3⟩
theorem MapF.congr {w:World} {S:X2 P k α} {E:ElemShape β} {b n:Nat} {f g:α→Option β} (h:MapF w S E b n f) (e:∀x,S.good x→g x=f x):MapF w S E b n g:=by
 obtain⟨D,h1,h2⟩:=h
 exact⟨D,h1,fun x hx=>by rw[e x hx];exact h2 x hx⟩
theorem HoldsAt.put [DecidableEq α] {S:X2 P k α} (K:Keyed P k) {D:DataW β} {f:α→Option β} (h:HoldsAt S D f) (hD:Maps.IsMap D) {x:α} (hx:S.good x) (c:β) :
  HoldsAt S (D.put (S.lit x) (.held c)) (fun y=>if y=x then some c else f y):=by
 intro y hy
 have hk:WideAt.IsKeyLit (S.lit x):=K.key (S.of x hx)
 by_cases e:y=x
 ·subst e
  exact⟨fun h=>by simp at h,fun c' h=>by
   simp at h;subst h
   exact⟨Maps.has_put_same hD hk _,fun z=>Maps.atKey_put_same hD hk _ z⟩⟩
 ·have hne:S.lit y≠S.lit x:=fun h'=>e (S.inj y x hy hx h')
  obtain⟨h1,h2⟩:=h y hy
  exact⟨fun h'=>by rw[Maps.has_put_other hne];exact h1 (by simpa[e] using h'),fun c' h'=>by
   have:=h2 c' (by simpa[e] using h')
   exact⟨by rw[Maps.has_put_other hne];exact this.1,fun z=>by rw[Maps.atKey_put_other hne];exact this.2 z⟩⟩
section
variable (w:World) {ops:Array Oper} {rest:List Oper} {o:Oper} {a:Act} {Q:Exit→Act→World→Prop}
theorem Tf [DecidableEq α] (hg:o.guard=none) (m x v:Operand) (t:TypeId) (hop:o.op=Op.mapUpdate t m x v) (e:TypeId) (K:Keyed P k) (ht:P.underlying t=some (.map k e)) (S:X2 P k α) (E:ElemShape β) (b n:Nat) (f:α→Option β)
  (hm:a.eval m = .map (some b)) (hown:MapF w S E b n f) (hn:n<maxLen) (key:α) (c:β) (hx:a.eval x=S.val key) (hv:a.eval v=E.val c) (hgood:S.good key)
  (hK:∀w',MapF w' S E b (n+1) (fun y=>if y=key then some c else f y)→w.grownBy w' (some b)→w'.heap.size=w.heap.size→wpList P ops Q rest (a.put o.dst undef) w') :
  wpList P ops Q (o :: rest) a w:=by
 obtain⟨D,h1,h2⟩:=hown
 refine wpList_plain hg fun K' hK'=>?_
 obtain⟨w',hrun,r1,r2⟩:=h1.store K ht hn (S.of key hgood) (E.read_val c)
 have hsz:w'.heap.size=w.heap.size:=by
  obtain⟨es,clock,es',clock',hb,rfl⟩:=r2
  simp[ChangeMaps.setBlock]
 unfold Oper.wp
 simp[execOp,hop,hm,hx,hv,hrun,Result.andThen]
 exact hK' _ _ (hK w' ⟨_,r1,h2.put K h1.isMap hgood c⟩ r2.grown hsz)
theorem MapF.store [DecidableEq α] {t e:TypeId} (K:Keyed P k) (ht:P.underlying t=some (.map k e)) {S:X2 P k α} {E:ElemShape β} {b n:Nat} {f:α→Option β} (hown:MapF w S E b n f) (hn:n<maxLen) (key:α) (c:β) (hgood:S.good key) :
  ∃w',(Instr.mapUpdate t (.map (some b)) (S.val key) (E.val c)).run P w = .ok () w'∧MapF w' S E b (n+1) (fun y=>if y=key then some c else f y)∧w.grownBy w' (some b)∧w'.heap.size=w.heap.size:=by
 obtain⟨D,h1,h2⟩:=hown
 obtain⟨w',hrun,r1,r2⟩:=h1.store K ht hn (S.of key hgood) (E.read_val c)
 refine⟨w',hrun,⟨_,r1,h2.put K h1.isMap hgood c⟩,r2.grown,?_⟩
 obtain⟨es,clock,es',clock',hb,rfl⟩:=r2
 simp[ChangeMaps.setBlock]
theorem Uv {t e:TypeId} (K:Keyed P k) (ht:P.underlying t=some (.map k e)) (S:X2 P k α) (E:ElemShape β) (z0:β) {b n:Nat} {f:α→Option β} (hz:(zeroValue e).run P w = .ok (E.val z0) w) (hown:MapF w S E b n f) (key:α) (hgood:S.good key) :
  (Instr.lookup t (.map (some b)) (S.val key) true).run P w = .ok (.tuple #[E.val ((f key).getD z0),.bool (f key).isSome]) w:=by
 obtain⟨D,h1,h2⟩:=hown
 obtain⟨v,ps,hrun,hv⟩:=h1.look_ok K ht hz (E.read_val z0) (S.of key hgood)
 obtain⟨g1,g2⟩:=h2 key hgood
 obtain⟨c,rfl,hc⟩:=E.read_inv hv
 simp only[Prod.mk.injEq] at hc
 cases hf:f key with
 | none =>
  have:=g1 hf
  rw[Maps.atKey_of_not_has this] at hc
  cases hc.1
  rw[this] at hrun
  exact hrun
 | some c' =>
  obtain⟨g3,g4⟩:=g2 c' hf
  rw[g4] at hc
  cases hc.1
  rw[g3] at hrun
  exact hrun
/-! ### ranging -/
def RangeF (w:World) (S:X2 P k α) (E:ElemShape β) (b r n:Nat) (f:α→Option β) (left:α→Bool) (cnt:Nat):Prop :=
 ∃(D:DataW β) (lf:Lit→Bool),w.ranges P k E.read b r n D lf cnt∧HoldsAt S D f∧(∀x,S.good x→left x=lf (S.lit x))∧∀l,lf l=true→∃x,S.good x∧l=S.lit x
end
theorem RangeF.kept {w w':World} {S:X2 P k α} {E:ElemShape β} {b r n cnt:Nat} {f:α→Option β} {left:α→Bool} {row:Option Nat} (h:RangeF w S E b r n f left cnt) (hg:w.grownBy w' row) (hb:some b≠row) (hr:some r≠row):RangeF w' S E b r n f left cnt :=
 let ⟨D,lf,h1,h2⟩:=h;⟨D,lf,h1.kept hg hb hr,h2⟩
theorem RangeF.owns {w:World} {S:X2 P k α} {E:ElemShape β} {b r n cnt:Nat} {f:α→Option β} {left:α→Bool} (h:RangeF w S E b r n f left cnt):MapF w S E b n f :=
 let ⟨D,_,h1,h2,_⟩:=h;⟨D,h1.owns,h2⟩
theorem RangeF.left_eq {w:World} {S:X2 P k α} {E:ElemShape β} {b r n cnt:Nat} {f:α→Option β} {left:α→Bool} (h:RangeF w S E b r n f left cnt):w.rangeLeft b r=cnt :=
 let ⟨_,_,h1,_⟩:=h;h1.left_eq
theorem RangeF.lt {w:World} {S:X2 P k α} {E:ElemShape β} {b r n cnt:Nat} {f:α→Option β} {left:α→Bool} (h:RangeF w S E b r n f left cnt):r<w.heap.size :=
 let ⟨_,_,h1,_⟩:=h;h1.lt
section
variable (w:World) {ops:Array Oper} {rest:List Oper} {o:Oper} {a:Act} {Q:Exit→Act→World→Prop}
theorem Xf1 (hg:o.guard=none) (m:Operand) (t:TypeId) (hop:o.op=Op.range t m) (e:TypeId) (K:Keyed P k) (ht:P.underlying t=some (.map k e)) (S:X2 P k α) (E:ElemShape β) (b n:Nat) (f:α→Option β)
  (hm:a.eval m = .map (some b)) (hown:MapF w S E b n f)
  (hK:∀w' cnt,RangeF w' S E b w.heap.size n f (fun x=>(f x).isSome) cnt→w.grownBy w' none→w'.heap.size=w.heap.size+1→wpList P ops Q rest (a.put o.dst (.pointer (some ⟨w.heap.size,0,none⟩))) w') :
  wpList P ops Q (o :: rest) a w:=by
 obtain⟨D,h1,h2⟩:=hown
 obtain⟨es,hes,hpw,hkl⟩:=h1.entries K
 refine wpList_range_own w hg m t hop k e K ht E.read b n D hm h1 fun w' hr hgr hs=>hK w' _ ⟨D,Maps.has D,hr,h2,fun x hx=>?_,fun l hl=>?_⟩ hgr hs
 ·obtain⟨g1,g2⟩:=h2 x hx
  show (f x).isSome=_
  cases hf:f x with
  | none=>exact(g1 hf).symm
  | some c=>exact((g2 c hf).1).symm
 ·obtain⟨es',clock,_,F,_,hD⟩:=h1
  subst hD
  obtain⟨p,hp,hpk⟩:=List.any_eq_true.1 hl
  obtain⟨y,hy,rfl⟩:=List.mem_map.1 (mem_sorted.1 hp)
  obtain⟨z,hz⟩:=F.reads y hy
  have hk':=WideElems.rd_key hz
  have e1:(WideElems.rg P k E.read y).1=z.1:=by rw[WideElems.rg_of hz]
  obtain⟨x,hx,_,hl'⟩:=S.inv _ _ hk'
  exact⟨x,hx,by rw[← hl',← e1];exact(WideAt.sameKey_eq hpk).symm⟩
theorem Xgf [DecidableEq α] (hg:o.guard=none) (it:Operand) (hop:o.op=Op.next it false) (K:Keyed P k) (S:X2 P k α) (E:ElemShape β) (b r n:Nat) (f:α→Option β) (left:α→Bool) (cnt:Nat) (kv:α→Value) (cv:β→Value) (hkv:∀x,S.val x=kv x) (hcv:∀c,E.val c=cv c)
  (hit:a.eval it = .pointer (some ⟨r,0,none⟩)) (h:RangeF w S E b r n f left cnt)
  (hDone:(∀x,S.good x→left x=false)→wpList P ops Q rest (a.put o.dst (.tuple #[.bool false])) w)
  (hMore:∀(x:α) (c:β) (w':World) (cnt':Nat),S.good x→left x=true→f x=some c→RangeF w' S E b r n f (fun y=>left y && !decide (y=x)) cnt'→cnt'<cnt →
   w.grownBy w' (some r)→w'.heap.size=w.heap.size→(Instr.entry (.pointer (some ⟨r,0,none⟩))).run P w' = .ok (.tuple #[kv x,cv c]) w'→wpList P ops Q rest (a.put o.dst (.tuple #[.bool true,kv x,cv c])) w') :
  wpList P ops Q (o :: rest) a w:=by
 obtain⟨D,lf,h1,h2,h3,h4⟩:=h
 refine wpList_next_ranges w hg it hop k K E.read S.val E.val (fun key kl hk=>by obtain⟨x,_,hx,_⟩:=S.inv key kl hk;exact⟨x,hx⟩) (fun v y hv=>by obtain⟨c,hc,_⟩:=E.read_inv hv;exact⟨c,hc⟩) b r n D lf cnt hit h1
  (fun _ hl=>hDone fun x hx=>by rw[h3 x hx,hl]) ?_
 intro x' c kl y w' cnt' hkey hlk hv hat hrg hlt hgr hsz hen
 obtain⟨x,hx,hxv,hxl⟩:=S.inv _ _ hkey
 subst hxl
 obtain⟨c',hc',hy⟩:=E.read_inv hv
 obtain rfl:c=c':=E.inj _ _ hc'
 subst hy
 rw[hxv,hkv,hcv] at hen
 rw[hxv,hkv,hcv]
 have hfx:f x=some c:=by
  obtain⟨g1,g2⟩:=h2 x hx
  cases hf:f x with
  | none =>
   have:=g1 hf
   have h0:=hat .nil
   rw[Maps.atKey_of_not_has this] at h0
   cases h0
  | some c2 =>
   have h0:=(g2 c2 hf).2 .nil
   rw[hat] at h0
   cases h0
   rfl
 refine hMore x c w' cnt' hx (by rw[h3 x hx];exact hlk) hfx ⟨D,_,hrg,h2,fun y hy=>?_,fun l hl=>?_⟩ hlt hgr hsz hen
 ·show (left y && !decide (y=x))=(lf (S.lit y) && !(S.lit y).sameKey (S.lit x))
  rw[h3 y hy]
  by_cases e:y=x
  ·subst e
   rw[WideAt.sameKey_self (K.key (S.of y hy))];simp
  ·rw[Maps.sameKey_ne (fun h'=>e (S.inj y x hy hx h'))];simp[e]
 ·refine h4 l ?_
  cases hl':lf l
  ·simp[hl'] at hl
  ·rfl
end
def Xp2 {q:IntKind} (hk:P.underlying k=some (.int q)):X2 P k Int where
 val:=.int q
 lit:=.int q
 good x:=(Lit.int q x).wf=true
 of x hx:=by simp[keyOf,mapKey,hk,hx]
 inv v l h:=by
  obtain⟨x,h1,h2,h3⟩:=Maps.keyOf_int_inv hk h
  exact⟨x,h3,h1,h2⟩
 inj x y _ _ h:=by cases h;rfl
end
end Go.Han
/- Maps as functions: struck keys, a look-up without ok, how many entries there are, keys that are strings. Conditions: none; plain facts about the machine's steps. No program in sight. -/
namespace Go.Han
open Go.RowKit
section
variable {α β:Type} {P:Program} {k:TypeId} {w:World}
theorem HoldsAt.del [DecidableEq α] {S:X2 P k α} {D:DataW β} {f:α→Option β} (h:HoldsAt S D f) {x:α} (hx:S.good x):HoldsAt S (D.del (S.lit x)) (fun y=>if y=x then none else f y):=by
 intro y hy
 by_cases e:y=x
 ·subst e
  exact⟨fun _=>Maps.has_del_same,fun c h=>by simp at h⟩
 ·have hne:S.lit y≠S.lit x:=fun h'=>e (S.inj y x hy hx h')
  obtain⟨h1,h2⟩:=h y hy
  exact⟨fun h'=>by rw[Maps.has_del_other hne];exact h1 (by simpa[e] using h'),fun c h'=>by
   have:=h2 c (by simpa[e] using h')
   exact⟨by rw[Maps.has_del_other hne];exact this.1,fun z=>by rw[Maps.atKey_del_other hne];exact this.2 z⟩⟩
theorem Xd7 [DecidableEq α] {ops:Array Oper} {rest:List Oper} {o:Oper} {a:Act} {Q:Exit→Act→World→Prop} (hg:o.guard=none) (m x:Operand) (t:TypeId) (hop:o.op=Op.call {callee:=Callee.builtin Builtin.delete,args:=#[m,x],argTypes:=#[t,k]})
  (e:TypeId) (K:Maps.Keyed P k) (ht:P.underlying t=some (.map k e)) (S:X2 P k α) (E:ElemShape β) (b r n:Nat) (f:α→Option β) (left:α→Bool) (cnt:Nat)
  (hm:a.eval m = .map (some b)) (h:RangeF w S E b r n f left cnt) (key:α) (hx:a.eval x=S.val key) (hgood:S.good key)
  (hK:∀w' cnt',RangeF w' S E b r n (fun y=>if y=key then none else f y) (fun y=>left y && !decide (y=key)) cnt'→cnt'≤cnt→w.mapTurned w' b→wpList P ops Q rest (a.put o.dst (.tuple #[])) w') :
  wpList P ops Q (o :: rest) a w:=by
 obtain⟨D,lf,h1,h2,h3,h4⟩:=h
 refine wpList_delete_ranges w hg m x t k hop e K ht E.read b r n D lf cnt hm h1 _ _ hx (S.of key hgood) fun w' cnt' r1 r2 r3=>?_
 refine hK w' cnt' ⟨_,_,r1,h2.del hgood,fun y hy=>?_,fun l hl=>?_⟩ r2 r3
 ·show (left y && !decide (y=key))=(lf (S.lit y) && !(S.lit y).sameKey (S.lit key))
  rw[h3 y hy]
  by_cases e:y=key
  ·subst e
   rw[WideAt.sameKey_self (K.key (S.of y hy))];simp
  ·rw[Maps.sameKey_ne (fun h'=>e (S.inj y key hy hgood h'))];simp[e]
 ·refine h4 l ?_
  cases hl':lf l
  ·simp[hl'] at hl
  ·rfl
theorem Xfq {t e:TypeId} (K:Maps.Keyed P k) (ht:P.underlying t=some (.map k e)) (S:X2 P k α) (E:ElemShape β) (z0:β) {b n:Nat} {f:α→Option β} (hz:(zeroValue e).run P w = .ok (E.val z0) w) (hown:MapF w S E b n f) (key:α) (hgood:S.good key) :
  (Instr.lookup t (.map (some b)) (S.val key) false).run P w = .ok (E.val ((f key).getD z0)) w:=by
 obtain⟨D,h1,h2⟩:=hown
 obtain⟨v,ps,hrun,hv⟩:=h1.lookup K ht hz (E.read_val z0) (S.of key hgood)
 obtain⟨g1,g2⟩:=h2 key hgood
 obtain⟨c,rfl,hc⟩:=E.read_inv hv
 simp only[Prod.mk.injEq] at hc
 cases hf:f key with
 | none =>
  have:=g1 hf
  rw[Maps.atKey_of_not_has this] at hc
  cases hc.1
  exact hrun
 | some c' =>
  obtain⟨g3,g4⟩:=g2 c' hf
  rw[g4] at hc
  cases hc.1
  exact hrun
theorem MapF.size {S:X2 P k α} {E:ElemShape β} {b n:Nat} {f:α→Option β} (h:MapF w S E b n f) (K:Maps.Keyed P k) (u:List α) (hu:u.Nodup) (hg:∀x∈u,S.good x) (hm:∀x,S.good x→((f x).isSome↔x∈u)) {t e:TypeId} (ht:P.underlying t=some (.map k e)) (ty:TypeId) :
  (Builtin.len_ #[t] ty #[.map (some b)]).run P w = .ok (.int .i64 u.length) w:=by
 obtain⟨D,h1,h2⟩:=h
 rw[h1.len ht ty]
 obtain⟨es,hD,hpw⟩:=h1.tidy K
 have hkeys:∀p∈es,∃x,S.good x∧p.1=S.lit x:=by
  obtain⟨es',clock,_,F,_,hD'⟩:=h1
  intro p hp
  rw[hD'] at hD
  have e:es=_:=(DataW.map.inj hD).symm
  rw[e] at hp
  obtain⟨y,hy,rfl⟩:=List.mem_map.1 (mem_sorted.1 hp)
  obtain⟨z,hz⟩:=F.reads y hy
  have hk':=WideElems.rd_key hz
  have e1:(WideElems.rg P k E.read y).1=z.1:=by rw[WideElems.rg_of hz]
  obtain⟨x,hx,_,hl'⟩:=S.inv _ _ hk'
  exact⟨x,hx,by rw[← hl',← e1]⟩
 subst hD
 have hhas:∀x,S.good x→(Maps.has (.map es:DataW β) (S.lit x)=true↔x∈u):=by
  intro x hx
  rw[← hm x hx]
  obtain⟨g1,g2⟩:=h2 x hx
  cases hf:f x with
  | none=>simp[g1 hf]
  | some c=>simp[(g2 c hf).1]
 have n1:(es.map (·.1)).Nodup:=by rw[List.nodup_iff_pairwise_ne,List.pairwise_map];exact hpw
 have n2:(u.map S.lit).Nodup:=by
  rw[List.nodup_iff_pairwise_ne,List.pairwise_map]
  refine(List.Pairwise.and_mem.1 (List.nodup_iff_pairwise_ne.1 hu)).imp fun {a b} ⟨ha,hb,hne⟩ e=>hne (S.inj a b (hg a ha) (hg b hb) e)
 have s1:es.map (·.1) ⊆ u.map S.lit:=by
  intro l hl
  obtain⟨p,hp,rfl⟩:=List.mem_map.1 hl
  obtain⟨x,hx,e⟩:=hkeys p hp
  refine List.mem_map.2 ⟨x,(hhas x hx).1 ?_,e.symm⟩
  rw[Maps.has_eq]
  refine List.any_eq_true.2 ⟨p,hp,?_⟩
  rw[e]
  exact WideAt.sameKey_self (K.key (S.of x hx))
 have s2:u.map S.lit ⊆ es.map (·.1):=by
  intro l hl
  obtain⟨x,hx,rfl⟩:=List.mem_map.1 hl
  have:=(hhas x (hg x hx)).2 hx
  rw[Maps.has_eq] at this
  obtain⟨p,hp,e⟩:=List.any_eq_true.1 this
  exact List.mem_map.2 ⟨p,hp,WideAt.sameKey_eq e⟩
 have l1:=n1.length_le_of_subset s1
 have l2:=n2.length_le_of_subset s2
 rw[List.length_map] at l1 l2
 rw[List.length_map] at l1 l2
 rw[Maps.size_eq]
 congr 2
 omega
end
def Xqw {P:Program} {k:TypeId} (hk:P.underlying k=some .string):X2 P k ByteArray where
 val:=.string
 lit s:=.string s.data.toList
 good s:=s.size≤maxLen
 of x hx:=Go.WideMaps.keyOf_string_mk hk hx
 inv v l h:=by
  rw[Go.keyOf_string hk] at h
  cases v<;>simp[mapKey,hk] at h
  exact⟨_,h.1,rfl,h.2.symm⟩
 inj x y _ _ h:=by
  injection h with h
  exact WideShapes.bytes_inj h
end Go.Han
namespace Go.Proofs.YthojaplnimoacaaGreatDoor
open Go.RowKit Go.Han
attribute [local irreducible] wpStill wpQuiet
set_option maxRecDepth 100000
structure TabsG (w:World):Prop where
 u:Tabs w
 s : Lib.TabIs Tryz.prog w "strings.asciiSpace" .u8 Lib.asciiSpaceTab
theorem TabsG.ext {w w':World} (h:TabsG w) (hb:Below w.heap.size w w'):TabsG w':=⟨Xh6 h.u hb,Lib.tabBelow_of_tabIs h.s w' hb⟩
def kwText : ByteArray := "grammar category start word is gives cost rule".toUTF8
theorem Xns:kwText=⟨#[103,114,97,109,109,97,114,32,99,97,116,101,103,111,114,121,32,115,116,97,114,116,32,119,111,114,100,32,105,115,32,103,105,118,101,115,32,99,111,115,116,32,114,117,108,101]⟩:=by kernel_rfl
theorem Xp6:∀(j:Nat) b,kwText.data.toList[j]? = some b→b.toNat<128:=by
 intro j b h
 have:∀b∈kwText.data.toList,b.toNat<128:=by decide +kernel
 exact this b (List.mem_of_getElem? h)
theorem Xnt:(Lib.fields kwText.data.toList).map (fun l=>Value.string ⟨l.toArray⟩)=kwords.map Value.string:=by kernel_rfl
theorem Xrk:kwText.size<4294967281:=by decide +kernel
theorem Xpx (l:List ByteArray) (j:Nat) (h:j<l.length):l.getD j ByteArray.empty=l[j]:=by simp[h]
theorem Xcw (A:Option Addr) (cp:Nat) (xs:List ByteArray) (x:ByteArray) (w:World) (hr:Rd w A (xs.flatMap (fun b:ByteArray=>[Value.string b]))) (hm:xs.length≤9223372036854775807) :
  Calls Tryz.prog 105 #[.slice A xs.length cp,.string x] w fun e w'=>e = .returned (.bool (xs.any fun y=>decide (y=x)))∧w'=w:=by
 cases hx:xs with
 | nil=>exact(Tryz.slices_Contains_string_empty A cp x w).mono fun _ _ h=>⟨by rw[h.1];rfl,h.2⟩
 | cons y ys =>
  rw[← hx]
  have hlen:0<xs.length:=by rw[hx];simp
  obtain⟨b,off,rfl,hb,_⟩:=hr.elem (s:=1) (fun _=>rfl) (by omega) (k:=0) hlen
  refine(Tryz.slices_Contains_string b off xs.length cp xs x w (Nat.le_refl _) hm fun j hj=>?_).mono fun e w' h=>⟨?_,h.2⟩
  ·obtain⟨b',off',e,_,hc⟩:=hr.elem (s:=1) (fun _=>rfl) (by omega) (k:=j) hj
   cases e
   rw[Xpx xs j hj]
   have:=hc 0 _ rfl
   simpa using this
  ·rw[h.1,List.take_length]
   congr 2
   rw[Bool.eq_iff_iff,Lib.containsS_iff,T6]
theorem Q3 (s:ByteArray) (w:World) (hT:TabsG w):Calls Tryz.prog 192 #[.string s] w fun e w'=>e = .returned (.bool (Xw s))∧Below w.heap.size w w':=by
 obtain⟨W1,hW1⟩:∃W1,w.alloc (.cells (kwords.map Value.string).toArray 9)=W1:=⟨_,rfl⟩
 have hB1:Below w.heap.size w W1:=by subst hW1;exact Xe (Below.refl _ _) _
 have hk:W1.heap[w.heap.size]? = some (.cells (kwords.map Value.string).toArray 9 (0,0)):=by subst hW1;exact World.alloc_heap_new _ _
 have cF:Hid (Calls Tryz.prog 217 #[.string ⟨#[103,114,97,109,109,97,114,32,99,97,116,101,103,111,114,121,32,115,116,97,114,116,32,119,111,114,100,32,105,115,32,103,105,118,101,115,32,99,111,115,116,32,114,117,108,101]⟩] w fun e w'=>e = .returned (.slice (some ⟨w.heap.size,0,none⟩) 8 8)∧w'=W1):=by
  rw[← Xns,← hW1,← Xnt]
  exact Tryz.strings_Fields kwText w Xrk Xp6 hT.s
 have cC:=Xa (Xcw (some ⟨w.heap.size,0,none⟩) 8 kwords s W1 (Yw hk (by rw[List.map_eq_flatMap])) (by decide))
 have cN:=Xa (Xqh s w)
 have HE:Hid (Xw s=(Vk s && !(kwords.any fun y=>decide (y=s)))):=rfl
 generalize Vk s=b1 at *
 generalize (kwords.any fun y=>decide (y=s))=b2 at *
 change Hid (Calls _ _ #[.slice _ 8 8,_] _ _) at cC
 clear hk hW1 hT
 go_enter Tryz.func192,Tryz.ntmps192
 go_wp2_with fail
 refine cN.out.mono ?_
 rintro e w' ⟨rfl,rfl⟩
 cases b1
 ·go_wp2_with fail
  go_ret
  exact⟨by rw[HE.out];rfl,Below.refl _ _⟩
 ·go_wp2_with fail
  refine cF.out.mono ?_
  rintro e w' ⟨rfl,rfl⟩
  go_wp2_with fail
  refine cC.out.mono ?_
  rintro e w' ⟨rfl,rfl⟩
  go_wp2_with fail
  go_ret
  exact⟨by rw[HE.out];simp,hB1⟩
end Go.Proofs.YthojaplnimoacaaGreatDoor
namespace Go.Proofs.YthojaplnimoacaaGreatDoor
open Go.RowKit Go.Han Go.ChangeShapes Go.WideShapes Go.ChangeAt Go.Deep
set_option maxRecDepth 100000
def uren:Go.Shelf.Ren:=⟨fun n=>n,fun|5=>5|119=>272|138=>274|139=>275|n=>n,fun|3=>1|4=>2|n=>n⟩
theorem Xqj:ownKnob Tryz.prog.godebug=none:=by kernel_rfl
theorem Xrw:U8Types Tryz.prog uren:=⟨by kernel_rfl,by kernel_rfl,by kernel_rfl,by kernel_rfl⟩
theorem Xrv:U8Extra Tryz.prog uren:=⟨by kernel_rfl,by kernel_rfl,by kernel_rfl,by kernel_rfl,by kernel_rfl,by kernel_rfl,by kernel_rfl⟩
theorem Xmy:(Rows.laid_unicode_utf8_acceptRanges:DataW Unit)=Lib.acceptData:=by kernel_rfl
abbrev Q5 : List (String × DataW Unit) := [("unicode/utf8.acceptRanges", Rows.laid_unicode_utf8_acceptRanges), ("unicode.White_Space", Rows.laid_unicode_White_Space), ("strings.asciiSpace", Rows.laid_strings_asciiSpace), ("unicode/utf8.first", Rows.laid_unicode_utf8_first)]
theorem Xru {W:World} (h:laidMetH Tryz.prog Q5 W):Tabs W:=by
 rw[MakeChecks.laidMetH_plain _ _ _ (by kernel_rfl)] at h
 have h1 := Lib.laidMet.reads h (n := "unicode/utf8.acceptRanges") (d := Rows.laid_unicode_utf8_acceptRanges) (by simp [Q5])
 have h2 := Lib.laidMet.reads h (n := "unicode/utf8.first") (d := Rows.laid_unicode_utf8_first) (by simp [Q5])
 rw[Xmy] at h1
 rw[show (Rows.laid_unicode_utf8_first:DataW Unit)=Lib.firstData from Pinned.utf8First_eq] at h2
 exact utf8Tabs_of_readsT Xrw Xrv h2 h1
theorem Xqu:(Rows.laid_strings_asciiSpace:DataW Unit)=Lib.tabData .u8 Lib.asciiSpaceTab:=by kernel_rfl
theorem Xqy {W:World} (h:laidMetH Tryz.prog Q5 W):TabsG W:=by
 refine⟨Xru h,?_⟩
 rw[MakeChecks.laidMetH_plain _ _ _ (by kernel_rfl)] at h
 have h1 := Lib.laidMet.reads h (n := "strings.asciiSpace") (d := Rows.laid_strings_asciiSpace) (by simp [Q5])
 rw[Xqu] at h1
 obtain⟨g,t,cs,fuel,p,hg,ht,hvar,hd⟩:=h1
 obtain rfl := Option.some.inj ((show Tryz.prog.globalNamed "strings.asciiSpace" = some 3 by kernel_rfl).symm.trans hg)
 obtain rfl:=Option.some.inj ((show (Tryz.prog.globals[3]?).map (·.type)=some 272 by kernel_rfl).symm.trans ht)
 show W.var? Tryz.prog "strings.asciiSpace" = _
 have h2:=Lib.cells_of_tab Tryz.underlying272 Tryz.underlying5 (by kernel_rfl) (by kernel_rfl) hd
 rw[hvar,← h2]
section
variable {H:Type} {enc:TypeId×Value→H} {w:World} {base:Nat} {spare:Nat→Bool} {held:Bool}
theorem Yz:Tryz.prog.cellsOf 3=1:=by kernel_rfl
theorem Y0:Tryz.prog.cellsOf 9=1:=by kernel_rfl
theorem X3 {fs:Array Field} {l:List (TypeId×Nat)} (h:fs.toList.map (fun f=>(f.type,f.offset))=l) {i:Nat} {t o:Nat} (hi:l[i]? = some (t,o)):∃f,fs[i]? = some f∧f.type=t∧f.offset=o:=by
 rw[← h,List.getElem?_map] at hi
 cases hf:fs.toList[i]? with
 | none=>rw[hf] at hi;cases hi
 | some f =>
  rw[hf] at hi
  simp only[Option.map_some,Option.some.injEq,Prod.mk.injEq] at hi
  exact⟨f,by simpa using hf,hi.1,hi.2⟩
theorem Xli {P:Program} {f:Func} {s:ChangeSpec} {apart fresh handsOn again:Bool} {W W':World} {args:Array Value} {v:Value} {ds gs:List (DataW H)} {before pa pv:List MemPlace}
  (hW:DataW.Whole enc P f.params.toList s.vars apart W args.toList ds gs before)
  (hres:∀(b:Nat) (sp:Nat→Bool) (hd:Bool),DataW.TrodAll enc P W' b sp hd f.resultTypes.toList (v.resultList f.resultTypes.size) (s.fn H (ds++gs)).results [])
  (hargs:∀sp:Nat→Bool,(∀p∈before,sp p.block=true)→DataW.TrodAll enc P W' 0 sp true f.params.toList args.toList (s.fn H (ds++gs)).args pa)
  (hvars:∀sp:Nat→Bool,(∀p∈before,sp p.block=true)→DataW.TrodVars enc P W' sp s.vars (s.fn H (ds++gs)).vars pv)
  (hps:before=pa++pv) (hb:Below W.heap.size W W')
  (hok:∀(j:Nat) (t:TypeId) (r:Value),f.resultTypes[j]? = some t→(v.resultList f.resultTypes.size)[j]? = some r→Value.okWide P W' .any 0 t r) :
  s.post enc P f apart fresh handsOn again W args v W':=by
 have hlt:∀p∈before,p.block<W.heap.size:=fun p hp=>hW.lt p hp
 have hold:∀p∈before,(fun b=>decide (b<W.heap.size)) p.block=true:=fun p hp=>by simpa using hlt p hp
 refine⟨ds,gs,before,[],pa,pv,hW,hres _ _ _,hargs _ hold,hvars _ hold,World.keptBut_mono (fun p hp=>⟨hp,?_⟩) (hb.frame (· ∈ before)),fun _=>?_⟩
 ·rw[hps,List.mem_append] at hp
  exact Or.inr hp
 ·obtain⟨_,_,_,_,_,hz,hn⟩:=hW
  refine⟨hok,_,_,([]++pa)++pv,⟨[]++pa,pv,trodAll_append (hargs _ (fun _ _=>rfl)) (hres _ _ _),hvars _ (fun _ _=>rfl),rfl,?_,?_⟩,?_⟩
  ·intro b off hp
   have hin:MemPlace.cell b off∈before:=by rw[hps];simpa using hp
   rw[hb.frozen (hlt _ hin)]
   exact hz b off hin
  ·intro ha
   have:=hn ha
   rw[hps] at this
   simpa using this
  ·intro p hp _
   rw[hps]
   simpa using hp
end
end Go.Proofs.YthojaplnimoacaaGreatDoor
