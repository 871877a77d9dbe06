/- Texts of this claim, one after the other: GrmA, R29a, Term4, Term5, Row, TermZ, AddL. -/
import Derived.Test.YtolpbjjapodmnaaGreatDoorM4
import Derived.Test.YtolpbjjapodmnaaGreatDoorM3
import Derived.Test.YtolpbjjapodmnaaGreatDoorM2
import Derived.Test.YtolpbjjapodmnaaGreatDoorM7
import Derived.Test.YtolpbjjapodmnaaGreatDoorM1
import Derived.Test.YtolpbjjapodmnaaGreatDoorShelf
import Derived.Laws.CopyOwn
import Derived.Laws.CopyRow
import Derived.Deep.AppendLies
import Derived.Lib.AppendZerosOnto
import Derived.Lib.Overlaps
import Derived.StillTailTactics
import Derived.Lib.SliceRun
import Derived.Deep.RegionWith
import Derived.Deep.LoopGhost
namespace Go.Proofs.YtolpbjjapodmnaaGreatDoor
open Go.RowKit Go.Han
attribute [local irreducible] wpStill wpQuiet
set_option maxRecDepth 100000
theorem Tr {α:Type} {P:α→Bool} {xs:List α} {k:Nat} (h:k<xs.length):(xs.take (k+1)).any P=((xs.take k).any P || P xs[k]):=by
 rw[List.take_succ_eq_append_getElem h,List.any_append];simp
def FnBox (w:World) (bo:Nat) (ty:TypeId) (g:Nat) (lb:Array Value):Prop:=w.heap[bo]? = some (.cells #[.func (.func g) #[] lb] ty (0,0))
theorem FnBox.ext {w w':World} {bo:Nat} {ty:TypeId} {g:Nat} {lb:Array Value} (h:FnBox w bo ty g lb) (hb:Below w.heap.size w w'):FnBox w' bo ty g lb:=Xh hb h
theorem Tg {α:Type} (P:α→Bool) (xs:List α):xs.any (fun x => !P x) = !xs.all P:=by
 induction xs with
 | nil=>rfl
 | cons x xs ih=>simp only[List.any_cons,List.all_cons,ih];cases P x<;>simp
/-! ### at string -/
set_option maxHeartbeats 1000000 in
theorem Xno (A:Option Addr) (cp:Nat) (xs:List ByteArray) (fid:Nat) (lb:Array Value) (P:ByteArray→Bool) (w:World) (hr:Rd w A (xs.flatMap (fun b:ByteArray=>[Value.string b]))) (hm:xs.length≤9223372036854775807) (eg:∀args w,(callFunc fid args).run Tryz.prog w = .ok (.enter fid args) w)
  (hf:∀W,Below w.heap.size w W→∀x∈xs,Calls Tryz.prog fid (#[.string x]++lb) W fun e w'=>e = .returned (.bool (P x))∧Below W.heap.size W w') :
  Calls Tryz.prog 173 #[.slice A xs.length cp,.func (.func fid) #[] lb] w fun e w'=>∃k:Int,e = .returned (.int .i64 k)∧decide (0≤k)=xs.any P∧Below w.heap.size w w':=by
 have Hf:=Xa hf
 have HS:=Xa hr
 clear hf hr
 go_enter Tryz.func173,Tryz.ntmps173
 go_wp2_with fail
 go_loopw [8] (fun i wr=>∃k:Nat,k≤xs.length∧i = .int .i64 k∧Below w.heap.size w wr∧Hid ((xs.take k).any P=false)) (fun i _=>xs.length-(intOf i).toNat)
 case atStart=>exact⟨0,Nat.zero_le _,rfl,Below.refl _ _,rfl⟩
 case round =>
  obtain⟨k,hk,rfl,hB,HR⟩:=hrel
  by_cases hlt:k<xs.length
  ·obtain⟨b,off,rfl,hb,hc⟩:=HS.out.elem (s:=1) (fun _=>rfl) (by omega) (k:=k) hlt
   have d0:wr.cell? ⟨b,off+k,none⟩=some (.string xs[k]):=by
    have h:=hc 0 _ rfl
    rw[Nat.mul_one] at h
    exact(hB.cell (p:=⟨b,off+k,none⟩) hb).trans h
   have cF:=Xa (Hf.out wr hB xs[k] (List.getElem_mem hlt))
   have Htk:=Xa (Tr (P:=P) hlt)
   have hmem:=List.getElem_mem hlt
   have Hmem:=Xa hmem
   clear hc hmem
   generalize xs[k]=x at *
   go_wp2_with fail
   refine cF.out.mono ?_
   rintro e w1 ⟨rfl,hb1⟩
   have hB1:=Xb hB hb1
   cases hP:P x
   ·have HN:Hid ((xs.take (k+1)).any P=false):=by show _=_;rw[Htk.out,HR.out,hP];rfl
    clear hP
    go_wp2_with fail
    go_roundw
    case rel=>exact⟨k+1,by omega,by go_num,hB1,HN⟩
    case measure=>simp[intOf];omega
   ·have HN:Hid (xs.any P=true):=List.any_eq_true.2 ⟨x,Hmem.out,hP⟩
    clear hP
    go_wp2_with fail
    go_ret
    exact⟨k,rfl,by rw[HN.out];exact decide_eq_true (by omega),hB1⟩
  ·have HN:Hid (xs.any P=false):=by
    have h:=HR.out
    rw[List.take_of_length_le (by omega)] at h
    exact h
   go_wp2_with fail
   go_ret
   exact⟨-1,rfl,by rw[HN.out];rfl,hB⟩
theorem Xgv (A:Option Addr) (cp:Nat) (xs:List ByteArray) (fid:Nat) (lb:Array Value) (P:ByteArray→Bool) (w:World) (hr:Rd w A (xs.flatMap (fun b:ByteArray=>[Value.string b]))) (hm:xs.length≤9223372036854775807) (eg:∀args w,(callFunc fid args).run Tryz.prog w = .ok (.enter fid args) w)
  (hf:∀W,Below w.heap.size w W→∀x∈xs,Calls Tryz.prog fid (#[.string x]++lb) W fun e w'=>e = .returned (.bool (P x))∧Below W.heap.size W w') :
  Calls Tryz.prog 117 #[.slice A xs.length cp,.func (.func fid) #[] lb] w fun e w'=>e = .returned (.bool (xs.any P))∧Below w.heap.size w w':=by
 have cI:=Xa (Xno A cp xs fid lb P w hr hm eg hf)
 clear hr hf eg
 go_enter Tryz.func117,Tryz.ntmps117
 go_wp2_with fail
 refine cI.out.mono ?_
 rintro e w1 ⟨k,rfl,hk,hb1⟩
 cases hP:xs.any P
 ·rw[hP] at hk
  have g1:decide (k≥0)=false:=hk
  have g2:k<0:=by have:=of_decide_eq_false hk;omega
  clear hk
  go_wp2_with fail
  go_ret
  exact⟨by first|rfl|(rw[hP];rfl)|(rw[hP];simp;omega),hb1⟩
 ·rw[hP] at hk
  have g1:decide (k≥0)=true:=hk
  have g2:0≤k:=of_decide_eq_true hk
  clear hk
  go_wp2_with fail
  go_ret
  exact⟨by first|rfl|(rw[hP];rfl)|(rw[hP];simp;omega),hb1⟩
theorem Xoa (bo g:Nat) (lb:Array Value) (P:ByteArray→Bool) (x:ByteArray) (w:World) (hbo:FnBox w bo 50 g lb) (eg:∀args w,(callFunc g args).run Tryz.prog w = .ok (.enter g args) w)
  (hf:∀W,Below w.heap.size w W→Calls Tryz.prog g (#[.string x]++lb) W fun e w'=>e = .returned (.bool (P x))∧Below W.heap.size W w') :
  Calls Tryz.prog 271 #[.string x,.pointer (some ⟨bo,0,none⟩)] w fun e w'=>e = .returned (.bool (!P x))∧Below w.heap.size w w':=by
 have c0:=Xj hbo
 have hlt:=Xc hbo
 have Hf:=Xa hf
 clear hf hbo
 go_enter Tryz.func271,Tryz.ntmps271
 go_wp2_with fail
 refine(Hf.out _ (Below.refl _ _)).mono ?_
 rintro e w1 ⟨rfl,hb1⟩
 go_wp2_with fail
 go_ret
 exact⟨rfl,hb1⟩
set_option maxHeartbeats 1000000 in
theorem Xpl (bl:Nat) (A:Option Addr) (cp:Nat) (xs:List ByteArray) (g:Nat) (lb:Array Value) (P:ByteArray→Bool) (w:World) (hbl:w.heap[bl]? = some (.cells #[.slice A xs.length cp] 22 (0,0))) (hr:Rd w A (xs.flatMap (fun b:ByteArray=>[Value.string b]))) (hm:xs.length≤9223372036854775807) (eg:∀args w,(callFunc g args).run Tryz.prog w = .ok (.enter g args) w)
  (hf:∀W,Below w.heap.size w W→∀x∈xs,Calls Tryz.prog g (#[.string x]++lb) W fun e w'=>e = .returned (.bool (P x))∧Below W.heap.size W w') :
  Calls Tryz.prog 231 #[.func (.func g) #[] lb,.slice (some ⟨bl,0,none⟩) 1 1] w fun e w'=>e = .returned (.bool (xs.all P))∧Below w.heap.size w w':=by
 obtain⟨W1,hW1⟩:∃W1,w.alloc (.cells #[.func (.func g) #[] lb] 50)=W1:=⟨_,rfl⟩
 have hB1:Below w.heap.size w W1:=by subst hW1;exact Xe (Below.refl _ _) _
 have hbo:FnBox W1 w.heap.size 50 g lb:=by subst hW1;exact World.alloc_heap_new _ _
 have c0:=Xj (Xh hB1 hbl)
 have hmf:∀(fn:Fn) (first cap:Array Value) (w:World),(Instr.makeFunc fn first cap).run Tryz.prog w = .ok (.func fn first cap) w:=fun _ _ _ _=>rfl
 have cC:=Xa (Xgv A cp xs 271 #[.pointer (some ⟨w.heap.size,0,none⟩)] (fun x => !P x) W1 (hr.ext hB1) hm (enters_of Tryz.func271 (by kernel_rfl) rfl)
  (fun W hW x hx=>Xoa w.heap.size g lb P x W (hbo.ext hW) eg fun V hV=>hf V (Xb hB1 (Xb hW hV)) x hx))
 have HA:=Xa (Tg P xs)
 have HW1:=Xa hW1
 clear hf hr hbl hW1 hbo
 go_enter Tryz.func231,Tryz.ntmps231
 go_wp2_with fail
 rw[HW1.out]
 clear HW1
 go_loopw [9] (fun i wr=>(i = .int .i64 0∧wr=W1)∨(i = .int .i64 1∧Below w.heap.size w wr∧Hid (xs.all P=true))) (fun i _=>1-(intOf i).toNat)
 case atStart=>exact .inl ⟨rfl,rfl⟩
 case round =>
  rcases hrel with ⟨rfl,rfl⟩|⟨rfl,hB,HR⟩
  ·go_wp2_with fail
   refine cC.out.mono ?_
   rintro e w1 ⟨rfl,hb1⟩
   rw[HA.out]
   have hB2:=Xb hB1 hb1
   clear cC hb1 hB1 c0
   cases hP:xs.all P
   ·go_wp2_with fail
    go_ret
    exact⟨by rw[hP];rfl,hB2⟩
   ·have HR:=Xa hP
    clear hP
    go_wp2_with fail
    go_roundw
    case rel=>exact .inr ⟨rfl,hB2,HR⟩
    case measure=>simp[intOf]
  ·clear c0 cC
   go_wp2_with fail
   go_ret
   exact⟨by rw[HR.out];rfl,hB⟩
/-! ### at hansard/api.Entry -/
set_option maxHeartbeats 1000000 in
theorem Xnl (A:Option Addr) (cp:Nat) (xs:List EntryG) (fid:Nat) (lb:Array Value) (P:EntryG→Bool) (w:World) (hr:Rd w A (xs.flatMap EntryG.cells)) (hm:xs.length≤9223372036854775807) (eg:∀args w,(callFunc fid args).run Tryz.prog w = .ok (.enter fid args) w)
  (hf:∀W,Below w.heap.size w W→∀x∈xs,Calls Tryz.prog fid (#[.agg #[.string x.text,.string x.cat,.int .i64 x.no,.slice x.gives.addr x.gives.xs.length x.gives.cap,.int .i64 x.cost]]++lb) W fun e w'=>e = .returned (.bool (P x))∧Below W.heap.size W w') :
  Calls Tryz.prog 297 #[.slice A xs.length cp,.func (.func fid) #[] lb] w fun e w'=>∃k:Int,e = .returned (.int .i64 k)∧decide (0≤k)=xs.any P∧Below w.heap.size w w':=by
 have Hf:=Xa hf
 have HS:=Xa hr
 clear hf hr
 go_enter Tryz.func297,Tryz.ntmps297
 go_wp2_with fail
 go_loopw [8] (fun i wr=>∃k:Nat,k≤xs.length∧i = .int .i64 k∧Below w.heap.size w wr∧Hid ((xs.take k).any P=false)) (fun i _=>xs.length-(intOf i).toNat)
 case atStart=>exact⟨0,Nat.zero_le _,rfl,Below.refl _ _,rfl⟩
 case round =>
  obtain⟨k,hk,rfl,hB,HR⟩:=hrel
  by_cases hlt:k<xs.length
  ·obtain⟨b,off,rfl,hb,hc⟩:=HS.out.elem (s:=5) (fun _=>rfl) (by omega) (k:=k) hlt
   have d0:wr.cell? ⟨b,off+k*5,none⟩=some _:=(hB.cell (p:=⟨b,off+k*5,none⟩) hb).trans (hc 0 _ rfl)
   have d1:wr.cell? ⟨b,off+k*5+1,none⟩=some _:=(hB.cell (p:=⟨b,off+k*5+1,none⟩) hb).trans (hc 1 _ rfl)
   have d2:wr.cell? ⟨b,off+k*5+2,none⟩=some _:=(hB.cell (p:=⟨b,off+k*5+2,none⟩) hb).trans (hc 2 _ rfl)
   have d3:wr.cell? ⟨b,off+k*5+3,none⟩=some _:=(hB.cell (p:=⟨b,off+k*5+3,none⟩) hb).trans (hc 3 _ rfl)
   have d4:wr.cell? ⟨b,off+k*5+4,none⟩=some _:=(hB.cell (p:=⟨b,off+k*5+4,none⟩) hb).trans (hc 4 _ rfl)
   have cF:=Xa (Hf.out wr hB xs[k] (List.getElem_mem hlt))
   have Htk:=Xa (Tr (P:=P) hlt)
   have hmem:=List.getElem_mem hlt
   have Hmem:=Xa hmem
   clear hc hmem
   generalize xs[k]=x at *
   go_wp2_with fail
   refine cF.out.mono ?_
   rintro e w1 ⟨rfl,hb1⟩
   have hB1:=Xb hB hb1
   cases hP:P x
   ·have HN:Hid ((xs.take (k+1)).any P=false):=by show _=_;rw[Htk.out,HR.out,hP];rfl
    clear hP
    go_wp2_with fail
    go_roundw
    case rel=>exact⟨k+1,by omega,by go_num,hB1,HN⟩
    case measure=>simp[intOf];omega
   ·have HN:Hid (xs.any P=true):=List.any_eq_true.2 ⟨x,Hmem.out,hP⟩
    clear hP
    go_wp2_with fail
    go_ret
    exact⟨k,rfl,by rw[HN.out];exact decide_eq_true (by omega),hB1⟩
  ·have HN:Hid (xs.any P=false):=by
    have h:=HR.out
    rw[List.take_of_length_le (by omega)] at h
    exact h
   go_wp2_with fail
   go_ret
   exact⟨-1,rfl,by rw[HN.out];rfl,hB⟩
theorem Xm5 (A:Option Addr) (cp:Nat) (xs:List EntryG) (fid:Nat) (lb:Array Value) (P:EntryG→Bool) (w:World) (hr:Rd w A (xs.flatMap EntryG.cells)) (hm:xs.length≤9223372036854775807) (eg:∀args w,(callFunc fid args).run Tryz.prog w = .ok (.enter fid args) w)
  (hf:∀W,Below w.heap.size w W→∀x∈xs,Calls Tryz.prog fid (#[.agg #[.string x.text,.string x.cat,.int .i64 x.no,.slice x.gives.addr x.gives.xs.length x.gives.cap,.int .i64 x.cost]]++lb) W fun e w'=>e = .returned (.bool (P x))∧Below W.heap.size W w') :
  Calls Tryz.prog 274 #[.slice A xs.length cp,.func (.func fid) #[] lb] w fun e w'=>e = .returned (.bool (xs.any P))∧Below w.heap.size w w':=by
 have cI:=Xa (Xnl A cp xs fid lb P w hr hm eg hf)
 clear hr hf eg
 go_enter Tryz.func274,Tryz.ntmps274
 go_wp2_with fail
 refine cI.out.mono ?_
 rintro e w1 ⟨k,rfl,hk,hb1⟩
 cases hP:xs.any P
 ·rw[hP] at hk
  have g1:decide (k≥0)=false:=hk
  have g2:k<0:=by have:=of_decide_eq_false hk;omega
  clear hk
  go_wp2_with fail
  go_ret
  exact⟨by first|rfl|(rw[hP];rfl)|(rw[hP];simp;omega),hb1⟩
 ·rw[hP] at hk
  have g1:decide (k≥0)=true:=hk
  have g2:0≤k:=of_decide_eq_true hk
  clear hk
  go_wp2_with fail
  go_ret
  exact⟨by first|rfl|(rw[hP];rfl)|(rw[hP];simp;omega),hb1⟩
theorem Xn6 (bo g:Nat) (lb:Array Value) (P:EntryG→Bool) (x:EntryG) (w:World) (hbo:FnBox w bo 287 g lb) (eg:∀args w,(callFunc g args).run Tryz.prog w = .ok (.enter g args) w)
  (hf:∀W,Below w.heap.size w W→Calls Tryz.prog g (#[.agg #[.string x.text,.string x.cat,.int .i64 x.no,.slice x.gives.addr x.gives.xs.length x.gives.cap,.int .i64 x.cost]]++lb) W fun e w'=>e = .returned (.bool (P x))∧Below W.heap.size W w') :
  Calls Tryz.prog 275 #[.agg #[.string x.text,.string x.cat,.int .i64 x.no,.slice x.gives.addr x.gives.xs.length x.gives.cap,.int .i64 x.cost],.pointer (some ⟨bo,0,none⟩)] w fun e w'=>e = .returned (.bool (!P x))∧Below w.heap.size w w':=by
 have c0:=Xj hbo
 have hlt:=Xc hbo
 have Hf:=Xa hf
 clear hf hbo
 go_enter Tryz.func275,Tryz.ntmps275
 go_wp2_with fail
 refine(Hf.out _ (Xe (Below.refl _ _) _)).mono ?_
 rintro e w1 ⟨rfl,hb1⟩
 go_wp2_with fail
 go_ret
 exact⟨rfl,Xb (Xe (Below.refl _ _) _) hb1⟩
set_option maxHeartbeats 1000000 in
theorem Xpf (bl:Nat) (A:Option Addr) (cp:Nat) (xs:List EntryG) (g:Nat) (lb:Array Value) (P:EntryG→Bool) (w:World) (hbl:w.heap[bl]? = some (.cells #[.slice A xs.length cp] 23 (0,0))) (hr:Rd w A (xs.flatMap EntryG.cells)) (hm:xs.length≤9223372036854775807) (eg:∀args w,(callFunc g args).run Tryz.prog w = .ok (.enter g args) w)
  (hf:∀W,Below w.heap.size w W→∀x∈xs,Calls Tryz.prog g (#[.agg #[.string x.text,.string x.cat,.int .i64 x.no,.slice x.gives.addr x.gives.xs.length x.gives.cap,.int .i64 x.cost]]++lb) W fun e w'=>e = .returned (.bool (P x))∧Below W.heap.size W w') :
  Calls Tryz.prog 235 #[.func (.func g) #[] lb,.slice (some ⟨bl,0,none⟩) 1 1] w fun e w'=>e = .returned (.bool (xs.all P))∧Below w.heap.size w w':=by
 obtain⟨W1,hW1⟩:∃W1,w.alloc (.cells #[.func (.func g) #[] lb] 287)=W1:=⟨_,rfl⟩
 have hB1:Below w.heap.size w W1:=by subst hW1;exact Xe (Below.refl _ _) _
 have hbo:FnBox W1 w.heap.size 287 g lb:=by subst hW1;exact World.alloc_heap_new _ _
 have c0:=Xj (Xh hB1 hbl)
 have hmf:∀(fn:Fn) (first cap:Array Value) (w:World),(Instr.makeFunc fn first cap).run Tryz.prog w = .ok (.func fn first cap) w:=fun _ _ _ _=>rfl
 have cC:=Xa (Xm5 A cp xs 275 #[.pointer (some ⟨w.heap.size,0,none⟩)] (fun x => !P x) W1 (hr.ext hB1) hm (enters_of Tryz.func275 (by kernel_rfl) rfl)
  (fun W hW x hx=>Xn6 w.heap.size g lb P x W (hbo.ext hW) eg fun V hV=>hf V (Xb hB1 (Xb hW hV)) x hx))
 have HA:=Xa (Tg P xs)
 have HW1:=Xa hW1
 clear hf hr hbl hW1 hbo
 go_enter Tryz.func235,Tryz.ntmps235
 go_wp2_with fail
 rw[HW1.out]
 clear HW1
 go_loopw [9] (fun i wr=>(i = .int .i64 0∧wr=W1)∨(i = .int .i64 1∧Below w.heap.size w wr∧Hid (xs.all P=true))) (fun i _=>1-(intOf i).toNat)
 case atStart=>exact .inl ⟨rfl,rfl⟩
 case round =>
  rcases hrel with ⟨rfl,rfl⟩|⟨rfl,hB,HR⟩
  ·go_wp2_with fail
   refine cC.out.mono ?_
   rintro e w1 ⟨rfl,hb1⟩
   rw[HA.out]
   have hB2:=Xb hB1 hb1
   clear cC hb1 hB1 c0
   cases hP:xs.all P
   ·go_wp2_with fail
    go_ret
    exact⟨by rw[hP];rfl,hB2⟩
   ·have HR:=Xa hP
    clear hP
    go_wp2_with fail
    go_roundw
    case rel=>exact .inr ⟨rfl,hB2,HR⟩
    case measure=>simp[intOf]
  ·clear c0 cC
   go_wp2_with fail
   go_ret
   exact⟨by rw[HR.out];rfl,hB⟩
/-! ### at hansard/api.Part -/
set_option maxHeartbeats 1000000 in
theorem Xnm (A:Option Addr) (cp:Nat) (xs:List PartG) (fid:Nat) (lb:Array Value) (P:PartG→Bool) (w:World) (hr:Rd w A (xs.flatMap PartG.cells)) (hm:xs.length≤9223372036854775807) (eg:∀args w,(callFunc fid args).run Tryz.prog w = .ok (.enter fid args) w)
  (hf:∀W,Below w.heap.size w W→∀x∈xs,Calls Tryz.prog fid (#[.agg #[.string x.cat,.int .i64 x.no,.string x.text]]++lb) W fun e w'=>e = .returned (.bool (P x))∧Below W.heap.size W w') :
  Calls Tryz.prog 296 #[.slice A xs.length cp,.func (.func fid) #[] lb] w fun e w'=>∃k:Int,e = .returned (.int .i64 k)∧decide (0≤k)=xs.any P∧Below w.heap.size w w':=by
 have Hf:=Xa hf
 have HS:=Xa hr
 clear hf hr
 go_enter Tryz.func296,Tryz.ntmps296
 go_wp2_with fail
 go_loopw [8] (fun i wr=>∃k:Nat,k≤xs.length∧i = .int .i64 k∧Below w.heap.size w wr∧Hid ((xs.take k).any P=false)) (fun i _=>xs.length-(intOf i).toNat)
 case atStart=>exact⟨0,Nat.zero_le _,rfl,Below.refl _ _,rfl⟩
 case round =>
  obtain⟨k,hk,rfl,hB,HR⟩:=hrel
  by_cases hlt:k<xs.length
  ·obtain⟨b,off,rfl,hb,hc⟩:=HS.out.elem (s:=3) (fun _=>rfl) (by omega) (k:=k) hlt
   have d0:wr.cell? ⟨b,off+k*3,none⟩=some _:=(hB.cell (p:=⟨b,off+k*3,none⟩) hb).trans (hc 0 _ rfl)
   have d1:wr.cell? ⟨b,off+k*3+1,none⟩=some _:=(hB.cell (p:=⟨b,off+k*3+1,none⟩) hb).trans (hc 1 _ rfl)
   have d2:wr.cell? ⟨b,off+k*3+2,none⟩=some _:=(hB.cell (p:=⟨b,off+k*3+2,none⟩) hb).trans (hc 2 _ rfl)
   have cF:=Xa (Hf.out wr hB xs[k] (List.getElem_mem hlt))
   have Htk:=Xa (Tr (P:=P) hlt)
   have hmem:=List.getElem_mem hlt
   have Hmem:=Xa hmem
   clear hc hmem
   generalize xs[k]=x at *
   go_wp2_with fail
   refine cF.out.mono ?_
   rintro e w1 ⟨rfl,hb1⟩
   have hB1:=Xb hB hb1
   cases hP:P x
   ·have HN:Hid ((xs.take (k+1)).any P=false):=by show _=_;rw[Htk.out,HR.out,hP];rfl
    clear hP
    go_wp2_with fail
    go_roundw
    case rel=>exact⟨k+1,by omega,by go_num,hB1,HN⟩
    case measure=>simp[intOf];omega
   ·have HN:Hid (xs.any P=true):=List.any_eq_true.2 ⟨x,Hmem.out,hP⟩
    clear hP
    go_wp2_with fail
    go_ret
    exact⟨k,rfl,by rw[HN.out];exact decide_eq_true (by omega),hB1⟩
  ·have HN:Hid (xs.any P=false):=by
    have h:=HR.out
    rw[List.take_of_length_le (by omega)] at h
    exact h
   go_wp2_with fail
   go_ret
   exact⟨-1,rfl,by rw[HN.out];rfl,hB⟩
theorem Xm6 (A:Option Addr) (cp:Nat) (xs:List PartG) (fid:Nat) (lb:Array Value) (P:PartG→Bool) (w:World) (hr:Rd w A (xs.flatMap PartG.cells)) (hm:xs.length≤9223372036854775807) (eg:∀args w,(callFunc fid args).run Tryz.prog w = .ok (.enter fid args) w)
  (hf:∀W,Below w.heap.size w W→∀x∈xs,Calls Tryz.prog fid (#[.agg #[.string x.cat,.int .i64 x.no,.string x.text]]++lb) W fun e w'=>e = .returned (.bool (P x))∧Below W.heap.size W w') :
  Calls Tryz.prog 272 #[.slice A xs.length cp,.func (.func fid) #[] lb] w fun e w'=>e = .returned (.bool (xs.any P))∧Below w.heap.size w w':=by
 have cI:=Xa (Xnm A cp xs fid lb P w hr hm eg hf)
 clear hr hf eg
 go_enter Tryz.func272,Tryz.ntmps272
 go_wp2_with fail
 refine cI.out.mono ?_
 rintro e w1 ⟨k,rfl,hk,hb1⟩
 cases hP:xs.any P
 ·rw[hP] at hk
  have g1:decide (k≥0)=false:=hk
  have g2:k<0:=by have:=of_decide_eq_false hk;omega
  clear hk
  go_wp2_with fail
  go_ret
  exact⟨by first|rfl|(rw[hP];rfl)|(rw[hP];simp;omega),hb1⟩
 ·rw[hP] at hk
  have g1:decide (k≥0)=true:=hk
  have g2:0≤k:=of_decide_eq_true hk
  clear hk
  go_wp2_with fail
  go_ret
  exact⟨by first|rfl|(rw[hP];rfl)|(rw[hP];simp;omega),hb1⟩
theorem Xn8 (bo g:Nat) (lb:Array Value) (P:PartG→Bool) (x:PartG) (w:World) (hbo:FnBox w bo 288 g lb) (eg:∀args w,(callFunc g args).run Tryz.prog w = .ok (.enter g args) w)
  (hf:∀W,Below w.heap.size w W→Calls Tryz.prog g (#[.agg #[.string x.cat,.int .i64 x.no,.string x.text]]++lb) W fun e w'=>e = .returned (.bool (P x))∧Below W.heap.size W w') :
  Calls Tryz.prog 273 #[.agg #[.string x.cat,.int .i64 x.no,.string x.text],.pointer (some ⟨bo,0,none⟩)] w fun e w'=>e = .returned (.bool (!P x))∧Below w.heap.size w w':=by
 have c0:=Xj hbo
 have hlt:=Xc hbo
 have Hf:=Xa hf
 clear hf hbo
 go_enter Tryz.func273,Tryz.ntmps273
 go_wp2_with fail
 refine(Hf.out _ (Xe (Below.refl _ _) _)).mono ?_
 rintro e w1 ⟨rfl,hb1⟩
 go_wp2_with fail
 go_ret
 exact⟨rfl,Xb (Xe (Below.refl _ _) _) hb1⟩
set_option maxHeartbeats 1000000 in
theorem Xph (bl:Nat) (A:Option Addr) (cp:Nat) (xs:List PartG) (g:Nat) (lb:Array Value) (P:PartG→Bool) (w:World) (hbl:w.heap[bl]? = some (.cells #[.slice A xs.length cp] 76 (0,0))) (hr:Rd w A (xs.flatMap PartG.cells)) (hm:xs.length≤9223372036854775807) (eg:∀args w,(callFunc g args).run Tryz.prog w = .ok (.enter g args) w)
  (hf:∀W,Below w.heap.size w W→∀x∈xs,Calls Tryz.prog g (#[.agg #[.string x.cat,.int .i64 x.no,.string x.text]]++lb) W fun e w'=>e = .returned (.bool (P x))∧Below W.heap.size W w') :
  Calls Tryz.prog 234 #[.func (.func g) #[] lb,.slice (some ⟨bl,0,none⟩) 1 1] w fun e w'=>e = .returned (.bool (xs.all P))∧Below w.heap.size w w':=by
 obtain⟨W1,hW1⟩:∃W1,w.alloc (.cells #[.func (.func g) #[] lb] 288)=W1:=⟨_,rfl⟩
 have hB1:Below w.heap.size w W1:=by subst hW1;exact Xe (Below.refl _ _) _
 have hbo:FnBox W1 w.heap.size 288 g lb:=by subst hW1;exact World.alloc_heap_new _ _
 have c0:=Xj (Xh hB1 hbl)
 have hmf:∀(fn:Fn) (first cap:Array Value) (w:World),(Instr.makeFunc fn first cap).run Tryz.prog w = .ok (.func fn first cap) w:=fun _ _ _ _=>rfl
 have cC:=Xa (Xm6 A cp xs 273 #[.pointer (some ⟨w.heap.size,0,none⟩)] (fun x => !P x) W1 (hr.ext hB1) hm (enters_of Tryz.func273 (by kernel_rfl) rfl)
  (fun W hW x hx=>Xn8 w.heap.size g lb P x W (hbo.ext hW) eg fun V hV=>hf V (Xb hB1 (Xb hW hV)) x hx))
 have HA:=Xa (Tg P xs)
 have HW1:=Xa hW1
 clear hf hr hbl hW1 hbo
 go_enter Tryz.func234,Tryz.ntmps234
 go_wp2_with fail
 rw[HW1.out]
 clear HW1
 go_loopw [9] (fun i wr=>(i = .int .i64 0∧wr=W1)∨(i = .int .i64 1∧Below w.heap.size w wr∧Hid (xs.all P=true))) (fun i _=>1-(intOf i).toNat)
 case atStart=>exact .inl ⟨rfl,rfl⟩
 case round =>
  rcases hrel with ⟨rfl,rfl⟩|⟨rfl,hB,HR⟩
  ·go_wp2_with fail
   refine cC.out.mono ?_
   rintro e w1 ⟨rfl,hb1⟩
   rw[HA.out]
   have hB2:=Xb hB1 hb1
   clear cC hb1 hB1 c0
   cases hP:xs.all P
   ·go_wp2_with fail
    go_ret
    exact⟨by rw[hP];rfl,hB2⟩
   ·have HR:=Xa hP
    clear hP
    go_wp2_with fail
    go_roundw
    case rel=>exact .inr ⟨rfl,hB2,HR⟩
    case measure=>simp[intOf]
  ·clear c0 cC
   go_wp2_with fail
   go_ret
   exact⟨by rw[HR.out];rfl,hB⟩
/-! ### at hansard/api.Rule -/
set_option maxHeartbeats 1000000 in
theorem Xnn (A:Option Addr) (cp:Nat) (xs:List RuleG) (fid:Nat) (lb:Array Value) (P:RuleG→Bool) (w:World) (hr:Rd w A (xs.flatMap RuleG.cells)) (hm:xs.length≤9223372036854775807) (eg:∀args w,(callFunc fid args).run Tryz.prog w = .ok (.enter fid args) w)
  (hf:∀W,Below w.heap.size w W→∀x∈xs,Calls Tryz.prog fid (#[.agg #[.string x.cat,.int .i64 x.no,.slice x.parts.addr x.parts.xs.length x.parts.cap,.slice x.gives.addr x.gives.xs.length x.gives.cap,.int .i64 x.cost]]++lb) W fun e w'=>e = .returned (.bool (P x))∧Below W.heap.size W w') :
  Calls Tryz.prog 277 #[.slice A xs.length cp,.func (.func fid) #[] lb] w fun e w'=>∃k:Int,e = .returned (.int .i64 k)∧decide (0≤k)=xs.any P∧Below w.heap.size w w':=by
 have Hf:=Xa hf
 have HS:=Xa hr
 clear hf hr
 go_enter Tryz.func277,Tryz.ntmps277
 go_wp2_with fail
 go_loopw [8] (fun i wr=>∃k:Nat,k≤xs.length∧i = .int .i64 k∧Below w.heap.size w wr∧Hid ((xs.take k).any P=false)) (fun i _=>xs.length-(intOf i).toNat)
 case atStart=>exact⟨0,Nat.zero_le _,rfl,Below.refl _ _,rfl⟩
 case round =>
  obtain⟨k,hk,rfl,hB,HR⟩:=hrel
  by_cases hlt:k<xs.length
  ·obtain⟨b,off,rfl,hb,hc⟩:=HS.out.elem (s:=5) (fun _=>rfl) (by omega) (k:=k) hlt
   have d0:wr.cell? ⟨b,off+k*5,none⟩=some _:=(hB.cell (p:=⟨b,off+k*5,none⟩) hb).trans (hc 0 _ rfl)
   have d1:wr.cell? ⟨b,off+k*5+1,none⟩=some _:=(hB.cell (p:=⟨b,off+k*5+1,none⟩) hb).trans (hc 1 _ rfl)
   have d2:wr.cell? ⟨b,off+k*5+2,none⟩=some _:=(hB.cell (p:=⟨b,off+k*5+2,none⟩) hb).trans (hc 2 _ rfl)
   have d3:wr.cell? ⟨b,off+k*5+3,none⟩=some _:=(hB.cell (p:=⟨b,off+k*5+3,none⟩) hb).trans (hc 3 _ rfl)
   have d4:wr.cell? ⟨b,off+k*5+4,none⟩=some _:=(hB.cell (p:=⟨b,off+k*5+4,none⟩) hb).trans (hc 4 _ rfl)
   have cF:=Xa (Hf.out wr hB xs[k] (List.getElem_mem hlt))
   have Htk:=Xa (Tr (P:=P) hlt)
   have hmem:=List.getElem_mem hlt
   have Hmem:=Xa hmem
   clear hc hmem
   generalize xs[k]=x at *
   go_wp2_with fail
   refine cF.out.mono ?_
   rintro e w1 ⟨rfl,hb1⟩
   have hB1:=Xb hB hb1
   cases hP:P x
   ·have HN:Hid ((xs.take (k+1)).any P=false):=by show _=_;rw[Htk.out,HR.out,hP];rfl
    clear hP
    go_wp2_with fail
    go_roundw
    case rel=>exact⟨k+1,by omega,by go_num,hB1,HN⟩
    case measure=>simp[intOf];omega
   ·have HN:Hid (xs.any P=true):=List.any_eq_true.2 ⟨x,Hmem.out,hP⟩
    clear hP
    go_wp2_with fail
    go_ret
    exact⟨k,rfl,by rw[HN.out];exact decide_eq_true (by omega),hB1⟩
  ·have HN:Hid (xs.any P=false):=by
    have h:=HR.out
    rw[List.take_of_length_le (by omega)] at h
    exact h
   go_wp2_with fail
   go_ret
   exact⟨-1,rfl,by rw[HN.out];rfl,hB⟩
theorem Xgu (A:Option Addr) (cp:Nat) (xs:List RuleG) (fid:Nat) (lb:Array Value) (P:RuleG→Bool) (w:World) (hr:Rd w A (xs.flatMap RuleG.cells)) (hm:xs.length≤9223372036854775807) (eg:∀args w,(callFunc fid args).run Tryz.prog w = .ok (.enter fid args) w)
  (hf:∀W,Below w.heap.size w W→∀x∈xs,Calls Tryz.prog fid (#[.agg #[.string x.cat,.int .i64 x.no,.slice x.parts.addr x.parts.xs.length x.parts.cap,.slice x.gives.addr x.gives.xs.length x.gives.cap,.int .i64 x.cost]]++lb) W fun e w'=>e = .returned (.bool (P x))∧Below W.heap.size W w') :
  Calls Tryz.prog 238 #[.slice A xs.length cp,.func (.func fid) #[] lb] w fun e w'=>e = .returned (.bool (xs.any P))∧Below w.heap.size w w':=by
 have cI:=Xa (Xnn A cp xs fid lb P w hr hm eg hf)
 clear hr hf eg
 go_enter Tryz.func238,Tryz.ntmps238
 go_wp2_with fail
 refine cI.out.mono ?_
 rintro e w1 ⟨k,rfl,hk,hb1⟩
 cases hP:xs.any P
 ·rw[hP] at hk
  have g1:decide (k≥0)=false:=hk
  have g2:k<0:=by have:=of_decide_eq_false hk;omega
  clear hk
  go_wp2_with fail
  go_ret
  exact⟨by first|rfl|(rw[hP];rfl)|(rw[hP];simp;omega),hb1⟩
 ·rw[hP] at hk
  have g1:decide (k≥0)=true:=hk
  have g2:0≤k:=of_decide_eq_true hk
  clear hk
  go_wp2_with fail
  go_ret
  exact⟨by first|rfl|(rw[hP];rfl)|(rw[hP];simp;omega),hb1⟩
theorem Xn9 (bo g:Nat) (lb:Array Value) (P:RuleG→Bool) (x:RuleG) (w:World) (hbo:FnBox w bo 290 g lb) (eg:∀args w,(callFunc g args).run Tryz.prog w = .ok (.enter g args) w)
  (hf:∀W,Below w.heap.size w W→Calls Tryz.prog g (#[.agg #[.string x.cat,.int .i64 x.no,.slice x.parts.addr x.parts.xs.length x.parts.cap,.slice x.gives.addr x.gives.xs.length x.gives.cap,.int .i64 x.cost]]++lb) W fun e w'=>e = .returned (.bool (P x))∧Below W.heap.size W w') :
  Calls Tryz.prog 276 #[.agg #[.string x.cat,.int .i64 x.no,.slice x.parts.addr x.parts.xs.length x.parts.cap,.slice x.gives.addr x.gives.xs.length x.gives.cap,.int .i64 x.cost],.pointer (some ⟨bo,0,none⟩)] w fun e w'=>e = .returned (.bool (!P x))∧Below w.heap.size w w':=by
 have c0:=Xj hbo
 have hlt:=Xc hbo
 have Hf:=Xa hf
 clear hf hbo
 go_enter Tryz.func276,Tryz.ntmps276
 go_wp2_with fail
 refine(Hf.out _ (Xe (Below.refl _ _) _)).mono ?_
 rintro e w1 ⟨rfl,hb1⟩
 go_wp2_with fail
 go_ret
 exact⟨rfl,Xb (Xe (Below.refl _ _) _) hb1⟩
set_option maxHeartbeats 1000000 in
theorem Xpj (bl:Nat) (A:Option Addr) (cp:Nat) (xs:List RuleG) (g:Nat) (lb:Array Value) (P:RuleG→Bool) (w:World) (hbl:w.heap[bl]? = some (.cells #[.slice A xs.length cp] 24 (0,0))) (hr:Rd w A (xs.flatMap RuleG.cells)) (hm:xs.length≤9223372036854775807) (eg:∀args w,(callFunc g args).run Tryz.prog w = .ok (.enter g args) w)
  (hf:∀W,Below w.heap.size w W→∀x∈xs,Calls Tryz.prog g (#[.agg #[.string x.cat,.int .i64 x.no,.slice x.parts.addr x.parts.xs.length x.parts.cap,.slice x.gives.addr x.gives.xs.length x.gives.cap,.int .i64 x.cost]]++lb) W fun e w'=>e = .returned (.bool (P x))∧Below W.heap.size W w') :
  Calls Tryz.prog 236 #[.func (.func g) #[] lb,.slice (some ⟨bl,0,none⟩) 1 1] w fun e w'=>e = .returned (.bool (xs.all P))∧Below w.heap.size w w':=by
 obtain⟨W1,hW1⟩:∃W1,w.alloc (.cells #[.func (.func g) #[] lb] 290)=W1:=⟨_,rfl⟩
 have hB1:Below w.heap.size w W1:=by subst hW1;exact Xe (Below.refl _ _) _
 have hbo:FnBox W1 w.heap.size 290 g lb:=by subst hW1;exact World.alloc_heap_new _ _
 have c0:=Xj (Xh hB1 hbl)
 have hmf:∀(fn:Fn) (first cap:Array Value) (w:World),(Instr.makeFunc fn first cap).run Tryz.prog w = .ok (.func fn first cap) w:=fun _ _ _ _=>rfl
 have cC:=Xa (Xgu A cp xs 276 #[.pointer (some ⟨w.heap.size,0,none⟩)] (fun x => !P x) W1 (hr.ext hB1) hm (enters_of Tryz.func276 (by kernel_rfl) rfl)
  (fun W hW x hx=>Xn9 w.heap.size g lb P x W (hbo.ext hW) eg fun V hV=>hf V (Xb hB1 (Xb hW hV)) x hx))
 have HA:=Xa (Tg P xs)
 have HW1:=Xa hW1
 clear hf hr hbl hW1 hbo
 go_enter Tryz.func236,Tryz.ntmps236
 go_wp2_with fail
 rw[HW1.out]
 clear HW1
 go_loopw [9] (fun i wr=>(i = .int .i64 0∧wr=W1)∨(i = .int .i64 1∧Below w.heap.size w wr∧Hid (xs.all P=true))) (fun i _=>1-(intOf i).toNat)
 case atStart=>exact .inl ⟨rfl,rfl⟩
 case round =>
  rcases hrel with ⟨rfl,rfl⟩|⟨rfl,hB,HR⟩
  ·go_wp2_with fail
   refine cC.out.mono ?_
   rintro e w1 ⟨rfl,hb1⟩
   rw[HA.out]
   have hB2:=Xb hB1 hb1
   clear cC hb1 hB1 c0
   cases hP:xs.all P
   ·go_wp2_with fail
    go_ret
    exact⟨by rw[hP];rfl,hB2⟩
   ·have HR:=Xa hP
    clear hP
    go_wp2_with fail
    go_roundw
    case rel=>exact .inr ⟨rfl,hB2,HR⟩
    case measure=>simp[intOf]
  ·clear c0 cC
   go_wp2_with fail
   go_ret
   exact⟨by rw[HR.out];rfl,hB⟩
/-! ### numbers -/
theorem Xm1 (ba bb:Nat) (a b n:Int) (w:World) (ha:w.heap[ba]? = some (.cells #[.int .i64 a] 3 (0,0))) (hb:w.heap[bb]? = some (.cells #[.int .i64 b] 3 (0,0))) :
  Calls Tryz.prog 270 #[.int .i64 n,.pointer (some ⟨ba,0,none⟩),.pointer (some ⟨bb,0,none⟩)] w fun e w'=>e = .returned (.bool (decide (a≤n) && decide (n≤b)))∧Below w.heap.size w w':=by
 have c0:=Xj ha
 have c1:=Xj hb
 go_enter Tryz.func270,Tryz.ntmps270
 go_wp2
 all_goals go_ret
 all_goals (refine⟨?_,Below.refl _ _⟩;simp[*];try omega)
theorem Xn7 (bo g:Nat) (lb:Array Value) (P:Int→Bool) (x:Int) (w:World) (hbo:FnBox w bo 139 g lb) (eg:∀args w,(callFunc g args).run Tryz.prog w = .ok (.enter g args) w)
  (hf:∀W,Below w.heap.size w W→Calls Tryz.prog g (#[.int .i64 x]++lb) W fun e w'=>e = .returned (.bool (P x))∧Below W.heap.size W w') :
  Calls Tryz.prog 295 #[.int .i64 x,.pointer (some ⟨bo,0,none⟩)] w fun e w'=>e = .returned (.bool (!P x))∧Below w.heap.size w w':=by
 have c0:=Xj hbo
 have Hf:=Xa hf
 clear hf hbo
 go_enter Tryz.func295,Tryz.ntmps295
 go_wp2_with fail
 refine(Hf.out _ (Below.refl _ _)).mono ?_
 rintro e w1 ⟨rfl,hb1⟩
 go_wp2_with fail
 go_ret
 exact⟨rfl,hb1⟩
set_option maxHeartbeats 1000000 in
theorem Xpg (bl:Nat) (bn:Nat) (n:Int) (g:Nat) (lb:Array Value) (P:Int→Bool) (w:World) (hbl:w.heap[bl]? = some (.cells #[.slice (some ⟨bn,0,none⟩) 1 1] 49 (0,0))) (hbn:w.heap[bn]? = some (.cells #[.int .i64 n] 3 (0,0))) (eg:∀args w,(callFunc g args).run Tryz.prog w = .ok (.enter g args) w)
  (hf:∀W,Below w.heap.size w W→∀x,Calls Tryz.prog g (#[.int .i64 x]++lb) W fun e w'=>e = .returned (.bool (P x))∧Below W.heap.size W w') :
  Calls Tryz.prog 269 #[.func (.func g) #[] lb,.slice (some ⟨bl,0,none⟩) 1 1] w fun e w'=>e = .returned (.bool (P n))∧Below w.heap.size w w':=by
 obtain⟨W1,hW1⟩:∃W1,w.alloc (.cells #[.func (.func g) #[] lb] 139)=W1:=⟨_,rfl⟩
 have hB1:Below w.heap.size w W1:=by subst hW1;exact Xe (Below.refl _ _) _
 have hbo:FnBox W1 w.heap.size 139 g lb:=by subst hW1;exact World.alloc_heap_new _ _
 have c0:=Xj (Xh hB1 hbl)
 have hr:Rd W1 (some ⟨bn,0,none⟩) ([n].map (.int .i64)):=Yw (Xh hB1 hbn) rfl
 have hmf:∀(fn:Fn) (first cap:Array Value) (w:World),(Instr.makeFunc fn first cap).run Tryz.prog w = .ok (.func fn first cap) w:=fun _ _ _ _=>rfl
 have cC:=Xa (Tu 295 #[.pointer (some ⟨w.heap.size,0,none⟩)] (fun x => !P x) (some ⟨bn,0,none⟩) 1 [n] W1 ⟨enters_of Tryz.func295 (by kernel_rfl) rfl,
  fun x W hW=>Xn7 w.heap.size g lb P x W (hbo.ext hW) eg fun V hV=>hf V (Xb hB1 (Xb hW hV)) x⟩ hr (by simp))
 have HA:Hid (([n].any fun x => !P x) = !P n):=by show _=_;simp
 have HW1:=Xa hW1
 clear hf hr hbl hbn hW1 hbo
 go_enter Tryz.func269,Tryz.ntmps269
 go_wp2_with fail
 rw[HW1.out]
 clear HW1
 go_loopw [9] (fun i wr=>(i = .int .i64 0∧wr=W1)∨(i = .int .i64 1∧Below w.heap.size w wr∧Hid (P n=true))) (fun i _=>1-(intOf i).toNat)
 case atStart=>exact .inl ⟨rfl,rfl⟩
 case round =>
  rcases hrel with ⟨rfl,rfl⟩|⟨rfl,hB,HR⟩
  ·go_wp2_with fail
   refine cC.out.mono ?_
   rintro e w1 ⟨rfl,hb1⟩
   rw[HA.out]
   have hB2:=Xb hB1 hb1
   clear cC hb1 hB1 c0
   cases hP:P n
   ·go_wp2_with fail
    go_ret
    exact⟨by rw[hP];rfl,hB2⟩
   ·have HR:=Xa hP
    clear hP
    go_wp2_with fail
    go_roundw
    case rel=>exact .inr ⟨rfl,hB2,HR⟩
    case measure=>simp[intOf]
  ·clear c0 cC
   go_wp2_with fail
   go_ret
   exact⟨by rw[HR.out];rfl,hB⟩
theorem Xpm (a b n:Int) (bn:Nat) (w:World) (hbn:w.heap[bn]? = some (.cells #[.int .i64 n] 3 (0,0))) :
  Calls Tryz.prog 230 #[.int .i64 a,.int .i64 b,.slice (some ⟨bn,0,none⟩) 1 1] w fun e w'=>e = .returned (.bool (decide (a≤n) && decide (n≤b)))∧Below w.heap.size w w':=by
 obtain⟨W1,hW1⟩:∃W1,w.alloc (.cells #[.int .i64 a] 3)=W1:=⟨_,rfl⟩
 obtain⟨W2,hW2⟩:∃W2,W1.alloc (.cells #[.int .i64 b] 3)=W2:=⟨_,rfl⟩
 obtain⟨W3,hW3⟩:∃W3,W2.alloc (.cells #[.slice (some ⟨bn,0,none⟩) 1 1] 49)=W3:=⟨_,rfl⟩
 have hB1:Below w.heap.size w W1:=by subst hW1;exact Xe (Below.refl _ _) _
 have hB2:Below W1.heap.size W1 W2:=by subst hW2;exact Xe (Below.refl _ _) _
 have hB3:Below W2.heap.size W2 W3:=by subst hW3;exact Xe (Below.refl _ _) _
 have k1:W1.heap[w.heap.size]? = some (.cells #[.int .i64 a] 3 (0,0)):=by subst hW1;exact World.alloc_heap_new _ _
 have k2:W2.heap[W1.heap.size]? = some (.cells #[.int .i64 b] 3 (0,0)):=by subst hW2;exact World.alloc_heap_new _ _
 have k3:W3.heap[W2.heap.size]? = some (.cells #[.slice (some ⟨bn,0,none⟩) 1 1] 49 (0,0)):=by subst hW3;exact World.alloc_heap_new _ _
 have z1:W1.heap.size=w.heap.size+1:=by subst hW1;simp
 have z2:W2.heap.size=w.heap.size+2:=by subst hW2;simp[z1]
 have k1':=((Xb hB2 hB3).block _ (Xc k1)).trans k1
 have k2':=Xh hB3 k2
 have kn:=((Xb (Xb hB1 hB2) hB3).block _ (Xc hbn)).trans hbn
 have cA:=Xa (Xpg W2.heap.size bn n 270 #[.pointer (some ⟨w.heap.size,0,none⟩),.pointer (some ⟨W1.heap.size,0,none⟩)] (fun x=>decide (a≤x) && decide (x≤b)) W3 k3 kn (enters_of Tryz.func270 (by kernel_rfl) rfl)
  (fun W hW x=>Xm1 _ _ a b x W (Xh hW k1') (Xh hW k2')))
 rw[z2,z1] at cA
 have hB:=Xb (Xb hB1 hB2) hB3
 have hmf:∀(fn:Fn) (first cap:Array Value) (w:World),(Instr.makeFunc fn first cap).run Tryz.prog w = .ok (.func fn first cap) w:=fun _ _ _ _=>rfl
 have HW:Hid (((w.alloc (.cells #[.int .i64 a] 3)).alloc (.cells #[.int .i64 b] 3)).alloc (.cells #[.slice (some ⟨bn,0,none⟩) 1 1] 49)=W3):=by show _=_;rw[hW1,hW2,hW3]
 clear k1 k2 k3 k1' k2' kn hW1 hW2 hW3 hB1 hB2 hB3 z1 z2 hbn
 go_enter Tryz.func230,Tryz.ntmps230
 go_wp2_with fail
 rw[HW.out]
 refine cA.out.mono ?_
 rintro e w1 ⟨rfl,hb1⟩
 go_wp2_with fail
 go_ret
 exact⟨rfl,Xb hB hb1⟩
theorem ItemG.size_cells (x:ItemG):x.cells.length=6:=rfl
structure ItemsAt (w:World) (its:SlS ItemG):Prop where
 lies:its.lies ItemG.cells w
 tgt:∀x∈its.xs,x.tgt.lies w
theorem ItemsAt.ext {w w':World} {its:SlS ItemG} (h:ItemsAt w its) (hb:Below w.heap.size w w'):ItemsAt w' its:=⟨h.lies.ext hb,fun x hx=>StrS.lies.ext (h.tgt x hx) hb⟩
def Vt (i:Int) (s:ByteArray) (x:ItemG):Bool:=decide (x.cat = -1) && decide (x.frm=i) && (match x.tgt.xs with|y :: _=>decide (y=s)|[]=>false)
theorem Xl5 (items:List ItemG) (i:Int) (s:ByteArray):Xm items i s=items.any (Vt i s):=rfl
set_option maxHeartbeats 2000000 in
theorem Xrs (its:SlS ItemG) (i:Int) (s:ByteArray) (w:World) (hI:ItemsAt w its) (h1:∀x∈its.xs,1≤x.tgt.xs.length):Calls Tryz.prog 123 #[.slice its.addr its.xs.length its.cap,.int .i64 i,.string s] w fun e w'=>e = .returned (.bool (Xm its.xs i s))∧w=w':=by
 have HI:=Xa hI
 have H1:=Xa h1
 have hm:its.xs.length≤9223372036854775807:=Nat.le_trans hI.lies.cap hI.lies.max
 clear hI h1
 rw[Xl5]
 go_enter Tryz.func123,Tryz.ntmps123
 go_wp2_with fail
 go_loopw [7] (fun j wr=>∃k:Nat,k≤its.xs.length∧j = .int .i64 k∧wr=w∧Hid ((its.xs.take k).any (Vt i s)=false)) (fun j _=>its.xs.length-(intOf j).toNat)
 case atStart=>exact⟨0,Nat.zero_le _,rfl,rfl,rfl⟩
 case round =>
  obtain⟨k,hk,rfl,rfl,HR⟩:=hrel
  by_cases hlt:k<its.xs.length
  ·obtain⟨b,off,hA,hb,hc⟩:=HI.out.lies.at_ ItemG.size_cells (by omega) hlt
   have hmem:=List.getElem_mem hlt
   have d0:wr.cell? ⟨b,off+k*6,none⟩=some (.int .i64 its.xs[k].cat):=hc k hlt wr (Below.refl _ _) 0 _ rfl
   have d1:wr.cell? ⟨b,off+k*6+1,none⟩=some (.int .i64 its.xs[k].frm):=hc k hlt wr (Below.refl _ _) 1 _ rfl
   have d4:wr.cell? ⟨b,off+k*6+4,none⟩=some (.slice its.xs[k].tgt.addr its.xs[k].tgt.xs.length its.xs[k].tgt.cap):=hc k hlt wr (Below.refl _ _) 4 _ rfl
   have ht:=HI.out.tgt _ hmem
   have hl:=H1.out _ hmem
   have htk:(its.xs.take (k+1)).any (Vt i s)=((its.xs.take k).any (Vt i s) || Vt i s its.xs[k]):=Tr hlt
   have HT:Hid (Vt i s its.xs[k]=false→(its.xs.take (k+1)).any (Vt i s)=false):=fun h=>by rw[htk,HR.out,h];rfl
   have HF:Hid (Vt i s its.xs[k]=true→its.xs.any (Vt i s)=true):=fun h=>List.any_eq_true.2 ⟨_,hmem,h⟩
   rw[hA]
   clear hc hA htk hmem HR
   generalize its.xs[k]=y at *
   by_cases hc1:y.cat = -1
   ·have g1:(y.cat == -1)=true:=by simp[hc1]
    by_cases hc2:y.frm=i
    ·have g2:(y.frm == i)=true:=by simp[hc2]
     obtain⟨b',off',hA',_,hc'⟩:=StrS.at_ ht (k:=0) (by omega)
     have e0:wr.cell? ⟨b',off',none⟩=some (.string y.tgt.xs[0]):=by simpa using hc' 0 (by omega)
     rw[hA'] at d4
     have hst:Vt i s y=decide (y.tgt.xs[0]=s):=by
      unfold Vt
      rw[decide_eq_true hc1,decide_eq_true hc2]
      split
      ·rename_i a l hx;simp[hx]
      ·rename_i hx;rw[hx] at hl;simp at hl
     have q1:=Tl y.tgt.xs[0] s
     have hmn:0<y.tgt.xs.length:=by omega
     rw[hst] at HT HF
     generalize decide (y.tgt.xs[0]=s)=f at *
     generalize hyy:y.tgt.xs[0]=z at *
     clear hst hc1 hc2 ht hc' hA' hyy
     cases f
     ·have HT2:=Xa (HT.out rfl)
      clear HT HF
      go_wp2_with fail
      go_roundw
      case rel=>exact⟨k+1,by omega,by go_num,by first|rfl|trivial,HT2⟩
      case measure=>simp[intOf];omega
     ·have HF2:=Xa (HF.out rfl)
      clear HT HF
      go_wp2_with fail
      go_ret
      exact⟨by rw[HF2.out];rfl,rfl⟩
    ·have g2:(y.frm == i)=false:=by simpa using hc2
     have HT2:=Xa (HT.out (by unfold Vt;rw[decide_eq_false hc2];simp))
     clear HT HF hc1 hc2
     go_wp2_with fail
     go_roundw
     case rel=>exact⟨k+1,by omega,by go_num,by first|rfl|trivial,HT2⟩
     case measure=>simp[intOf];omega
   ·have g1:(y.cat == -1)=false:=by simpa using hc1
    have HT2:=Xa (HT.out (by unfold Vt;rw[decide_eq_false hc1];simp))
    clear HT HF hc1
    go_wp2_with fail
    go_roundw
    case rel=>exact⟨k+1,by omega,by go_num,by first|rfl|trivial,HT2⟩
    case measure=>simp[intOf];omega
  ·have HF:Hid (its.xs.any (Vt i s)=false):=by
    have h:=HR.out
    rw[List.take_of_length_le (by omega)] at h
    exact h
   clear HR
   go_wp2_with fail
   go_ret
   exact⟨by rw[HF.out];rfl,rfl⟩
def tflat (l:List Term):List Value:=l.flatMap Term.cells
structure TermsAt (w:World) (A:Option Addr) (l:List Term):Prop where
 rd:Rd w A (tflat l)
 lie:∀x∈l,x.lies w
theorem TermsAt.ext {w w':World} {A:Option Addr} {l:List Term} (h:TermsAt w A l) (hb:Below w.heap.size w w'):TermsAt w' A l:=⟨h.rd.ext hb,fun x hx=>(h.lie x hx).ext hb⟩
theorem TermsAt.nil (w:World) (A:Option Addr):TermsAt w A []:=⟨Rd.nil _ _,fun x hx=>by cases hx⟩
theorem TermsAt.at_ {w:World} {A:Option Addr} {l:List Term} (h:TermsAt w A l) {k:Nat} (hk:k<l.length):∃b off,A=some ⟨b,off,none⟩∧b<w.heap.size ∧
  (∀(i:Nat) (hi:i<l.length) (W:World),Below w.heap.size w W→W.cell? ⟨b,off+i*8,none⟩=some (.int .i64 l[i].no)∧W.cell? ⟨b,off+i*8+1,none⟩=some (.int .i64 l[i].at_)∧W.cell? ⟨b,off+i*8+2,none⟩=some (.int .i64 l[i].known)∧W.cell? ⟨b,off+i*8+3,none⟩=some (.int .i64 l[i].lang) ∧
   W.cell? ⟨b,off+i*8+4,none⟩=some (.slice l[i].src.addr l[i].src.xs.length l[i].src.cap)∧W.cell? ⟨b,off+i*8+5,none⟩=some (.slice l[i].tgt.addr l[i].tgt.xs.length l[i].tgt.cap)∧W.cell? ⟨b,off+i*8+6,none⟩=some (.string l[i].cat)∧W.cell? ⟨b,off+i*8+7,none⟩=some (.bool l[i].gone)):=by
 obtain⟨b,off,he,hb,_⟩:=h.rd.elem Term.size_cells (by omega) hk
 refine⟨b,off,he,hb,fun i hi W hW=>?_⟩
 obtain⟨b',off',he',_,hc⟩:=h.rd.elem Term.size_cells (by omega) hi
 rw[he] at he'
 cases he'
 have c0:=(hW.cell (p:=⟨b,off+i*8+0,none⟩) hb).trans (hc 0 _ rfl)
 simp only[Nat.add_zero] at c0
 exact⟨c0,(hW.cell (p:=⟨b,off+i*8+1,none⟩) hb).trans (hc 1 _ rfl),(hW.cell (p:=⟨b,off+i*8+2,none⟩) hb).trans (hc 2 _ rfl),(hW.cell (p:=⟨b,off+i*8+3,none⟩) hb).trans (hc 3 _ rfl),(hW.cell (p:=⟨b,off+i*8+4,none⟩) hb).trans (hc 4 _ rfl),(hW.cell (p:=⟨b,off+i*8+5,none⟩) hb).trans (hc 5 _ rfl),(hW.cell (p:=⟨b,off+i*8+6,none⟩) hb).trans (hc 6 _ rfl),(hW.cell (p:=⟨b,off+i*8+7,none⟩) hb).trans (hc 7 _ rfl)⟩
end Go.Proofs.YtolpbjjapodmnaaGreatDoor
/- Rows of cells: copy, append of zero values, clear, at elements of any number of cells. No program in sight. -/
namespace Go.Han
open Go.RowKit
def Row (w:World) (g t:Nat) (cur:List Value):Prop:=w.heap[g]? = some (.cells cur.toArray t (0,0))
theorem Row.lt {w:World} {g t:Nat} {cur:List Value} (h:Row w g t cur):g<w.heap.size:=Xc h
theorem Row.cell {w:World} {g t:Nat} {cur:List Value} (h:Row w g t cur) (j:Nat):w.cell? ⟨g,j,none⟩=cur[j]? := by
 unfold Row at h
 simp[World.cell?,h]
theorem Row.frozen {w:World} {g t:Nat} {cur:List Value} (h:Row w g t cur) (j:Nat):w.frozen? ⟨g,j,none⟩=false:=by
 unfold Row at h
 simp[World.frozen?,h]
theorem Row.ext {w w':World} {g t:Nat} {cur:List Value} (h:Row w g t cur) (hb:Below w.heap.size w w'):Row w' g t cur:=(hb.block g h.lt).trans h
theorem Row.far {w w':World} {g t:Nat} {cur:List Value} (h:Row w g t cur) {row:Option Nat} (hg:w.grownBy w' row) (hne:some g≠row):Row w' g t cur:=(hg.block g h.lt hne).trans h
theorem Row.drew {w:World} {g t:Nat} {cur:List Value} (h:Row w g t cur):Row w.drew g t cur:=h
theorem Row.rd {w:World} {g t:Nat} {cur:List Value} (h:Row w g t cur) (off:Nat) {xs:List Value} (hx:∀(j:Nat) (u:Value),xs[j]? = some u→cur[off+j]? = some u):Rd w (some ⟨g,off,none⟩) xs :=
 .inr ⟨g,off,rfl,h.lt,fun j u hu=>(h.cell _).trans (hx j u hu)⟩
section
variable {P:Program} (w:World)
end
end Go.Han
/- The type Term: its sizes. -/
namespace Go.Proofs.YtolpbjjapodmnaaGreatDoor
open Go.RowKit Go.Han
end Go.Proofs.YtolpbjjapodmnaaGreatDoor
namespace Go.Proofs.YtolpbjjapodmnaaGreatDoor
open Go.RowKit Go.Han
attribute [local irreducible] wpStill wpQuiet
set_option maxRecDepth 100000
/-! ### plain -/
end Go.Proofs.YtolpbjjapodmnaaGreatDoor
