/- Texts of this claim, one after the other: R26c, R26d, R26e, GrmI, GrmK, Step, Queue. -/
import Derived.Test.YtolpbjjapodmnaaGreatDoorM4
import Derived.Test.YtolpbjjapodmnaaGreatDoorM2
import Derived.Test.YtolpbjjapodmnaaGreatDoorM3
import Derived.Deep.RegionLaw
import Derived.Deep.DrawnRows
import Derived.Deep.Upon
import Derived.Maps.AppendAt
import Derived.Deep.AppendLies
namespace Go.Proofs.YtolpbjjapodmnaaGreatDoor
open Go.RowKit Go.Han
attribute [local irreducible] wpStill wpQuiet
set_option maxRecDepth 100000
set_option maxHeartbeats 1000000 in
theorem Xiw (x:RuleG) (n:Nat) (w:World) (hx:x.lies w):Calls Tryz.prog 290 #[.agg #[.string x.cat,.int .i64 x.no,.slice x.parts.addr x.parts.xs.length x.parts.cap,.slice x.gives.addr x.gives.xs.length x.gives.cap,.int .i64 x.cost],.int .i64 (n:Int)] w fun e w'=>e = .returned (.int .i64 (Ya x.gives.xs n:Nat))∧Below w.heap.size w w':=by
 obtain⟨W1,hW1⟩:∃W1,w.alloc (.cells #[.string x.cat,.int .i64 x.no,.slice x.parts.addr x.parts.xs.length x.parts.cap,.slice x.gives.addr x.gives.xs.length x.gives.cap,.int .i64 x.cost] 79)=W1:=⟨_,rfl⟩
 have hB1:Below w.heap.size w W1:=by subst hW1;exact Xe (Below.refl _ _) _
 have hk:W1.heap[w.heap.size]? = some (.cells #[.string x.cat,.int .i64 x.no,.slice x.parts.addr x.parts.xs.length x.parts.cap,.slice x.gives.addr x.gives.xs.length x.gives.cap,.int .i64 x.cost] 79 (0,0)):=by subst hW1;exact World.alloc_heap_new _ _
 have HX:=Xa (hx.ext hB1)
 have hm:x.gives.xs.length≤9223372036854775807:=Nat.le_trans hx.2.cap hx.2.max
 have a3:W1.cell? ⟨w.heap.size,3,none⟩=some (.slice x.gives.addr x.gives.xs.length x.gives.cap):=gblk hk 3
 have HW1:=Xa hW1
 have HB1:=Xa hB1
 clear hx hk hW1 hB1
 go_enter Tryz.func290,Tryz.ntmps290
 go_wp2_with fail
 rw[HW1.out]
 clear HW1
 go_loopw [5,6] (fun m i wr=>∃k:Nat,k≤x.gives.xs.length∧i = .int .i64 k∧m = .int .i64 (Ya (x.gives.xs.take k) n:Nat)∧wr=W1) (fun _ i _=>x.gives.xs.length-(intOf i).toNat)
 case atStart=>exact⟨0,Nat.zero_le _,rfl,rfl,rfl⟩
 case round =>
  obtain⟨k,hk,rfl,rfl,rfl⟩:=hrel
  by_cases hlt:k<x.gives.xs.length
  ·obtain⟨b,off,hA,hb,hc⟩:=HX.out.2.at_ GiveG.size_cells (by omega) hlt
   have d0:wr.cell? ⟨b,off+k*2,none⟩=some (.int .i64 x.gives.xs[k].part):=hc k hlt wr (Below.refl _ _) 0 _ rfl
   have d1:wr.cell? ⟨b,off+k*2+1,none⟩=some (.string x.gives.xs[k].text):=hc k hlt wr (Below.refl _ _) 1 _ rfl
   rw[hA] at a3 ⊢
   have htk:x.gives.xs.take (k+1)=x.gives.xs.take k++[x.gives.xs[k]]:=List.take_succ_eq_append_getElem hlt
   have Htk:=Xa (htk ▸ Xbm (x.gives.xs.take k) x.gives.xs[k] n:Ya (x.gives.xs.take (k+1)) n=_)
   have hle:Ya (x.gives.xs.take k) n<9223372036854775807:=by have h1:=Xe8 (x.gives.xs.take k) n;have h2:=List.length_take_le k x.gives.xs;omega
   clear hc htk hA HX
   generalize x.gives.xs[k]=y at *
   generalize Ya (x.gives.xs.take k) n=c at *
   by_cases ht:y.text.size=0
   ·have n0:=Zq (s:=y.text) (by omega)
    by_cases hp:y.part=(n:Int)
    ·have g1:(y.part == (n:Int))=true:=by simp[hp]
     have HR:Hid (Ya (x.gives.xs.take (k+1)) n=c+1):=by show _=_;rw[Htk.out,if_pos ⟨ht,hp⟩]
     have w1:IntKind.i64.wrap ((c:Int)+1)=(c:Int)+1:=IntWalk.i64_in _ (by omega)
     clear Htk ht hp
     go_wp2_with fail
     go_roundw
     case rel=>exact⟨k+1,by omega,by go_num,by rw[HR.out];go_num,by first|rfl|trivial⟩
     case measure=>simp[intOf];omega
    ·have g1:(y.part == (n:Int))=false:=by simpa using hp
     have HR:Hid (Ya (x.gives.xs.take (k+1)) n=c):=by show _=_;rw[Htk.out,if_neg (fun h=>hp h.2)];rfl
     clear Htk ht hp
     go_wp2_with fail
     go_roundw
     case rel=>exact⟨k+1,by omega,by go_num,by rw[HR.out],by first|rfl|trivial⟩
     case measure=>simp[intOf];omega
   ·have n0:=Zp (s:=y.text) (by omega)
    have HR:Hid (Ya (x.gives.xs.take (k+1)) n=c):=by show _=_;rw[Htk.out,if_neg (fun h=>ht h.1)];rfl
    clear Htk ht
    go_wp2_with fail
    go_roundw
    case rel=>exact⟨k+1,by omega,by go_num,by rw[HR.out],by first|rfl|trivial⟩
    case measure=>simp[intOf];omega
  ·obtain rfl:k=x.gives.xs.length:=by omega
   have HR:Hid (Ya (x.gives.xs.take x.gives.xs.length) n=Ya x.gives.xs n):=by show _=_;rw[List.take_length]
   go_wp2_with fail
   go_ret
   exact⟨by first|rfl|(rw[HR.out];rfl),HB1.out⟩
def Uo (x:RuleG):Bool:=match x.parts.xs with|[p]=>decide (p.text.size=0)|_=>false
theorem Xij (x:RuleG) (w:World) (hx:x.lies w):Calls Tryz.prog 262 #[.agg #[.string x.cat,.int .i64 x.no,.slice x.parts.addr x.parts.xs.length x.parts.cap,.slice x.gives.addr x.gives.xs.length x.gives.cap,.int .i64 x.cost]] w fun e w'=>e = .returned (.bool (Uo x))∧Below w.heap.size w w':=by
 obtain⟨W1,hW1⟩:∃W1,w.alloc (.cells #[.string x.cat,.int .i64 x.no,.slice x.parts.addr x.parts.xs.length x.parts.cap,.slice x.gives.addr x.gives.xs.length x.gives.cap,.int .i64 x.cost] 79)=W1:=⟨_,rfl⟩
 have hB1:Below w.heap.size w W1:=by subst hW1;exact Xe (Below.refl _ _) _
 have hk:W1.heap[w.heap.size]? = some (.cells #[.string x.cat,.int .i64 x.no,.slice x.parts.addr x.parts.xs.length x.parts.cap,.slice x.gives.addr x.gives.xs.length x.gives.cap,.int .i64 x.cost] 79 (0,0)):=by subst hW1;exact World.alloc_heap_new _ _
 have a2:W1.cell? ⟨w.heap.size,2,none⟩=some (.slice x.parts.addr x.parts.xs.length x.parts.cap):=gblk hk 2
 have hat:=(hx.ext hB1).1
 by_cases hl:x.parts.xs.length=1
 ·obtain⟨p,hp⟩:=List.length_eq_one_iff.1 hl
  obtain⟨b,off,hA,hb,hc⟩:=hat.at_ PartG.size_cells (by omega) (k:=0) (by omega)
  have d2:=hc 0 (by omega) W1 (Below.refl _ _) 2 _ rfl
  have h0:x.parts.xs[0]'(by omega)=p:=by simp[hp]
  rw[h0] at d2
  rw[hA,hl] at a2
  have HE:Hid (Uo x=decide (p.text.size=0)):=by show _=_;unfold Uo;rw[hp]
  have d2:W1.cell? ⟨b,off+2,none⟩=some (.string p.text):=by simpa using d2
  clear hc hx hk hat hA hl h0 hp
  by_cases ht:p.text.size=0
  ·have n0:=Zq (s:=p.text) (by omega)
   have HE2:Hid (Uo x=true):=by show _=_;rw[HE.out,decide_eq_true ht]
   clear HE ht
   go_enter Tryz.func262,Tryz.ntmps262
   go_wp2_with fail
   go_ret
   exact⟨by rw[HE2.out];rfl,hB1⟩
  ·have n0:=Zp (s:=p.text) (by omega)
   have HE2:Hid (Uo x=false):=by show _=_;rw[HE.out,decide_eq_false ht]
   clear HE ht
   go_enter Tryz.func262,Tryz.ntmps262
   go_wp2_with fail
   go_ret
   exact⟨by rw[HE2.out];rfl,hB1⟩
 ·have HE:Hid (Uo x=false):=by
   show _=_
   unfold Uo
   split
   ·rename_i h;rw[h] at hl;simp at hl
   ·rfl
  have g1:((x.parts.xs.length:Int) == 1)=false:=by simp;omega
  clear hat hk hx hl
  go_enter Tryz.func262,Tryz.ntmps262
  go_wp2_with fail
  go_ret
  exact⟨by rw[HE.out];rfl,hB1⟩
set_option maxHeartbeats 1000000 in
theorem Xhu (g:Gram) (x:EntryG) (w:World) (hg:g.cats.lies w) (hx:x.lies w):Calls Tryz.prog 260 #[.agg #[.string g.name,.slice g.cats.addr g.cats.xs.length g.cats.cap,.string g.start,.int .i64 g.startNo,.slice g.entries.addr g.entries.xs.length g.entries.cap,.slice g.rules.addr g.rules.xs.length g.rules.cap],.agg #[.string x.text,.string x.cat,.int .i64 x.no,.slice x.gives.addr x.gives.xs.length x.gives.cap,.int .i64 x.cost]] w fun e w'=>e = .returned (.bool (Yt g.cats.xs x))∧Below w.heap.size w w':=by
 obtain⟨W1,hW1⟩:∃W1,(w.alloc (.cells #[.string g.name,.slice g.cats.addr g.cats.xs.length g.cats.cap,.string g.start,.int .i64 g.startNo,.slice g.entries.addr g.entries.xs.length g.entries.cap,.slice g.rules.addr g.rules.xs.length g.rules.cap] 26)).alloc (.cells #[.string x.text,.string x.cat,.int .i64 x.no,.slice x.gives.addr x.gives.xs.length x.gives.cap,.int .i64 x.cost] 60)=W1:=⟨_,rfl⟩
 have hB1:Below w.heap.size w W1:=by subst hW1;exact Xe (Xe (Below.refl _ _) _) _
 have hk:W1.heap[w.heap.size]? = some (.cells #[.string g.name,.slice g.cats.addr g.cats.xs.length g.cats.cap,.string g.start,.int .i64 g.startNo,.slice g.entries.addr g.entries.xs.length g.entries.cap,.slice g.rules.addr g.rules.xs.length g.rules.cap] 26 (0,0)):=by subst hW1;exact(Below.heap_alloc _ _ _ (by simp)).trans (World.alloc_heap_new _ _)
 have hk2:W1.heap[w.heap.size+1]? = some (.cells #[.string x.text,.string x.cat,.int .i64 x.no,.slice x.gives.addr x.gives.xs.length x.gives.cap,.int .i64 x.cost] 60 (0,0)):=by subst hW1;have:=World.alloc_heap_new (w.alloc (.cells #[.string g.name,.slice g.cats.addr g.cats.xs.length g.cats.cap,.string g.start,.int .i64 g.startNo,.slice g.entries.addr g.entries.xs.length g.entries.cap,.slice g.rules.addr g.rules.xs.length g.rules.cap] 26)) (.cells #[.string x.text,.string x.cat,.int .i64 x.no,.slice x.gives.addr x.gives.xs.length x.gives.cap,.int .i64 x.cost] 60);rwa [World.size_alloc] at this
 have HX:=Xa (StrS.lies.ext hx hB1)
 have hm:x.gives.xs.length≤9223372036854775807:=Nat.le_trans (StrS.lies.cap hx) (StrS.lies.max hx)
 have cF:=Xa (V0 x.text W1)
 have cC:=Xa (T9 g x.cat W1 (hg.ext hB1))
 have cD:=Xa (fun W=>Xe0 x.cost W)
 have HE:Hid (Yt g.cats.xs x=(Xw x.text && catB g.cats.xs x.cat && (decide (1≤x.gives.xs.length) && decide (x.gives.xs.length≤4)) && x.gives.xs.all Xw && Vn x.cost)):=rfl
 have HW1:=Xa hW1
 generalize Xw x.text=f1 at *
 generalize catB g.cats.xs x.cat=f2 at *
 generalize Vn x.cost=f5 at *
 obtain⟨b0,b1,b2,b3,b4⟩:=gb5 hk2
 have hg0:=hk
 obtain⟨c0,c1,c2,c3,c4,c5⟩:=gb6 hk
 clear hg hx hk hg0 hW1
 go_enter Tryz.func260,Tryz.ntmps260
 go_wp2_with fail
 rw[HW1.out]
 clear HW1
 refine cF.out.mono ?_
 rintro e w2 ⟨rfl,rfl⟩
 cases f1
 ·go_wp2_with fail
  go_ret
  exact⟨by rw[HE.out];rfl,hB1⟩
 go_wp2_with fail
 refine cC.out.mono ?_
 rintro e w2 ⟨rfl,hb2⟩
 have hB2:=Xb hB1 hb2
 cases f2
 ·go_wp2_with fail
  go_ret
  exact⟨by rw[HE.out];rfl,hB2⟩
 have hk3:=Xh hb2 hk2
 have HX2:=Xa (StrS.lies.ext HX.out hb2)
 obtain⟨d0,d1,d2,d3,d4⟩:=gb5 hk3
 clear b0 b1 b2 b3 b4 c0 c1 c2 c3 c4 c5 HX hk2 hk3 cF cC
 by_cases hl:1≤x.gives.xs.length∧x.gives.xs.length≤4
 ·have HE2:Hid (Yt g.cats.xs x=(x.gives.xs.all Xw && f5)):=by show _=_;rw[HE.out,decide_eq_true hl.1,decide_eq_true hl.2];rfl
  have l1:=hl.1
  have l2:=hl.2
  have g1:¬((x.gives.xs.length:Int)<1):=by omega
  have g2:¬((4:Int)<(x.gives.xs.length:Int)):=by omega
  clear hl HE
  go_wp2_with fail
  refine(cD.out w2).mono ?_
  rintro e w' ⟨rfl,rfl⟩
  cases f5
  ·go_wp2_with fail
   go_ret
   exact⟨by rw[HE2.out];simp,hB2⟩
  go_wp2_with fail
  go_loopw [5] (fun i wr=>∃k:Nat,k≤x.gives.xs.length∧i = .int .i64 k∧wr=w2∧Hid ((x.gives.xs.take k).all Xw=true)) (fun i _=>x.gives.xs.length-(intOf i).toNat)
  case atStart=>exact⟨0,Nat.zero_le _,rfl,rfl,rfl⟩
  case round =>
   obtain⟨k,hk,rfl,rfl,HR⟩:=hrel
   by_cases hlt:k<x.gives.xs.length
   ·obtain⟨b,off,hA,hb,hc⟩:=StrS.at_ HX2.out (k:=k) hlt
    have e0:wr.cell? ⟨b,off+k,none⟩=some (.string x.gives.xs[k]):=hc k hlt
    rw[hA] at d3 ⊢
    have htk:x.gives.xs.take (k+1)=x.gives.xs.take k++[x.gives.xs[k]]:=List.take_succ_eq_append_getElem hlt
    have hmem:=List.getElem_mem hlt
    have HT:Hid (Xw x.gives.xs[k]=true→(x.gives.xs.take (k+1)).all Xw=true):=by intro h;rw[htk,List.all_append,HR.out];simp[h]
    have HF:Hid (Xw x.gives.xs[k]=false→x.gives.xs.all Xw=false):=by intro h;rw[List.all_eq_false];exact⟨_,hmem,by simp[h]⟩
    have cG:=Xa (V0 x.gives.xs[k] wr)
    clear hc htk hA HX2 HR hmem
    generalize x.gives.xs[k]=y at *
    generalize Xw y=f at *
    go_wp2_with fail
    refine cG.out.mono ?_
    rintro e w' ⟨rfl,rfl⟩
    cases f
    ·have HF2:=Xa (HF.out rfl)
     clear HF HT
     go_wp2_with fail
     go_ret
     exact⟨by rw[HE2.out,HF2.out];rfl,hB2⟩
    ·have HT2:=Xa (HT.out rfl)
     clear HF HT
     go_wp2_with fail
     go_roundw
     case rel=>exact⟨k+1,by omega,by go_num,by first|rfl|trivial,HT2⟩
     case measure=>simp[intOf];omega
   ·have HF:Hid (x.gives.xs.all Xw=true):=by
     have h:=HR.out
     rw[List.take_of_length_le (by omega)] at h
     exact h
    clear HR
    go_wp2_with fail
    go_ret
    exact⟨by rw[HE2.out,HF.out];rfl,hB2⟩
 ·have HE2:Hid (Yt g.cats.xs x=false):=by
   show _=_
   rw[HE.out]
   by_cases h1:1≤x.gives.xs.length
   ·have h2:¬x.gives.xs.length≤4:=fun h=>hl ⟨h1,h⟩
    rw[decide_eq_false h2];simp
   ·rw[decide_eq_false h1];simp
  clear HE
  by_cases h1:1≤x.gives.xs.length
  ·have g1:¬((x.gives.xs.length:Int)<1):=by omega
   have g2:(4:Int)<(x.gives.xs.length:Int):=by omega
   clear hl
   go_wp2_with fail
   go_ret
   exact⟨by rw[HE2.out];rfl,hB2⟩
  ·have g1:(x.gives.xs.length:Int)<1:=by omega
   clear hl
   go_wp2_with fail
   go_ret
   exact⟨by rw[HE2.out];rfl,hB2⟩
def headR (cats:List ByteArray) (x:RuleG):Bool:=catB cats x.cat && (decide (1≤x.parts.xs.length) && decide (x.parts.xs.length≤4)) && (decide (1≤x.gives.xs.length) && decide (x.gives.xs.length≤8)) && Vn x.cost
theorem Xjs (cats:List ByteArray) (x:RuleG):Yh cats x=(headR cats x && x.parts.xs.all (Yj cats) && x.gives.xs.all (Zs x.parts.xs) && Tn x.gives.xs 0 x.parts.xs):=rfl
set_option maxHeartbeats 4000000 in
theorem Xjr (g:Gram) (x:RuleG) (w:World) (hg:g.cats.lies w) (hx:x.lies w):Calls Tryz.prog 261 #[.agg #[.string g.name,.slice g.cats.addr g.cats.xs.length g.cats.cap,.string g.start,.int .i64 g.startNo,.slice g.entries.addr g.entries.xs.length g.entries.cap,.slice g.rules.addr g.rules.xs.length g.rules.cap],.agg #[.string x.cat,.int .i64 x.no,.slice x.parts.addr x.parts.xs.length x.parts.cap,.slice x.gives.addr x.gives.xs.length x.gives.cap,.int .i64 x.cost]] w fun e w'=>e = .returned (.bool (Yh g.cats.xs x))∧Below w.heap.size w w':=by
 obtain⟨W1,hW1⟩:∃W1,(w.alloc (.cells #[.string g.name,.slice g.cats.addr g.cats.xs.length g.cats.cap,.string g.start,.int .i64 g.startNo,.slice g.entries.addr g.entries.xs.length g.entries.cap,.slice g.rules.addr g.rules.xs.length g.rules.cap] 26)).alloc (.cells #[.string x.cat,.int .i64 x.no,.slice x.parts.addr x.parts.xs.length x.parts.cap,.slice x.gives.addr x.gives.xs.length x.gives.cap,.int .i64 x.cost] 79)=W1:=⟨_,rfl⟩
 have hB1:Below w.heap.size w W1:=by subst hW1;exact Xe (Xe (Below.refl _ _) _) _
 have hk:W1.heap[w.heap.size]? = some (.cells #[.string g.name,.slice g.cats.addr g.cats.xs.length g.cats.cap,.string g.start,.int .i64 g.startNo,.slice g.entries.addr g.entries.xs.length g.entries.cap,.slice g.rules.addr g.rules.xs.length g.rules.cap] 26 (0,0)):=by subst hW1;exact(Below.heap_alloc _ _ _ (by simp)).trans (World.alloc_heap_new _ _)
 have hk2:W1.heap[w.heap.size+1]? = some (.cells #[.string x.cat,.int .i64 x.no,.slice x.parts.addr x.parts.xs.length x.parts.cap,.slice x.gives.addr x.gives.xs.length x.gives.cap,.int .i64 x.cost] 79 (0,0)):=by subst hW1;have:=World.alloc_heap_new (w.alloc (.cells #[.string g.name,.slice g.cats.addr g.cats.xs.length g.cats.cap,.string g.start,.int .i64 g.startNo,.slice g.entries.addr g.entries.xs.length g.entries.cap,.slice g.rules.addr g.rules.xs.length g.rules.cap] 26)) (.cells #[.string x.cat,.int .i64 x.no,.slice x.parts.addr x.parts.xs.length x.parts.cap,.slice x.gives.addr x.gives.xs.length x.gives.cap,.int .i64 x.cost] 79);rwa [World.size_alloc] at this
 have HG:=Xa (hg.ext hB1)
 have HX:=Xa (hx.ext hB1)
 have hm1:x.parts.xs.length≤9223372036854775807:=Nat.le_trans hx.1.cap hx.1.max
 have hm2:x.gives.xs.length≤9223372036854775807:=Nat.le_trans hx.2.cap hx.2.max
 have cC:=Xa (T9 g x.cat W1 HG.out)
 have cD:=Xa (fun W=>Xe0 x.cost W)
 have HR:=Xa (Xjs g.cats.xs x)
 have HE:Hid (headR g.cats.xs x=(catB g.cats.xs x.cat && (decide (1≤x.parts.xs.length) && decide (x.parts.xs.length≤4)) && (decide (1≤x.gives.xs.length) && decide (x.gives.xs.length≤8)) && Vn x.cost)):=rfl
 have HW1:=Xa hW1
 generalize catB g.cats.xs x.cat=f1 at *
 generalize Vn x.cost=f5 at *
 obtain⟨b0,b1,b2,b3,b4⟩:=gb5 hk2
 obtain⟨c0,c1,c2,c3,c4,c5⟩:=gb6 hk
 have Hk:=Xa hk
 have Hk2:=Xa hk2
 clear hg hx hk hk2 hW1
 go_enter Tryz.func261,Tryz.ntmps261
 go_wp2_with fail
 rw[HW1.out]
 clear HW1
 refine cC.out.mono ?_
 rintro e w2 ⟨rfl,hb2⟩
 have hB2:=Xb hB1 hb2
 cases f1
 ·go_wp2_with fail
  go_ret
  exact⟨by rw[HR.out,HE.out];rfl,hB2⟩
 have hk3:=Xh hb2 Hk.out
 have hk4:=Xh hb2 Hk2.out
 obtain⟨d0,d1,d2,d3,d4⟩:=gb5 hk4
 have Hk3:=Xa hk3
 have Hk4:=Xa hk4
 have HG2:=Xa (HG.out.ext hb2)
 have HX2:=Xa (HX.out.ext hb2)
 clear b0 b1 b2 b3 b4 c0 c1 c2 c3 c4 c5 HX HG Hk Hk2 hk3 hk4 cC
 by_cases hl:(1≤x.parts.xs.length∧x.parts.xs.length≤4)∧(1≤x.gives.xs.length∧x.gives.xs.length≤8)
 rotate_left
 ·have HF:Hid (Yh g.cats.xs x=false):=by
   show _=_
   rw[HR.out,HE.out]
   have h1:(decide (1≤x.parts.xs.length) && decide (x.parts.xs.length≤4) && (decide (1≤x.gives.xs.length) && decide (x.gives.xs.length≤8)))=false:=by
    rw[Bool.eq_false_iff];intro h;simp at h;exact hl ⟨⟨h.1.1,h.1.2⟩,h.2.1,h.2.2⟩
   rw[Bool.true_and,h1];rfl
  clear HR HE
  by_cases q1:(x.parts.xs.length:Int)<1
  ·clear hl
   go_wp2_with fail
   go_ret
   exact⟨by rw[HF.out];rfl,hB2⟩
  by_cases q2:(4:Int)<(x.parts.xs.length:Int)
  ·clear hl
   go_wp2_with fail
   go_ret
   exact⟨by rw[HF.out];rfl,hB2⟩
  by_cases q3:(x.gives.xs.length:Int)<1
  ·clear hl
   go_wp2_with fail
   go_ret
   exact⟨by rw[HF.out];rfl,hB2⟩
  ·have q4:(8:Int)<(x.gives.xs.length:Int):=by omega
   clear hl
   go_wp2_with fail
   go_ret
   exact⟨by rw[HF.out];rfl,hB2⟩
 have HF:Hid (Yh g.cats.xs x=(f5 && x.parts.xs.all (Yj g.cats.xs) && x.gives.xs.all (Zs x.parts.xs) && Tn x.gives.xs 0 x.parts.xs)):=by
  show _=_
  rw[HR.out,HE.out,decide_eq_true hl.1.1,decide_eq_true hl.1.2,decide_eq_true hl.2.1,decide_eq_true hl.2.2];rfl
 have q1:¬((x.parts.xs.length:Int)<1):=by omega
 have q2:¬((4:Int)<(x.parts.xs.length:Int)):=by omega
 have q3:¬((x.gives.xs.length:Int)<1):=by omega
 have q4:¬((8:Int)<(x.gives.xs.length:Int)):=by omega
 clear HR HE hl
 go_wp2_with fail
 refine(cD.out w2).mono ?_
 rintro e w' ⟨rfl,rfl⟩
 cases f5
 ·go_wp2_with fail
  go_ret
  exact⟨by rw[HF.out];rfl,hB2⟩
 clear d0 d1 d2 d3 d4
 go_wp2_with fail
 clear q1 q2 q3 q4
 go_loopw [5] (fun i wr=>∃k:Nat,k≤x.parts.xs.length∧i = .int .i64 k∧Below w2.heap.size w2 wr∧Hid ((x.parts.xs.take k).all (Yj g.cats.xs)=true)) (fun i _=>x.parts.xs.length-(intOf i).toNat)
 case atStart=>exact⟨0,Nat.zero_le _,rfl,Below.refl _ _,rfl⟩
 case round =>
  obtain⟨k,hk,rfl,hB,HT⟩:=hrel
  have hBw:=Xb hB2 hB
  have hkg:=Xh hB Hk3.out
  have hkx:=Xh hB Hk4.out
  have d2:wr.cell? ⟨w.heap.size+1,2,none⟩=some (.slice x.parts.addr x.parts.xs.length x.parts.cap):=gblk hkx 2
  by_cases hlt:k<x.parts.xs.length
  ·obtain⟨b,off,hA,hb,hc⟩:=HX2.out.1.at_ PartG.size_cells (by omega) hlt
   have p0:∀p:Xn wr,p.wt.cell? ⟨w.heap.size,0,none⟩=some (.string g.name):=fun p=>Xu (Xc hkg) (gblk hkg 0) p
   have p1:∀p:Xn wr,p.wt.cell? ⟨w.heap.size,1,none⟩=some (.slice g.cats.addr g.cats.xs.length g.cats.cap):=fun p=>Xu (Xc hkg) (gblk hkg 1) p
   have p2:∀p:Xn wr,p.wt.cell? ⟨w.heap.size,2,none⟩=some (.string g.start):=fun p=>Xu (Xc hkg) (gblk hkg 2) p
   have p3:∀p:Xn wr,p.wt.cell? ⟨w.heap.size,3,none⟩=some (.int .i64 g.startNo):=fun p=>Xu (Xc hkg) (gblk hkg 3) p
   have p4:∀p:Xn wr,p.wt.cell? ⟨w.heap.size,4,none⟩=some (.slice g.entries.addr g.entries.xs.length g.entries.cap):=fun p=>Xu (Xc hkg) (gblk hkg 4) p
   have p5:∀p:Xn wr,p.wt.cell? ⟨w.heap.size,5,none⟩=some (.slice g.rules.addr g.rules.xs.length g.rules.cap):=fun p=>Xu (Xc hkg) (gblk hkg 5) p
   have r2:∀p:Xn wr,p.wt.cell? ⟨w.heap.size+1,2,none⟩=some (.slice x.parts.addr x.parts.xs.length x.parts.cap):=fun p=>Xu (Xc hkx) (gblk hkx 2) p
   rw[hA] at r2 d2 ⊢
   have e0:∀p:Xn wr,p.wt.cell? ⟨b,off+k*3,none⟩=some (.string x.parts.xs[k].cat):=fun p=>hc k hlt p.wt (Xb hB p.ext) 0 _ rfl
   have e1:∀p:Xn wr,p.wt.cell? ⟨b,off+k*3+1,none⟩=some (.int .i64 x.parts.xs[k].no):=fun p=>hc k hlt p.wt (Xb hB p.ext) 1 _ rfl
   have e2:∀p:Xn wr,p.wt.cell? ⟨b,off+k*3+2,none⟩=some (.string x.parts.xs[k].text):=fun p=>hc k hlt p.wt (Xb hB p.ext) 2 _ rfl
   have htk:x.parts.xs.take (k+1)=x.parts.xs.take k++[x.parts.xs[k]]:=List.take_succ_eq_append_getElem hlt
   have hmem:=List.getElem_mem hlt
   have HT2:Hid (Yj g.cats.xs x.parts.xs[k]=true→(x.parts.xs.take (k+1)).all (Yj g.cats.xs)=true):=by intro h;rw[htk,List.all_append,HT.out];simp[h]
   have HF2:Hid (Yj g.cats.xs x.parts.xs[k]=false→x.parts.xs.all (Yj g.cats.xs)=false):=by intro h;rw[List.all_eq_false];exact⟨_,hmem,by simp[h]⟩
   have cP:=Xa (fun p:Xn wr=>Xjg g x.parts.xs[k] p.wt (HG2.out.ext (Xb hB p.ext)))
   clear hc htk hA HT hmem hkg hkx
   generalize x.parts.xs[k]=y at *
   generalize Yj g.cats.xs y=f at *
   go_wp2_with fail
   refine X7 (by kernel_rfl) (by kernel_rfl) ?_
   repeat (go_big_quiet_step ((go_at_call 288;exact Calls.ext_of (cP.out _))))
   refine wpQuiet_nil ?_
   intro _ hw'
   obtain⟨p,rfl⟩:=hw'
   have hBp:=Xb hBw p.ext
   have hBq:=Xb hB p.ext
   clear p0 p1 p2 p3 p4 p5 e0 e1 e2 r2 d2 cP
   cases f
   ·have HF3:=Xa (HF2.out rfl)
    clear HT2 HF2
    go_wp2_with fail
    go_ret
    exact⟨by rw[HF.out,HF3.out];rfl,hBp⟩
   ·have HT3:=Xa (HT2.out rfl)
    clear HT2 HF2
    go_wp2_with fail
    go_roundw
    case rel=>exact⟨k+1,by omega,by go_num,hBq,HT3⟩
    case measure=>simp[intOf];omega
  ·have HA:Hid (x.parts.xs.all (Yj g.cats.xs)=true):=by
    have h:=HT.out
    rw[List.take_of_length_le (by omega)] at h
    exact h
   have HF4:Hid (Yh g.cats.xs x=(x.gives.xs.all (Zs x.parts.xs) && Tn x.gives.xs 0 x.parts.xs)):=by show _=_;rw[HF.out,HA.out];rfl
   clear HT HF HA
   go_wp2_with fail
   clear d2 hkg hkx hlt hk
   go_loopw [6] (fun i wr=>∃k:Nat,k≤x.gives.xs.length∧i = .int .i64 k∧Below w2.heap.size w2 wr∧Hid ((x.gives.xs.take k).all (Zs x.parts.xs)=true)) (fun i _=>x.gives.xs.length-(intOf i).toNat)
   case atStart=>exact⟨0,Nat.zero_le _,rfl,hB,rfl⟩
   case round =>
    clear hB hBw
    obtain⟨k,hk,rfl,hB,HT⟩:=hrel
    have hBw:=Xb hB2 hB
    rename World=>wr
    have hkx:=Xh hB Hk4.out
    have d3:wr.cell? ⟨w.heap.size+1,3,none⟩=some (.slice x.gives.addr x.gives.xs.length x.gives.cap):=gblk hkx 3
    by_cases hlt:k<x.gives.xs.length
    ·obtain⟨b,off,hA,hb,hc⟩:=HX2.out.2.at_ GiveG.size_cells (by omega) hlt
     have p0:∀p:Xn wr,p.wt.cell? ⟨w.heap.size+1,0,none⟩=some (.string x.cat):=fun p=>Xu (Xc hkx) (gblk hkx 0) p
     have p1:∀p:Xn wr,p.wt.cell? ⟨w.heap.size+1,1,none⟩=some (.int .i64 x.no):=fun p=>Xu (Xc hkx) (gblk hkx 1) p
     have p2:∀p:Xn wr,p.wt.cell? ⟨w.heap.size+1,2,none⟩=some (.slice x.parts.addr x.parts.xs.length x.parts.cap):=fun p=>Xu (Xc hkx) (gblk hkx 2) p
     have p3:∀p:Xn wr,p.wt.cell? ⟨w.heap.size+1,3,none⟩=some (.slice x.gives.addr x.gives.xs.length x.gives.cap):=fun p=>Xu (Xc hkx) (gblk hkx 3) p
     have p4:∀p:Xn wr,p.wt.cell? ⟨w.heap.size+1,4,none⟩=some (.int .i64 x.cost):=fun p=>Xu (Xc hkx) (gblk hkx 4) p
     have e0:∀p:Xn wr,p.wt.cell? ⟨b,off+k*2,none⟩=some (.int .i64 x.gives.xs[k].part):=fun p=>hc k hlt p.wt (Xb hB p.ext) 0 _ rfl
     have e1:∀p:Xn wr,p.wt.cell? ⟨b,off+k*2+1,none⟩=some (.string x.gives.xs[k].text):=fun p=>hc k hlt p.wt (Xb hB p.ext) 1 _ rfl
     have htk:x.gives.xs.take (k+1)=x.gives.xs.take k++[x.gives.xs[k]]:=List.take_succ_eq_append_getElem hlt
     have hmem:=List.getElem_mem hlt
     have HT2:Hid (Zs x.parts.xs x.gives.xs[k]=true→(x.gives.xs.take (k+1)).all (Zs x.parts.xs)=true):=by intro h;rw[htk,List.all_append,HT.out];simp[h]
     have HF2:Hid (Zs x.parts.xs x.gives.xs[k]=false→x.gives.xs.all (Zs x.parts.xs)=false):=by intro h;rw[List.all_eq_false];exact⟨_,hmem,by simp[h]⟩
     have cP:=Xa (fun p:Xn wr=>Xku x x.gives.xs[k] p.wt (HX2.out.ext (Xb hB p.ext)))
     rw[hA] at p3 d3 cP ⊢
     clear hc htk hA HT hmem hkx
     generalize x.gives.xs[k]=y at *
     generalize Zs x.parts.xs y=f at *
     go_wp2_with fail
     refine X7 (by kernel_rfl) (by kernel_rfl) ?_
     repeat (go_big_quiet_step ((go_at_call 289;exact Calls.ext_of (cP.out _))))
     refine wpQuiet_nil ?_
     intro _ hw'
     obtain⟨p,rfl⟩:=hw'
     have hBp:=Xb hBw p.ext
     have hBq:=Xb hB p.ext
     clear p0 p1 p2 p3 p4 e0 e1 d3 cP
     cases f
     ·have HF3:=Xa (HF2.out rfl)
      clear HT2 HF2
      go_wp2_with fail
      go_ret
      exact⟨by rw[HF4.out,HF3.out];rfl,hBp⟩
     ·have HT3:=Xa (HT2.out rfl)
      clear HT2 HF2
      go_wp2_with fail
      go_roundw
      case rel=>exact⟨k+1,by omega,by go_num,hBq,HT3⟩
      case measure=>simp[intOf];omega
    ·have HA:Hid (x.gives.xs.all (Zs x.parts.xs)=true):=by
      have h:=HT.out
      rw[List.take_of_length_le (by omega)] at h
      exact h
     have HF5:Hid (Yh g.cats.xs x=Tn x.gives.xs 0 x.parts.xs):=by show _=_;rw[HF4.out,HA.out];rfl
     have Hiff:=Xa (Xbl x.gives.xs 0 x.parts.xs)
     clear HT HF4 HA
     go_wp2_with fail
     clear d3 hkx hlt hk
     go_loopw [7] (fun i wr=>∃k:Nat,k≤x.parts.xs.length∧i = .int .i64 k∧Below w2.heap.size w2 wr∧Hid (∀(j:Nat) (p:PartG),j<k→x.parts.xs[j]? = some p→p.text.size=0→Ya x.gives.xs (0+j)=1)) (fun i _=>x.parts.xs.length-(intOf i).toNat)
     case atStart=>exact⟨0,Nat.zero_le _,rfl,hB,fun j p h=>by omega⟩
     case round =>
      clear hB hBw
      obtain⟨k,hk,rfl,hB,HT⟩:=hrel
      have hBw:=Xb hB2 hB
      rename World=>wr
      have hkx:=Xh hB Hk4.out
      obtain⟨d0,d1,d2,d3,d4⟩:=gb5 hkx
      by_cases hlt:k<x.parts.xs.length
      ·obtain⟨b,off,hA,hb,hc⟩:=HX2.out.1.at_ PartG.size_cells (by omega) hlt
       have e0:wr.cell? ⟨b,off+k*3,none⟩=some (.string x.parts.xs[k].cat):=hc k hlt wr hB 0 _ rfl
       have e1:wr.cell? ⟨b,off+k*3+1,none⟩=some (.int .i64 x.parts.xs[k].no):=hc k hlt wr hB 1 _ rfl
       have e2:wr.cell? ⟨b,off+k*3+2,none⟩=some (.string x.parts.xs[k].text):=hc k hlt wr hB 2 _ rfl
       have hget:x.parts.xs[k]? = some x.parts.xs[k]:=List.getElem?_eq_getElem hlt
       have HT2:Hid ((x.parts.xs[k].text.size=0→Ya x.gives.xs k=1)→∀(j:Nat) (p:PartG),j<k+1→x.parts.xs[j]? = some p→p.text.size=0→Ya x.gives.xs (0+j)=1):=by
        intro h j p hj hp h0
        by_cases e:j<k
        ·exact HT.out j p e hp h0
        ·obtain rfl:j=k:=by omega
         rw[hget] at hp;cases hp
         rw[Nat.zero_add];exact h h0
       have HF2:Hid (x.parts.xs[k].text.size=0→Ya x.gives.xs k≠1→Yh g.cats.xs x=false):=by
        intro h0 h1
        rw[HF5.out,Bool.eq_false_iff]
        intro h
        have:=(Hiff.out.1 h) k _ hget h0
        rw[Nat.zero_add] at this
        exact h1 this
       have cP:=Xa (Xiw x k wr (HX2.out.ext hB))
       rw[hA] at d2 cP ⊢
       clear hc hA HT hget hkx HF5 Hiff
       generalize x.parts.xs[k]=y at *
       by_cases ht:y.text.size=0
       ·have n0:=Zq (s:=y.text) (by omega)
        generalize Ya x.gives.xs k=c at *
        by_cases h1:c=1
        ·have HT3:=Xa (HT2.out (fun _=>h1))
         have g1:((c:Int) != 1)=false:=by simp[h1]
         clear HT2 HF2 ht h1
         go_wp2_with fail
         refine cP.out.mono ?_
         rintro e w4 ⟨rfl,hb4⟩
         have hB4:=Xb hB hb4
         go_wp2_with fail
         go_roundw
         case rel=>exact⟨k+1,by omega,by go_num,hB4,HT3⟩
         case measure=>simp[intOf];omega
        ·have HF3:=Xa (HF2.out ht h1)
         have g1:((c:Int) != 1)=true:=by simp;omega
         clear HT2 HF2 ht h1
         go_wp2_with fail
         refine cP.out.mono ?_
         rintro e w4 ⟨rfl,hb4⟩
         have hB4:=Xb hBw hb4
         go_wp2_with fail
         go_ret
         exact⟨by rw[HF3.out];rfl,hB4⟩
       ·have n0:=Zp (s:=y.text) (by omega)
        have HT3:=Xa (HT2.out (fun h=>absurd h ht))
        clear HT2 HF2 ht cP
        go_wp2_with fail
        go_roundw
        case rel=>exact⟨k+1,by omega,by go_num,hB,HT3⟩
        case measure=>simp[intOf];omega
      ·have HA:Hid (Yh g.cats.xs x=true):=by
        show _=_
        rw[HF5.out]
        refine Hiff.out.2 fun j p hp h0=>HT.out j p ?_ hp h0
        have:=(List.getElem?_eq_some_iff.1 hp).1
        omega
       clear HT HF5 Hiff
       go_wp2_with fail
       go_ret
       exact⟨by rw[HA.out];rfl,hBw⟩
theorem Xky {l:List ByteArray} (h:l.Nodup):∀ {i:Nat} {s:ByteArray},l[i]? = some s→idxF s l=i:=by
 intro i s hs
 obtain⟨hi,rfl⟩:=List.getElem?_eq_some_iff.1 hs
 refine Xc1 hi ?_ rfl
 intro hm
 obtain⟨j,hj,e⟩:=List.getElem_of_mem hm
 rw[List.length_take] at hj
 rw[List.getElem_take] at e
 exact absurd ((List.getElem_inj h).1 e) (by omega)
theorem Xk8:∀ {l:List ByteArray},(∀(i:Nat) (s:ByteArray),l[i]? = some s→idxF s l=i)→l.Nodup:=by
 intro l h
 rw[List.nodup_iff_pairwise_ne,List.pairwise_iff_getElem]
 intro i j hi hj hij e
 have h1:=h i _ (List.getElem?_eq_getElem hi)
 have h2:=h j _ (List.getElem?_eq_getElem hj)
 rw[e,h2] at h1
 omega
theorem Xnb (cats:List ByteArray):(cats.all Xw && decide cats.Nodup)=true↔∀(i:Nat) (s:ByteArray),cats[i]? = some s→Xw s=true∧idxF s cats=i:=by
 rw[Bool.and_eq_true,decide_eq_true_eq,List.all_eq_true]
 constructor
 ·rintro⟨h1,h2⟩ i s hs
  exact⟨h1 s (List.mem_of_getElem? hs),Xky h2 hs⟩
 ·intro h
  refine⟨fun s hs=>?_,Xk8 fun i s hs=>(h i s hs).2⟩
  obtain⟨i,hi,rfl⟩:=List.getElem_of_mem hs
  exact(h i _ (List.getElem?_eq_getElem hi)).1
set_option maxHeartbeats 4000000 in
theorem Xh4 (g:Gram) (w:World) (hg:g.lies w):Calls Tryz.prog 214 #[.agg #[.string g.name,.slice g.cats.addr g.cats.xs.length g.cats.cap,.string g.start,.int .i64 g.startNo,.slice g.entries.addr g.entries.xs.length g.entries.cap,.slice g.rules.addr g.rules.xs.length g.rules.cap]] w fun e w'=>e = .returned (.bool (Xz g))∧Below w.heap.size w w':=by
 obtain⟨W1,hW1⟩:∃W1,w.alloc (.cells #[.string g.name,.slice g.cats.addr g.cats.xs.length g.cats.cap,.string g.start,.int .i64 g.startNo,.slice g.entries.addr g.entries.xs.length g.entries.cap,.slice g.rules.addr g.rules.xs.length g.rules.cap] 26)=W1:=⟨_,rfl⟩
 have hB1:Below w.heap.size w W1:=by subst hW1;exact Xe (Below.refl _ _) _
 have hk:W1.heap[w.heap.size]? = some (.cells #[.string g.name,.slice g.cats.addr g.cats.xs.length g.cats.cap,.string g.start,.int .i64 g.startNo,.slice g.entries.addr g.entries.xs.length g.entries.cap,.slice g.rules.addr g.rules.xs.length g.rules.cap] 26 (0,0)):=by subst hW1;exact World.alloc_heap_new _ _
 have HG:=Xa (hg.ext hB1)
 have hm1:g.cats.xs.length≤9223372036854775807:=Nat.le_trans hg.cats.cap hg.cats.max
 have hm2:g.entries.xs.length≤9223372036854775807:=Nat.le_trans hg.entries.cap hg.entries.max
 have hm3:g.rules.xs.length≤9223372036854775807:=Nat.le_trans hg.rules.cap hg.rules.max
 have cF:=Xa (V0 g.name W1)
 have cC:=Xa (T9 g g.start W1 HG.out.cats)
 have HE:Hid (Xz g=(Xw g.name && decide (1≤g.cats.xs.length) && catB g.cats.xs g.start && g.cats.xs.all Xw && decide g.cats.xs.Nodup && g.entries.xs.all (Yt g.cats.xs) && g.rules.xs.all (Yh g.cats.xs))):=rfl
 have Hall:=Xa (Xnb g.cats.xs)
 have HW1:=Xa hW1
 generalize Xw g.name=f1 at *
 generalize catB g.cats.xs g.start=f2 at *
 obtain⟨c0,c1,c2,c3,c4,c5⟩:=gb6 hk
 have Hk:=Xa hk
 clear hg hk hW1
 go_enter Tryz.func214,Tryz.ntmps214
 go_wp2_with fail
 rw[HW1.out]
 clear HW1
 refine cF.out.mono ?_
 rintro e w2 ⟨rfl,rfl⟩
 cases f1
 ·go_wp2_with fail
  go_ret
  exact⟨by rw[HE.out];rfl,hB1⟩
 by_cases hl:1≤g.cats.xs.length
 rotate_left
 ·have HF:Hid (Xz g=false):=by show _=_;rw[HE.out,decide_eq_false hl];rfl
  have q1:(g.cats.xs.length:Int)<1:=by omega
  clear hl HE
  go_wp2_with fail
  go_ret
  exact⟨by rw[HF.out];rfl,hB1⟩
 have q1:¬(g.cats.xs.length:Int)<1:=by omega
 go_wp2_with fail
 refine cC.out.mono ?_
 rintro e w2 ⟨rfl,hb2⟩
 have hB2:=Xb hB1 hb2
 cases f2
 ·go_wp2_with fail
  go_ret
  exact⟨by rw[HE.out];simp,hB2⟩
 have HF:Hid (Xz g=((g.cats.xs.all Xw && decide g.cats.xs.Nodup) && g.entries.xs.all (Yt g.cats.xs) && g.rules.xs.all (Yh g.cats.xs))):=by show _=_;rw[HE.out,decide_eq_true hl];simp
 generalize (g.cats.xs.all Xw && decide g.cats.xs.Nodup)=q at *
 have HG2:=Xa (HG.out.ext hb2)
 have hk2:=Xh hb2 Hk.out
 have Hk2:=Xa hk2
 clear HE hl cC cF c0 c1 c2 c3 c4 c5 HG hk2 Hk
 go_wp2_with fail
 clear q1
 go_loopw [3] (fun i wr=>∃k:Nat,k≤g.cats.xs.length∧i = .int .i64 k∧Below w2.heap.size w2 wr∧Hid (∀(j:Nat) (s:ByteArray),j<k→g.cats.xs[j]? = some s→Xw s=true∧idxF s g.cats.xs=j)) (fun i _=>g.cats.xs.length-(intOf i).toNat)
 case atStart=>exact⟨0,Nat.zero_le _,rfl,Below.refl _ _,fun j s h=>by omega⟩
 case round =>
  obtain⟨k,hk,rfl,hB,HT⟩:=hrel
  have hBw:=Xb hB2 hB
  have hkg:=Xh hB Hk2.out
  have d1:wr.cell? ⟨w.heap.size,1,none⟩=some (.slice g.cats.addr g.cats.xs.length g.cats.cap):=gblk hkg 1
  by_cases hlt:k<g.cats.xs.length
  ·obtain⟨b,off,hA,hb,hc⟩:=StrS.at_ HG2.out.cats (k:=k) hlt
   have p1:∀p:Xn wr,p.wt.cell? ⟨w.heap.size,1,none⟩=some (.slice g.cats.addr g.cats.xs.length g.cats.cap):=fun p=>Xu (Xc hkg) (gblk hkg 1) p
   have e0:∀p:Xn wr,p.wt.cell? ⟨b,off+k,none⟩=some (.string g.cats.xs[k]):=fun p=>((Xb hB p.ext).cell (p:=⟨b,off+k,none⟩) hb).trans (hc k hlt)
   have hget:g.cats.xs[k]? = some g.cats.xs[k]:=List.getElem?_eq_getElem hlt
   have HT2:Hid (Xw g.cats.xs[k]=true→idxF g.cats.xs[k] g.cats.xs=k→∀(j:Nat) (s:ByteArray),j<k+1→g.cats.xs[j]? = some s→Xw s=true∧idxF s g.cats.xs=j):=by
    intro h1 h2 j s hj hs
    by_cases e:j<k
    ·exact HT.out j s e hs
    ·obtain rfl:j=k:=by omega
     rw[hget] at hs;cases hs
     exact⟨h1,h2⟩
   have HF2:Hid (¬(Xw g.cats.xs[k]=true∧idxF g.cats.xs[k] g.cats.xs=k)→Xz g=false):=by
    intro h
    have:q=false:=by
     rw[Bool.eq_false_iff]
     intro hq
     exact h (Hall.out.1 hq k _ hget)
    rw[HF.out,this];rfl
   have cP:Hid (∀p:Xn wr,_):=fun p:Xn wr=>V0 g.cats.xs[k] p.wt
   have cI:=Xa (fun p:Xn wr=>Zb g.cats g.cats.xs[k] p.wt (HG2.out.cats.ext (Xb hB p.ext)))
   rw[hA] at p1 d1 cI ⊢
   clear hc hA HT hkg hget
   generalize g.cats.xs[k]=y at *
   generalize Xw y=f at *
   generalize idxF y g.cats.xs=n at *
   cases f
   ·have HF3:=Xa (HF2.out (by simp))
    clear HT2 HF2 cI
    go_wp2_with fail
    refine X7 (by kernel_rfl) (by kernel_rfl) ?_
    repeat (go_big_quiet_step ((go_at_call 258;exact Calls.ext_same (cP.out _))))
    refine wpQuiet_nil ?_
    intro _ hw'
    obtain⟨p,rfl⟩:=hw'
    have hBp:=Xb hBw p.ext
    clear p1 e0 d1
    go_wp2_with fail
    go_ret
    exact⟨by rw[HF3.out];rfl,hBp⟩
   ·by_cases hn:n=(k:Int)
    ·have HT3:=Xa (HT2.out rfl hn)
     have g1:(n != (k:Int))=false:=by simp[hn]
     have g2:(n == (k:Int))=true:=by simp[hn]
     clear HT2 HF2 hn
     go_wp2_with fail
     refine X7 (by kernel_rfl) (by kernel_rfl) ?_
     repeat (go_big_quiet_step (first|(go_at_call 258;exact Calls.ext_same (cP.out _))|(go_at_call 32;exact Calls.ext_same (cI.out _))))
     refine wpQuiet_nil ?_
     intro _ hw'
     obtain⟨p,rfl⟩:=hw'
     have hBq:=Xb hB p.ext
     clear p1 e0 d1 cP cI
     go_wp2_with fail
     go_roundw
     case rel=>exact⟨k+1,by omega,by go_num,hBq,HT3⟩
     case measure=>simp[intOf];omega
    ·have HF3:=Xa (HF2.out (fun h=>hn h.2))
     have g1:(n != (k:Int))=true:=by simpa using hn
     have g2:(n == (k:Int))=false:=by simpa using hn
     clear HT2 HF2 hn
     go_wp2_with fail
     refine X7 (by kernel_rfl) (by kernel_rfl) ?_
     repeat (go_big_quiet_step (first|(go_at_call 258;exact Calls.ext_same (cP.out _))|(go_at_call 32;exact Calls.ext_same (cI.out _))))
     refine wpQuiet_nil ?_
     intro _ hw'
     obtain⟨p,rfl⟩:=hw'
     have hBp:=Xb hBw p.ext
     clear p1 e0 d1 cP cI
     go_wp2_with fail
     go_ret
     exact⟨by rw[HF3.out];rfl,hBp⟩
  ·have HF4:Hid (Xz g=(g.entries.xs.all (Yt g.cats.xs) && g.rules.xs.all (Yh g.cats.xs))):=by
    have hq:q=true:=Hall.out.2 fun j s hs=>HT.out j s (by have:=(List.getElem?_eq_some_iff.1 hs).1;omega) hs
    show _=_
    rw[HF.out,hq];rfl
   clear HT HF Hall
   go_wp2_with fail
   clear d1 hkg hlt hk
   go_loopw [4] (fun i wr=>∃k:Nat,k≤g.entries.xs.length∧i = .int .i64 k∧Below w2.heap.size w2 wr∧Hid ((g.entries.xs.take k).all (Yt g.cats.xs)=true)) (fun i _=>g.entries.xs.length-(intOf i).toNat)
   case atStart=>exact⟨0,Nat.zero_le _,rfl,hB,rfl⟩
   case round =>
    clear hB hBw
    obtain⟨k,hk,rfl,hB,HT⟩:=hrel
    have hBw:=Xb hB2 hB
    rename World=>wr
    have hkg:=Xh hB Hk2.out
    have d4:wr.cell? ⟨w.heap.size,4,none⟩=some (.slice g.entries.addr g.entries.xs.length g.entries.cap):=gblk hkg 4
    by_cases hlt:k<g.entries.xs.length
    ·obtain⟨b,off,hA,hb,hc⟩:=HG2.out.entries.at_ EntryG.size_cells (by omega) hlt
     have p0:∀p:Xn wr,p.wt.cell? ⟨w.heap.size,0,none⟩=some (.string g.name):=fun p=>Xu (Xc hkg) (gblk hkg 0) p
     have p1:∀p:Xn wr,p.wt.cell? ⟨w.heap.size,1,none⟩=some (.slice g.cats.addr g.cats.xs.length g.cats.cap):=fun p=>Xu (Xc hkg) (gblk hkg 1) p
     have p2:∀p:Xn wr,p.wt.cell? ⟨w.heap.size,2,none⟩=some (.string g.start):=fun p=>Xu (Xc hkg) (gblk hkg 2) p
     have p3:∀p:Xn wr,p.wt.cell? ⟨w.heap.size,3,none⟩=some (.int .i64 g.startNo):=fun p=>Xu (Xc hkg) (gblk hkg 3) p
     have p4:∀p:Xn wr,p.wt.cell? ⟨w.heap.size,4,none⟩=some (.slice g.entries.addr g.entries.xs.length g.entries.cap):=fun p=>Xu (Xc hkg) (gblk hkg 4) p
     have p5:∀p:Xn wr,p.wt.cell? ⟨w.heap.size,5,none⟩=some (.slice g.rules.addr g.rules.xs.length g.rules.cap):=fun p=>Xu (Xc hkg) (gblk hkg 5) p
     have e0:∀p:Xn wr,p.wt.cell? ⟨b,off+k*5,none⟩=some (.string g.entries.xs[k].text):=fun p=>hc k hlt p.wt (Xb hB p.ext) 0 _ rfl
     have e1:∀p:Xn wr,p.wt.cell? ⟨b,off+k*5+1,none⟩=some (.string g.entries.xs[k].cat):=fun p=>hc k hlt p.wt (Xb hB p.ext) 1 _ rfl
     have e2:∀p:Xn wr,p.wt.cell? ⟨b,off+k*5+2,none⟩=some (.int .i64 g.entries.xs[k].no):=fun p=>hc k hlt p.wt (Xb hB p.ext) 2 _ rfl
     have e3:∀p:Xn wr,p.wt.cell? ⟨b,off+k*5+3,none⟩=some (.slice g.entries.xs[k].gives.addr g.entries.xs[k].gives.xs.length g.entries.xs[k].gives.cap):=fun p=>hc k hlt p.wt (Xb hB p.ext) 3 _ rfl
     have e4:∀p:Xn wr,p.wt.cell? ⟨b,off+k*5+4,none⟩=some (.int .i64 g.entries.xs[k].cost):=fun p=>hc k hlt p.wt (Xb hB p.ext) 4 _ rfl
     have htk:g.entries.xs.take (k+1)=g.entries.xs.take k++[g.entries.xs[k]]:=List.take_succ_eq_append_getElem hlt
     have hmem:=List.getElem_mem hlt
     have HT2:Hid (Yt g.cats.xs g.entries.xs[k]=true→(g.entries.xs.take (k+1)).all (Yt g.cats.xs)=true):=by intro h;rw[htk,List.all_append,HT.out];simp[h]
     have HF2:Hid (Yt g.cats.xs g.entries.xs[k]=false→g.entries.xs.all (Yt g.cats.xs)=false):=by intro h;rw[List.all_eq_false];exact⟨_,hmem,by simp[h]⟩
     have cP:=Xa (fun p:Xn wr=>Xhu g g.entries.xs[k] p.wt (HG2.out.cats.ext (Xb hB p.ext)) ((HG2.out.entry _ hmem).ext (Xb hB p.ext)))
     rw[hA] at p4 d4 cP ⊢
     clear hc htk hA HT hmem hkg
     generalize g.entries.xs[k]=y at *
     generalize Yt g.cats.xs y=f at *
     go_wp2_with fail
     refine X7 (by kernel_rfl) (by kernel_rfl) ?_
     repeat (go_big_quiet_step ((go_at_call 260;exact Calls.ext_of (cP.out _))))
     refine wpQuiet_nil ?_
     intro _ hw'
     obtain⟨p,rfl⟩:=hw'
     have hBp:=Xb hBw p.ext
     have hBq:=Xb hB p.ext
     clear p0 p1 p2 p3 p4 p5 e0 e1 e2 e3 e4 d4 cP
     cases f
     ·have HF3:=Xa (HF2.out rfl)
      clear HT2 HF2
      go_wp2_with fail
      go_ret
      exact⟨by rw[HF4.out,HF3.out];rfl,hBp⟩
     ·have HT3:=Xa (HT2.out rfl)
      clear HT2 HF2
      go_wp2_with fail
      go_roundw
      case rel=>exact⟨k+1,by omega,by go_num,hBq,HT3⟩
      case measure=>simp[intOf];omega
    ·have HF5:Hid (Xz g=g.rules.xs.all (Yh g.cats.xs)):=by
      have h:=HT.out
      rw[List.take_of_length_le (by omega)] at h
      show _=_
      rw[HF4.out,h];rfl
     clear HT HF4
     go_wp2_with fail
     clear d4 hkg hlt hk
     go_loopw [5] (fun i wr=>∃k:Nat,k≤g.rules.xs.length∧i = .int .i64 k∧Below w2.heap.size w2 wr∧Hid ((g.rules.xs.take k).all (Yh g.cats.xs)=true)) (fun i _=>g.rules.xs.length-(intOf i).toNat)
     case atStart=>exact⟨0,Nat.zero_le _,rfl,hB,rfl⟩
     case round =>
      clear hB hBw
      obtain⟨k,hk,rfl,hB,HT⟩:=hrel
      have hBw:=Xb hB2 hB
      rename World=>wr
      have hkg:=Xh hB Hk2.out
      have d5:wr.cell? ⟨w.heap.size,5,none⟩=some (.slice g.rules.addr g.rules.xs.length g.rules.cap):=gblk hkg 5
      by_cases hlt:k<g.rules.xs.length
      ·obtain⟨b,off,hA,hb,hc⟩:=HG2.out.rules.at_ RuleG.size_cells (by omega) hlt
       have p0:∀p:Xn wr,p.wt.cell? ⟨w.heap.size,0,none⟩=some (.string g.name):=fun p=>Xu (Xc hkg) (gblk hkg 0) p
       have p1:∀p:Xn wr,p.wt.cell? ⟨w.heap.size,1,none⟩=some (.slice g.cats.addr g.cats.xs.length g.cats.cap):=fun p=>Xu (Xc hkg) (gblk hkg 1) p
       have p2:∀p:Xn wr,p.wt.cell? ⟨w.heap.size,2,none⟩=some (.string g.start):=fun p=>Xu (Xc hkg) (gblk hkg 2) p
       have p3:∀p:Xn wr,p.wt.cell? ⟨w.heap.size,3,none⟩=some (.int .i64 g.startNo):=fun p=>Xu (Xc hkg) (gblk hkg 3) p
       have p4:∀p:Xn wr,p.wt.cell? ⟨w.heap.size,4,none⟩=some (.slice g.entries.addr g.entries.xs.length g.entries.cap):=fun p=>Xu (Xc hkg) (gblk hkg 4) p
       have p5:∀p:Xn wr,p.wt.cell? ⟨w.heap.size,5,none⟩=some (.slice g.rules.addr g.rules.xs.length g.rules.cap):=fun p=>Xu (Xc hkg) (gblk hkg 5) p
       have e0:∀p:Xn wr,p.wt.cell? ⟨b,off+k*5,none⟩=some (.string g.rules.xs[k].cat):=fun p=>hc k hlt p.wt (Xb hB p.ext) 0 _ rfl
       have e1:∀p:Xn wr,p.wt.cell? ⟨b,off+k*5+1,none⟩=some (.int .i64 g.rules.xs[k].no):=fun p=>hc k hlt p.wt (Xb hB p.ext) 1 _ rfl
       have e2:∀p:Xn wr,p.wt.cell? ⟨b,off+k*5+2,none⟩=some (.slice g.rules.xs[k].parts.addr g.rules.xs[k].parts.xs.length g.rules.xs[k].parts.cap):=fun p=>hc k hlt p.wt (Xb hB p.ext) 2 _ rfl
       have e3:∀p:Xn wr,p.wt.cell? ⟨b,off+k*5+3,none⟩=some (.slice g.rules.xs[k].gives.addr g.rules.xs[k].gives.xs.length g.rules.xs[k].gives.cap):=fun p=>hc k hlt p.wt (Xb hB p.ext) 3 _ rfl
       have e4:∀p:Xn wr,p.wt.cell? ⟨b,off+k*5+4,none⟩=some (.int .i64 g.rules.xs[k].cost):=fun p=>hc k hlt p.wt (Xb hB p.ext) 4 _ rfl
       have htk:g.rules.xs.take (k+1)=g.rules.xs.take k++[g.rules.xs[k]]:=List.take_succ_eq_append_getElem hlt
       have hmem:=List.getElem_mem hlt
       have HT2:Hid (Yh g.cats.xs g.rules.xs[k]=true→(g.rules.xs.take (k+1)).all (Yh g.cats.xs)=true):=by intro h;rw[htk,List.all_append,HT.out];simp[h]
       have HF2:Hid (Yh g.cats.xs g.rules.xs[k]=false→g.rules.xs.all (Yh g.cats.xs)=false):=by intro h;rw[List.all_eq_false];exact⟨_,hmem,by simp[h]⟩
       have cP:=Xa (fun p:Xn wr=>Xjr g g.rules.xs[k] p.wt (HG2.out.cats.ext (Xb hB p.ext)) ((HG2.out.rule _ hmem).ext (Xb hB p.ext)))
       rw[hA] at p5 d5 cP ⊢
       clear hc htk hA HT hmem hkg
       generalize g.rules.xs[k]=y at *
       generalize Yh g.cats.xs y=f at *
       go_wp2_with fail
       refine X7 (by kernel_rfl) (by kernel_rfl) ?_
       repeat (go_big_quiet_step ((go_at_call 261;exact Calls.ext_of (cP.out _))))
       refine wpQuiet_nil ?_
       intro _ hw'
       obtain⟨p,rfl⟩:=hw'
       have hBp:=Xb hBw p.ext
       have hBq:=Xb hB p.ext
       clear p0 p1 p2 p3 p4 p5 e0 e1 e2 e3 e4 d5 cP
       cases f
       ·have HF3:=Xa (HF2.out rfl)
        clear HT2 HF2
        go_wp2_with fail
        go_ret
        exact⟨by rw[HF5.out,HF3.out];rfl,hBp⟩
       ·have HT3:=Xa (HT2.out rfl)
        clear HT2 HF2
        go_wp2_with fail
        go_roundw
        case rel=>exact⟨k+1,by omega,by go_num,hBq,HT3⟩
        case measure=>simp[intOf];omega
      ·have HA:Hid (Xz g=true):=by
        have h:=HT.out
        rw[List.take_of_length_le (by omega)] at h
        show _=_
        rw[HF5.out,h]
       clear HT HF5
       go_wp2_with fail
       go_ret
       exact⟨by rw[HA.out];rfl,hBw⟩
end Go.Proofs.YtolpbjjapodmnaaGreatDoor
namespace Go.Proofs.YtolpbjjapodmnaaGreatDoor
open Go.RowKit Go.Han
set_option maxRecDepth 100000
/-! ### the map of the names -/
def Y6:Nat→List ByteArray→ByteArray→Option Int
 | _,[],_=>none
 | i,x :: l,s=>match Y6 (i+1) l s with|some n=>some n|none=>if x=s then some (i:Int) else none
theorem Xff (x s:ByteArray):∀(i:Nat) (l:List ByteArray),Y6 i (l++[x]) s=if s=x then some ((i+l.length:Nat):Int) else Y6 i l s
 | i,[]=>by
  simp only[List.nil_append,Y6,List.length_nil,Nat.add_zero]
  by_cases h:x=s
  ·rw[if_pos h,if_pos h.symm]
  ·rw[if_neg h,if_neg (fun e=>h e.symm)]
 | i,y :: l=>by
  rw[List.cons_append,Y6,Y6,Xff x s (i+1) l,List.length_cons]
  rw[show i+1+l.length=i+(l.length+1) by omega]
  by_cases h:s=x
  ·rw[if_pos h,if_pos h]
  ·rw[if_neg h,if_neg h]
theorem Xbr (s:ByteArray):∀(i:Nat) (l:List ByteArray),(Y6 i l s).isSome↔s∈l
 | i,[]=>by simp[Y6]
 | i,x :: l=>by
  rw[Y6,List.mem_cons]
  have:=Xbr s (i+1) l
  cases h:Y6 (i+1) l s with
  | some n=>rw[h] at this;simp at this;simp[this]
  | none =>
   rw[h] at this
   simp at this
   by_cases e:x=s
   ·simp[e]
   ·have:¬s=x:=fun h=>e h.symm
    simp[*]
theorem Xnk (s x:ByteArray) (l:List ByteArray):idxF s (x :: l)=if x=s then 0 else if idxF s l = -1 then -1 else idxF s l+1:=rfl
theorem Xdv (s:ByteArray):∀(i:Nat) (l:List ByteArray),l.Nodup→Y6 i l s=if 0≤idxF s l then some (i+idxF s l) else none
 | i,[],_=>by simp[Y6,idxF]
 | i,x :: l,h=>by
  rw[List.nodup_cons] at h
  have ih:=Xdv s (i+1) l h.2
  have hm:=Vo s l
  have hge:=Xed s l
  have hc:=Xnk s x l
  by_cases h0:0≤idxF s l
  ·have e:¬x=s:=fun e=>h.1 (by rw[e];exact hm.1 h0)
   have hn:¬idxF s l = -1:=by omega
   rw[if_neg e,if_neg hn] at hc
   rw[if_pos h0] at ih
   rw[Y6,ih]
   simp only
   rw[hc,if_pos (by omega)]
   congr 1;omega
  ·have hn:idxF s l = -1:=by omega
   rw[if_neg h0] at ih
   rw[Y6,ih]
   simp only
   by_cases e:x=s
   ·rw[if_pos e] at hc
    rw[hc,if_pos e,if_pos (by omega)];simp
   ·rw[if_neg e,if_pos hn] at hc
    rw[hc,if_neg e,if_neg (by omega)]
def Uq:List ByteArray→List ByteArray
 | []=>[]
 | x :: l=>if (l.any fun y=>decide (y=x))=true then Uq l else x :: Uq l
theorem T6 (x:ByteArray) (l:List ByteArray):(l.any fun y=>decide (y=x))=true↔x∈l:=by
 rw[List.any_eq_true]
 constructor
 ·rintro⟨y,hy,h⟩;rw[← of_decide_eq_true h];exact hy
 ·intro h;exact⟨x,h,by simp⟩
theorem Qi (x:ByteArray) (l:List ByteArray):Uq (x :: l)=if (l.any fun y=>decide (y=x))=true then Uq l else x :: Uq l:=rfl
theorem Tx (s:ByteArray):∀l,s∈Uq l↔s∈l
 | []=>Iff.rfl
 | x :: l=>by
  rw[Qi]
  have:=Tx s l
  by_cases h:(l.any fun y=>decide (y=x))=true
  ·rw[if_pos h,this,List.mem_cons]
   exact⟨.inr,fun h'=>h'.elim (fun e=>by rw[e];exact(T6 x l).1 h) id⟩
  ·rw[if_neg h,List.mem_cons,List.mem_cons,this]
theorem Tj:∀l,(Uq l).Nodup
 | []=>List.nodup_nil
 | x :: l=>by
  rw[Qi]
  by_cases h:(l.any fun y=>decide (y=x))=true
  ·rw[if_pos h];exact Tj l
  ·rw[if_neg h]
   exact List.nodup_cons.2 ⟨fun h'=>h ((T6 x l).2 ((Tx x l).1 h')),Tj l⟩
theorem Xja:∀l,(Uq l).length≤l.length
 | []=>Nat.le_refl _
 | x :: l=>by
  rw[Qi]
  have:=Xja l
  split<;>simp<;>omega
theorem Xg4:∀l:List ByteArray,(Uq l).length=l.length↔l.Nodup
 | []=>by simp[Uq]
 | x :: l=>by
  rw[Qi]
  have h1:=Xg4 l
  have h2:=Xja l
  rw[List.nodup_cons]
  by_cases h:(l.any fun y=>decide (y=x))=true
  ·rw[if_pos h,List.length_cons]
   constructor
   ·intro e;omega
   ·rintro⟨h',_⟩;exact absurd ((T6 x l).1 h) h'
  ·rw[if_neg h,List.length_cons,List.length_cons]
   constructor
   ·intro e;exact⟨fun h'=>h ((T6 x l).2 h'),h1.1 (by omega)⟩
   ·rintro⟨_,h'⟩;rw[h1.2 h']
/-! ### striking what is in no circle -/
def Ze (f:ByteArray→Option Bool) (c:ByteArray) (x:RuleG):Bool:=match x.parts.xs with|[p]=>decide (x.cat=c) && decide (p.text.size=0) && (f p.cat).isSome|_=>false
structure LeftInv (rs:List RuleG) (cats:List ByteArray) (k:Nat) (f:ByteArray→Option Bool) (left:ByteArray→Bool):Prop where
 sub:∀x,(f x).isSome→x∈cats∧f x=some true
 keep:∀x,Xb3 (Y2 rs) x→x∈cats→(f x).isSome
 path:∀x,(f x).isSome→PathN (Y2 rs) k x∧(left x=false→PathN (Y2 rs) (k+1) x)
theorem Xdm (f:ByteArray→Option Bool) (c:ByteArray) (x:RuleG):Ze f c x=true↔∃b,Z2 c b x=true∧(f b).isSome:=by
 unfold Ze Z2
 cases hp:x.parts.xs with
 | nil=>simp
 | cons p l =>
  cases l with
  | nil =>
   simp only[Bool.and_eq_true,decide_eq_true_eq]
   constructor
   ·rintro⟨h1,h2⟩;exact⟨p.cat,⟨h1,rfl⟩,h2⟩
   ·rintro⟨b,⟨h1,rfl⟩,h2⟩;exact⟨h1,h2⟩
  | cons q l=>simp
theorem LeftInv.strike {rs:List RuleG} {cats:List ByteArray} {k:Nat} {f:ByteArray→Option Bool} {left:ByteArray→Bool} (h:LeftInv rs cats k f left) {c:ByteArray} (hE:∀y z,Y2 rs y z→z∈cats) (hn:rs.any (Ze f c)=false) :
  LeftInv rs cats k (fun y=>if y=c then none else f y) (fun y=>left y && !decide (y=c)):=by
 refine⟨fun x hx=>?_,fun x ht hx=>?_,fun x hx=>?_⟩
 ·by_cases e:x=c
  ·simp[e] at hx
  ·simp only[e,if_false] at hx ⊢
   exact h.sub x hx
 ·by_cases e:x=c
  ·exfalso
   subst e
   obtain⟨y,⟨r,hr,he⟩,hy⟩:=Xbb ht
   rw[List.any_eq_false] at hn
   exact hn r hr ((Xdm f x r).2 ⟨y,he,h.keep y hy (hE x y ⟨r,hr,he⟩)⟩)
  ·simp only[e,if_false]
   exact h.keep x ht hx
 ·by_cases e:x=c
  ·simp[e] at hx
  ·simp only[e,if_false] at hx
   simpa[e] using h.path x hx
theorem LeftInv.stay {rs:List RuleG} {cats:List ByteArray} {k:Nat} {f:ByteArray→Option Bool} {left:ByteArray→Bool} (h:LeftInv rs cats k f left) {c:ByteArray} (hn:rs.any (Ze f c)=true) :
  LeftInv rs cats k f (fun y=>left y && !decide (y=c)):=by
 refine⟨h.sub,h.keep,fun x hx=>?_⟩
 by_cases e:x=c
 ·subst e
  obtain⟨r,hr,hc⟩:=List.any_eq_true.1 hn
  obtain⟨b,hb,hf⟩:=(Xdm f x r).1 hc
  exact⟨(h.path x hx).1,fun _=>⟨b,⟨r,hr,hb⟩,(h.path b hf).1⟩⟩
 ·simpa[e] using h.path x hx
theorem LeftInv.next {rs:List RuleG} {cats:List ByteArray} {k:Nat} {f:ByteArray→Option Bool} {left:ByteArray→Bool} (h:LeftInv rs cats k f left) (hd:∀x∈cats,left x=false) :
  LeftInv rs cats (k+1) f (fun x=>(f x).isSome) :=
 ⟨h.sub,h.keep,fun x hx=>⟨(h.path x hx).2 (hd x (h.sub x hx).1),fun h0=>by rw[hx] at h0;cases h0⟩⟩
theorem LeftInv.start (rs:List RuleG) (cats:List ByteArray) {f:ByteArray→Option Bool} (hf:∀x,(x∈cats→f x=some true)∧(x∉cats→f x=none)):LeftInv rs cats 0 f (fun x=>(f x).isSome):=by
 refine⟨fun x hx=>?_,fun x _ hx=>by rw[(hf x).1 hx];rfl,fun x hx=>⟨trivial,fun h0=>by rw[hx] at h0;cases h0⟩⟩
 rcases Classical.em (x∈cats) with h|h
 ·exact⟨h,(hf x).1 h⟩
 ·rw[(hf x).2 h] at hx;cases hx
theorem LeftInv.last {g:Gram} {f:ByteArray→Option Bool} {left:ByteArray→Bool} (h:LeftInv g.rules.xs g.cats.xs g.cats.xs.length f left)
  (hp:∀x∈g.rules.xs,∀p,x.parts.xs=[p]→p.text.size=0→p.cat∈g.cats.xs) (hc:∀x∈g.rules.xs,x.cat∈g.cats.xs):(∃x,(f x).isSome)↔Vm g=true:=by
 constructor
 ·rintro⟨x,hx⟩
  unfold Vm
  exact List.any_eq_true.2 ⟨x,(h.sub x hx).1,(Xdb _ _ _).2 (h.path x hx).1⟩
 ·intro hb
  obtain⟨x,hx⟩:=(Xgt g hp hc).1 hb
  have hm:x∈g.cats.xs:=by
   have:∃y,Y2 g.rules.xs x y:=by cases hx with
    | one e=>exact⟨_,e⟩
    | more e _=>exact⟨_,e⟩
   obtain⟨y,r,hr,e⟩:=this
   unfold Z2 at e
   split at e
   ·simp only[Bool.and_eq_true,decide_eq_true_eq] at e
    rw[← e.1.1];exact hc r hr
   ·cases e
  exact⟨x,h.keep x ⟨x,.inl rfl,hx⟩ hm⟩
def U2 (f:ByteArray→Option Bool) (cats:List ByteArray):List ByteArray:=Uq (cats.filter fun x=>(f x).isSome)
theorem Uf {f:ByteArray→Option Bool} {cats:List ByteArray} (h:∀x,(f x).isSome→x∈cats) (x:ByteArray):(f x).isSome↔x∈U2 f cats:=by
 unfold U2
 rw[Tx,List.mem_filter]
 exact⟨fun hx=>⟨h x hx,hx⟩,fun hx=>hx.2⟩
theorem Xgc {f:ByteArray→Option Bool} {cats:List ByteArray} (h:∀x,(f x).isSome→x∈cats):decide (0<(U2 f cats).length)=true↔∃x,(f x).isSome:=by
 rw[decide_eq_true_eq,List.length_pos_iff_exists_mem]
 exact⟨fun ⟨x,hx⟩=>⟨x,(Uf h x).2 hx⟩,fun ⟨x,hx⟩=>⟨x,(Uf h x).1 hx⟩⟩
/-! ### what a breadth-first search reaches -/
structure ReachInv (rs:List RuleG) (frm:ByteArray) (out todo:List ByteArray):Prop where
 sound:∀x∈out,Leads (Y2 rs) frm x
 done:∀x∈todo,x=frm∨x∈out
 full:∀x,(x=frm∨x∈out)→x∉todo→∀y,Y2 rs x y→y∈out
theorem ReachInv.last {rs:List RuleG} {frm:ByteArray} {out:List ByteArray} (h:ReachInv rs frm out []) (x:ByteArray):x∈out↔Leads (Y2 rs) frm x:=by
 constructor
 ·exact h.sound x
 ·intro hl
  have key:∀ {a b},Leads (Y2 rs) a b→(a=frm∨a∈out)→b∈out:=by
   intro a b hab
   induction hab with
   | one e=>exact fun ha=>h.full _ ha (by simp) _ e
   | more e _ ih=>exact fun ha=>ih (.inr (h.full _ ha (by simp) _ e))
  exact key hl (.inl rfl)
end Go.Proofs.YtolpbjjapodmnaaGreatDoor
/- Appends of perhaps nothing, as a step of a region that draws its order; pieces of a slice. -/
namespace Go.Han
open Go.RowKit
section
variable {P:Program} {w:World}
theorem Xrr (size c:Nat) (tx:TypeId) {e:TypeId} (ht:P.underlying tx=some (.slice e)):Src P size tx (.slice none 0 c) 0 [] w:=by
 refine⟨.inl ⟨e,ht⟩,fun w'=>?_,?_,?_,by simp,fun u hu=>by cases hu⟩
 ·rfl
 ·rfl
 ·rfl
theorem Q9 {base e size n:Nat} {v:Value} {xs:List Value} (h:w.ownsRow base e size v n xs):∃A cap,v = .slice A n cap∧n≤cap:=by
 rcases h.2 with ⟨h1,h2⟩|⟨g,cap,cur,h1,_,_,h4,_⟩
 ·subst h2;exact⟨none,0,h1,Nat.le_refl _⟩
 ·exact⟨_,cap,h1,h4⟩
theorem Xhw (row:Option Nat):w.grownBy w row:=Qc (Below.refl _ _) row
theorem Xa8 (base:Nat) (t ty e:TypeId) (i:TypeInfo) (z:Value) (size bytes:Nat) (ht:P.underlying t=some (.slice e)) (hi:P.info? e=some i) (hz:i.zero=some z)
  (hsize:i.size=size) (hby:i.bytes=bytes) (hzs:z.cells.size=size) (hsz:0<size)
  (v:Value) (n:Nat) (xs:List Value) (hown:w.ownsRow base e size v n xs)
  (B:Option Addr) (m c:Nat) (news:List Value) (hl:news.length=m*size) (hr:Rd w B news) (h1:∀u∈news,u.oneCell'=true)
  (h63:n+m≤maxLen) (hbytes:(n+m)*bytes≤140737488355328) (hbase:base≤w.heap.size) :
  ∃v' w',(Builtin.append_ #[t,t] ty #[v,.slice B m c]).run P w = .ok v' w'∧w'.ownsRow base e size v' (n+m) (xs++news)∧w.grownBy w' v.ownBlock∧(v'.ownBlock=v.ownBlock∨v'.ownBlock=some w.heap.size):=by
 cases B with
 | none =>
  have hn:news=[]:=by
   rcases hr with h|⟨b,off,h,_⟩
   ·exact h
   ·cases h
  subst hn
  have hm:m=0:=by
   rcases Nat.eq_zero_or_pos m with h|h
   ·exact h
   ·have:=Nat.mul_pos h hsz;simp at hl;omega
  subst hm
  obtain⟨A,cap,rfl,hle⟩:=Q9 hown
  refine⟨_,_,run_append_nothing w t t ty e i ht hi A n cap hle _ (Xrr i.size c t ht),?_,Xhw _,.inl rfl⟩
  simpa using hown
 | some ad =>
  have hc:∀j u,news[j]? = some u→w.cell? (ad.add j)=some u:=by
   intro j u hu
   rcases hr with h|⟨b,off,h,_,hc⟩
   ·rw[h] at hu;cases hu
   ·cases h
    have:=hc j u hu
    rw[show (⟨b,off,none⟩:Addr).add j=⟨b,off+j,none⟩ from by unfold Addr.add;split<;>simp_all]
    exact this
  obtain⟨v',w',hr,h2,h3,_,h5⟩:=run_append_own_at (P:=P) w base t ty e i z size bytes ht hi hz hsize hby hzs hsz v n xs hown ad m c news hl hc h1 h63 hbytes hbase
  exact⟨v',w',hr,h2,h3,h5⟩
theorem Ue {ops:Array Oper} {rest:List Oper} {o:Oper} {a:Act} {Q:Exit→Act→World→Prop} (hgd:o.guard=none) (s x:Operand) (t:TypeId)
  (ho:o.op = .call {callee:=.builtin .append,args:=#[s,x],argTypes:=#[t,t]})
  (base:Nat) (e:TypeId) (i:TypeInfo) (z:Value) (size bytes:Nat) (ht:P.underlying t=some (.slice e)) (hi:P.info? e=some i) (hz:i.zero=some z)
  (hsize:i.size=size) (hby:i.bytes=bytes) (hzs:z.cells.size=size) (hsz:0<size)
  (v:Value) (n:Nat) (xs:List Value) (hs:a.eval s=v) (B:Option Addr) (m c:Nat) (news:List Value) (hx:a.eval x = .slice B m c)
  (hown:w.ownsRow base e size v n xs) (hl:news.length=m*size) (hr:Rd w B news) (h1:∀u∈news,u.oneCell'=true)
  (h63:n+m≤maxLen) (hbytes:(n+m)*bytes≤140737488355328) (hbase:base≤w.heap.size)
  (h:∀v' w',w'.ownsRow base e size v' (n+m) (xs++news)→w.grownBy w' v.ownBlock→(v'.ownBlock=v.ownBlock∨v'.ownBlock=some w.heap.size)→wpList P ops Q rest (a.put o.dst v') w') :
  wpList P ops Q (o :: rest) a w:=by
 refine wpList_plain hgd fun K hK=>?_
 obtain⟨v',w',hrun,h2,h3,h5⟩:=Xa8 (P:=P) (w:=w) base t o.type e i z size bytes ht hi hz hsize hby hzs hsz v n xs hown B m c news hl hr h1 h63 hbytes hbase
 unfold Oper.wp execOp
 simp only[ho,resolve,invoke,builtin,Sem.run_bind,Sem.run_pure,Result.andThen_ok,List.map_toArray,List.map_cons,List.map_nil,hs,hx,hrun]
 exact hK _ _ (h v' w' h2 h3 h5)
def subA (A:Option Addr) (cp i s:Nat):Option Addr:=if cp=i then A else A.map (·.add (i*s))
theorem Rd.cut {α:Type} {f:α→List Value} {s:Nat} (hs:0<s) (hf:∀y,(f y).length=s) {A:Option Addr} {l:List α} (h:Rd w A (l.flatMap f)) {cp i n:Nat} (hin:i+n≤l.length) (hcp:l.length≤cp) :
  Rd w (subA A cp i s) (((l.drop i).take n).flatMap f):=by
 unfold subA
 by_cases hc:cp=i
 ·obtain rfl:n=0:=by omega
  simp only[List.take_zero]
  exact Rd.nil _ _
 ·rw[if_neg hc]
  rcases h with h0|⟨b,off,he,hb,hcl⟩
  ·have hl:l=[]:=by
    cases l with
    | nil=>rfl
    | cons x l =>
     have:=congrArg List.length h0
     simp[hf] at this
     omega
   rw[hl];simp only[List.drop_nil,List.take_nil];exact Rd.nil _ _
  ·refine .inr ⟨b,off+i*s,by rw[he];simp[Addr.add],hb,fun j u hu=>?_⟩
   rw[Nat.add_assoc]
   refine hcl (i*s+j) u ?_
   have h1:l.flatMap f=(l.take i).flatMap f++(((l.drop i).take n).flatMap f++((l.drop i).drop n).flatMap f):=by
    rw[← List.flatMap_append,List.take_append_drop,← List.flatMap_append,List.take_append_drop]
   have h2:((l.take i).flatMap f).length=i*s:=by rw[Z7 f s hf,List.length_take,Nat.min_eq_left (by omega)]
   rw[h1,List.getElem?_append_right (by omega),h2,Nat.add_sub_cancel_left,List.getElem?_append_left (List.getElem?_eq_some_iff.1 hu).1]
   exact hu
end
end Go.Han
/- Slices of one-cell elements that may begin in the midst of their block (queues): what they own, an append of one more, the rest behind the first. Conditions: none; plain facts about the machine's steps. No program in sight. -/
namespace Go.Han
open Go.RowKit
section
variable {P:Program} {w w':World}
def QRow (w:World) (q:Nat) (e:TypeId) (v:Value) (l:List Value):Prop :=
 ∃A off c cur,v = .slice A l.length c∧(0<c→A=some ⟨q,off,none⟩)∧w.heap[q]? = some (.cells cur e (0,0))∧l.length≤c∧c≤maxLen∧off+c≤cur.size∧∀j (u:Value),l[j]? = some u→cur[off+j]? = some u
theorem QRow.lt {q:Nat} {e:TypeId} {v:Value} {l:List Value} (h:QRow w q e v l):q<w.heap.size:=by
 obtain⟨_,_,_,_,_,_,h3,_⟩:=h
 exact(Array.getElem?_eq_some_iff.1 h3).1
theorem QRow.block {q:Nat} {e:TypeId} {v:Value} {l:List Value} (h:QRow w q e v l) (hb:w'.heap[q]? = w.heap[q]?):QRow w' q e v l:=by
 obtain⟨A,off,c,cur,h1,h2,h3,h4⟩:=h
 exact⟨A,off,c,cur,h1,h2,hb.trans h3,h4⟩
theorem QRow.form {q:Nat} {e:TypeId} {v:Value} {l:List Value} (h:QRow w q e v l):∃A c,v = .slice A l.length c∧l.length≤c∧c≤maxLen∧Rd w A l∧(A=none→l=[]):=by
 have hlt:=h.lt
 obtain⟨A,off,c,cur,rfl,h2,h3,h4,h5,h6,h7⟩:=h
 refine⟨A,c,rfl,h4,h5,?_,fun hA=>?_⟩
 ·rcases Nat.eq_zero_or_pos c with hc|hc
  ·exact .inl (List.eq_nil_of_length_eq_zero (by omega))
  ·refine .inr ⟨q,off,h2 hc,hlt,fun j u hu=>?_⟩
   simp[World.cell?,h3,h7 j u hu]
 ·rcases Nat.eq_zero_or_pos c with hc|hc
  ·exact List.eq_nil_of_length_eq_zero (by omega)
  ·rw[h2 hc] at hA;cases hA
structure QStep (q:Nat) (w w':World):Prop where
 os:w'.os=w.os
 tape:w'.tape=w.tape
 output:w'.output=w.output
 size:w.heap.size≤w'.heap.size
 block:∀k,k<w.heap.size→k≠q→w'.heap[k]? = w.heap[k]?
theorem QStep.below {q:Nat} {w0:World} (h:QStep q w w') (hb:Below w0.heap.size w0 w) (hq:w0.heap.size≤q):Below w0.heap.size w0 w' :=
 ⟨h.os.trans hb.os,h.tape.trans hb.tape,h.output.trans hb.output,Nat.le_trans hb.size h.size,fun k hk=>(h.block k (Nat.lt_of_lt_of_le hk hb.size) (by omega)).trans (hb.block k hk)⟩
theorem QRow.of_new {q:Nat} {e:TypeId} {cur:Array Value} (h:w.heap[q]? = some (.cells cur e (0,0))) (hm:cur.size≤maxLen):QRow w q e (.slice (some ⟨q,0,none⟩) cur.size cur.size) cur.toList :=
 ⟨_,0,cur.size,cur,by simp,fun _=>rfl,h,by simp,hm,by simp,fun j u hu=>by simpa using hu⟩
theorem Xqs (t ty e:TypeId) (i:TypeInfo) (z:Value) (bytes:Nat) (ht:P.underlying t=some (.slice e)) (hi:P.info? e=some i) (hz:i.zero=some z) (hsize:i.size=1) (hby:i.bytes=bytes) (hzs:z.cells.size=1)
  {q:Nat} {v:Value} {l:List Value} (h:QRow w q e v l) (B:Addr) (c':Nat) (u:Value) (hB:w.cell? (B.add 0)=some u) (h1:u.oneCell'=true) (h63:l.length+1≤maxLen) (hbytes:(l.length+1)*bytes≤140737488355328) :
  ∃v' w' q',(Builtin.append_ #[t,t] ty #[v,.slice (some B) 1 c']).run P w = .ok v' w'∧QRow w' q' e v' (l++[u])∧(q'=q∨q'=w.heap.size)∧QStep q w w':=by
 have hf:=h.form
 obtain⟨A,off,c,cur,rfl,h2,h3,h4,h5,h6,h7⟩:=h
 subst hby
 have hs:Src P i.size t (.slice (some B) 1 c') 1 [u] w:=Src.ofSlice w ht B 1 c' [u] (by simp[hsize]) (fun j x hx=>by
  cases j with
  | zero=>simp at hx;subst hx;exact hB
  | succ j=>simp at hx) (by simpa using h1)
 by_cases hr:l.length+1≤c
 ·obtain rfl:=h2 (by omega)
  have hlt:off+l.length<cur.size:=by omega
  have hrun:=run_append_room_src (P:=P) w t t ty e i ht hi q off l.length c (.slice (some B) 1 c') 1 [u] hs hr
   (fun j hj=>by
    obtain rfl:j=0:=by simpa using hj
    simp[World.cell?,h3,hsize,hlt])
   (fun j hj=>by
    simp[World.frozen?,h3])
  rw[hsize,Nat.mul_one] at hrun
  have hblk:(w.setCells q (off+l.length) [u]).heap[q]? = some (.cells (cur.setIfInBounds (off+l.length) u) e (0,0)):=by
   show (w.heap.modify q _)[q]? = _
   obtain⟨hlt',hk⟩:=Array.getElem?_eq_some_iff.1 h3
   rw[Array.getElem?_eq_getElem (by rw[Array.size_modify];exact hlt'),Array.getElem_modify_self,hk]
   rfl
  refine⟨_,_,q,hrun,⟨_,off,c,cur.setIfInBounds (off+l.length) u,by simp,fun _=>rfl,hblk,by simpa using hr,h5,by simpa using h6,fun j x hx=>?_⟩,.inl rfl,?_⟩
  ·by_cases hj:j<l.length
   ·rw[List.getElem?_append_left hj] at hx
    rw[Array.getElem?_setIfInBounds_ne (by omega)]
    exact h7 j x hx
   ·rw[List.getElem?_append_right (by omega)] at hx
    obtain rfl:j=l.length:=by
     rcases Nat.eq_or_lt_of_not_lt hj with h|h
     ·exact h.symm ▸ rfl
     ·have:=(List.getElem?_eq_some_iff.1 hx).1
      simp at this;omega
    simp at hx
    subst hx
    simp[hlt]
  ·exact⟨World.os_setCells ..,rfl,World.output_setCells ..,by show _≤(w.heap.modify q _).size;simp,fun k hk hne=>World.heap_setCells_other w q _ _ hk hne⟩
 ·have hold:(Builtin.firstCells i.size l.length (.slice A l.length c)).run P w.drew = .ok l.toArray w.drew:=by
   rcases Nat.eq_zero_or_pos c with hc|hc
   ·have hl0:l=[]:=List.eq_nil_of_length_eq_zero (by omega)
    subst hl0
    cases A with
    | none=>exact run_firstCells_none w.drew i.size 0 0 c
    | some a=>exact run_firstCells_some w.drew i.size 0 a 0 c [] (by simp) (by simp)
   ·obtain rfl:=h2 hc
    refine run_firstCells_some w.drew i.size l.length _ l.length c l (by simp[hsize]) fun j x hx=>?_
    have:=h7 j x hx
    show w.cell? _=_
    rw[show (⟨q,off,none⟩:Addr).add j=⟨q,off+j,none⟩ from by unfold Addr.add;split<;>simp_all]
    simp[World.cell?,h3,this]
  have h63':((l.length+1:Nat):Int)≤9223372036854775807:=by simp only[maxLen] at h63;omega
  have hrun:=run_append_grow_src (P:=P) w t t ty e i z ht hi hz A l.length c l hold (.slice (some B) 1 c') 1 [u] hs (by omega) h63' (growslice_fits (by omega) hbytes)
  have hge:=grownCap_ge w (l.length+1) c e
  have hcm:=grownCap_le_maxLen w (l.length+1) c e h63
  refine⟨_,_,w.heap.size,hrun,⟨_,0,_,_,by simp,fun _=>rfl,World.alloc_heap_new w.drew _,by simpa using hge,hcm,?_,fun j x hx=>?_⟩,.inr rfl,⟨rfl,rfl,rfl,by simp,fun k hk _=>Below.heap_alloc w.drew _ k hk⟩⟩
  ·rw[Array.size_append,size_zeroCells,hzs]
   simp
   omega
  ·rw[Nat.zero_add,Array.getElem?_append_left (by have:=(List.getElem?_eq_some_iff.1 hx).1;simpa using this)]
   simpa using hx
theorem Xd2 {ops:Array Oper} {rest:List Oper} {o:Oper} {a:Act} {Q:Exit→Act→World→Prop} (hgd:o.guard=none) (s x:Operand) (t:TypeId)
  (ho:o.op = .call {callee:=.builtin .append,args:=#[s,x],argTypes:=#[t,t]})
  (e:TypeId) (i:TypeInfo) (z:Value) (bytes:Nat) (ht:P.underlying t=some (.slice e)) (hi:P.info? e=some i) (hz:i.zero=some z) (hsize:i.size=1) (hby:i.bytes=bytes) (hzs:z.cells.size=1)
  (q:Nat) (v:Value) (l:List Value) (hs:a.eval s=v) (h:QRow w q e v l) (B:Addr) (c':Nat) (u:Value) (hx:a.eval x = .slice (some B) 1 c') (hB:w.cell? (B.add 0)=some u) (h1:u.oneCell'=true)
  (h63:l.length+1≤maxLen) (hbytes:(l.length+1)*bytes≤140737488355328)
  (hK:∀v' w' q',QRow w' q' e v' (l++[u])→(q'=q∨q'=w.heap.size)→QStep q w w'→wpList P ops Q rest (a.put o.dst v') w') :
  wpList P ops Q (o :: rest) a w:=by
 refine wpList_plain hgd fun K hKK=>?_
 obtain⟨v',w',q',hrun,h2,h3,h5⟩:=Xqs (P:=P) (w:=w) t o.type e i z bytes ht hi hz hsize hby hzs h B c' u hB h1 h63 hbytes
 unfold Oper.wp execOp
 simp only[ho,resolve,invoke,builtin,Sem.run_bind,Sem.run_pure,Result.andThen_ok,List.map_toArray,List.map_cons,List.map_nil,hs,hx,hrun]
 exact hKK _ _ (hK v' w' q' h2 h3 h5)
theorem QRow.head {q:Nat} {e:TypeId} {A:Option Addr} {n c:Nat} {u:Value} {l:List Value} (h:QRow w q e (.slice A n c) (u :: l)):∃off,A=some ⟨q,off,none⟩∧w.cell? ⟨q,off,none⟩=some u:=by
 obtain⟨A',off,c',cur,he,h2,h3,h4,h5,h6,h7⟩:=h
 cases he
 rw[List.length_cons] at h4
 refine⟨off,h2 (by omega),?_⟩
 have:=h7 0 u (by simp)
 simp[World.cell?,h3]
 simpa using this
theorem QRow.tail {q:Nat} {e:TypeId} {A:Option Addr} {n c:Nat} {u:Value} {l:List Value} (h:QRow w q e (.slice A n c) (u :: l)):QRow w q e (sliced A 1 n c 1) l:=by
 obtain⟨A',off,c',cur,he,h2,h3,h4,h5,h6,h7⟩:=h
 cases he
 rw[List.length_cons] at h4
 obtain rfl:=h2 (by omega)
 refine⟨if c=1 then some ⟨q,off,none⟩ else some ⟨q,off+1,none⟩,off+1,c-1,cur,?_,fun hc=>?_,h3,by omega,by omega,by omega,fun j x hx=>?_⟩
 ·unfold sliced
  simp[Addr.add]
 ·rw[if_neg (by omega)]
 ·have:=h7 (j+1) x (by simpa using hx)
  rwa [show off+(j+1)=off+1+j by omega] at this
end
end Go.Han
