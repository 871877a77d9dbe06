/- Texts of this claim, one after the other: R29m, R29n, R29p, R29q, R29r. -/
import Derived.Test.YthojaplnimoacaaGreatDoorM28
import Derived.Test.YthojaplnimoacaaGreatDoorM24
import Derived.Test.YthojaplnimoacaaGreatDoorM23
namespace Go.Proofs.YthojaplnimoacaaGreatDoor
open Go.RowKit Go.Han
attribute [local irreducible] wpStill wpQuiet
set_option maxRecDepth 100000
def Xte (X:Nat→Prop) (l:List Dv) (w:World) (e:Ending) (w':World):Prop:=∃f:FoundG,e = .returned (.agg #[.bool f.ok,.int .i64 f.cost,.int .i64 f.rule,.int .i64 f.item,.int .i64 f.frm,.int .i64 f.unt,.slice f.kids.addr f.kids.len f.kids.cap,.int .i64 f.many])∧FoundOk X w' f (Fd.of bigN l)∧Below w.heap.size w w'
theorem Xt8 {c i k:Int} {l:List ItemG} {j:Nat} (hj:j<l.length):Xq c i k 0 (l.take (j+1))=Xq c i k 0 (l.take j)++(if l[j].cat=c∧l[j].frm=i∧l[j].unt=k then [(l[j].cost,Zt j i k)] else []):=by
 rw[show l.take (j+1)=l.take j++[l[j]] from List.take_succ_eq_append_getElem hj,Xds,List.length_take,Nat.min_eq_left (by omega),Nat.zero_add]
theorem Xug {st:Int→ByteArray→Bool} {A:Int→Nat→Nat→List Dv} {c:Int} {i k:Nat} {rs:List RuleG} {j:Nat} (hj:j<rs.length) (hn:rs[j].no=c):X4 st A c i k 0 (rs.take (j+1))=X4 st A c i k 0 (rs.take j)++Xac st A j rs[j] i k:=by
 have hl:(rs.take j).length=j:=by rw[List.length_take];omega
 rw[show rs.take (j+1)=rs.take j++[rs[j]] from List.take_succ_eq_append_getElem hj,Xad,if_pos hn,hl,Nat.zero_add]
theorem Xun {st:Int→ByteArray→Bool} {A:Int→Nat→Nat→List Dv} {j i k:Nat} {r:RuleG} {c:Int} {ks:List TreeV} (L:List Dv) (h:Xv (Ye st A r.parts.xs i k)=some (c,ks)) :
  Fd.of bigN (L++Xac st A j r i k)=Fd.add bigN (Fd.of bigN L) ⟨capN bigN (Ye st A r.parts.xs i k).length,some (r.cost+c,.node j (-1) i k ks)⟩:=by
 rw[Fd.of_append]
 congr 1
 unfold Fd.of Xac
 rw[List.length_map,Qa (fun x:Int×List TreeV=>(r.cost+x.1,TreeV.node j (-1) i k x.2)) r.cost (fun _=>rfl),h]
 rfl
theorem Xub {X:Nat→Prop} {w:World} {ks:List TreeV} {x:TreeG} {r j i k:Int} (h:TreeW X w (.node 0 0 0 0 ks) x):TreeW X w (.node r j i k ks) ⟨r,j,i,k,x.kids⟩:=by
 unfold TreeW TreeAt at h ⊢
 obtain⟨A,cap,css,e,h1⟩:=h
 injection e with _ e
 injection e with _ e
 injection e with _ e
 injection e with _ e
 exact⟨A,cap,css,by rw[e],h1⟩
theorem Xtv {w W3:World} {c:Ch29} (h:((w.alloc (.cells #[.string c.g.name,.slice c.g.cats.addr c.g.cats.xs.length c.g.cats.cap,.string c.g.start,.int .i64 c.g.startNo,.slice c.g.entries.addr c.g.entries.xs.length c.g.entries.cap,.slice c.g.rules.addr c.g.rules.xs.length c.g.rules.cap,.slice c.its.addr c.its.xs.length c.its.cap,.int .i64 c.n,.slice c.l.addr c.l.len c.l.cap] 166)).alloc (.cells #[.bool false,.int .i64 0,.int .i64 0,.int .i64 0,.int .i64 0,.int .i64 0,.slice none 0 0,.int .i64 0] 93)).alloc (.cells #[.bool false,.int .i64 0,.int .i64 0,.int .i64 0,.int .i64 0,.int .i64 0,.slice none 0 0,.int .i64 0] 93)=W3) :
  Hid (Below w.heap.size w W3)∧Hid (W3.heap[w.heap.size]? = some (.cells #[.string c.g.name,.slice c.g.cats.addr c.g.cats.xs.length c.g.cats.cap,.string c.g.start,.int .i64 c.g.startNo,.slice c.g.entries.addr c.g.entries.xs.length c.g.entries.cap,.slice c.g.rules.addr c.g.rules.xs.length c.g.rules.cap,.slice c.its.addr c.its.xs.length c.its.cap,.int .i64 c.n,.slice c.l.addr c.l.len c.l.cap] 166 (0,0)))∧Hid (W3.heap[w.heap.size+1]? = some (.cells #[.bool false,.int .i64 0,.int .i64 0,.int .i64 0,.int .i64 0,.int .i64 0,.slice none 0 0,.int .i64 0] 93 (0,0)))∧Hid (W3.heap[w.heap.size+1+1]? = some (.cells #[.bool false,.int .i64 0,.int .i64 0,.int .i64 0,.int .i64 0,.int .i64 0,.slice none 0 0,.int .i64 0] 93 (0,0)))∧Hid (W3.heap.size=w.heap.size+1+1+1):=by
 subst h
 refine⟨Xe (Xe (Xe (Below.refl _ _) _) _) _,?_,?_,?_,?_⟩
 ·exact(Below.heap_alloc _ _ _ (by simp;omega)).trans ((Below.heap_alloc _ _ _ (by simp)).trans (World.alloc_heap_new _ _))
 ·exact(Below.heap_alloc _ _ _ (by simp)).trans (X0 _ _ _ (by simp))
 ·exact X0 _ _ _ (by simp)
 ·show _=_
  simp
set_option maxHeartbeats 4000000 in
theorem Xt0 (X:Nat→Prop) (c:Ch29) (n:Nat) (A:Int→Nat→Nat→List Dv) (F:List FoundG) (hC:ChC c n A) (cat i k:Nat) (w:World) (hik:i<k) (hkn:k≤n) (hfew:c.its.xs.length≤16384) (hX:∀b,X b→b<w.heap.size) (hW:ChW X c n A F w) :
  Calls Tryz.prog 103 #[.agg #[.string c.g.name,.slice c.g.cats.addr c.g.cats.xs.length c.g.cats.cap,.string c.g.start,.int .i64 c.g.startNo,.slice c.g.entries.addr c.g.entries.xs.length c.g.entries.cap,.slice c.g.rules.addr c.g.rules.xs.length c.g.rules.cap,.slice c.its.addr c.its.xs.length c.its.cap,.int .i64 c.n,.slice c.l.addr c.l.len c.l.cap],.int .i64 (i:Int),.int .i64 (k:Int),.int .i64 (cat:Int)] w (Xte X (Xq cat i k 0 c.its.xs++X4 (Xm c.its.xs) A cat i k 0 c.g.rules.xs) w):=by
 obtain⟨W3,hW3⟩:∃v,((w.alloc (.cells #[.string c.g.name,.slice c.g.cats.addr c.g.cats.xs.length c.g.cats.cap,.string c.g.start,.int .i64 c.g.startNo,.slice c.g.entries.addr c.g.entries.xs.length c.g.entries.cap,.slice c.g.rules.addr c.g.rules.xs.length c.g.rules.cap,.slice c.its.addr c.its.xs.length c.its.cap,.int .i64 c.n,.slice c.l.addr c.l.len c.l.cap] 166)).alloc (.cells #[.bool false,.int .i64 0,.int .i64 0,.int .i64 0,.int .i64 0,.int .i64 0,.slice none 0 0,.int .i64 0] 93)).alloc (.cells #[.bool false,.int .i64 0,.int .i64 0,.int .i64 0,.int .i64 0,.int .i64 0,.slice none 0 0,.int .i64 0] 93)=v:=⟨_,rfl⟩
 obtain⟨HB,HH,HZ,HY,Hs⟩:=Xtv hW3
 have HW3:=Xa hW3
 have HW:=Xa hW
 have h16:=hC.h16
 have hfr:=hC.gram.fewR
 clear hW3 hW
 go_enter Tryz.func103,Tryz.ntmps103
 go_wp2_with fail
 rw[HW3.out]
 go_loopw [10] (fun iv wr=>∃(j:Nat) (f:FoundG),j≤c.its.xs.length∧iv = .int .i64 (j:Int)∧Hid (PaR X W3 (w.heap.size+1+1) f (Xq cat i k 0 (c.its.xs.take j)) wr)) (fun iv _=>c.its.xs.length-(intOf iv).toNat)
 case atStart=>exact⟨0,Xs0,Nat.zero_le _,rfl,⟨Only.refl _ _,HY.out,FoundOk.zero X _⟩⟩
 case round =>
  obtain⟨j,f,hj,rfl,HP⟩:=hrel
  have hs3:=Hs.out
  have HBw:=Xa (Yf HB.out HB.out.size HP.out.only (by omega))
  have hh:=(HP.out.only.block w.heap.size (by omega) (by show _≠_;omega)).trans HH.out
  have Hh:=Xa hh
  have a0:=gblk hh 0
  have a1:=gblk hh 1
  have a2:=gblk hh 2
  have a3:=gblk hh 3
  have a4:=gblk hh 4
  have a5:=gblk hh 5
  have a6:=gblk hh 6
  have a7:=gblk hh 7
  have a8:=gblk hh 8
  by_cases hlt:j<c.its.xs.length
  rotate_left
  ·obtain rfl:j=c.its.xs.length:=by omega
   have hlI:¬(c.its.xs.length:Int)<(c.its.xs.length:Int):=by omega
   rw[List.take_length] at HP
   clear hh hj hlt hs3
   go_wp2_with fail
   go_loopw [12] (fun iv wr=>∃(m:Nat) (f:FoundG),m≤c.g.rules.xs.length∧iv = .int .i64 (m:Int)∧Hid (PaR X W3 (w.heap.size+1+1) f (Xq cat i k 0 c.its.xs++X4 (Xm c.its.xs) A cat i k 0 (c.g.rules.xs.take m)) wr)) (fun iv _=>c.g.rules.xs.length-(intOf iv).toNat)
   case atStart=>exact⟨0,f,Nat.zero_le _,rfl,by rw[List.take_zero];unfold X4;rw[List.append_nil];exact HP.out⟩
   case round =>
    clear HBw Hh HP a0 a1 a2 a3 a4 a5 a6 a7 a8
    obtain⟨m,f,hm,rfl,HP⟩:=hrel
    have hs3:=Hs.out
    have HBw:=Xa (Yf HB.out HB.out.size HP.out.only (by omega))
    have hh:=(HP.out.only.block w.heap.size (by omega) (by show _≠_;omega)).trans HH.out
    have Hh:=Xa hh
    have a0:=gblk hh 0
    have a1:=gblk hh 1
    have a2:=gblk hh 2
    have a3:=gblk hh 3
    have a4:=gblk hh 4
    have a5:=gblk hh 5
    have a6:=gblk hh 6
    have a7:=gblk hh 7
    have a8:=gblk hh 8
    by_cases hlt:m<c.g.rules.xs.length
    rotate_left
    ·obtain rfl:m=c.g.rules.xs.length:=by omega
     have hlI:¬(c.g.rules.xs.length:Int)<(c.g.rules.xs.length:Int):=by omega
     rw[List.take_length] at HP
     have ho:=HP.out.box
     have hz:=(HP.out.only.block (w.heap.size+1) (by omega) (by show _≠_;omega)).trans HZ.out
     have hO9:=Ud wr (w.heap.size+1) f
     have hs:=Xs2 (f:=Xs0) hz f
     have HS9:=Xa hs
     have HP9:Hid (Xte X (Xq cat i k 0 c.its.xs++X4 (Xm c.its.xs) A cat i k 0 c.g.rules.xs) w (.returned (.agg #[.bool f.ok,.int .i64 f.cost,.int .i64 f.rule,.int .i64 f.item,.int .i64 f.frm,.int .i64 f.unt,.slice f.kids.addr f.kids.len f.kids.cap,.int .i64 f.many])) (set8 wr (w.heap.size+1) f)) :=
      ⟨f,rfl,HP.out.ok.keep fun _ _ ht=>ht.only hO9 fun b hb hh=>V5 hz (by rw[← show b=w.heap.size+1 from hb];exact hh.1),Yf HBw.out HBw.out.size hO9 (by omega)⟩
     have z0:=gblk hz 0
     have z1:=gblk hz 1
     have z2:=gblk hz 2
     have z3:=gblk hz 3
     have z4:=gblk hz 4
     have z5:=gblk hz 5
     have z6:=gblk hz 6
     have z7:=gblk hz 7
     have o0:=gblk ho 0
     have o1:=gblk ho 1
     have o2:=gblk ho 2
     have o3:=gblk ho 3
     have o4:=gblk ho 4
     have o5:=gblk ho 5
     have o6:=gblk ho 6
     have o7:=gblk ho 7
     have hzf:=fun n=>Xf hz n
     clear ho hz hs hs3 hO9 hh hm hlt
     go_wp2_with fail
     change bodyPost _ _ _ _ _ (set8 wr (w.heap.size+1) f)
     have hs:=HS9.out
     generalize set8 wr (w.heap.size+1) f=w9 at *
     have s0:=gblk hs 0
     have s1:=gblk hs 1
     have s2:=gblk hs 2
     have s3:=gblk hs 3
     have s4:=gblk hs 4
     have s5:=gblk hs 5
     have s6:=gblk hs 6
     have s7:=gblk hs 7
     exact bodyPost_ret (v:=.agg #[.bool f.ok,.int .i64 f.cost,.int .i64 f.rule,.int .i64 f.item,.int .i64 f.frm,.int .i64 f.unt,.slice f.kids.addr f.kids.len f.kids.cap,.int .i64 f.many]) (by simp[results,Tryz.results103,go_sem,s0,s1,s2,s3,s4,s5,s6,s7]) rfl HP9.out
    have hjI:(m:Int)<(c.g.rules.xs.length:Int):=by omega
    have HWr:=Xa (HW.out.ext HBw.out)
    obtain⟨bi,oi,hA,hbi,hcl⟩:=HWr.out.g.rules.at_ RuleG.size_cells (by decide) hlt
    have d0:wr.cell? ⟨bi,oi+m*5,none⟩=some (.string c.g.rules.xs[m].cat):=hcl m hlt wr (Below.refl _ _) 0 _ rfl
    have d1:wr.cell? ⟨bi,oi+m*5+1,none⟩=some (.int .i64 c.g.rules.xs[m].no):=hcl m hlt wr (Below.refl _ _) 1 _ rfl
    have d2:wr.cell? ⟨bi,oi+m*5+2,none⟩=some (.slice c.g.rules.xs[m].parts.addr c.g.rules.xs[m].parts.xs.length c.g.rules.xs[m].parts.cap):=hcl m hlt wr (Below.refl _ _) 2 _ rfl
    have d3:wr.cell? ⟨bi,oi+m*5+3,none⟩=some (.slice c.g.rules.xs[m].gives.addr c.g.rules.xs[m].gives.xs.length c.g.rules.xs[m].gives.cap):=hcl m hlt wr (Below.refl _ _) 3 _ rfl
    have d4:wr.cell? ⟨bi,oi+m*5+4,none⟩=some (.int .i64 c.g.rules.xs[m].cost):=hcl m hlt wr (Below.refl _ _) 4 _ rfl
    rw[hA] at a5
    have hrm:=List.getElem_mem hlt
    obtain⟨ru,hru⟩:∃y,c.g.rules.xs[m]=y:=⟨_,rfl⟩
    have hskip:=fun h=>Xlo (st:=Xm c.its.xs) (A:=A) (c:=(cat:Int)) (i:=i) (k:=k) hlt h
    have hstep:=fun h=>Xug (st:=Xm c.its.xs) (A:=A) (c:=(cat:Int)) (i:=i) (k:=k) hlt h
    rw[hru] at d0 d1 d2 d3 d4 hrm hskip hstep
    obtain⟨W5,hW5⟩:∃v,wr.alloc (.cells #[.string ru.cat,.int .i64 ru.no,.slice ru.parts.addr ru.parts.xs.length ru.parts.cap,.slice ru.gives.addr ru.gives.xs.length ru.gives.cap,.int .i64 ru.cost] 104)=v:=⟨_,rfl⟩
    have hb5:=Yn hW5
    have hx5:=Yv hW5
    have HP5:=Xa (HP.out.ext hb5)
    have hh5:=Xh hb5 hh
    have x0:=gblk hx5 0
    have x1:=gblk hx5 1
    have x2:=gblk hx5 2
    have x3:=gblk hx5 3
    have x4:=gblk hx5 4
    have e0:=gblk hh5 0
    have e1:=gblk hh5 1
    have e2:=gblk hh5 2
    have e3:=gblk hh5 3
    have e4:=gblk hh5 4
    have e5:=gblk hh5 5
    have e6:=gblk hh5 6
    have e7:=gblk hh5 7
    have e8:=gblk hh5 8
    have HB5:=Xa hb5
    have HX5:=Xa hx5
    have Hskip:=Xa hskip
    have Hstep:=Xa hstep
    have Hrm:=Xa hrm
    clear hh hru hb5 hx5 hh5 hs3 hA hcl hskip hstep hrm
    by_cases hcat:ru.no=(cat:Int)
    rotate_left
    ·have g1:(ru.no != (cat:Int))=true:=by simpa using hcat
     have HL:=Xa (Hskip.out hcat)
     clear hcat
     go_wp2_with fail
     go_roundw
     case rel=>exact⟨m+1,f,hlt,by go_num,by rw[HL.out];exact HP5.out⟩
     case measure=>simp[intOf];omega
    have g1:(ru.no != (cat:Int))=false:=by simpa using hcat
    have HL:=Xa (Hstep.out hcat)
    have hrule:=hC.gram.rule ru Hrm.out
    have hparts:=Xud X c n A F hC ru.parts.xs ru 0 i k W5 rfl (Nat.zero_le _) hrule.2.2.2.2.2 (fun q hq ht=>by
     have hn:=hC.gram.part ru Hrm.out q hq ht
     have hl:=Xee q.cat c.g.cats.xs
     rw[← hn.1] at hl
     exact⟨hn.2,hl⟩) (by omega) hkn (fun b hb=>Nat.lt_of_lt_of_le (hX b hb) (Nat.le_trans HBw.out.size HB5.out.size)) ((HWr.out.g.rule ru Hrm.out).ext HB5.out) (HWr.out.ext HB5.out)
    have Hparts:=Xa hparts
    have Hrule:=Xa hrule
    clear hcat hparts hrule
    go_wp2_with fail
    refine Hparts.out.mono ?_
    rintro e w6 ⟨fx,rfl,hfx,hb6⟩
    obtain⟨W7,hW7⟩:∃v,w6.alloc (.cells #[.bool fx.ok,.int .i64 fx.cost,.int .i64 fx.rule,.int .i64 fx.item,.int .i64 fx.frm,.int .i64 fx.unt,.slice fx.kids.addr fx.kids.len fx.kids.cap,.int .i64 fx.many] 93)=v:=⟨_,rfl⟩
    have hb7:=Yn hW7
    have hy7:=Yv hW7
    have HP7:=Xa ((HP5.out.ext hb6).ext hb7)
    have hx7:=Xh hb7 (Xh hb6 HX5.out)
    have ho7:=HP7.out.box
    have Hfx:=Xa (hfx.keep (X':=X) (w':=W7) fun _ _ h=>h.ext hb7)
    have y0:=gblk hy7 0
    have y1:=gblk hy7 1
    have y2:=gblk hy7 2
    have y3:=gblk hy7 3
    have y4:=gblk hy7 4
    have y5:=gblk hy7 5
    have y6:=gblk hy7 6
    have y7:=gblk hy7 7
    have r0:=gblk hx7 0
    have r1:=gblk hx7 1
    have r2:=gblk hx7 2
    have r3:=gblk hx7 3
    have r4:=gblk hx7 4
    have o0:=gblk ho7 0
    have o1:=gblk ho7 1
    have o2:=gblk ho7 2
    have o3:=gblk ho7 3
    have o4:=gblk ho7 4
    have o5:=gblk ho7 5
    have o6:=gblk ho7 6
    have o7:=gblk ho7 7
    have hof:=fun n=>Xf ho7 n
    have hyl:=Xc hy7
    have hxl7:=Xc hx7
    have hlo:=Xc HP5.out.box
    have hyn:w6.heap.size≠w.heap.size+1+1:=by have:=hb6.size;omega
    have hxn:wr.heap.size≠w.heap.size+1+1:=by have:=Xc HP.out.box;omega
    have Hy7:=Xa hy7
    have Hx7:=Xa hx7
    clear x0 x1 x2 x3 x4 e0 e1 e2 e3 e4 e5 e6 e7 e8 hb6 hb7 hy7 hx7 ho7 hfx hlo
    cases hox:fx.ok
    ·rw[hox] at y0 hW7
     have hK0:=Hfx.out.none_ hox
     have HL2:Hid (X4 (Xm c.its.xs) A cat i k 0 (c.g.rules.xs.take (m+1))=X4 (Xm c.its.xs) A cat i k 0 (c.g.rules.xs.take m)):=by
      show _=_
      rw[HL.out]
      unfold Xac
      rw[hK0,List.map_nil,List.append_nil]
     clear hK0 hox
     go_wp2_with fail
     go_roundw
     case rel=>exact⟨m+1,f,hlt,by go_num,by rw[HL2.out];exact HP7.out⟩
     case measure=>simp[intOf];omega
    rw[hox] at y0 hW7
    obtain⟨cx,ks,hk1,hk2,hk3,hk4⟩:=Hfx.out.some_ hox
    obtain⟨M0,hM0⟩:∃M:Nat,(Fd.of bigN (Xq cat i k 0 c.its.xs++X4 (Xm c.its.xs) A cat i k 0 (c.g.rules.xs.take m))).many=M:=⟨_,rfl⟩
    obtain⟨M1,hM1⟩:∃M:Nat,capN bigN (Ye (Xm c.its.xs) A ru.parts.xs i k).length=M:=⟨_,rfl⟩
    have hd0:M0≤bigN+1:=by rw[← hM0];exact Xan _ _
    have hd1:M1≤bigN+1:=by rw[← hM1];exact Xan _ _
    have hf0:f.many=(M0:Int):=by rw[← hM0];exact HP7.out.ok.many
    rw[hf0] at o7
    rw[hk4,hM1] at y7
    obtain⟨S,hS⟩:∃S,M0+M1=S:=⟨_,rfl⟩
    have hwS:IntKind.i64.wrap ((M0:Int)+(M1:Int))=(S:Int):=by rw[← hS];exact Xtj hd0 hd1
    obtain⟨Q,hQ⟩:∃Q,capN bigN S=Q:=⟨_,rfl⟩
    have Hfw:Hid (∀V,Calls Tryz.prog 151 #[.int .i64 (S:Int)] V fun e w'=>e = .returned (.int .i64 (Q:Int))∧V=w'):=fun V=>by
     have h:=few29N_any S V
     rw[hQ] at h
     exact h
    have HM0:=Xa hM0
    have HM1:=Xa hM1
    have HS:=Xa hS
    have HQ:=Xa hQ
    have Hk1:=Xa hk1
    have Hk2:=Xa hk2
    have Hk3:=Xa hk3
    obtain⟨W8,hW8⟩:∃v,W7.setCell ⟨w.heap.size+1+1,7,none⟩ (.int .i64 (Q:Int))=v:=⟨_,rfl⟩
    have hO8:Only (fun b=>b=w.heap.size+1+1) W7 W8:=by rw[← hW8];exact Only.setCell (M:=fun b=>b=w.heap.size+1+1) (Only.refl _ W7) (p:=⟨w.heap.size+1+1,7,none⟩) (.inl rfl) _
    have ho8:W8.heap[w.heap.size+1+1]? = some (.cells #[.bool f.ok,.int .i64 f.cost,.int .i64 f.rule,.int .i64 f.item,.int .i64 f.frm,.int .i64 f.unt,.slice f.kids.addr f.kids.len f.kids.cap,.int .i64 (Q:Int)] 93 (0,0)):=by rw[← hW8];exact Xr HP7.out.box 7 _
    have hX8:∀t x,TreeW X W7 t x→TreeW X W8 t x:=fun t x h=>h.only hO8 fun b hb hh=>V5 HP7.out.box (by rw[← show b=w.heap.size+1+1 from hb];exact hh.1)
    have hx8:=(hO8.block wr.heap.size hxl7 hxn).trans Hx7.out
    have hy8:=(hO8.block w6.heap.size hyl hyn).trans Hy7.out
    have HO8y:=Xa hy8
    have HO8:=Xa (HP7.out.only.trans hO8)
    have Ho8:=Xa ho8
    have HX8:=Xa hX8
    have hr2:=(Xs1 hC (st:=Xm c.its.xs) ru.parts.xs i k _ (fun q hq ht=>by
     have hn:=hC.gram.part ru Hrm.out q hq ht
     have hl:=Xee q.cat c.g.cats.xs
     rw[← hn.1] at hl
     exact⟨hn.2,hl⟩) hkn (Zv hk1).1)
    have hwc:IntKind.i64.wrap (ru.cost+fx.cost)=ru.cost+fx.cost:=IntWalk.i64_in _ (by have h3:=Hrule.out.2.2.2.2.2;have h4:=Hrule.out.2.2.1;have h5:=Hrule.out.2.2.2.1;rw[hk2];simp only at hr2;omega)
    have Hfd:Hid (Fd.of bigN (Xq cat i k 0 c.its.xs++X4 (Xm c.its.xs) A cat i k 0 (c.g.rules.xs.take (m+1)))=Fd.add bigN (Fd.of bigN (Xq cat i k 0 c.its.xs++X4 (Xm c.its.xs) A cat i k 0 (c.g.rules.xs.take m))) ⟨M1,some (ru.cost+fx.cost,.node m (-1) i k ks)⟩):=by
     show _=_
     rw[HL.out,← List.append_assoc,Xun _ hk1,hM1,hk2]
    have x0:=gblk hx8 0
    have x1:=gblk hx8 1
    have x2:=gblk hx8 2
    have x3:=gblk hx8 3
    have x4:=gblk hx8 4
    have u0:=gblk hy8 0
    have u1:=gblk hy8 1
    have u2:=gblk hy8 2
    have u3:=gblk hy8 3
    have u4:=gblk hy8 4
    have u5:=gblk hy8 5
    have u6:=gblk hy8 6
    have u7:=gblk hy8 7
    have q0:=gblk ho8 0
    have q1:=gblk ho8 1
    have q2:=gblk ho8 2
    have q3:=gblk ho8 3
    have q4:=gblk ho8 4
    have q5:=gblk ho8 5
    have q6:=gblk ho8 6
    have q7:=gblk ho8 7
    rw[hox] at u0
    have hqf:=fun n=>Xf ho8 n
    clear hM0 hM1 hd0 hd1 hf0 hk1 hk2 hk3 hk4 hS hQ hO8 ho8 hX8 hx8 hy8 hr2 hox
    have hcase:(f.ok=true∧¬ru.cost+fx.cost<f.cost)∨(f.ok=false∨(f.ok=true∧ru.cost+fx.cost<f.cost)):=by
     cases f.ok<;>simp<;>omega
    rcases hcase with ⟨hn1,hn2⟩|hcase
    ·have g5:decide (ru.cost+fx.cost<f.cost)=false:=decide_eq_false hn2
     rw[hn1] at q0
     have HF:=Xa (HP7.out.ok.skip (cost:=ru.cost+fx.cost) (m:=M1) (t:=.node m (-1) i k ks) HX8.out (fun h=>by rcases h with h|h;rw[hn1] at h;cases h;exact hn2 h))
     go_wp2_with fail
     refine(Hfw.out _).mono ?_
     rintro e V1 ⟨rfl,rfl⟩
     go_wp2_with fail
     go_roundw
     case rel=>exact⟨m+1,⟨f.ok,f.cost,f.rule,f.item,f.frm,f.unt,f.kids,(Q:Int)⟩,hlt,by go_num,⟨HO8.out,Ho8.out,by rw[Hfd.out,← HQ.out,← HS.out,← HM0.out];exact HF.out⟩⟩
     case measure=>simp[intOf];omega
    ·obtain⟨W9,hW9⟩:∃v,(W8.setCell ⟨w.heap.size+1+1,0,none⟩ (.bool true)).setCell ⟨w.heap.size+1+1,1,none⟩ (.int .i64 (ru.cost+fx.cost))=v:=⟨_,rfl⟩
     have hO9:=Xtc W8 (w.heap.size+1+1) (.bool true) (.int .i64 (ru.cost+fx.cost))
     have ho9:=Xtw Ho8.out (.bool true) (.int .i64 (ru.cost+fx.cost))
     rw[hW9] at hO9 ho9
     have hy9:=(hO9.block w6.heap.size (Xc HO8y.out) hyn).trans HO8y.out
     have hX9:∀t x,TreeW X W7 t x→TreeW X W9 t x:=fun t x h=>(HX8.out t x h).only hO9 fun b hb hh=>V5 Ho8.out (by rw[← show b=w.heap.size+1+1 from hb];exact hh.1)
     obtain⟨W10,hW10⟩:∃v,((((W9.setCell ⟨w.heap.size+1+1,2,none⟩ (.int .i64 (m:Int))).setCell ⟨w.heap.size+1+1,2+1,none⟩ (.int .i64 (-1))).setCell ⟨w.heap.size+1+1,2+2,none⟩ (.int .i64 (i:Int))).setCell ⟨w.heap.size+1+1,2+3,none⟩ (.int .i64 (k:Int))).setCell ⟨w.heap.size+1+1,2+4,none⟩ (.slice fx.kids.addr fx.kids.len fx.kids.cap)=v:=⟨_,rfl⟩
     have hO10:=Xs7 W9 (w.heap.size+1+1) (.int .i64 (m:Int)) (.int .i64 (-1)) (.int .i64 (i:Int)) (.int .i64 (k:Int)) (.slice fx.kids.addr fx.kids.len fx.kids.cap)
     have ho10:=Xth ho9 (.int .i64 (m:Int)) (.int .i64 (-1)) (.int .i64 (i:Int)) (.int .i64 (k:Int)) (.slice fx.kids.addr fx.kids.len fx.kids.cap)
     rw[hW10] at hO10 ho10
     have htr:=Xub (r:=(m:Int)) (j := -1) (i:=(i:Int)) (k:=(k:Int)) ((hX9 _ _ Hk3.out).only hO10 fun b hb hh=>V5 ho9 (by rw[← show b=w.heap.size+1+1 from hb];exact hh.1))
     have HF:=Xa (HP7.out.ok.took (X':=X) (w':=W10) (cost:=ru.cost+fx.cost) (m:=M1) htr (by rcases hcase with h|h;exact .inl h;exact .inr h.2))
     have HO10:=Xa ((HO8.out.trans hO9).trans hO10)
     have Ho10:=Xa ho10
     have s0:=gblk ho9 0
     have s1:=gblk ho9 1
     have s2:=gblk ho9 2
     have s3:=gblk ho9 3
     have s4:=gblk ho9 4
     have s5:=gblk ho9 5
     have s6:=gblk ho9 6
     have s7:=gblk ho9 7
     have v0:=gblk hy9 0
     have v1:=gblk hy9 1
     have v2:=gblk hy9 2
     have v3:=gblk hy9 3
     have v4:=gblk hy9 4
     have v5:=gblk hy9 5
     have v6:=gblk hy9 6
     have v7:=gblk hy9 7
     have hsf:=fun n=>Xf ho9 n
     clear hO9 ho9 hO10 ho10 hy9 hX9 htr
     rcases hcase with hn1|⟨hn1,hn2⟩
     all_goals
      rw[hn1] at q0
      go_wp2_with fail
      refine(Hfw.out _).mono ?_
      rintro e V1 ⟨rfl,rfl⟩
      go_wp2_with fail
      go_roundw
      case rel=>exact⟨m+1,⟨true,ru.cost+fx.cost,(m:Int), -1,(i:Int),(k:Int),fx.kids,(Q:Int)⟩,hlt,by go_num,⟨HO10.out,Ho10.out,by rw[Hfd.out,← HQ.out,← HS.out,← HM0.out];exact HF.out⟩⟩
      case measure=>simp[intOf];omega
  ·have hjI:(j:Int)<(c.its.xs.length:Int):=by omega
   have HWr:=Xa (HW.out.ext HBw.out)
   obtain⟨bi,oi,hA,hbi,hcl⟩:=HWr.out.its.lies.at_ ItemG.size_cells (by decide) hlt
   have d0:wr.cell? ⟨bi,oi+j*6,none⟩=some (.int .i64 c.its.xs[j].cat):=hcl j hlt wr (Below.refl _ _) 0 _ rfl
   have d1:wr.cell? ⟨bi,oi+j*6+1,none⟩=some (.int .i64 c.its.xs[j].frm):=hcl j hlt wr (Below.refl _ _) 1 _ rfl
   have d2:wr.cell? ⟨bi,oi+j*6+2,none⟩=some (.int .i64 c.its.xs[j].unt):=hcl j hlt wr (Below.refl _ _) 2 _ rfl
   have d3:wr.cell? ⟨bi,oi+j*6+3,none⟩=some (.int .i64 c.its.xs[j].cost):=hcl j hlt wr (Below.refl _ _) 3 _ rfl
   have d4:wr.cell? ⟨bi,oi+j*6+4,none⟩=some (.slice c.its.xs[j].tgt.addr c.its.xs[j].tgt.xs.length c.its.xs[j].tgt.cap):=hcl j hlt wr (Below.refl _ _) 4 _ rfl
   have d5:wr.cell? ⟨bi,oi+j*6+5,none⟩=some (.int .i64 c.its.xs[j].term):=hcl j hlt wr (Below.refl _ _) 5 _ rfl
   have hst:=Xt8 (c:=(cat:Int)) (i:=(i:Int)) (k:=(k:Int)) hlt
   rw[hA] at a6
   obtain⟨xi,hxi⟩:∃y,c.its.xs[j]=y:=⟨_,rfl⟩
   rw[hxi] at hst d0 d1 d2 d3 d4 d5
   obtain⟨W5,hW5⟩:∃v,wr.alloc (.cells #[.int .i64 xi.cat,.int .i64 xi.frm,.int .i64 xi.unt,.int .i64 xi.cost,.slice xi.tgt.addr xi.tgt.xs.length xi.tgt.cap,.int .i64 xi.term] 47)=v:=⟨_,rfl⟩
   have hb5:=Yn hW5
   have hx5:=Yv hW5
   have HP5:=Xa (HP.out.ext hb5)
   have hh5:=Xh hb5 hh
   have ho5:=HP5.out.box
   have x0:=gblk hx5 0
   have x1:=gblk hx5 1
   have x2:=gblk hx5 2
   have x3:=gblk hx5 3
   have x4:=gblk hx5 4
   have x5:=gblk hx5 5
   have o0:=gblk ho5 0
   have o1:=gblk ho5 1
   have o2:=gblk ho5 2
   have o3:=gblk ho5 3
   have o4:=gblk ho5 4
   have o5:=gblk ho5 5
   have o6:=gblk ho5 6
   have o7:=gblk ho5 7
   have hof:=fun n=>Xf ho5 n
   have hxl:=Xc hx5
   have Hst:=Xa hst
   have Hxi:=Xa hxi
   have hbne:wr.heap.size≠w.heap.size+1+1:=by have:=Xc HP.out.box;omega
   clear hh hst hxi hb5 hx5 hh5 ho5 hs3 hA hcl
   have hcase:(¬xi.cat=(cat:Int)∨(xi.cat=(cat:Int)∧¬xi.frm=(i:Int))∨(xi.cat=(cat:Int)∧xi.frm=(i:Int)∧¬xi.unt=(k:Int)))∨(xi.cat=(cat:Int)∧xi.frm=(i:Int)∧xi.unt=(k:Int)):=by
    by_cases h1:xi.cat=(cat:Int)<;>by_cases h2:xi.frm=(i:Int)<;>by_cases h3:xi.unt=(k:Int)<;>simp[h1,h2,h3]
   rcases hcase with hno|⟨h1,h2,h3⟩
   ·have HL:Hid (Xq cat i k 0 (c.its.xs.take (j+1))=Xq cat i k 0 (c.its.xs.take j)):=by
     show _=_
     rw[Hst.out,if_neg,List.append_nil]
     rintro⟨h1,h2,h3⟩
     rcases hno with h|⟨_,h⟩|⟨_,_,h⟩
     ·exact h h1
     ·exact h h2
     ·exact h h3
    rcases hno with h1|⟨h1,h2⟩|⟨h1,h2,h3⟩
    ·have g1:(xi.cat == (cat:Int))=false:=by simpa using h1
     clear h1
     go_wp2_with fail
     go_roundw
     case rel=>exact⟨j+1,f,hlt,by go_num,by rw[HL.out];exact HP5.out⟩
     case measure=>simp[intOf];omega
    ·have g1:(xi.cat == (cat:Int))=true:=by simpa using h1
     have g2:(xi.frm == (i:Int))=false:=by simpa using h2
     clear h1 h2
     go_wp2_with fail
     go_roundw
     case rel=>exact⟨j+1,f,hlt,by go_num,by rw[HL.out];exact HP5.out⟩
     case measure=>simp[intOf];omega
    ·have g1:(xi.cat == (cat:Int))=true:=by simpa using h1
     have g2:(xi.frm == (i:Int))=true:=by simpa using h2
     have g3:(xi.unt == (k:Int))=false:=by simpa using h3
     clear h1 h2 h3
     go_wp2_with fail
     go_roundw
     case rel=>exact⟨j+1,f,hlt,by go_num,by rw[HL.out];exact HP5.out⟩
     case measure=>simp[intOf];omega
   ·have g1:(xi.cat == (cat:Int))=true:=by simpa using h1
    have g2:(xi.frm == (i:Int))=true:=by simpa using h2
    have g3:(xi.unt == (k:Int))=true:=by simpa using h3
    have HL:Hid (Xq cat i k 0 (c.its.xs.take (j+1))=Xq cat i k 0 (c.its.xs.take j)++[(xi.cost,Zt j i k)]):=Hst.out.trans (by rw[if_pos ⟨h1,h2,h3⟩])
    clear h1 h2 h3
    have hd0:(Fd.of bigN (Xq cat i k 0 (c.its.xs.take j))).many≤bigN+1:=Xan _ _
    obtain⟨M0,hM0⟩:∃M:Nat,(Fd.of bigN (Xq cat i k 0 (c.its.xs.take j))).many=M:=⟨_,rfl⟩
    have hf0:f.many=(M0:Int):=by rw[← hM0];exact HP5.out.ok.many
    rw[hM0] at hd0
    rw[hf0] at o7
    obtain⟨S,hS⟩:∃S,M0+1=S:=⟨_,rfl⟩
    have hwS:IntKind.i64.wrap ((M0:Int)+1)=(S:Int):=by rw[← hS];exact Xtj hd0 (show 1≤bigN+1 by decide)
    obtain⟨Q,hQ⟩:∃Q,capN bigN S=Q:=⟨_,rfl⟩
    have Hfw:Hid (∀V,Calls Tryz.prog 151 #[.int .i64 (S:Int)] V fun e w'=>e = .returned (.int .i64 (Q:Int))∧V=w'):=fun V=>by
     have h:=few29N_any S V
     rw[hQ] at h
     exact h
    have HM0:=Xa hM0
    have HS:=Xa hS
    have HQ:=Xa hQ
    obtain⟨W6,hW6⟩:∃v,W5.setCell ⟨w.heap.size+1+1,7,none⟩ (.int .i64 (Q:Int))=v:=⟨_,rfl⟩
    have hO6:Only (fun b=>b=w.heap.size+1+1) W5 W6:=by rw[← hW6];exact Only.setCell (M:=fun b=>b=w.heap.size+1+1) (Only.refl _ W5) (p:=⟨w.heap.size+1+1,7,none⟩) (.inl rfl) _
    have ho6:W6.heap[w.heap.size+1+1]? = some (.cells #[.bool f.ok,.int .i64 f.cost,.int .i64 f.rule,.int .i64 f.item,.int .i64 f.frm,.int .i64 f.unt,.slice f.kids.addr f.kids.len f.kids.cap,.int .i64 (Q:Int)] 93 (0,0)):=by rw[← hW6];exact Xr HP5.out.box 7 _
    have hX6:∀t x,TreeW X W5 t x→TreeW X W6 t x:=fun t x h=>h.only hO6 fun b hb hh=>V5 HP5.out.box (by rw[← show b=w.heap.size+1+1 from hb];exact hh.1)
    have hx6:=(hO6.block wr.heap.size hxl hbne).trans (Yv hW5)
    have HO6:=Xa (HP5.out.only.trans hO6)
    have Ho6:=Xa ho6
    have HX6:=Xa hX6
    have y0:=gblk hx6 0
    have y1:=gblk hx6 1
    have y2:=gblk hx6 2
    have y3:=gblk hx6 3
    have y4:=gblk hx6 4
    have y5:=gblk hx6 5
    have q0:=gblk ho6 0
    have q1:=gblk ho6 1
    have q2:=gblk ho6 2
    have q3:=gblk ho6 3
    have q4:=gblk ho6 4
    have q5:=gblk ho6 5
    have q6:=gblk ho6 6
    have q7:=gblk ho6 7
    have hqf:=fun n=>Xf ho6 n
    clear hM0 hS hQ hO6 ho6 hX6 hx6 hf0 hd0
    have hcase:(f.ok=true∧¬xi.cost<f.cost)∨(f.ok=false∨(f.ok=true∧xi.cost<f.cost)):=by
     cases f.ok<;>simp<;>omega
    rcases hcase with ⟨hk1,hk2⟩|hcase
    ·have g5:decide (xi.cost<f.cost)=false:=decide_eq_false hk2
     rw[hk1] at q0
     have HF:=Xa (HP5.out.ok.skip (cost:=xi.cost) (m:=1) (t:=Zt j i k) HX6.out (fun h=>by rcases h with h|h;rw[hk1] at h;cases h;exact hk2 h))
     go_wp2_with fail
     refine(Hfw.out _).mono ?_
     rintro e V1 ⟨rfl,rfl⟩
     go_wp2_with fail
     go_roundw
     case rel=>exact⟨j+1,⟨f.ok,f.cost,f.rule,f.item,f.frm,f.unt,f.kids,(Q:Int)⟩,hlt,by go_num,⟨HO6.out,Ho6.out,by rw[HL.out,Xrh,← HQ.out,← HS.out,← HM0.out];exact HF.out⟩⟩
     case measure=>simp[intOf];omega
    ·obtain⟨W7,hW7⟩:∃v,(W6.setCell ⟨w.heap.size+1+1,0,none⟩ (.bool true)).setCell ⟨w.heap.size+1+1,1,none⟩ (.int .i64 xi.cost)=v:=⟨_,rfl⟩
     have hO7:=Xtc W6 (w.heap.size+1+1) (.bool true) (.int .i64 xi.cost)
     have ho7:=Xtw Ho6.out (.bool true) (.int .i64 xi.cost)
     rw[hW7] at hO7 ho7
     obtain⟨W8,hW8⟩:∃v,((((W7.setCell ⟨w.heap.size+1+1,2,none⟩ (.int .i64 (-1))).setCell ⟨w.heap.size+1+1,2+1,none⟩ (.int .i64 (j:Int))).setCell ⟨w.heap.size+1+1,2+2,none⟩ (.int .i64 (i:Int))).setCell ⟨w.heap.size+1+1,2+3,none⟩ (.int .i64 (k:Int))).setCell ⟨w.heap.size+1+1,2+4,none⟩ (.slice none 0 0)=v:=⟨_,rfl⟩
     have hO8:=Xs7 W7 (w.heap.size+1+1) (.int .i64 (-1)) (.int .i64 (j:Int)) (.int .i64 (i:Int)) (.int .i64 (k:Int)) (.slice none 0 0)
     have ho8:=Xth ho7 (.int .i64 (-1)) (.int .i64 (j:Int)) (.int .i64 (i:Int)) (.int .i64 (k:Int)) (.slice none 0 0)
     rw[hW8] at hO8 ho8
     have HF:=Xa (HP5.out.ok.took (X':=X) (w':=W8) (cost:=xi.cost) (m:=1) (Xnx X W8 j i k) (by rcases hcase with h|h;exact .inl h;exact .inr h.2))
     have HO8:=Xa ((HO6.out.trans hO7).trans hO8)
     have Ho8:=Xa ho8
     have s0:=gblk ho7 0
     have s1:=gblk ho7 1
     have s2:=gblk ho7 2
     have s3:=gblk ho7 3
     have s4:=gblk ho7 4
     have s5:=gblk ho7 5
     have s6:=gblk ho7 6
     have s7:=gblk ho7 7
     have hsf:=fun n=>Xf ho7 n
     clear hO7 ho7 hO8 ho8
     rcases hcase with hk1|⟨hk1,hk2⟩
     all_goals
      rw[hk1] at q0
      go_wp2_with fail
      refine(Hfw.out _).mono ?_
      rintro e V1 ⟨rfl,rfl⟩
      go_wp2_with fail
      go_roundw
      case rel=>exact⟨j+1,⟨true,xi.cost, -1,(j:Int),(i:Int),(k:Int),⟨none,0,0⟩,(Q:Int)⟩,hlt,by go_num,⟨HO8.out,Ho8.out,by rw[HL.out,Xrh,← HQ.out,← HS.out,← HM0.out];exact HF.out⟩⟩
      case measure=>simp[intOf];omega
theorem Xt1:(Tryz.prog.info? 93).map (fun i=>(i.zero.map (fun z=>z.cells),i.size,i.bytes))=some (some #[.bool false,.int .i64 0,.int .i64 0,.int .i64 0,.int .i64 0,.int .i64 0,.slice none 0 0,.int .i64 0],8,80):=by kernel_rfl
theorem Xtx (n:Nat):(madeCells #[.bool false,.int .i64 0,.int .i64 0,.int .i64 0,.int .i64 0,.int .i64 0,.slice none 0 0,.int .i64 0] (n*8)).toList=(List.replicate n Xs0).flatMap FoundG.cells:=by
 unfold madeCells
 rw[Array.toList_map,Array.toList_range]
 induction n with
 | zero=>rfl
 | succ n ih =>
  rw[Nat.add_mul,List.range_add,List.map_append,ih,List.replicate_succ',List.flatMap_append]
  congr 1
  have e:∀t,t<8→(n*8+t) % 8=t:=fun t h=>by omega
  simp only[List.map_map,Nat.one_mul]
  show (List.range 8).map _=_
  simp only[show List.range 8=[0,1,2,3,4,5,6,7] from rfl,List.map_cons,List.map_nil,Function.comp]
  show [(#[Value.bool false,.int .i64 0,.int .i64 0,.int .i64 0,.int .i64 0,.int .i64 0,.slice none 0 0,.int .i64 0]:Array Value)[(n*8+0) % 8]!,_,_,_,_,_,_,_]=_
  simp only[show ∀a b c d e f g h:Value,(#[a,b,c,d,e,f,g,h]:Array Value).size=8 from fun _ _ _ _ _ _ _ _=>rfl,e 0 (by decide),e 1 (by decide),e 2 (by decide),e 3 (by decide),e 4 (by decide),e 5 (by decide),e 6 (by decide),e 7 (by decide)]
  rfl
theorem Xua (n:Nat) (h:n≤10000) (w:World):(Instr.makeSlice 164 (.int .i64 (n:Int)) (.int .i64 (n:Int))).run Tryz.prog w = .ok (.slice (some ⟨w.heap.size,0,none⟩) n n) (w.alloc (.cells (madeCells #[.bool false,.int .i64 0,.int .i64 0,.int .i64 0,.int .i64 0,.int .i64 0,.slice none 0 0,.int .i64 0] (n*8)) 93)):=by
 obtain⟨i,hi,hzz⟩:=Option.map_eq_some_iff.1 Xt1
 simp only[Prod.mk.injEq] at hzz
 obtain⟨hz,hs,hb⟩:=hzz
 obtain⟨z,hz1,hz2⟩:=Option.map_eq_some_iff.1 hz
 have hr:=run_make (P:=Tryz.prog) w 164 93 i z Tryz.underlying164 hi hz1 .i64 .i64 n n (by omega) (Int.le_refl _) (by rw[hb];omega) (by omega)
 simp only[Int.toNat_natCast,hs,hz2] at hr
 exact hr
def Xs8 (V:World) (b o:Nat) (y:FoundG):World:=(((((((V.setCell ⟨b,o,none⟩ (.bool y.ok)).setCell ⟨b,o+1,none⟩ (.int .i64 y.cost)).setCell ⟨b,o+2,none⟩ (.int .i64 y.rule)).setCell ⟨b,o+3,none⟩ (.int .i64 y.item)).setCell ⟨b,o+4,none⟩ (.int .i64 y.frm)).setCell ⟨b,o+5,none⟩ (.int .i64 y.unt)).setCell ⟨b,o+6,none⟩ (.slice y.kids.addr y.kids.len y.kids.cap)).setCell ⟨b,o+7,none⟩ (.int .i64 y.many)
theorem Xti (V:World) (b o:Nat) (y:FoundG):Only (fun j=>j=b) V (Xs8 V b o y):=by
 unfold Xs8
 have st:∀(U:World) (n:Nat) (u:Value),Only (fun j=>j=b) V U→Only (fun j=>j=b) V (U.setCell ⟨b,n,none⟩ u):=fun U n u h=>Only.setCell (M:=fun j=>j=b) h (p:=⟨b,n,none⟩) (.inl rfl) u
 exact st _ _ _ (st _ _ _ (st _ _ _ (st _ _ _ (st _ _ _ (st _ _ _ (st _ _ _ (st _ _ _ (Only.refl _ V))))))))
theorem Xum {V:World} {b t:Nat} {C:Array Value} {F:List FoundG} (h:V.heap[b]? = some (.cells C t (0,0))) (hC:C.toList=F.flatMap FoundG.cells) (q:Nat) (hq:q<F.length) (y:FoundG) :
  ∃C',(Xs8 V b (q*8) y).heap[b]? = some (.cells C' t (0,0))∧C'.toList=(F.set q y).flatMap FoundG.cells:=by
 have h1:=Xr h (q*8) (.bool y.ok)
 have h2:=Xr h1 (q*8+1) (.int .i64 y.cost)
 have h3:=Xr h2 (q*8+2) (.int .i64 y.rule)
 have h4:=Xr h3 (q*8+3) (.int .i64 y.item)
 have h5:=Xr h4 (q*8+4) (.int .i64 y.frm)
 have h6:=Xr h5 (q*8+5) (.int .i64 y.unt)
 have h7:=Xr h6 (q*8+6) (.slice y.kids.addr y.kids.len y.kids.cap)
 have h8:=Xr h7 (q*8+7) (.int .i64 y.many)
 refine⟨_,h8,?_⟩
 simp only[Array.toList_setIfInBounds,hC]
 exact Xt3 FoundG.size_cells F q hq y
structure WhS (X:Nat→Prop) (w0:World) (g:Gram) (items:List ItemG) (n lb:Nat) (A:Int→Nat→Nat→List Dv) (F:List FoundG) (V:World):Prop where
 only:Only (fun b=>b=lb) w0 V
 tab:∃C,V.heap[lb]? = some (.cells C 93 (0,0))∧C.toList=F.flatMap FoundG.cells
 size:F.length=(n+1)*(n+1)*g.cats.xs.length
 ok:∀(d u v:Nat),d<g.cats.xs.length→u<v→v≤n→∀(h:posC n g.cats.xs.length u v d<F.length),FoundOk X V F[posC n g.cats.xs.length u v d] (Fd.of bigN (A d u v))
 sound:SoundA g items n A
theorem WhS.at_ {X:Nat→Prop} {w0:World} {g:Gram} {items:List ItemG} {n lb:Nat} {A:Int→Nat→Nat→List Dv} {F:List FoundG} {V:World} (h:WhS X w0 g items n lb A F V) {b:Nat} {o:Obj} (hb:w0.heap[b]? = some o) (hne:b≠lb):V.heap[b]? = some o:=(h.only.block b (Xc hb) hne).trans hb
theorem WhS.chW {X:Nat→Prop} {w0:World} {g:Gram} {its:SlS ItemG} {n lb:Nat} {A:Int→Nat→Nat→List Dv} {F:List FoundG} {V:World} (h:WhS X w0 g its.xs n lb A F V) (hg:g.lies V) (hi:ItemsAt V its) (N:Nat) (hN:N=F.length):ChW X ⟨g,its,(n:Int),⟨some ⟨lb,0,none⟩,N,N⟩⟩ n A F V:=by
 obtain⟨C,h1,h2⟩:=h.tab
 exact⟨hg,hi,Yw h1 h2,hN,h.size,h.ok⟩
theorem WhS.put {X:Nat→Prop} {w0:World} {g:Gram} (hg:Yu g) {items:List ItemG} {n lb:Nat} {A:Int→Nat→Nat→List Dv} {F:List FoundG} {V V2:World} (h:WhS X w0 g items n lb A F V) (hXl:X lb) (hb:Below V.heap.size V V2) {cat i k:Nat} (hc:cat<g.cats.xs.length) (hik:i<k) (hk:k≤n) {f:FoundG}
  (hf:FoundOk X V2 f (Fd.of bigN (Xq cat i k 0 items++X4 (Xm items) A cat i k 0 g.rules.xs))) :
  WhS X w0 g items n lb (putA A cat i k (Xq cat i k 0 items++X4 (Xm items) A cat i k 0 g.rules.xs)) (F.set (posC n g.cats.xs.length i k cat) f) (Xs8 V2 lb (posC n g.cats.xs.length i k cat*8) f):=by
 obtain⟨C,h1,h2⟩:=h.tab
 have hO:=Xti V2 lb (posC n g.cats.xs.length i k cat*8) f
 have hpl:posC n g.cats.xs.length i k cat<F.length:=by rw[h.size];exact Xtd (by omega) hk hc
 obtain⟨C',h3,h4⟩:=Xum (Xh hb h1) h2 (posC n g.cats.xs.length i k cat) hpl f
 have keep:∀t x,TreeW X V2 t x→TreeW X (Xs8 V2 lb (posC n g.cats.xs.length i k cat*8) f) t x:=fun t x ht=>ht.only hO fun b hb hh=>hh.2 (by rw[show b=lb from hb];exact hXl)
 refine⟨⟨hO.os.trans (hb.os.trans h.only.os),hO.tape.trans (hb.tape.trans h.only.tape),hO.output.trans (hb.output.trans h.only.output),Nat.le_trans (Nat.le_trans h.only.size hb.size) hO.size,fun j hj hn=>(hO.block j (Nat.lt_of_lt_of_le hj (Nat.le_trans h.only.size hb.size)) hn).trans ((hb.block j (Nat.lt_of_lt_of_le hj h.only.size)).trans (h.only.block j hj hn))⟩,⟨C',h3,h4⟩,by rw[List.length_set];exact h.size,fun d u v h5 h6 h7 h8=>?_,SoundA.put hg h.sound hk⟩
 unfold putA
 by_cases e:posC n g.cats.xs.length i k cat=posC n g.cats.xs.length u v d
 ·obtain⟨e1,e2,e3⟩:=Xul hk h7 hc h5 e
  subst e1 e2 e3
  rw[if_pos ⟨rfl,rfl,rfl⟩]
  rw[List.getElem_set_self]
  exact hf.keep keep
 ·have hne:¬((d:Int)=(cat:Int)∧u=i∧v=k):=by
   rintro⟨h9,rfl,rfl⟩
   obtain rfl:d=cat:=by omega
   exact e rfl
  rw[if_neg hne]
  have h9:posC n g.cats.xs.length u v d<F.length:=by rw[List.length_set] at h8;exact h8
  rw[List.getElem_set_ne e]
  exact((h.ok d u v h5 h6 h7 h9).keep fun _ _ ht=>ht.ext hb).keep keep
def Xtm (l:List Dv) (w:World) (e:Ending) (w':World):Prop:=∃f:FoundG,e = .returned (.agg #[.bool f.ok,.int .i64 f.cost,.int .i64 f.rule,.int .i64 f.item,.int .i64 f.frm,.int .i64 f.unt,.slice f.kids.addr f.kids.len f.kids.cap,.int .i64 f.many])∧FoundOk (fun b=>b<w.heap.size) w' f (Fd.of bigN l)∧Below w.heap.size w w'
theorem Xup {V:World} {b t:Nat} {a0 a1 a2 a3 a4 a5 a6 a7 a8:Value} (h:V.heap[b]? = some (.cells #[a0,a1,a2,a3,a4,a5,a6,a7,a8] t (0,0))) (u0 u1 u2 u3 u4 u5 u6 u7 u8:Value) :
  (((((((((V.setCell ⟨b,0,none⟩ u0).setCell ⟨b,1,none⟩ u1).setCell ⟨b,2,none⟩ u2).setCell ⟨b,3,none⟩ u3).setCell ⟨b,4,none⟩ u4).setCell ⟨b,5,none⟩ u5).setCell ⟨b,6,none⟩ u6).setCell ⟨b,7,none⟩ u7).setCell ⟨b,8,none⟩ u8).heap[b]? = some (.cells #[u0,u1,u2,u3,u4,u5,u6,u7,u8] t (0,0)):=by
 have h0:(V.setCell ⟨b,0,none⟩ u0).heap[b]? = some (.cells #[u0,a1,a2,a3,a4,a5,a6,a7,a8] t (0,0)):=Xr h 0 _
 have h1:((V.setCell ⟨b,0,none⟩ u0).setCell ⟨b,1,none⟩ u1).heap[b]? = some (.cells #[u0,u1,a2,a3,a4,a5,a6,a7,a8] t (0,0)):=Xr h0 1 _
 have h2:(((V.setCell ⟨b,0,none⟩ u0).setCell ⟨b,1,none⟩ u1).setCell ⟨b,2,none⟩ u2).heap[b]? = some (.cells #[u0,u1,u2,a3,a4,a5,a6,a7,a8] t (0,0)):=Xr h1 2 _
 have h3:((((V.setCell ⟨b,0,none⟩ u0).setCell ⟨b,1,none⟩ u1).setCell ⟨b,2,none⟩ u2).setCell ⟨b,3,none⟩ u3).heap[b]? = some (.cells #[u0,u1,u2,u3,a4,a5,a6,a7,a8] t (0,0)):=Xr h2 3 _
 have h4:(((((V.setCell ⟨b,0,none⟩ u0).setCell ⟨b,1,none⟩ u1).setCell ⟨b,2,none⟩ u2).setCell ⟨b,3,none⟩ u3).setCell ⟨b,4,none⟩ u4).heap[b]? = some (.cells #[u0,u1,u2,u3,u4,a5,a6,a7,a8] t (0,0)):=Xr h3 4 _
 have h5:((((((V.setCell ⟨b,0,none⟩ u0).setCell ⟨b,1,none⟩ u1).setCell ⟨b,2,none⟩ u2).setCell ⟨b,3,none⟩ u3).setCell ⟨b,4,none⟩ u4).setCell ⟨b,5,none⟩ u5).heap[b]? = some (.cells #[u0,u1,u2,u3,u4,u5,a6,a7,a8] t (0,0)):=Xr h4 5 _
 have h6:(((((((V.setCell ⟨b,0,none⟩ u0).setCell ⟨b,1,none⟩ u1).setCell ⟨b,2,none⟩ u2).setCell ⟨b,3,none⟩ u3).setCell ⟨b,4,none⟩ u4).setCell ⟨b,5,none⟩ u5).setCell ⟨b,6,none⟩ u6).heap[b]? = some (.cells #[u0,u1,u2,u3,u4,u5,u6,a7,a8] t (0,0)):=Xr h5 6 _
 have h7:((((((((V.setCell ⟨b,0,none⟩ u0).setCell ⟨b,1,none⟩ u1).setCell ⟨b,2,none⟩ u2).setCell ⟨b,3,none⟩ u3).setCell ⟨b,4,none⟩ u4).setCell ⟨b,5,none⟩ u5).setCell ⟨b,6,none⟩ u6).setCell ⟨b,7,none⟩ u7).heap[b]? = some (.cells #[u0,u1,u2,u3,u4,u5,u6,u7,a8] t (0,0)):=Xr h6 7 _
 exact Xr h7 8 _
def set9 (V:World) (b:Nat) (u0 u1 u2 u3 u4 u5 u6 u7 u8:Value):World:=((((((((V.setCell ⟨b,0,none⟩ u0).setCell ⟨b,1,none⟩ u1).setCell ⟨b,2,none⟩ u2).setCell ⟨b,3,none⟩ u3).setCell ⟨b,4,none⟩ u4).setCell ⟨b,5,none⟩ u5).setCell ⟨b,6,none⟩ u6).setCell ⟨b,7,none⟩ u7).setCell ⟨b,8,none⟩ u8
theorem Xuh (V:World) (b:Nat) (u0 u1 u2 u3 u4 u5 u6 u7 u8:Value):Only (fun j=>j=b) V (set9 V b u0 u1 u2 u3 u4 u5 u6 u7 u8):=by
 unfold set9
 have st:∀(U:World) (n:Nat) (u:Value),Only (fun j=>j=b) V U→Only (fun j=>j=b) V (U.setCell ⟨b,n,none⟩ u):=fun U n u h=>Only.setCell (M:=fun j=>j=b) h (p:=⟨b,n,none⟩) (.inl rfl) u
 exact st _ _ _ (st _ _ _ (st _ _ _ (st _ _ _ (st _ _ _ (st _ _ _ (st _ _ _ (st _ _ _ (st _ _ _ (Only.refl _ V)))))))))
theorem Xty {w W1:World} {g:Gram} (h:(w.alloc (.cells #[.string g.name,.slice g.cats.addr g.cats.xs.length g.cats.cap,.string g.start,.int .i64 g.startNo,.slice g.entries.addr g.entries.xs.length g.entries.cap,.slice g.rules.addr g.rules.xs.length g.rules.cap] 26)).alloc (.cells #[.bool false,.int .i64 0,.int .i64 0,.int .i64 0,.int .i64 0,.int .i64 0,.slice none 0 0,.int .i64 0] 93)=W1) :
  Hid (Below w.heap.size w W1)∧Hid (W1.heap[w.heap.size]? = some (.cells #[.string g.name,.slice g.cats.addr g.cats.xs.length g.cats.cap,.string g.start,.int .i64 g.startNo,.slice g.entries.addr g.entries.xs.length g.entries.cap,.slice g.rules.addr g.rules.xs.length g.rules.cap] 26 (0,0)))∧Hid (W1.heap[w.heap.size+1]? = some (.cells #[.bool false,.int .i64 0,.int .i64 0,.int .i64 0,.int .i64 0,.int .i64 0,.slice none 0 0,.int .i64 0] 93 (0,0)))∧Hid (W1.heap.size=w.heap.size+1+1):=by
 subst h
 refine⟨Xe (Xe (Below.refl _ _) _) _,?_,?_,?_⟩
 ·exact(Below.heap_alloc _ _ _ (by simp)).trans (World.alloc_heap_new _ _)
 ·exact X0 _ _ _ (by simp)
 ·show _=_
  simp
set_option maxHeartbeats 4000000 in
theorem Xuj (g:Gram) (its:SlS ItemG) (n:Nat) (w:World) (h0:errC g its.xs (n:Int)=0) (hg:g.lies w) (hi:ItemsAt w its) :
  Calls Tryz.prog 55 #[.agg #[.string g.name,.slice g.cats.addr g.cats.xs.length g.cats.cap,.string g.start,.int .i64 g.startNo,.slice g.entries.addr g.entries.xs.length g.entries.cap,.slice g.rules.addr g.rules.xs.length g.rules.cap],.slice its.addr its.xs.length its.cap,.int .i64 (n:Int)] w (Xtm (derG g its.xs g.startNo 0 n) w):=by
 have hA:=Vz h0
 obtain⟨W1,hW1⟩:∃v,(w.alloc (.cells #[.string g.name,.slice g.cats.addr g.cats.xs.length g.cats.cap,.string g.start,.int .i64 g.startNo,.slice g.entries.addr g.entries.xs.length g.entries.cap,.slice g.rules.addr g.rules.xs.length g.rules.cap] 26)).alloc (.cells #[.bool false,.int .i64 0,.int .i64 0,.int .i64 0,.int .i64 0,.int .i64 0,.slice none 0 0,.int .i64 0] 93)=v:=⟨_,rfl⟩
 obtain⟨HB1,HG1,HZ1,Hs1⟩:=Xty hW1
 have h16:n≤16:=by have:=hA.n16;omega
 have h32:=hA.gram.few
 obtain⟨P2,hP2⟩:∃p,(n+1)*(n+1)=p:=⟨_,rfl⟩
 have hP2b:P2≤17*17:=by rw[← hP2];exact Nat.mul_le_mul (by omega) (by omega)
 obtain⟨N,hN⟩:∃p,P2*g.cats.xs.length=p:=⟨_,rfl⟩
 have hNb:N≤289*32:=by rw[← hN];exact Nat.mul_le_mul hP2b h32
 have f1:IntKind.i64.wrap ((n:Int)+1)=(n:Int)+1:=IntWalk.i64_in _ (by omega)
 have f2:IntKind.i64.wrap (((n:Int)+1)*((n:Int)+1))=(P2:Int):=by
  rw[show ((n:Int)+1)*((n:Int)+1)=(P2:Int) by rw[← hP2];exact(Int.natCast_mul (n+1) (n+1)).symm]
  exact IntWalk.i64_in _ (by omega)
 have f3:IntKind.i64.wrap ((P2:Int)*(g.cats.xs.length:Int))=(N:Int):=by
  rw[show (P2:Int)*(g.cats.xs.length:Int)=(N:Int) by rw[← hN];exact(Int.natCast_mul _ _).symm]
  exact IntWalk.i64_in _ (by omega)
 have Hmk:=Xa (fun V=>Xua N (by omega) V)
 have HA:=Xa hA
 have HG:=Xa (fun V (hV:Below w.heap.size w V)=>hg.ext hV)
 have HI:=Xa (fun V (hV:Below w.heap.size w V)=>hi.ext hV)
 have HP2:=Xa hP2
 have HN:=Xa hN
 have HC:Hid (∀V,Below W1.heap.size W1 V→V.heap[w.heap.size]? = some (.cells #[.string g.name,.slice g.cats.addr g.cats.xs.length g.cats.cap,.string g.start,.int .i64 g.startNo,.slice g.entries.addr g.entries.xs.length g.entries.cap,.slice g.rules.addr g.rules.xs.length g.rules.cap] 26 (0,0))):=fun V hV=>Xh hV HG1.out
 clear hP2 hP2b hN hg hi hA
 go_enter Tryz.func55,Tryz.ntmps55
 go_wp2_with fail
 refine wpIn_wide (n:=0) |>.1 ?_
 refine Td (fun (y:Nat×Nat) a=>{a with tmps:=((((((((((((((a.tmps.setIfInBounds 12 (.agg #[.string g.name,.slice g.cats.addr g.cats.xs.length g.cats.cap,.string g.start,.int .i64 g.startNo,.slice g.entries.addr g.entries.xs.length g.entries.cap,.slice g.rules.addr g.rules.xs.length g.rules.cap])).setIfInBounds 13 (.slice its.addr its.xs.length its.cap)).setIfInBounds 14 (.int .i64 (n:Int))).setIfInBounds 15 (.int .i64 (n:Int))).setIfInBounds 16 (.int .i64 ((n:Int)+1))).setIfInBounds 17 (.int .i64 (n:Int))).setIfInBounds 18 (.int .i64 ((n:Int)+1))).setIfInBounds 19 (.int .i64 (P2:Int))).setIfInBounds 20 (.pointer (some ⟨w.heap.size,1,none⟩))).setIfInBounds 21 (.slice g.cats.addr g.cats.xs.length g.cats.cap)).setIfInBounds 22 (.int .i64 (g.cats.xs.length:Int))).setIfInBounds 23 (.int .i64 (N:Int))).setIfInBounds 24 (.slice (some ⟨y.1,0,none⟩) N N)).setIfInBounds 25 (.agg #[.string g.name,.slice g.cats.addr g.cats.xs.length g.cats.cap,.string g.start,.int .i64 g.startNo,.slice g.entries.addr g.entries.xs.length g.entries.cap,.slice g.rules.addr g.rules.xs.length g.rules.cap,.slice its.addr its.xs.length its.cap,.int .i64 (n:Int),.slice (some ⟨y.1,0,none⟩) N N])).setIfInBounds 7 (.pointer (some ⟨y.2,0,none⟩))})
  (fun y v=>v.heap[y.1]? = some (.cells (madeCells #[.bool false,.int .i64 0,.int .i64 0,.int .i64 0,.int .i64 0,.int .i64 0,.slice none 0 0,.int .i64 0] (N*8)) 93 (0,0))∧v.heap[y.2]? = some (.cells #[.string g.name,.slice g.cats.addr g.cats.xs.length g.cats.cap,.string g.start,.int .i64 g.startNo,.slice g.entries.addr g.entries.xs.length g.entries.cap,.slice g.rules.addr g.rules.xs.length g.rules.cap,.slice its.addr its.xs.length its.cap,.int .i64 (n:Int),.slice (some ⟨y.1,0,none⟩) N N] 166 (0,0))∧Below W1.heap.size W1 v∧W1.heap.size≤y.1∧W1.heap.size≤y.2∧y.1≠y.2) ?_ ?_
 ·refine Xo (fun V=>Below W1.heap.size W1 V) (by kernel_rfl) ?_
  have hC0:Below W1.heap.size W1 W1.drew:=Xi (Below.refl _ _)
  refine Xd (i:=0) (v:=.agg #[.string g.name,.slice g.cats.addr g.cats.xs.length g.cats.cap,.string g.start,.int .i64 g.startNo,.slice g.entries.addr g.entries.xs.length g.entries.cap,.slice g.rules.addr g.rules.xs.length g.rules.cap]) rfl (by kernel_rfl) (fun _ _ _ h=>h) (fun V hV=>(by have hk:=HC.out V hV;have c0:=gblk hk 0;have c1:=gblk hk 1;have c2:=gblk hk 2;have c3:=gblk hk 3;have c4:=gblk hk 4;have c5:=gblk hk 5;go_simp)) ?_
  refine Xd (i:=1) rfl (by kernel_rfl) (fun _ _ _ h=>h) (fun V hV=>(by skip;go_simp<;>rfl)) ?_
  refine Xd (i:=2) rfl (by kernel_rfl) (fun _ _ _ h=>h) (fun V hV=>(by skip;go_simp<;>rfl)) ?_
  refine Xd (i:=3) rfl (by kernel_rfl) (fun _ _ _ h=>h) (fun V hV=>(by skip;go_simp<;>rfl)) ?_
  refine Xd (i:=4) rfl (by kernel_rfl) (fun _ _ _ h=>h) (fun V hV=>(by skip;go_simp<;>rfl)) ?_
  refine Xd (i:=5) rfl (by kernel_rfl) (fun _ _ _ h=>h) (fun V hV=>(by skip;go_simp<;>rfl)) ?_
  refine Xd (i:=6) rfl (by kernel_rfl) (fun _ _ _ h=>h) (fun V hV=>(by skip;go_simp<;>rfl)) ?_
  refine Xd (i:=7) rfl (by kernel_rfl) (fun _ _ _ h=>h) (fun V hV=>(by skip;go_simp<;>rfl)) ?_
  refine Xd (i:=8) rfl (by kernel_rfl) (fun _ _ _ h=>h) (fun V hV=>(by skip;go_simp<;>rfl)) ?_
  refine Xd (i:=9) rfl (by kernel_rfl) (fun _ _ _ h=>h) (fun V hV=>(by have hk:=HC.out V hV;have c1:=gblk hk 1;go_simp<;>rfl)) ?_
  refine Xd (i:=10) rfl (by kernel_rfl) (fun _ _ _ h=>h) (fun V hV=>(by skip;go_simp<;>rfl)) ?_
  refine Xd (i:=11) rfl (by kernel_rfl) (fun _ _ _ h=>h) (fun V hV=>(by skip;go_simp<;>rfl)) ?_
  refine Xs (rs:=[12,14]) hC0 (by kernel_rfl) (by simp) (AllC.cons rfl (fun K hK=>?_) (AllC.cons rfl (fun K hK=>?_) AllC.nil))
  ·skip
   have hmk:=Hmk.out W1.drew
   go_simp
   refine hK _ _ ?_
   clear hK K hmk
   obtain⟨V1,hV1⟩:∃v,(W1.alloc (.cells (madeCells #[.bool false,.int .i64 0,.int .i64 0,.int .i64 0,.int .i64 0,.int .i64 0,.slice none 0 0,.int .i64 0] (N*8)) 93)).drew=v:=⟨_,rfl⟩
   have hB2:Below W1.heap.size W1 V1:=by rw[← hV1];exact Xi (Xe (Below.refl _ _) _)
   have ht2:V1.heap[W1.heap.size]? = some (.cells (madeCells #[.bool false,.int .i64 0,.int .i64 0,.int .i64 0,.int .i64 0,.int .i64 0,.slice none 0 0,.int .i64 0] (N*8)) 93 (0,0)):=by rw[← hV1];exact World.alloc_heap_new _ _
   rw[hV1]
   clear hV1
   refine Xd (i:=13) rfl (by kernel_rfl) (fun _ _ _ h=>h) (fun V hV=>(by skip;go_simp<;>rfl)) ?_
   refine Xg (i:=14) hB2 (by kernel_rfl) rfl (fun K hK=>?_)
   go_simp
   refine hK _ _ ?_
   clear hK K
   refine Xg (i:=15) (Xe hB2 _) (by kernel_rfl) rfl (fun K hK=>?_)
   go_simp
   refine hK _ _ ?_
   clear hK K
   have hB3:=Xe hB2 (.cells #[.string g.name,.slice g.cats.addr g.cats.xs.length g.cats.cap,.string g.start,.int .i64 g.startNo,.slice g.entries.addr g.entries.xs.length g.entries.cap,.slice g.rules.addr g.rules.xs.length g.rules.cap,.slice its.addr its.xs.length its.cap,.int .i64 (n:Int),.slice (some ⟨W1.heap.size,0,none⟩) N N] 166)
   refine Xl hB3 (by kernel_rfl) ?_ _
   refine⟨(W1.heap.size,V1.heap.size),?_,(Below.heap_alloc _ _ _ (Xc ht2)).trans ht2,World.alloc_heap_new _ _,hB3,Nat.le_refl _,hB2.size,by show W1.heap.size≠V1.heap.size;have:=Xc ht2;omega⟩
   kernel_rfl
  ·skip
   go_simp
   refine hK _ _ ?_
   clear hK K
   obtain⟨V1,hV1⟩:∃v,(W1.alloc (.cells #[.string ⟨#[]⟩,.slice none 0 0,.string ⟨#[]⟩,.int .i64 0,.slice none 0 0,.slice none 0 0,.slice none 0 0,.int .i64 0,.slice none 0 0] 166)).drew=v:=⟨_,rfl⟩
   have hB2:Below W1.heap.size W1 V1:=by rw[← hV1];exact Xi (Xe (Below.refl _ _) _)
   have hz2:V1.heap[W1.heap.size]? = some (.cells #[.string ⟨#[]⟩,.slice none 0 0,.string ⟨#[]⟩,.int .i64 0,.slice none 0 0,.slice none 0 0,.slice none 0 0,.int .i64 0,.slice none 0 0] 166 (0,0)):=by rw[← hV1];exact World.alloc_heap_new _ _
   rw[hV1]
   clear hV1
   refine Xg (i:=12) hB2 (by kernel_rfl) rfl (fun K hK=>?_)
   have hmk:=Hmk.out V1
   go_simp
   refine hK _ _ ?_
   clear hK K hmk
   obtain⟨V2,hV2⟩:∃v,V1.alloc (.cells (madeCells #[.bool false,.int .i64 0,.int .i64 0,.int .i64 0,.int .i64 0,.int .i64 0,.slice none 0 0,.int .i64 0] (N*8)) 93)=v:=⟨_,rfl⟩
   have hB3:=Xb hB2 (Yn hV2)
   have ht3:=Yv hV2
   have hz3:=Xh (Yn hV2) hz2
   rw[hV2]
   clear hV2
   refine Xd (i:=13) rfl (by kernel_rfl) (fun _ _ _ h=>h) (fun V hV=>(by skip;go_simp<;>rfl)) ?_
   have zq0:=gblk hz3 0
   have zq1:=gblk hz3 1
   have zq2:=gblk hz3 2
   have zq3:=gblk hz3 3
   have zq4:=gblk hz3 4
   have zq5:=gblk hz3 5
   have zq6:=gblk hz3 6
   have zq7:=gblk hz3 7
   have zq8:=gblk hz3 8
   have hzf:=fun m=>Xf hz3 m
   refine Xg (i:=15) hB3 (by kernel_rfl) rfl (fun K hK=>?_)
   go_simp
   refine hK _ _ ?_
   clear hK K
   have hO4:=Xuh V2 W1.heap.size (.string g.name) (.slice g.cats.addr g.cats.xs.length g.cats.cap) (.string g.start) (.int .i64 g.startNo) (.slice g.entries.addr g.entries.xs.length g.entries.cap) (.slice g.rules.addr g.rules.xs.length g.rules.cap) (.slice its.addr its.xs.length its.cap) (.int .i64 (n:Int)) (.slice (some ⟨V1.heap.size,0,none⟩) N N)
   have hs4:=Xup hz3 (.string g.name) (.slice g.cats.addr g.cats.xs.length g.cats.cap) (.string g.start) (.int .i64 g.startNo) (.slice g.entries.addr g.entries.xs.length g.entries.cap) (.slice g.rules.addr g.rules.xs.length g.rules.cap) (.slice its.addr its.xs.length its.cap) (.int .i64 (n:Int)) (.slice (some ⟨V1.heap.size,0,none⟩) N N)
   change wpAnyC _ _ _ _ _ _ _ _ (set9 V2 W1.heap.size (.string g.name) (.slice g.cats.addr g.cats.xs.length g.cats.cap) (.string g.start) (.int .i64 g.startNo) (.slice g.entries.addr g.entries.xs.length g.entries.cap) (.slice g.rules.addr g.rules.xs.length g.rules.cap) (.slice its.addr its.xs.length its.cap) (.int .i64 (n:Int)) (.slice (some ⟨V1.heap.size,0,none⟩) N N))
   have hlt2:=Xc hz2
   have hB4:=Yf hB3 hB3.size hO4 (Nat.le_refl _)
   refine Xl hB4 (by kernel_rfl) ?_ _
   refine⟨(V1.heap.size,W1.heap.size),?_,(hO4.block V1.heap.size (Xc ht3) (by show V1.heap.size≠W1.heap.size;omega)).trans ht3,hs4,hB4,hB2.size,Nat.le_refl _,by show V1.heap.size≠W1.heap.size;omega⟩
   kernel_rfl
 rintro⟨lb,cb⟩ w4 ⟨ht4,hc4,hb4,hlb,hcb,hlc⟩
 simp only at ht4 hc4 hlb hcb hlc
 have HB4:=Xa (Xb HB1.out hb4)
 have HG4:=Xa (Xh hb4 HG1.out)
 have HZ4:=Xa (Xh hb4 HZ1.out)
 have HC4:=Xa hc4
 have hs1:=Hs1.out
 have hl0:w.heap.size≠lb:=by omega
 have hl1:w.heap.size+1≠lb:=by omega
 have hl2:cb≠lb:=Ne.symm hlc
 have hcz:cb≠w.heap.size+1:=by omega
 have hl3:w.heap.size≤lb:=by omega
 have hl4:=Xc hc4
 have H0:Hid (WhS (fun b=>b=lb∨b<w.heap.size) w4 g its.xs n lb (fun _ _ _=>[]) (List.replicate N Xs0) w4∧TabInv g its.xs n (fun _ _ _=>[]) 1 0 0 0):=by
  refine⟨⟨Only.refl _ _,⟨_,ht4,Xtx N⟩,by rw[List.length_replicate,← HN.out,← HP2.out],fun d u v _ _ _ h=>?_,fun d u v _ _ _ _ x hx=>by cases hx⟩,TabInv.start⟩
  rw[List.getElem_replicate]
  exact FoundOk.zero _ _
 clear ht4 hb4 hc4 hlb hcb hlc hs1 HC Hmk HZ1 HG1 HB1
 gi_wp2_with fail
 go_wp2_with fail
 go_loopw [8] (fun iv wr=>∃(long:Nat) (A:Int→Nat→Nat→List Dv) (F:List FoundG),1≤long∧long≤n+1∧iv = .int .i64 (long:Int)∧Hid (WhS (fun b=>b=lb∨b<w.heap.size) w4 g its.xs n lb A F wr∧TabInv g its.xs n A long 0 0 0)) (fun iv _=>n+1-(intOf iv).toNat)
 case atStart=>exact⟨1,_,_,Nat.le_refl _,by have:=HA.out.n1;omega,rfl,H0.out⟩
 case round =>
  obtain⟨long,A,F,ha1,ha2,rfl,HS⟩:=hrel
  by_cases hlt:long≤n
  rotate_left
  ·have HL:Hid (long=n+1):=by show _=_;omega
   have g1:decide ((long:Int)≤(n:Int))=false:=decide_eq_false (by omega)
   have HBw:=Xa (Yf HB4.out HB4.out.size HS.out.1.only hl3)
   have hNF:N=F.length:=by rw[HS.out.1.size,← HN.out,← HP2.out]
   have hst:=HA.out.gram.start
   obtain⟨sn,hsn⟩:∃s:Nat,g.startNo=(s:Int):=⟨g.startNo.toNat,by omega⟩
   have hn1:1≤n:=by have:=HA.out.n1;omega
   have hsl:sn<g.cats.xs.length:=by omega
   have hplace:=fun V=>Xtb ⟨g,its,(n:Int),⟨some ⟨lb,0,none⟩,N,N⟩⟩ n 0 n sn V rfl h16 (Nat.zero_le _) (Nat.le_refl _) hsl h32
   obtain⟨pos,hpos⟩:∃p,posC n g.cats.xs.length 0 n sn=p:=⟨_,rfl⟩
   have hpl:pos<F.length:=by rw[← hpos,HS.out.1.size];exact Xtd (Nat.zero_le _) (Nat.le_refl _) hsl
   have hplN:(pos:Int)<(N:Int):=by omega
   simp only[hpos] at hplace
   have Hfx:Hid (FoundOk (fun b=>b=lb∨b<w.heap.size) wr F[pos] (Fd.of bigN (derG g its.xs g.startNo 0 n))):=by
    have h:=HS.out.1.ok sn 0 n hsl (by omega) (Nat.le_refl _) (by rw[hpos];exact hpl)
    simp only[hpos] at h
    rw[HS.out.2.less (sn:Int) 0 n (by omega) (by omega) (by omega) (Nat.le_refl _) (.inl (by have:=HL.out;omega)),← hsn] at h
    exact h
   have HSc:=Xa (HS.out.1.chW (HG.out _ HBw.out) (HI.out _ HBw.out) N hNF)
   have hlw:=Xc HS.out.1.tab.choose_spec.1
   obtain⟨b',o',e',_,hcell⟩:=HSc.out.cell hpl
   obtain⟨rfl,rfl⟩:b'=lb∧o'=0:=by
    injection e' with e'
    injection e' with e1 e2
    exact⟨e1.symm,e2.symm⟩
   obtain⟨fx,hfx⟩:∃y,F[pos]=y:=⟨_,rfl⟩
   rw[hfx] at Hfx hcell
   have HC:Hid (∀V,Only (fun b=>b=w.heap.size+1) wr V→V.heap[cb]? = some (.cells #[.string g.name,.slice g.cats.addr g.cats.xs.length g.cats.cap,.string g.start,.int .i64 g.startNo,.slice g.entries.addr g.entries.xs.length g.entries.cap,.slice g.rules.addr g.rules.xs.length g.rules.cap,.slice its.addr its.xs.length its.cap,.int .i64 (n:Int),.slice (some ⟨b',0,none⟩) N N] 166 (0,0))∧V.cell? ⟨w.heap.size,3,none⟩=some (.int .i64 (sn:Int))∧∀(z:Nat) (u:Value),fx.cells[z]? = some u→V.cell? ⟨b',pos*8+z,none⟩=some u):=fun V hV=>by
    have h1:=HS.out.1.at_ HC4.out hl2
    have h2:=HS.out.1.at_ HG4.out hl0
    have h3:=gblk ((hV.block _ (Xc h2) (by show w.heap.size≠w.heap.size+1;omega)).trans h2) 3
    refine⟨(hV.block _ (Xc h1) (by show cb≠w.heap.size+1;exact hcz)).trans h1,by rw[← hsn];exact h3,fun z u hu=>?_⟩
    have h:=hcell z u hu
    rw[Nat.zero_add] at h
    exact(World.cell?_of_block (w:=wr) (a:=⟨b',pos*8+z,none⟩) (hV.block b' hlw (fun e=>hl1 e.symm))).trans h
   have HZw:=Xa (HS.out.1.at_ HZ4.out hl1)
   have Hplace:=Xa hplace
   have c3:=gblk (HS.out.1.at_ HG4.out hl0) 1
   clear H0 hplace hpos hcell e' hfx hpl hNF hst hsn
   have g2:¬(long:Int)≤(n:Int):=by omega
   go_wp2_with fail
   refine wpIn_wide (n:=0) |>.1 ?_
   refine Y4 _ ?_ (fun _ _ h=>h)
   refine Xo (fun V=>Only (fun b=>b=w.heap.size+1) wr V) (by kernel_rfl) ?_
   have hC0:Only (fun b=>b=w.heap.size+1) wr wr.drew:=⟨rfl,rfl,rfl,Nat.le_refl _,fun _ _ _=>rfl⟩
   refine Xd (i:=0) rfl (by kernel_rfl) (fun _ _ _ h=>h) (fun V hV=>(by skip;go_simp<;>rfl)) ?_
   refine Xd (i:=1) rfl (by kernel_rfl) (fun _ _ _ h=>h) (fun V hV=>(by obtain⟨h1,h2,h3⟩:=HC.out V hV;have c8:=gblk h1 8;go_simp<;>rfl)) ?_
   refine Xd (i:=2) (v:=.agg #[.string g.name,.slice g.cats.addr g.cats.xs.length g.cats.cap,.string g.start,.int .i64 g.startNo,.slice g.entries.addr g.entries.xs.length g.entries.cap,.slice g.rules.addr g.rules.xs.length g.rules.cap,.slice its.addr its.xs.length its.cap,.int .i64 ↑n,.slice (some ⟨b',0,none⟩) N N]) rfl (by kernel_rfl) (fun _ _ _ h=>h) (fun V hV=>(by obtain⟨h1,h2,h3⟩:=HC.out V hV;have c0:=gblk h1 0;have c1:=gblk h1 1;have c2:=gblk h1 2;have c3':=gblk h1 3;have c4:=gblk h1 4;have c5:=gblk h1 5;have c6:=gblk h1 6;have c7:=gblk h1 7;have c8:=gblk h1 8;clear h1 h2 h3;go_simp)) ?_
   refine Xd (i:=3) rfl (by kernel_rfl) (fun _ _ _ h=>h) (fun V hV=>(by skip;go_simp<;>rfl)) ?_
   refine Xd (i:=4) rfl (by kernel_rfl) (fun _ _ _ h=>h) (fun V hV=>(by skip;go_simp<;>rfl)) ?_
   refine Xd (i:=5) rfl (by kernel_rfl) (fun _ _ _ h=>h) (fun V hV=>(by obtain⟨h1,h2,h3⟩:=HC.out V hV;go_simp<;>rfl)) ?_
   refine Xg (i:=6) hC0 (by kernel_rfl) rfl (fun K hK=>?_)
   go_simp
   refine⟨trivial,rfl,callsIn_wide.2 ((Hplace.out _).mono ?_)⟩
   rintro e V1 ⟨rfl,hb1⟩
   refine hK _ _ ?_
   clear hK K
   have hC1:Only (fun b=>b=w.heap.size+1) wr V1:=⟨hb1.os,hb1.tape,hb1.output,hb1.size,fun b hb _=>hb1.block b hb⟩
   refine Xd (i:=7) rfl (by kernel_rfl) (fun _ _ _ h=>h) (fun V hV=>(by skip;go_simp<;>rfl)) ?_
   refine Xd (i:=8) (v:=.agg #[.bool fx.ok,.int .i64 fx.cost,.int .i64 fx.rule,.int .i64 fx.item,.int .i64 fx.frm,.int .i64 fx.unt,.slice fx.kids.addr fx.kids.len fx.kids.cap,.int .i64 fx.many]) rfl (by kernel_rfl) (fun _ _ _ h=>h) (fun V hV=>(by obtain⟨h1,h2,h3⟩:=HC.out V hV;have e0:V.cell? ⟨b',pos*8,none⟩=some (.bool fx.ok):=h3 0 _ rfl;have e1:=h3 1 _ rfl;have e2:=h3 2 _ rfl;have e3:=h3 3 _ rfl;have e4:=h3 4 _ rfl;have e5:=h3 5 _ rfl;have e6:=h3 6 _ rfl;have e7:=h3 7 _ rfl;clear h1 h2 h3;go_simp)) ?_
   have hz1:=Xh hb1 (show wr.drew.heap[w.heap.size+1]? = _ from HZw.out)
   have hO9:=Ud V1 (w.heap.size+1) fx
   have hs9:=Xs2 (f:=Xs0) hz1 fx
   have HP9:Hid (Xtm (derG g its.xs g.startNo 0 n) w (.returned (.agg #[.bool fx.ok,.int .i64 fx.cost,.int .i64 fx.rule,.int .i64 fx.item,.int .i64 fx.frm,.int .i64 fx.unt,.slice fx.kids.addr fx.kids.len fx.kids.cap,.int .i64 fx.many])) (set8 V1 (w.heap.size+1) fx)) :=
    ⟨fx,rfl,Hfx.out.keep fun t x ht=>((ht.keep (X':=fun b=>b<w.heap.size) (fun b ⟨_,_,hk⟩ _=>hb1.block b (Xc hk)) hb1.size (fun _ _ h h2=>h (.inr h2)))).only hO9 fun b hb hh=>V5 hz1 (by rw[← show b=w.heap.size+1 from hb];exact hh.1),Yf (Xb (Xi HBw.out) hb1) (Xb (Xi HBw.out) hb1).size hO9 (by omega)⟩
   have HS9:=Xa hs9
   have z0:=gblk hz1 0
   have z1:=gblk hz1 1
   have z2:=gblk hz1 2
   have z3:=gblk hz1 3
   have z4:=gblk hz1 4
   have z5:=gblk hz1 5
   have z6:=gblk hz1 6
   have z7:=gblk hz1 7
   have hzf:=fun m=>Xf hz1 m
   refine Xg (i:=9) hC1 (by kernel_rfl) rfl (fun K hK=>?_)
   go_simp
   refine hK _ _ ?_
   clear hK K
   change wpAnyC _ _ _ _ _ _ _ _ (set8 V1 (w.heap.size+1) fx)
   refine Xl (hC1.trans hO9) (by kernel_rfl) ?_ _
   have hs:=HS9.out
   generalize set8 V1 (w.heap.size+1) fx=w9 at *
   clear z0 z1 z2 z3 z4 z5 z6 z7 hzf
   have s0:=gblk hs 0
   have s1:=gblk hs 1
   have s2:=gblk hs 2
   have s3:=gblk hs 3
   have s4:=gblk hs 4
   have s5:=gblk hs 5
   have s6:=gblk hs 6
   have s7:=gblk hs 7
   go_wp2_with fail
   exact bodyPost_ret (v:=.agg #[.bool fx.ok,.int .i64 fx.cost,.int .i64 fx.rule,.int .i64 fx.item,.int .i64 fx.frm,.int .i64 fx.unt,.slice fx.kids.addr fx.kids.len fx.kids.cap,.int .i64 fx.many]) (by simp[results,Tryz.results55,go_sem,s0,s1,s2,s3,s4,s5,s6,s7]) rfl HP9.out
  clear H0
  have g1:decide ((long:Int)≤(n:Int))=true:=decide_eq_true (by omega)
  go_wp2_with fail
  go_loopw [9] (fun iv wr=>∃(frm:Nat) (A:Int→Nat→Nat→List Dv) (F:List FoundG),frm≤n∧iv = .int .i64 (frm:Int)∧Hid (WhS (fun b=>b=lb∨b<w.heap.size) w4 g its.xs n lb A F wr∧TabInv g its.xs n A long frm 0 0)) (fun iv _=>n+1-(intOf iv).toNat)
  case atStart=>exact⟨0,A,F,Nat.zero_le _,rfl,HS.out⟩
  case round =>
   clear HS A F
   obtain⟨frm,A,F,hb1,rfl,HS⟩:=hrel
   have hwt:IntKind.i64.wrap ((frm:Int)+(long:Int))=(frm:Int)+(long:Int):=IntWalk.i64_in _ (by omega)
   by_cases hlt2:frm+long≤n
   rotate_left
   ·have g2:decide ((frm:Int)+(long:Int)≤(n:Int))=false:=decide_eq_false (by omega)
    have HS2:=Xa (show _∧_ from ⟨HS.out.1,HS.out.2.long (by omega)⟩)
    clear HS hlt2
    go_wp2_with fail
    go_roundw
    case rel=>exact⟨long+1,A,F,by omega,by omega,by go_num,HS2.out⟩
    case measure=>simp[intOf];omega
   have g2:decide ((frm:Int)+(long:Int)≤(n:Int))=true:=decide_eq_true (by omega)
   obtain⟨til,htil⟩:∃t,frm+long=t:=⟨_,rfl⟩
   have hwu:IntKind.i64.wrap ((frm:Int)+(long:Int))=(til:Int):=by rw[hwt];omega
   have Htil:=Xa htil
   clear hwt
   have htI:(til:Int)≤(n:Int):=by omega
   have htn:til≤n:=by omega
   clear htil g2
   have g2:decide ((til:Int)≤(n:Int))=true:=decide_eq_true (by omega)
   go_wp2_with fail
   go_loopw [10] (fun iv wr=>∃(turn:Nat) (A:Int→Nat→Nat→List Dv) (F:List FoundG),turn≤g.cats.xs.length∧iv = .int .i64 (turn:Int)∧Hid (WhS (fun b=>b=lb∨b<w.heap.size) w4 g its.xs n lb A F wr∧TabInv g its.xs n A long frm turn 0)) (fun iv _=>g.cats.xs.length-(intOf iv).toNat)
   case atStart=>exact⟨0,A,F,Nat.zero_le _,rfl,HS.out⟩
   case round =>
    clear HS A F
    obtain⟨turn,A,F,hc1,rfl,HS⟩:=hrel
    have c1:=gblk (HS.out.1.at_ HG4.out hl0) 1
    by_cases hlt3:turn<g.cats.xs.length
    rotate_left
    ·obtain rfl:turn=g.cats.xs.length:=by omega
     have g3:¬(g.cats.xs.length:Int)<(g.cats.xs.length:Int):=by omega
     have HS2:=Xa (show _∧_ from ⟨HS.out.1,HS.out.2.frm HA.out.gram⟩)
     clear HS hlt3
     go_wp2_with fail
     go_roundw
     case rel=>exact⟨frm+1,A,F,by have:=Htil.out;omega,by go_num,HS2.out⟩
     case measure=>simp[intOf];omega
    have g3:(turn:Int)<(g.cats.xs.length:Int):=by omega
    go_wp2_with fail
    go_loopw [11] (fun iv wr=>∃(cat:Nat) (A:Int→Nat→Nat→List Dv) (F:List FoundG),cat≤g.cats.xs.length∧iv = .int .i64 (cat:Int)∧Hid (WhS (fun b=>b=lb∨b<w.heap.size) w4 g its.xs n lb A F wr∧TabInv g its.xs n A long frm turn cat)) (fun iv _=>g.cats.xs.length-(intOf iv).toNat)
    case atStart=>exact⟨0,A,F,Nat.zero_le _,rfl,HS.out⟩
    case round =>
     clear HS A F c1
     obtain⟨cat,A,F,hd1,rfl,HS⟩:=hrel
     have c1:=gblk (HS.out.1.at_ HG4.out hl0) 1
     by_cases hlt4:cat<g.cats.xs.length
     rotate_left
     ·obtain rfl:cat=g.cats.xs.length:=by omega
      have g4:¬(g.cats.xs.length:Int)<(g.cats.xs.length:Int):=by omega
      have HS2:=Xa (show _∧_ from ⟨HS.out.1,HS.out.2.turn⟩)
      clear HS hlt4
      go_wp2_with fail
      go_roundw
      case rel=>exact⟨turn+1,A,F,hlt3,by go_num,HS2.out⟩
      case measure=>simp[intOf];omega
     have g4:(cat:Int)<(g.cats.xs.length:Int):=by omega
     have HBw:=Xa (Yf HB4.out HB4.out.size HS.out.1.only hl3)
     have hNF:N=F.length:=by rw[HS.out.1.size,← HN.out,← HP2.out]
     have HSc:=Xa (HS.out.1.chW (HG.out _ HBw.out) (HI.out _ HBw.out) N hNF)
     have hChC:ChC ⟨g,its,(n:Int),⟨some ⟨lb,0,none⟩,N,N⟩⟩ n A:=⟨rfl,h16,HA.out.gram,HS.out.1.sound,HA.out.items,fun x hx=>(Ut (HA.out.right x hx)).2.2.2.2.2.2.2⟩
     have hla:=HS.out.2
     have hfrm:frm<til:=by have:=Htil.out;omega
     have hplace:=fun V=>Xtb ⟨g,its,(n:Int),⟨some ⟨lb,0,none⟩,N,N⟩⟩ n frm til cat V rfl h16 hb1 htn hlt4 h32
     obtain⟨pos,hpos⟩:∃p,posC n g.cats.xs.length frm til cat=p:=⟨_,rfl⟩
     have hpl:pos<F.length:=by rw[← hpos,HS.out.1.size];exact Xtd hb1 htn hlt4
     have hplN:(pos:Int)<(N:Int):=by omega
     simp only[hpos] at hplace
     obtain⟨Lw,hLw⟩:∃l,Xq (cat:Int) frm til 0 its.xs++X4 (Xm its.xs) A cat frm til 0 g.rules.xs=l:=⟨_,rfl⟩
     have hlw:=Xc HS.out.1.tab.choose_spec.1
     have Hder:Hid (∀V,Below wr.heap.size wr V→Calls Tryz.prog 103 #[.agg #[.string g.name,.slice g.cats.addr g.cats.xs.length g.cats.cap,.string g.start,.int .i64 g.startNo,.slice g.entries.addr g.entries.xs.length g.entries.cap,.slice g.rules.addr g.rules.xs.length g.rules.cap,.slice its.addr its.xs.length its.cap,.int .i64 (n:Int),.slice (some ⟨lb,0,none⟩) N N],.int .i64 (frm:Int),.int .i64 (til:Int),.int .i64 (cat:Int)] V (Xte (fun b=>b=lb∨b<w.heap.size) Lw V)):=fun V hV=>by
      rw[← hLw]
      exact Xt0 (fun b=>b=lb∨b<w.heap.size) ⟨g,its,(n:Int),⟨some ⟨lb,0,none⟩,N,N⟩⟩ n A F hChC cat frm til V hfrm htn HA.out.few (fun b hb=>by rcases hb with rfl|hb;exact Nat.lt_of_lt_of_le hlw hV.size;exact Nat.lt_of_lt_of_le hb (Nat.le_trans HBw.out.size hV.size)) (HSc.out.ext hV)
     obtain⟨b',o',e',_,hcell⟩:=HSc.out.cell hpl
     obtain⟨rfl,rfl⟩:b'=lb∧o'=0:=by
      injection e' with e'
      injection e' with e1 e2
      exact⟨e1.symm,e2.symm⟩
     have hold:Hid (∀V,Below wr.heap.size wr V→∀(z:Nat) (u:Value),F[pos].cells[z]? = some u→V.cell? ⟨b',pos*8+z,none⟩=some u):=fun V hV z u hu=>by
      have h:=hcell z u hu
      rw[Nat.zero_add] at h
      exact(World.cell?_of_block (w:=wr) (a:=⟨b',pos*8+z,none⟩) (hV.block b' hlw)).trans h
     have Htab:=Xa HS.out.1.tab
     have Hcb:Hid (∀V,Below wr.heap.size wr V→V.heap[cb]? = some (.cells #[.string g.name,.slice g.cats.addr g.cats.xs.length g.cats.cap,.string g.start,.int .i64 g.startNo,.slice g.entries.addr g.entries.xs.length g.entries.cap,.slice g.rules.addr g.rules.xs.length g.rules.cap,.slice its.addr its.xs.length its.cap,.int .i64 (n:Int),.slice (some ⟨b',0,none⟩) N N] 166 (0,0))):=fun V hV=>Xh hV (HS.out.1.at_ HC4.out hl2)
     have Hplace:=Xa hplace
     have Hpos:=Xa hpos
     have HLw:=Xa hLw
     have Hpl:=Xa hpl
     clear hplace hpos hLw hChC hNF hcell e'
     go_wp2_with fail
     clear c1
     refine wpIn_wide (n:=0) |>.1 ?_
     refine Td (fun (f:FoundG) a=>{a with tmps:=((((((((((((((((a.tmps.setIfInBounds 52 (.pointer (some ⟨cb,8,none⟩))).setIfInBounds 53 (.slice (some ⟨b',0,none⟩) N N)).setIfInBounds 54 (.agg #[.string g.name,.slice g.cats.addr g.cats.xs.length g.cats.cap,.string g.start,.int .i64 g.startNo,.slice g.entries.addr g.entries.xs.length g.entries.cap,.slice g.rules.addr g.rules.xs.length g.rules.cap,.slice its.addr its.xs.length its.cap,.int .i64 (n:Int),.slice (some ⟨b',0,none⟩) N N])).setIfInBounds 55 (.int .i64 (frm:Int))).setIfInBounds 56 (.int .i64 (frm:Int))).setIfInBounds 57 (.int .i64 (long:Int))).setIfInBounds 58 (.int .i64 (til:Int))).setIfInBounds 59 (.int .i64 (cat:Int))).setIfInBounds 60 (.int .i64 (pos:Int))).setIfInBounds 61 (.agg #[.string g.name,.slice g.cats.addr g.cats.xs.length g.cats.cap,.string g.start,.int .i64 g.startNo,.slice g.entries.addr g.entries.xs.length g.entries.cap,.slice g.rules.addr g.rules.xs.length g.rules.cap,.slice its.addr its.xs.length its.cap,.int .i64 (n:Int),.slice (some ⟨b',0,none⟩) N N])).setIfInBounds 62 (.int .i64 (frm:Int))).setIfInBounds 63 (.int .i64 (frm:Int))).setIfInBounds 64 (.int .i64 (long:Int))).setIfInBounds 65 (.int .i64 (til:Int))).setIfInBounds 66 (.int .i64 (cat:Int))).setIfInBounds 67 (.agg #[.bool f.ok,.int .i64 f.cost,.int .i64 f.rule,.int .i64 f.item,.int .i64 f.frm,.int .i64 f.unt,.slice f.kids.addr f.kids.len f.kids.cap,.int .i64 f.many])).setIfInBounds 68 (.pointer (some ⟨b',pos*8,none⟩))})
      (fun f v=>∃V2,Below wr.heap.size wr V2∧FoundOk (fun b=>b=b'∨b<w.heap.size) V2 f (Fd.of bigN Lw)∧v=Xs8 V2 b' (pos*8) f) ?_ ?_
     ·refine Xo (fun V=>V.heap[cb]? = some (.cells #[.string g.name,.slice g.cats.addr g.cats.xs.length g.cats.cap,.string g.start,.int .i64 g.startNo,.slice g.entries.addr g.entries.xs.length g.entries.cap,.slice g.rules.addr g.rules.xs.length g.rules.cap,.slice its.addr its.xs.length its.cap,.int .i64 (n:Int),.slice (some ⟨b',0,none⟩) N N] 166 (0,0))) (by kernel_rfl) ?_
      have hBd:Below wr.heap.size wr wr.drew:=Xi (Below.refl _ _)
      have hC0:=Hcb.out _ hBd
      refine Xd (i:=0) rfl (by kernel_rfl) (fun _ _ _ h=>h) (fun V hV=>(by skip;go_simp<;>rfl)) ?_
      refine Xd (i:=1) rfl (by kernel_rfl) (fun _ _ _ h=>h) (fun V hV=>(by have c8:=gblk hV 8;go_simp<;>rfl)) ?_
      refine Xd (i:=2) (v:=.agg #[.string g.name,.slice g.cats.addr g.cats.xs.length g.cats.cap,.string g.start,.int .i64 g.startNo,.slice g.entries.addr g.entries.xs.length g.entries.cap,.slice g.rules.addr g.rules.xs.length g.rules.cap,.slice its.addr its.xs.length its.cap,.int .i64 ↑n,.slice (some ⟨b',0,none⟩) N N]) rfl (by kernel_rfl) (fun _ _ _ h=>h) (fun V hV=>(by have c0:=gblk hV 0;have c1:=gblk hV 1;have c2:=gblk hV 2;have c3:=gblk hV 3;have c4:=gblk hV 4;have c5:=gblk hV 5;have c6:=gblk hV 6;have c7:=gblk hV 7;have c8:=gblk hV 8;go_simp)) ?_
      refine Xd (i:=3) rfl (by kernel_rfl) (fun _ _ _ h=>h) (fun V hV=>(by skip;go_simp<;>rfl)) ?_
      refine Xd (i:=4) rfl (by kernel_rfl) (fun _ _ _ h=>h) (fun V hV=>(by skip;go_simp<;>rfl)) ?_
      refine Xd (i:=5) rfl (by kernel_rfl) (fun _ _ _ h=>h) (fun V hV=>(by skip;go_simp<;>rfl)) ?_
      refine Xd (i:=6) rfl (by kernel_rfl) (fun _ _ _ h=>h) (fun V hV=>(by skip;go_simp<;>rfl)) ?_
      refine Xd (i:=7) rfl (by kernel_rfl) (fun _ _ _ h=>h) (fun V hV=>(by skip;go_simp<;>rfl)) ?_
      refine Xd (i:=9) (v:=.agg #[.string g.name,.slice g.cats.addr g.cats.xs.length g.cats.cap,.string g.start,.int .i64 g.startNo,.slice g.entries.addr g.entries.xs.length g.entries.cap,.slice g.rules.addr g.rules.xs.length g.rules.cap,.slice its.addr its.xs.length its.cap,.int .i64 ↑n,.slice (some ⟨b',0,none⟩) N N]) rfl (by kernel_rfl) (fun _ _ _ h=>h) (fun V hV=>(by have c0:=gblk hV 0;have c1:=gblk hV 1;have c2:=gblk hV 2;have c3:=gblk hV 3;have c4:=gblk hV 4;have c5:=gblk hV 5;have c6:=gblk hV 6;have c7:=gblk hV 7;have c8:=gblk hV 8;go_simp)) ?_
      refine Xd (i:=10) rfl (by kernel_rfl) (fun _ _ _ h=>h) (fun V hV=>(by skip;go_simp<;>rfl)) ?_
      refine Xd (i:=11) rfl (by kernel_rfl) (fun _ _ _ h=>h) (fun V hV=>(by skip;go_simp<;>rfl)) ?_
      refine Xd (i:=12) rfl (by kernel_rfl) (fun _ _ _ h=>h) (fun V hV=>(by skip;go_simp<;>rfl)) ?_
      refine Xd (i:=13) rfl (by kernel_rfl) (fun _ _ _ h=>h) (fun V hV=>(by skip;go_simp<;>rfl)) ?_
      refine Xd (i:=14) rfl (by kernel_rfl) (fun _ _ _ h=>h) (fun V hV=>(by skip;go_simp<;>rfl)) ?_
      refine Xg (i:=8) hC0 (by kernel_rfl) rfl (fun K hK=>?_)
      go_simp
      refine⟨trivial,rfl,callsIn_wide.2 ((Hplace.out _).mono ?_)⟩
      rintro e V1 ⟨rfl,hb1'⟩
      refine hK _ _ ?_
      clear hK K
      have hB1:=Xb hBd hb1'
      refine Xg (i:=15) (Hcb.out _ hB1) (by kernel_rfl) rfl (fun K hK=>?_)
      go_simp
      refine⟨trivial,rfl,callsIn_wide.2 ((Hder.out _ hB1).mono ?_)⟩
      rintro e V2 ⟨f,rfl,hf,hb2'⟩
      refine hK _ _ ?_
      clear hK K
      have hB2:=Xb hB1 hb2'
      refine Xd (i:=16) rfl (by kernel_rfl) (fun _ _ _ h=>h) (fun V hV=>(by skip;go_simp<;>rfl)) ?_
      obtain⟨C,hCt,_⟩:=Htab.out
      have hCt2:=Xh hB2 hCt
      have hzf:=fun m=>Xf hCt2 m
      have e0:V2.cell? ⟨b',pos*8,none⟩=some (.bool F[pos].ok):=hold.out V2 hB2 0 _ rfl
      have e1:=hold.out V2 hB2 1 _ rfl
      have e2:=hold.out V2 hB2 2 _ rfl
      have e3:=hold.out V2 hB2 3 _ rfl
      have e4:=hold.out V2 hB2 4 _ rfl
      have e5:=hold.out V2 hB2 5 _ rfl
      have e6:=hold.out V2 hB2 6 _ rfl
      have e7:=hold.out V2 hB2 7 _ rfl
      refine Xg (i:=17) (Hcb.out _ hB2) (by kernel_rfl) rfl (fun K hK=>?_)
      go_simp
      refine hK _ _ ?_
      clear hK K
      change wpAnyC _ _ _ _ _ _ _ _ (Xs8 V2 b' (pos*8) f)
      have hO9:=Xti V2 b' (pos*8) f
      refine Xl ((hO9.block cb (Xc (Hcb.out _ hB2)) hl2).trans (Hcb.out _ hB2)) (by kernel_rfl) ?_ _
      refine⟨f,?_,V2,hB2,hf,rfl⟩
      kernel_rfl
     rintro f v ⟨V2,hB2,hf,rfl⟩
     have HS2:Hid (WhS (fun b=>b=b'∨b<w.heap.size) w4 g its.xs n b' (putA A cat frm til Lw) (F.set pos f) (Xs8 V2 b' (pos*8) f)∧TabInv g its.xs n (putA A cat frm til Lw) long frm turn (cat+1)):=by
      have h1:=HS.out.1.put HA.out.gram (.inl rfl) hB2 hlt4 hfrm htn (f:=f) (by rw[HLw.out];exact hf)
      rw[HLw.out,Hpos.out] at h1
      have h2:=HS.out.2.cat HA.out.gram (by omega) (by rw[Htil.out];exact htn) hlt4
      rw[Htil.out] at h2
      rw[HLw.out] at h2
      exact⟨h1,h2⟩
     obtain⟨w9,hw9⟩:∃v,Xs8 V2 b' (pos*8) f=v:=⟨_,rfl⟩
     rw[hw9] at HS2 ⊢
     clear hw9 hf hB2
     gi_wp2_with fail
     go_wp2_with fail
     go_roundw
     case rel=>exact⟨cat+1,_,_,hlt4,by go_num,HS2.out⟩
     case measure=>simp[intOf];omega
set_option maxHeartbeats 4000000 in
theorem Xu3 (g:Gram) (its:SlS ItemG) (n:Int) (w:World) (hg:g.lies w) (hi:ItemsAt w its) {c e:Int} (hc:Vy g its.xs n=(c,e)) :
  Calls Tryz.prog 24 #[.agg #[.string g.name,.slice g.cats.addr g.cats.xs.length g.cats.cap,.string g.start,.int .i64 g.startNo,.slice g.entries.addr g.entries.xs.length g.entries.cap,.slice g.rules.addr g.rules.xs.length g.rules.cap],.slice its.addr its.xs.length its.cap,.int .i64 n] w fun E w'=>E = .returned (.tuple #[.int .i64 c,.int .i64 e])∧Below w.heap.size w w':=by
 obtain⟨W1,hW1⟩:∃W1,w.alloc (.cells #[.string g.name,.slice g.cats.addr g.cats.xs.length g.cats.cap,.string g.start,.int .i64 g.startNo,.slice g.entries.addr g.entries.xs.length g.entries.cap,.slice g.rules.addr g.rules.xs.length g.rules.cap] 26)=W1:=⟨_,rfl⟩
 have HB:=Xa (Yn hW1)
 have HK:=Xa (Yv hW1)
 have hk:=HK.out
 have HG:=Xa (fun V (hV:Below w.heap.size w V)=>hg.ext hV)
 have HI:=Xa (fun V (hV:Below w.heap.size w V)=>hi.ext hV)
 have Hc:=Xa hc
 have c0:=gblk hk 0
 have c1:=gblk hk 1
 have c2:=gblk hk 2
 have c3:=gblk hk 3
 have c4:=gblk hk 4
 have c5:=gblk hk 5
 clear hk hg hi hc
 go_enter Tryz.func24,Tryz.ntmps24
 go_wp2_with fail
 clear hW1
 refine(Xir g its n W1 (HG.out _ HB.out) (HI.out _ HB.out)).mono ?_
 rintro E w2 ⟨rfl,hb⟩
 replace HB:=Xa (Xb HB.out hb)
 replace HK:=Xa (Xh hb HK.out)
 clear c0 c1 c2 c3 c4 c5 hb
 by_cases h0:errC g its.xs n=0
 rotate_left
 ·have q0:(errC g its.xs n != 0)=true:=by simpa using h0
  have hcc:=Hc.out
  unfold Vy at hcc
  rw[if_pos h0] at hcc
  cases hcc
  clear h0
  obtain⟨ee,hee⟩:∃x,errC g its.xs n=x:=⟨_,rfl⟩
  have Hee:=Xa hee
  rw[hee] at q0 ⊢
  clear hee
  go_wp2_with fail
  exact bodyPost_ret (v:=.tuple #[.int .i64 0,.int .i64 ee]) (by simp[results,Tryz.results24,go_sem]) rfl ⟨by rw[Hee.out],HB.out⟩
 have hA:=Vz h0
 obtain⟨N,rfl⟩:∃N:Nat,n=(N:Int):=⟨n.toNat,by have:=hA.n1;omega⟩
 have hwh:=fun V (hV:Below w.heap.size w V)=>Xuj g its N V h0 (HG.out V hV) (HI.out V hV)
 have Hwh:=Xa hwh
 have hcc:=Hc.out
 unfold Vy at hcc
 rw[if_neg (fun hn=>hn h0)] at hcc
 unfold Xqd at hcc
 rw[Int.toNat_natCast] at hcc
 have hk:=HK.out
 have c0:=gblk hk 0
 have c1:=gblk hk 1
 have c2:=gblk hk 2
 have c3:=gblk hk 3
 have c4:=gblk hk 4
 have c5:=gblk hk 5
 rw[h0]
 have Hcc:=Xa hcc
 clear h0 hA hwh hk hcc
 go_wp2_with fail
 refine(Hwh.out _ HB.out).mono ?_
 rintro E w3 ⟨f,rfl,hf,hb⟩
 have HB3:=Xa (Xb HB.out hb)
 obtain⟨W4,hW4⟩:∃v,w3.alloc (.cells #[.bool f.ok,.int .i64 f.cost,.int .i64 f.rule,.int .i64 f.item,.int .i64 f.frm,.int .i64 f.unt,.slice f.kids.addr f.kids.len f.kids.cap,.int .i64 f.many] 93)=v:=⟨_,rfl⟩
 have HB4:=Xa (Xb HB3.out (Yn hW4))
 have hk4:=Yv hW4
 have y0:=gblk hk4 0
 have y1:=gblk hk4 1
 have y2:=gblk hk4 2
 have y3:=gblk hk4 3
 have y4:=gblk hk4 4
 have y5:=gblk hk4 5
 have y6:=gblk hk4 6
 have y7:=gblk hk4 7
 obtain⟨M,hM⟩:∃M,capN bigN (derG g its.xs g.startNo 0 N).length=M:=⟨_,rfl⟩
 have hfm:f.many=(M:Int):=by rw[← hM];exact hf.many
 rw[hfm] at y7
 have hcc:=Hcc.out
 rw[hM] at hcc
 clear c0 c1 c2 c3 c4 c5 hb hf hk4 hM hfm
 by_cases hbig:bigN<M
 ·have g1:decide ((1099511627776:Int)<(M:Int))=true:=decide_eq_true (by unfold bigN at hbig;omega)
  rw[if_pos hbig] at hcc
  cases hcc
  clear hbig
  go_wp2_with fail
  exact bodyPost_ret (v:=.tuple #[.int .i64 0,.int .i64 2]) (by simp[results,Tryz.results24,go_sem]) rfl ⟨rfl,HB4.out⟩
 ·have g1:decide ((1099511627776:Int)<(M:Int))=false:=decide_eq_false (by unfold bigN at hbig;omega)
  rw[if_neg hbig] at hcc
  cases hcc
  clear hbig
  go_wp2_with fail
  exact bodyPost_ret (v:=.tuple #[.int .i64 (M:Int),.int .i64 0]) (by simp[results,Tryz.results24,go_sem]) rfl ⟨rfl,HB4.out⟩
set_option maxHeartbeats 4000000 in
theorem Xtz (g:Gram) (its:SlS ItemG) (n:Int) (w:World) (hg:g.lies w) (hi:ItemsAt w its) {t:TreeV} {c:Int} {ok:Bool} {e:Int} (hc:Zk g its.xs n=(t,c,ok,e)) :
  Calls Tryz.prog 18 #[.agg #[.string g.name,.slice g.cats.addr g.cats.xs.length g.cats.cap,.string g.start,.int .i64 g.startNo,.slice g.entries.addr g.entries.xs.length g.entries.cap,.slice g.rules.addr g.rules.xs.length g.rules.cap],.slice its.addr its.xs.length its.cap,.int .i64 n] w fun E w'=>∃x:TreeG,E = .returned (.tuple #[.agg #[.int .i64 x.rule,.int .i64 x.item,.int .i64 x.frm,.int .i64 x.unt,.slice x.kids.addr x.kids.len x.kids.cap],.int .i64 c,.bool ok,.int .i64 e])∧TreeW (fun _=>False) w' t x∧Below w.heap.size w w':=by
 obtain⟨W1,hW1⟩:∃W1,(w.alloc (.cells #[.string g.name,.slice g.cats.addr g.cats.xs.length g.cats.cap,.string g.start,.int .i64 g.startNo,.slice g.entries.addr g.entries.xs.length g.entries.cap,.slice g.rules.addr g.rules.xs.length g.rules.cap] 26)).alloc (.cells #[.int .i64 0,.int .i64 0,.int .i64 0,.int .i64 0,.slice none 0 0] 32)=W1:=⟨_,rfl⟩
 have HB:Hid (Below w.heap.size w W1):=by rw[← hW1];exact Xe (Xe (Below.refl _ _) _) _
 have HK:Hid (W1.heap[w.heap.size]? = some (.cells #[.string g.name,.slice g.cats.addr g.cats.xs.length g.cats.cap,.string g.start,.int .i64 g.startNo,.slice g.entries.addr g.entries.xs.length g.entries.cap,.slice g.rules.addr g.rules.xs.length g.rules.cap] 26 (0,0))):=by rw[← hW1];exact(Below.heap_alloc _ _ _ (by simp)).trans (World.alloc_heap_new _ _)
 have HZ:Hid (W1.heap[w.heap.size+1]? = some (.cells #[.int .i64 0,.int .i64 0,.int .i64 0,.int .i64 0,.slice none 0 0] 32 (0,0))):=by rw[← hW1];exact X0 _ _ _ (by simp)
 have hk:=HK.out
 have HG:=Xa (fun V (hV:Below w.heap.size w V)=>hg.ext hV)
 have HI:=Xa (fun V (hV:Below w.heap.size w V)=>hi.ext hV)
 have Hc:=Xa hc
 have c0:=gblk hk 0
 have c1:=gblk hk 1
 have c2:=gblk hk 2
 have c3:=gblk hk 3
 have c4:=gblk hk 4
 have c5:=gblk hk 5
 clear hk hg hi hc
 go_enter Tryz.func18,Tryz.ntmps18
 go_wp2_with fail
 clear hW1
 refine(Xir g its n W1 (HG.out _ HB.out) (HI.out _ HB.out)).mono ?_
 rintro E w2 ⟨rfl,hb⟩
 replace HB:=Xa (Xb HB.out hb)
 replace HK:=Xa (Xh hb HK.out)
 replace HZ:=Xa (Xh hb HZ.out)
 clear c0 c1 c2 c3 c4 c5 hb
 by_cases h0:errC g its.xs n=0
 rotate_left
 ·have q0:(errC g its.xs n != 0)=true:=by simpa using h0
  have hcc:=Hc.out
  unfold Zk at hcc
  rw[if_pos h0] at hcc
  cases hcc
  have hz:=HZ.out
  have hO:=U7 w2 (w.heap.size+1) Qr
  have hs:=Xcl (x:=Qr) hz Qr
  have HS:=Xa hs
  have HP:Hid (TreeW (fun _=>False) (set5 w2 (w.heap.size+1) Qr) Un Qr∧Below w.heap.size w (set5 w2 (w.heap.size+1) Qr)):=⟨Xb1 _ _,Yf HB.out HB.out.size hO (by omega)⟩
  have z0:=gblk hz 0
  have z1:=gblk hz 1
  have z2:=gblk hz 2
  have z3:=gblk hz 3
  have z4:=gblk hz 4
  have hzf:=fun m=>Xf hz m
  clear h0 hz hO hs
  obtain⟨ee,hee⟩:∃x,errC g its.xs n=x:=⟨_,rfl⟩
  have Hee:=Xa hee
  rw[hee] at q0 ⊢
  clear hee
  go_wp2_with fail
  change bodyPost _ _ _ _ _ (set5 w2 (w.heap.size+1) Qr)
  have hs:=HS.out
  generalize set5 w2 (w.heap.size+1) Qr=w9 at *
  clear z0 z1 z2 z3 z4 hzf
  have s0:=gblk hs 0
  have s1:=gblk hs 1
  have s2:=gblk hs 2
  have s3:=gblk hs 3
  have s4:=gblk hs 4
  exact bodyPost_ret (v:=.tuple #[.agg #[.int .i64 0,.int .i64 0,.int .i64 0,.int .i64 0,.slice none 0 0],.int .i64 0,.bool false,.int .i64 ee]) (by simp[results,Tryz.results18,go_sem,s0,s1,s2,s3,s4,Qr]) rfl ⟨Qr,by rw[Hee.out];rfl,HP.out.1,HP.out.2⟩
 have hA:=Vz h0
 obtain⟨N,rfl⟩:∃N:Nat,n=(N:Int):=⟨n.toNat,by have:=hA.n1;omega⟩
 have hwh:=fun V (hV:Below w.heap.size w V)=>Xuj g its N V h0 (HG.out V hV) (HI.out V hV)
 have Hwh:=Xa hwh
 have hcc:=Hc.out
 unfold Zk at hcc
 rw[if_neg (fun hn=>hn h0)] at hcc
 unfold Xdl at hcc
 rw[Int.toNat_natCast] at hcc
 have hk:=HK.out
 have c0:=gblk hk 0
 have c1:=gblk hk 1
 have c2:=gblk hk 2
 have c3:=gblk hk 3
 have c4:=gblk hk 4
 have c5:=gblk hk 5
 rw[h0]
 have Hcc:=Xa hcc
 clear h0 hA hwh hk hcc
 go_wp2_with fail
 refine(Hwh.out _ HB.out).mono ?_
 rintro E w3 ⟨f,rfl,hf,hb⟩
 have HB3:=Xa (Xb HB.out hb)
 obtain⟨W4,hW4⟩:∃v,w3.alloc (.cells #[.bool f.ok,.int .i64 f.cost,.int .i64 f.rule,.int .i64 f.item,.int .i64 f.frm,.int .i64 f.unt,.slice f.kids.addr f.kids.len f.kids.cap,.int .i64 f.many] 93)=v:=⟨_,rfl⟩
 have hb4:=Yn hW4
 have HB4:=Xa (Xb HB3.out hb4)
 have hk4:=Yv hW4
 have hz4:=Xh hb4 (Xh hb HZ.out)
 have hO:=U7 W4 (w.heap.size+1) f.tree
 have hs:=Xcl (x:=Qr) hz4 f.tree
 have HS:=Xa hs
 have hres:TreeW (fun b=>b<w2.heap.size) w3 t f.tree∧f.cost=c∧f.ok=ok∧e=0:=by
  have h1:=Hcc.out
  have h2:=hf.best
  unfold Fd.of at h2
  cases hm:Xv (derG g its.xs g.startNo 0 N) with
  | none =>
   rw[hm] at h1 h2
   cases h1
   obtain⟨a,b,d⟩:=h2
   exact⟨by rw[d];exact Xb1 _ _,b,a,rfl⟩
  | some y =>
   obtain⟨c',t'⟩:=y
   rw[hm] at h1 h2
   cases h1
   exact⟨h2.2.2,h2.2.1,h2.1,rfl⟩
 obtain⟨htr,hr1,hr2,rfl⟩:=hres
 have hlz:=Xc HZ.out
 have HP:Hid (TreeW (fun _=>False) (set5 W4 (w.heap.size+1) f.tree) t f.tree∧Below w.heap.size w (set5 W4 (w.heap.size+1) f.tree)) :=
  ⟨((htr.ext hb4).only hO fun b hb hh=>hh.2 (by rw[show b=w.heap.size+1 from hb];exact hlz)).keep (fun _ _ _=>rfl) (Nat.le_refl _) (fun _ _ _ h=>h),Yf HB4.out HB4.out.size hO (by omega)⟩
 have z0:=gblk hz4 0
 have z1:=gblk hz4 1
 have z2:=gblk hz4 2
 have z3:=gblk hz4 3
 have z4:=gblk hz4 4
 have hzf:=fun m=>Xf hz4 m
 have HC:Hid (∀V,Only (fun b=>b=w.heap.size+1) W4 V→∀(z:Nat) (u:Value),f.cells[z]? = some u→V.cell? ⟨w3.heap.size,z,none⟩=some u):=fun V hV z u hu=>by
  have hne:w3.heap.size≠w.heap.size+1:=by have:=hb.size;omega
  have h:=gblk ((hV.block w3.heap.size (Xc hk4) hne).trans hk4) z
  rw[h]
  exact(by simpa[FoundG.cells] using hu)
 have HO9:Hid (Only (fun b=>b=w.heap.size+1) W4 (set5 W4 (w.heap.size+1) f.tree).drew):=⟨hO.os,hO.tape,hO.output,hO.size,hO.block⟩
 have HS9:Hid ((set5 W4 (w.heap.size+1) f.tree).drew.heap[w.heap.size+1]? = some (.cells #[.int .i64 f.tree.rule,.int .i64 f.tree.item,.int .i64 f.tree.frm,.int .i64 f.tree.unt,.slice f.tree.kids.addr f.tree.kids.len f.tree.kids.cap] 32 (0,0))):=hs
 have HP9:Hid (TreeW (fun _=>False) (set5 W4 (w.heap.size+1) f.tree).drew t f.tree∧Below w.heap.size w (set5 W4 (w.heap.size+1) f.tree).drew):=⟨HP.out.1.ext (Xi (Below.refl _ _)),Xi HP.out.2⟩
 have Hr1:=Xa hr1
 have Hr2:=Xa hr2
 clear c0 c1 c2 c3 c4 c5 hb hf hk4 hz4 hO hs hb4 htr hr1 hr2 hlz
 go_wp2_with fail
 refine wpIn_wide (n:=0) |>.1 ?_
 refine Y4 _ ?_ (fun _ _ h=>h)
 refine Xo (fun V=>Only (fun b=>b=w.heap.size+1) W4 V) (by kernel_rfl) ?_
 have hC0:Only (fun b=>b=w.heap.size+1) W4 W4.drew:=⟨rfl,rfl,rfl,Nat.le_refl _,fun _ _ _=>rfl⟩
 refine Xd (i:=0) rfl (by kernel_rfl) (fun _ _ _ h=>h) (fun V hV=>(by skip;go_simp<;>rfl)) ?_
 refine Xd (i:=1) (v:=.agg #[.int .i64 f.tree.rule,.int .i64 f.tree.item,.int .i64 f.tree.frm,.int .i64 f.tree.unt,.slice f.tree.kids.addr f.tree.kids.len f.tree.kids.cap]) rfl (by kernel_rfl) (fun _ _ _ h=>h) (fun V hV=>(by have e2:=HC.out V hV 2 _ rfl;have e3:=HC.out V hV 3 _ rfl;have e4:=HC.out V hV 4 _ rfl;have e5:=HC.out V hV 5 _ rfl;have e6:=HC.out V hV 6 _ rfl;unfold FoundG.tree;go_simp)) ?_
 refine Xd (i:=2) rfl (by kernel_rfl) (fun _ _ _ h=>h) (fun V hV=>(by skip;go_simp<;>rfl)) ?_
 refine Xd (i:=3) (v:=.int .i64 f.cost) rfl (by kernel_rfl) (fun _ _ _ h=>h) (fun V hV=>(by have e1:=HC.out V hV 1 _ rfl;go_simp)) ?_
 refine Xd (i:=4) rfl (by kernel_rfl) (fun _ _ _ h=>h) (fun V hV=>(by skip;go_simp<;>rfl)) ?_
 refine Xd (i:=5) (v:=.bool f.ok) rfl (by kernel_rfl) (fun _ _ _ h=>h) (fun V hV=>(by have e0:=HC.out V hV 0 _ rfl;go_simp)) ?_
 refine Xg (i:=6) hC0 (by kernel_rfl) rfl (fun K hK=>?_)
 go_simp
 refine hK _ _ ?_
 clear hK K
 change wpAnyC _ _ _ _ _ _ _ _ (World.drew (set5 W4 (w.heap.size+1) f.tree))
 clear z0 z1 z2 z3 z4 hzf HP HS
 generalize World.drew (set5 W4 (w.heap.size+1) f.tree)=w9 at *
 refine Xd (i:=7) rfl (by kernel_rfl) (fun _ _ _ h=>h) (fun V hV=>(by skip;go_simp<;>rfl)) ?_
 refine Xd (i:=8) rfl (by kernel_rfl) (fun _ _ _ h=>h) (fun V hV=>(by skip;go_simp<;>rfl)) ?_
 refine Xd (i:=9) rfl (by kernel_rfl) (fun _ _ _ h=>h) (fun V hV=>(by skip;go_simp<;>rfl)) ?_
 refine Xl HO9.out (by kernel_rfl) ?_ _
 have hs:=HS9.out
 have s0:=gblk hs 0
 have s1:=gblk hs 1
 have s2:=gblk hs 2
 have s3:=gblk hs 3
 have s4:=gblk hs 4
 go_wp2_with fail
 exact bodyPost_ret (v:=.tuple #[.agg #[.int .i64 f.tree.rule,.int .i64 f.tree.item,.int .i64 f.tree.frm,.int .i64 f.tree.unt,.slice f.tree.kids.addr f.tree.kids.len f.tree.kids.cap],.int .i64 f.cost,.bool f.ok,.int .i64 0]) (by simp[results,Tryz.results18,go_sem,s0,s1,s2,s3,s4]) rfl ⟨f.tree,by rw[Hr1.out,Hr2.out],HP9.out.1,HP9.out.2⟩
end Go.Proofs.YthojaplnimoacaaGreatDoor
