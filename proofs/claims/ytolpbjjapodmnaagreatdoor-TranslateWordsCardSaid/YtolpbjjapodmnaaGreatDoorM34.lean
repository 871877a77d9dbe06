/- Texts of this claim, one after the other: Law30g. -/
import Derived.Test.YtolpbjjapodmnaaGreatDoorM29
import Derived.Test.YtolpbjjapodmnaaGreatDoorM31
namespace Go.Proofs.YtolpbjjapodmnaaGreatDoor
open Go.RowKit Go.Han
attribute [local irreducible] wpStill wpQuiet
set_option maxRecDepth 100000
theorem Yas {its:List ItemG} {n:Nat} (h:Yad its n) (hn:n≤7):∀p∈wbwT its n 0,p.deps.length≤1000000:=by
 have key:∀(d i:Nat),n-i≤d→∀p∈wbwT its n i,p.deps.length≤1000000:=by
  intro d
  induction d with
  | zero =>
   intro i hi p hp
   rw[X41 its (by omega)] at hp
   cases hp
  | succ d ih =>
   intro i hi p hp
   by_cases hlt:i<n
   ·obtain⟨q,b,v,hs⟩:=Yap h hlt
    rw[hs.eq] at hp
    rcases List.mem_append.1 hp with hp|hp
    ·unfold Xw3 at hp
     obtain⟨x,_,rfl⟩:=List.mem_map.1 hp
     show (setI (Xwt b.frm b.unt++[])).length≤_
     rw[List.append_nil,setI_inc (inc_spanL _ _),Yac]
     have:=hs.unt
     have:=hs.le
     have:=hs.long.frm
     omega
    ·exact ih v (by have:=hs.lt;omega) p hp
   ·rw[X41 its (by omega)] at hp
    cases hp
 exact key n 0 (by omega)
def fitV (q k T:Nat):Nat:=if q<k then T else 0
theorem Yaj (q T:Nat):fitV q 0 T=0:=if_neg (by omega)
theorem Yai (q T:Nat):fitV q q T=0:=if_neg (by omega)
theorem Yae {q k:Nat} (T:Nat) (h:q<k):fitV q k T=T:=if_pos h
theorem Yaf {q k:Nat} (T:Nat) (h:k≠q):fitV q (k+1) T=fitV q k T:=by
 unfold fitV
 by_cases h1:q<k
 ·rw[if_pos h1,if_pos (by omega)]
 ·rw[if_neg h1,if_neg (by omega)]
set_option maxHeartbeats 8000000 in
theorem X9r (hsane:X30) (g:Gram) (A:Option Addr) (cp:Nat) (l:List Term) (lang:Int) (s:StrS) (t u:Int) (w:World) (hT:TabsG w) (hg:g.lies w) (hgs:g.short) (hr:TermsAt w A l) (hm:l.length≤9223372036854775807) (hs:s.lies w) :
  Calls Tryz.prog 9 #[.agg #[.string g.name,.slice g.cats.addr g.cats.xs.length g.cats.cap,.string g.start,.int .i64 g.startNo,.slice g.entries.addr g.entries.xs.length g.entries.cap,.slice g.rules.addr g.rules.xs.length g.rules.cap],.slice A l.length cp,.int .i64 lang,.slice s.addr s.xs.length s.cap,.int .i64 t,.int .i64 u] w fun e w'=>e = .returned (.bool true)∧Below w.heap.size w w':=by
 obtain⟨W1,hW1⟩:∃W1,w.alloc (.cells #[.string g.name,.slice g.cats.addr g.cats.xs.length g.cats.cap,.string g.start,.int .i64 g.startNo,.slice g.entries.addr g.entries.xs.length g.entries.cap,.slice g.rules.addr g.rules.xs.length g.rules.cap] 26)=W1:=⟨_,rfl⟩
 have hB1:=Yn hW1
 have hk:=Yv hW1
 have hsn:s.xs.length≤9223372036854775807:=Nat.le_trans hs.cap hs.max
 have F0:=Xa (hsane W1 (hT.ext hB1))
 have FF:=Xa (fun V (hV:Below w.heap.size w V)=>X6y g A cp l s.addr s.xs.length s.cap V (hg.ext hV) hm hsn)
 have FT:=Xa (fun V (hV:Below w.heap.size w V)=>Xy0 g A cp l lang s t u V (hT.ext hV) (hg.ext hV) hgs (hr.ext hV) hm (hs.ext hV))
 have FA:=Xa (fun V (hV:Below w.heap.size w V)=>X2i g A cp l lang s t u V (hT.ext hV) (hg.ext hV) hgs (hr.ext hV) hm (hs.ext hV))
 have Hk:=Xa hk
 clear hT hg hgs hr hm hs hsane hk
 go_enter Tryz.func9,Tryz.ntmps9
 go_wp2_with fail
 clear hW1
 refine F0.out.mono ?_
 rintro e w2 ⟨rfl,hb2⟩
 have hB2:=Xb hB1 hb2
 have Hk2:=Xa (Xh hb2 Hk.out)
 have hk2:=Hk2.out
 obtain⟨c0,c1,c2,c3,c4,c5⟩:=gb6 hk2
 clear F0 hk2 Hk
 go_wp2_with fail
 refine(FF.out w2 hB2).mono ?_
 rintro e w3 ⟨b,rfl,hb3⟩
 have hB3:=Xb hB2 hb3
 have Hk3:=Xa (Xh hb3 Hk2.out)
 have hk3:=Hk3.out
 clear c0 c1 c2 c3 c4 c5 FF Hk2
 cases b
 ·clear hk3
  go_wp2_with fail
  go_ret
  exact⟨rfl,hB3⟩
 by_cases h7:7<s.xs.length
 ·have k1:decide ((7:Int)<(s.xs.length:Int))=true:=decide_eq_true (by omega)
  clear h7 hk3
  go_wp2_with fail
  go_ret
  exact⟨rfl,hB3⟩
 have k1:decide ((7:Int)<(s.xs.length:Int))=false:=decide_eq_false (by omega)
 obtain⟨c0,c1,c2,c3,c4,c5⟩:=gb6 hk3
 clear hk3
 go_wp2_with fail
 refine(FT.out w3 hB3).mono ?_
 rintro e w4 ⟨hb4,A9,n9,c9,L,rfl,rfl,hr4,hl4⟩
 obtain⟨wh,hwh⟩:∃wh,(trE g l lang s.xs t u).2=wh:=⟨_,rfl⟩
 obtain⟨E,hE⟩:∃E,Xwu g l lang s.xs t u=E:=⟨_,rfl⟩
 rw[hwh,hE]
 have hB4:=Xb hB3 hb4
 have Hk4:=Xa (Xh hb4 Hk3.out)
 have Hwh:=Xa hwh
 have HE:=Xa hE
 have HR:=Xa hr4
 have HL:=Xa hl4
 have hk4:=Hk4.out
 clear c0 c1 c2 c3 c4 c5 hwh hE hr4 hl4 hb4 FT Hk3
 obtain⟨c0,c1,c2,c3,c4,c5⟩:=gb6 hk4
 clear hk4
 go_wp2_with fail
 refine(FA.out w4 hB4).mono ?_
 rintro e w5 ⟨hb5,⟨hne,rfl⟩|⟨hz,its,rfl,hmc,hia⟩⟩
 ·rw[HE.out]
  have k2:(E != 0)=true:=by rw[HE.out] at hne;simpa using hne
  have HB:=Xa (Xb hB4 hb5)
  clear hne FA c0 c1 c2 c3 c4 c5 hB4 hB3 hB2 hB1 hb5
  go_wp2_with fail
  go_ret
  exact⟨rfl,HB.out⟩
 obtain rfl:E=0:=by rw[← HE.out,hz]
 have hB5:=Xb hB4 hb5
 have HB5:=Xa hB5
 have HR5:=Xa (HR.out.ext hb5)
 cases wh
 rotate_left
 ·clear FA c0 c1 c2 c3 c4 c5 hB4 hB3 hB2 hB1 hb5 hz hmc hia hB5
  go_wp2_with fail
  go_ret
  exact⟨rfl,HB5.out⟩
 have hn7:s.xs.length≤7:=by omega
 have HWo:=Xa (Yam hz hmc)
 have hTw:=Yar hz hmc Hwh.out
 have hL:=HL.out
 rw[hTw] at hL
 have hil:its.xs.length≤9223372036854775807:=Nat.le_trans hia.lies.cap hia.lies.max
 have hdep:∀p∈(wbwT its.xs s.xs.length 0),p.deps.length≤1000000:=fun p hp=>Yas HWo.out hn7 p hp
 have hTg:=(HR5.out.tgs hL hdep)
 have hTg:=hTg.2
 have Hia:=Xa hia
 have HT0:=Xa hTg
 have HL0:=Xa hL
 clear FA c0 c1 c2 c3 c4 c5 hB4 hB3 hB2 hB1 hb5 hz hmc hia hB5 hTw hL hdep hTg
 go_wp2_with fail
 go_loopw [13,18] (fun xv iv wr=>∃(M:SlS TgG) (N m:Nat),xv = .slice M.addr N M.cap∧iv = .int .i64 m∧m≤s.xs.length∧Hid (N=M.xs.length∧TgsAt w5 M∧M.xs.map TgG.c=wbwT its.xs s.xs.length m)∧Hid (Below w5.heap.size w5 wr)) (fun _ iv _=>s.xs.length-(intOf iv).toNat)
 case atStart=>exact⟨⟨A9,c9,L⟩,_,0,rfl,rfl,Nat.zero_le _,⟨rfl,HT0.out,HL0.out⟩,Below.refl _ _⟩
 case round =>
  obtain⟨M,N,m,rfl,rfl,hm,HM,HB⟩:=hrel
  by_cases hlt:m<s.xs.length
  rotate_left
  ·obtain rfl:m=s.xs.length:=by omega
   have hM0:M.xs=[]:=by
    have h:=HM.out.2.2
    rw[X41 _ (Int.le_refl _)] at h
    exact List.map_eq_nil_iff.1 h
   have hN0:N=0:=by rw[HM.out.1,hM0];rfl
   have HBe:=Xa (Xb HB5.out HB.out)
   subst hN0
   clear hM0
   go_wp2_with fail
   go_ret
   exact⟨rfl,HBe.out⟩
  obtain⟨q,b,v,hst⟩:=Yap HWo.out hlt
  obtain⟨hT1,hT2,hT3⟩:=Yal hst HM.out.2.2
  have hb1:=hst.some_
  obtain⟨x0,hx0,hxt,hx0d,hxu⟩:=hT2 0 b.tgt.xs[0] (List.getElem?_eq_getElem (by omega))
  obtain⟨h0M,hx0e⟩:=List.getElem?_eq_some_iff.1 hx0
  have hNp:0<N:=by rw[HM.out.1];omega
  obtain⟨bi,oi,hA,hbb,hc⟩:=HM.out.2.1.lies.at_ TgG.size_cells (by omega) h0M
  have d1:wr.cell? ⟨bi,oi+1,none⟩=some (.slice x0.dA x0.deps.length x0.dc):=by
   have h:=hc 0 h0M wr HB.out 1 _ rfl
   rw[hx0e] at h
   simpa using h
  have hnum:=(HM.out.2.1.ok _ (List.getElem_mem h0M)).num
  rw[hx0e] at hnum
  obtain⟨e,he⟩:∃e:Nat,v=m+e+1:=⟨v-m-1,by have:=hst.lt;omega⟩
  have hdl:x0.deps.length=e+1:=by rw[hx0d,Yac];omega
  obtain⟨b2,o2,hA2,hbb2,hc2⟩:=(hnum.ext HB.out) 0 (by omega)
  have f0:wr.cell? ⟨b2,o2,none⟩=some (.int .i64 (m:Int)):=by
   have h:=hc2 0 (by omega)
   have h3:x0.deps[0]? = some ((m:Int)+((0:Nat):Int)):=by rw[hx0d];exact Yag _ _ 0 (by omega)
   rw[(List.getElem?_eq_some_iff.1 h3).2] at h
   simpa using h
  have fe:wr.cell? ⟨b2,o2+e,none⟩=some (.int .i64 ((m:Int)+(e:Int))):=by
   have h:=hc2 e (by omega)
   have h3:x0.deps[e]? = some ((m:Int)+(e:Int)):=by rw[hx0d];exact Yag _ _ e (by omega)
   rw[(List.getElem?_eq_some_iff.1 h3).2] at h
   exact h
  have hen:e≤10:=by have:=hst.le;omega
  have Hst:=Xa hst
  have HT1:=Xa hT1
  have HT2:=Xa hT2
  have HT3:=Xa hT3
  have Hx0:=Xa hx0d
  have Hnum:=Xa hnum
  have Hdl:=Xa hdl
  have HA:=Xa hA
  have HA2:=Xa hA2
  have He:=Xa he
  rw[hdl,hA2] at d1
  rw[hA]
  have ge1:((e:Int)+1 == 0)=false:=by simp;omega
  have ge2:((e:Int)+1 != (m:Int)+(e:Int)+1-(m:Int))=false:=by simp;omega
  clear hxt hxu
  clear hst hT1 hT2 hT3 hx0 hx0d hx0e hc hnum hdl hc2 hA hA2 hb1 he
  go_wp2_with fail
  obtain⟨T,hT⟩:∃T,b.tgt.xs.length=T:=⟨_,rfl⟩
  have HTl:=Xa hT
  have hT1:1≤T:=by rw[← hT];exact Hst.out.some_.1
  have hTN:T≤N:=by rw[← hT,HM.out.1];exact HT1.out
  have hT8:T≤8:=by rw[← hT];exact Hst.out.some_.2
  have hun:b.unt=(m:Int)+(e:Int)+1:=by rw[Hst.out.unt,He.out];push_cast;rfl
  have Hun:=Xa hun
  clear hT hun d1 f0 fe
  go_loopw [21,99] (fun fv kv wz=>∃k:Nat,k≤its.xs.length∧kv = .int .i64 k∧fv = .int .i64 ((fitV q k T:Nat):Int)∧Hid (Below wr.heap.size wr wz)) (fun _ kv _=>its.xs.length-(intOf kv).toNat)
  case atStart=>exact⟨0,Nat.zero_le _,rfl,by rw[Yaj];rfl,Below.refl _ _⟩
  case round =>
   rename World=>wz
   obtain⟨k,hk,rfl,rfl,HZ⟩:=hrel
   by_cases hkl:k<its.xs.length
   ·obtain⟨bj,oj,hB',hbj,hcj⟩:=(Hia.out.ext (Xb HB.out HZ.out)).lies.at_ ItemG.size_cells (by omega) hkl
    have d0:wz.cell? ⟨bj,oj+k*6,none⟩=some (.int .i64 its.xs[k].cat):=hcj k hkl wz (Below.refl _ _) 0 _ rfl
    have d1:wz.cell? ⟨bj,oj+k*6+1,none⟩=some (.int .i64 its.xs[k].frm):=hcj k hkl wz (Below.refl _ _) 1 _ rfl
    have d2:wz.cell? ⟨bj,oj+k*6+2,none⟩=some (.int .i64 its.xs[k].unt):=hcj k hkl wz (Below.refl _ _) 2 _ rfl
    have d3:wz.cell? ⟨bj,oj+k*6+3,none⟩=some (.int .i64 its.xs[k].cost):=hcj k hkl wz (Below.refl _ _) 3 _ rfl
    have d4:wz.cell? ⟨bj,oj+k*6+4,none⟩=some (.slice its.xs[k].tgt.addr its.xs[k].tgt.xs.length its.xs[k].tgt.cap):=hcj k hkl wz (Below.refl _ _) 4 _ rfl
    have d5:wz.cell? ⟨bj,oj+k*6+5,none⟩=some (.int .i64 its.xs[k].term):=hcj k hkl wz (Below.refl _ _) 5 _ rfl
    have hlong:=Hst.out.long
    have hall:=hlong.all k _ (List.getElem?_eq_getElem hkl)
    have hbef:=hlong.before k _ (List.getElem?_eq_getElem hkl)
    have hat:k=q→its.xs[k]=b:=fun h=>by
     subst h
     have h1:=hlong.at_
     rw[List.getElem?_eq_getElem hkl] at h1
     exact Option.some.inj h1
    have htl:=Xa ((Hia.out.ext (Xb HB.out HZ.out)).tgt _ (List.getElem_mem hkl))
    have hbc:=hlong.cat
    have hbf:=hlong.frm
    rw[hB']
    have HBa:=Xa hB'
    clear hcj hB' hlong
    generalize its.xs[k]=y at *
    obtain⟨w6,hw6⟩:∃w6,wz.alloc (.cells #[.int .i64 y.cat,.int .i64 y.frm,.int .i64 y.unt,.int .i64 y.cost,.slice y.tgt.addr y.tgt.xs.length y.tgt.cap,.int .i64 y.term] 53)=w6:=⟨_,rfl⟩
    have hb6:=Yn hw6
    have hy6:=Yv hw6
    have HZ6:=Xa (Xb HZ.out hb6)
    have Hy6:=Xa hy6
    have Hb6:=Xa hb6
    obtain⟨f0,f1,f2,f3,f4,f5⟩:=gb6 hy6
    clear hy6 hb6
    have Hat:=Xa hat
    have Hbf:=Xa hbf
    have Hbc:=Xa hbc
    have Hall:=Xa hall
    have Hbef:=Xa hbef
    clear hat hbf hbc hall hbef
    by_cases hc0:0≤y.cat
    rotate_left
    ·have g1:decide (y.cat<0)=true:=decide_eq_true (by omega)
     have hkq:k≠q:=fun h=>hc0 (by rw[Hat.out h];exact Hbc.out)
     have HN:=Xa (Yaf T hkq)
     clear hc0 hkq
     go_wp2_with fail
     try rw[← HBa.out]
     go_roundw
     case rel=>exact⟨k+1,by omega,by go_num,by rw[HN.out],HZ6.out⟩
     case measure=>simp[intOf];omega
    have g1:decide (y.cat<0)=false:=decide_eq_false (by omega)
    by_cases hf0:y.frm=(m:Int)
    rotate_left
    ·have g2:(y.frm != (m:Int))=true:=by simpa using hf0
     have hkq:k≠q:=fun h=>hf0 (by rw[Hat.out h];exact Hbf.out)
     have HN:=Xa (Yaf T hkq)
     clear hc0 hf0 hkq
     go_wp2_with fail
     try rw[← HBa.out]
     go_roundw
     case rel=>exact⟨k+1,by omega,by go_num,by rw[HN.out],HZ6.out⟩
     case measure=>simp[intOf];omega
    have g2:(y.frm != (m:Int))=false:=by simpa using hf0
    have g3:decide ((m:Int)+(e:Int)+1<y.unt)=false:=decide_eq_false (by have:=Hall.out hc0 hf0;rw[Hun.out] at this;omega)
    by_cases hkq:k=q
    rotate_left
    ·have HN:=Xa (Yaf T hkq)
     by_cases hlq:k<q
     ·have g4:(y.unt == (m:Int)+(e:Int)+1)=false:=by
       have:=Hbef.out hlq hc0 hf0
       rw[Hun.out] at this
       simp
       omega
      clear hc0 hf0 hkq
      go_wp2_with fail
      try rw[← HBa.out]
      go_roundw
      case rel=>exact⟨k+1,by omega,by go_num,by rw[HN.out],HZ6.out⟩
      case measure=>simp[intOf];omega
     ·have g5:((fitV q k T:Nat):Int)≠0:=by rw[Yae T (by omega)];omega
      obtain⟨fz,hfz⟩:∃z:Int,((fitV q k T:Nat):Int)=z:=⟨_,rfl⟩
      rw[hfz] at g5 ⊢
      have Hfz:=Xa hfz
      have g6:(fz == 0)=false:=by simpa using g5
      obtain⟨p,hp⟩:∃p,(y.unt == (m:Int)+(e:Int)+1)=p:=⟨_,rfl⟩
      clear hc0 hf0 hkq hfz g5
      cases p
      all_goals
       go_wp2_with fail
       try rw[← HBa.out]
       go_roundw
       case rel=>exact⟨k+1,by omega,by go_num,by rw[HN.out,Hfz.out],HZ6.out⟩
       case measure=>simp[intOf];omega
    ·have g4:(y.unt == (m:Int)+(e:Int)+1)=true:=by
      have:=Hat.out hkq
      rw[this,Hun.out];simp
     have hfv:fitV q k T=0:=by rw[hkq];exact Yai q T
     have HN:Hid (fitV q (k+1) T=T):=Yae T (by omega)
     have hyb:=Hat.out hkq
     have hTy:y.tgt.xs.length=T:=by rw[hyb];exact HTl.out
     rw[hfv]
     have HyT:Hid (∀j,j<T→∃x,M.xs[j]? = some x∧y.tgt.xs[j]? = some x.text∧x.deps=x0.deps∧x.term=y.term):=fun j hj=>by
      have hjb:j<b.tgt.xs.length:=by rw[HTl.out];exact hj
      obtain⟨x,e1,e2,e3,e4⟩:=HT2.out j b.tgt.xs[j] (List.getElem?_eq_getElem hjb)
      exact⟨x,e1,by rw[hyb,e2];exact List.getElem?_eq_getElem hjb,by rw[e3,Hx0.out],by rw[e4,hyb]⟩
     rw[hTy] at f4
     have HTy:=Xa hTy
     have gTN:¬(N:Int)<(T:Int):=by omega
     clear hc0 hf0 hkq hfv hyb hTy
     go_wp2_with fail
     go_loopw [134] (fun jv wy=>∃j:Nat,j≤T∧jv = .int .i64 j∧Hid (Below w6.heap.size w6 wy)) (fun jv _=>T-(intOf jv).toNat)
     case atStart=>exact⟨0,Nat.zero_le _,rfl,Below.refl _ _⟩
     case round =>
      rename World=>wy
      obtain⟨j,hj,rfl,HY⟩:=hrel
      by_cases hjl:j<T
      ·obtain⟨x,hx1,hx2,hx3,hx4⟩:=HyT.out j hjl
       obtain⟨hjM,hxe⟩:=List.getElem?_eq_some_iff.1 hx1
       have HBy:=Xa (Xb HZ6.out HY.out)
       have HBy5:=Xa (Xb HB.out HBy.out)
       obtain⟨bx,ox,hAx,hbx,hcx⟩:=(HM.out.2.1.ext HBy5.out).lies.at_ TgG.size_cells (by omega) hjM
       have hty:=StrS.at_ (StrS.lies.ext htl.out (Xb Hb6.out HY.out)) (k:=j) (by rw[HTy.out];exact hjl)
       obtain⟨bt,ot,hAt,hbt,hct⟩:=hty
       have ct:wy.cell? ⟨bt,ot+j,none⟩=some (.string x.text):=by
        obtain⟨hjy,hye⟩:=List.getElem?_eq_some_iff.1 hx2
        rw[← hye];exact hct j hjy
       have hok:=HM.out.2.1.ok _ (List.getElem_mem hjM)
       rw[hxe] at hok
       have hdx:x.deps.length=e+1:=by rw[hx3,Hdl.out]
       have hjN:j<N:=by omega
       have hjN2:(j:Int)<(N:Int):=by omega
       have hy9:=Xh HY.out Hy6.out
       have HC:Hid (∀V,Below wy.heap.size wy V→V.cell? ⟨bx,ox+j*3,none⟩=some (.string x.text)∧V.cell? ⟨bx,ox+j*3+1,none⟩=some (.slice x.dA (e+1) x.dc)∧V.cell? ⟨bx,ox+j*3+2,none⟩=some (.int .i64 x.term)∧V.cell? ⟨wz.heap.size,5,none⟩=some (.int .i64 x.term)):=fun V hV=>by
        have h0:=hcx j hjM V hV 0 _ rfl
        have h1:=hcx j hjM V hV 1 _ rfl
        have h2:=hcx j hjM V hV 2 _ rfl
        rw[hxe] at h0 h1 h2
        rw[hdx] at h1
        have h5:=Xh hV hy9
        exact⟨h0,h1,h2,by rw[hx4];exact gblk h5 5⟩
       have HS:Hid (∀V,Below wy.heap.size wy V→Calls Tryz.prog 45 #[.slice x.dA (e+1) x.dc,.slice (some ⟨b2,o2,none⟩) (e+1) x0.dc] V fun e w'=>e = .returned (.bool true)∧Below V.heap.size V w'):=fun V hV=>by
        have h:=X11 x.dA x0.dA x.dc x0.dc x.deps x0.deps V (by rw[hdx];omega) (hok.num.ext (Xb HBy5.out hV)) (Hnum.out.ext (Xb HBy5.out hV))
        rw[hdx,Hdl.out,HA2.out,decide_eq_true hx3] at h
        exact h
       have HAx:=Xa (hAx.symm.trans HA.out)
       rw[hAt]
       have HAt:=Xa hAt
       have hbo:bx=bi∧ox=oi:=by have h:=HAx.out;simp only[Option.some.injEq,Addr.mk.injEq] at h;exact⟨h.1,h.2.1⟩
       obtain⟨rfl,rfl⟩:=hbo
       clear hx1 hx2 hx3 hx4 hxe hAx hcx hct hok hdx hy9 hAt
       go_wp2_with fail
       refine wpIn_wide (n:=0) |>.1 ?_
       refine Y4 _ ?_ (fun _ _ h=>h)
       refine Xo (fun V=>Below wy.heap.size wy V) (by kernel_rfl) ?_
       have hv:=Xi (Below.refl wy.heap.size wy)
       refine Xd (i:=0) rfl (by kernel_rfl) (fun _ _ _ h=>h) (fun V hV=>(by skip;go_simp<;>rfl)) ?_
       refine Xd (i:=1) rfl (by kernel_rfl) (fun _ _ _ h=>h) (fun V hV=>(by skip;go_simp<;>rfl)) ?_
       refine Xd (i:=2) rfl (by kernel_rfl) (fun _ _ _ h=>h) (fun V hV=>(by skip;go_simp<;>rfl)) ?_
       refine Xd (i:=3) rfl (by kernel_rfl) (fun _ _ _ h=>h) (fun V hV=>(by skip;go_simp<;>rfl)) ?_
       refine Xd (i:=4) rfl (by kernel_rfl) (fun _ _ _ h=>h) (fun V hV=>(by obtain⟨m0,m1,m2,m3⟩:=HC.out V hV;go_simp<;>rfl)) ?_
       refine Xd (i:=5) rfl (by kernel_rfl) (fun _ _ _ h=>h) (fun V hV=>(by skip;go_simp<;>rfl)) ?_
       refine Xd (i:=6) rfl (by kernel_rfl) (fun _ _ _ h=>h) (fun V hV=>(by skip;go_simp<;>rfl)) ?_
       refine Xd (i:=7) rfl (by kernel_rfl) (fun _ _ _ h=>h) (fun V hV=>(by skip;go_simp<;>rfl)) ?_
       refine Xw1 (by go_simp;rfl) ?_
       refine Xd (i:=8) rfl (by kernel_rfl) (fun _ _ _ h=>h) (fun V hV=>(by skip;go_simp<;>rfl)) ?_
       refine Xd (i:=9) rfl (by kernel_rfl) (fun _ _ _ h=>h) (fun V hV=>(by skip;go_simp<;>rfl)) ?_
       refine Xd (i:=10) rfl (by kernel_rfl) (fun _ _ _ h=>h) (fun V hV=>(by skip;go_simp<;>rfl)) ?_
       refine Xd (i:=11) rfl (by kernel_rfl) (fun _ _ _ h=>h) (fun V hV=>(by skip;go_simp<;>rfl)) ?_
       refine Xd (i:=12) rfl (by kernel_rfl) (fun _ _ _ h=>h) (fun V hV=>(by obtain⟨m0,m1,m2,m3⟩:=HC.out V hV;go_simp<;>rfl)) ?_
       refine Xd (i:=13) rfl (by kernel_rfl) (fun _ _ _ h=>h) (fun V hV=>(by obtain⟨m0,m1,m2,m3⟩:=HC.out V hV;go_simp<;>rfl)) ?_
       refine Xd (i:=14) rfl (by kernel_rfl) (fun _ _ _ h=>h) (fun V hV=>(by obtain⟨m0,m1,m2,m3⟩:=HC.out V hV;go_simp<;>rfl)) ?_
       refine Xd (i:=15) rfl (by kernel_rfl) (fun _ _ _ h=>h) (fun V hV=>(by skip;go_simp<;>rfl)) ?_
       refine Xd (i:=16) rfl (by kernel_rfl) (fun _ _ _ h=>h) (fun V hV=>(by skip;go_simp<;>rfl)) ?_
       refine Xd (i:=17) rfl (by kernel_rfl) (fun _ _ _ h=>h) (fun V hV=>(by skip;go_simp<;>rfl)) ?_
       refine Xw1 (by go_simp;rfl) ?_
       refine Xd (i:=18) rfl (by kernel_rfl) (fun _ _ _ h=>h) (fun V hV=>(by skip;go_simp<;>rfl)) ?_
       refine Xd (i:=19) rfl (by kernel_rfl) (fun _ _ _ h=>h) (fun V hV=>(by skip;go_simp<;>rfl)) ?_
       refine Xd (i:=20) rfl (by kernel_rfl) (fun _ _ _ h=>h) (fun V hV=>(by skip;go_simp<;>rfl)) ?_
       refine Xd (i:=21) rfl (by kernel_rfl) (fun _ _ _ h=>h) (fun V hV=>(by skip;go_simp<;>rfl)) ?_
       refine Xd (i:=22) rfl (by kernel_rfl) (fun _ _ _ h=>h) (fun V hV=>(by obtain⟨m0,m1,m2,m3⟩:=HC.out V hV;go_simp<;>rfl)) ?_
       refine Xd (i:=23) rfl (by kernel_rfl) (fun _ _ _ h=>h) (fun V hV=>(by skip;go_simp<;>rfl)) ?_
       refine Xw1 (by go_simp;rfl) ?_
       refine Xg (i:=24) hv (by kernel_rfl) rfl (fun K hK=>?_)
       go_simp
       refine⟨trivial,rfl,callsIn_wide.2 ((HS.out _ hv).mono ?_)⟩
       rintro e9 v1 ⟨rfl,hv1⟩
       refine hK _ _ ?_
       clear hK K
       replace hv:=Xb hv hv1
       refine Xd (i:=25) rfl (by kernel_rfl) (fun _ _ _ h=>h) (fun V hV=>(by skip;go_simp<;>rfl)) ?_
       refine Xd (i:=26) rfl (by kernel_rfl) (fun _ _ _ h=>h) (fun V hV=>(by skip;go_simp<;>rfl)) ?_
       refine Xl hv (by kernel_rfl) ?_ _
       clear HC HS
       go_wp2_with fail
       try rw[← HAt.out]
       go_roundw
       case rel=>exact⟨j+1,by omega,by go_num,Xb HY.out hv⟩
       case measure=>simp[intOf];omega
      ·obtain rfl:j=T:=by omega
       have HYY:=Xa (Xb HZ6.out HY.out)
       go_wp2_with fail
       try rw[← HBa.out]
       go_roundw
       case rel=>exact⟨k+1,by omega,by go_num,by rw[HN.out],HYY.out⟩
       case measure=>simp[intOf];omega
   ·obtain rfl:k=its.xs.length:=by omega
    have hqk:q<its.xs.length:=(List.getElem?_eq_some_iff.1 Hst.out.long.at_).1
    rw[Yae T hqk]
    have g1:((T:Int) == 0)=false:=by simp;omega
    have hcap:=HM.out.2.1.lies.cap
    have HMN:Hid (N=M.xs.length):=HM.out.1
    obtain rfl:=HMN.out
    have hrun0:=fun V=>Yak M T V hcap hTN
    have HTs:=Xa (HM.out.2.1.from_ hTN)
    have HBq:=Xa (Xb HB.out HZ.out)
    rw[← HA.out]
    have hrun:=hrun0
    have Hv:Hid ((m:Int)+(e:Int)+1=((m+e+1:Nat):Int)):=by show _=_;push_cast;rfl
    have hvn:m+e+1≤s.xs.length:=by have:=Hst.out.le;have:=He.out;omega
    have HT3':Hid ((M.fromT T).xs.map TgG.c=wbwT its.xs s.xs.length ((m+e+1:Nat):Int)):=by
     have h:=HT3.out
     rw[HTl.out,He.out] at h
     exact h
    clear hrun0
    go_wp2_with fail
    go_roundw
    case rel=>exact⟨M.fromT T,_,m+e+1,rfl,by rw[Hv.out],hvn,⟨rfl,HTs.out,HT3'.out⟩,HBq.out⟩
    case measure=>simp[intOf];omega
end Go.Proofs.YtolpbjjapodmnaaGreatDoor
