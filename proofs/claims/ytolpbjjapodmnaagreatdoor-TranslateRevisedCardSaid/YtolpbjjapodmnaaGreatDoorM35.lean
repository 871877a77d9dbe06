/- Texts of this claim, one after the other: TrY, Law30i. -/
import Derived.Test.YtolpbjjapodmnaaGreatDoorM31
import Derived.Test.YtolpbjjapodmnaaGreatDoorM29
import Derived.Test.YtolpbjjapodmnaaGreatDoorM33
namespace Go.Proofs.YtolpbjjapodmnaaGreatDoor
open Go.RowKit Go.Han
set_option maxRecDepth 100000
theorem can_c (cs:List ItemC):(canL cs).map ItemG.c=cs:=by
 unfold canL
 rw[List.map_map]
 exact(List.map_congr_left fun x _=>rfl).trans (List.map_id cs)
theorem Ybp {its:List ItemG} {n:Nat} (h:Yad its n):∀(d i:Nat),n-i≤d→(wbwT its n i).length≤8*d:=by
 intro d
 induction d with
 | zero =>
  intro i hi
  rw[X41 its (by omega)]
  simp
 | succ d ih =>
  intro i hi
  by_cases hlt:i<n
  ·obtain⟨q,b,v,hs⟩:=Yap h hlt
   rw[hs.eq,List.length_append]
   have h1:=ih v (by have:=hs.lt;omega)
   have h2:(Xw3 b []).length=b.tgt.xs.length:=by unfold Xw3;rw[List.length_map]
   have:=hs.some_
   omega
  ·rw[X41 its (by omega)]
   simp
theorem Ybo (g:Gram) (l:List Term) (lang:Int) (ws:List ByteArray) (t u:Int):(trE g l lang ws t u).1.length≤8192:=by
 by_cases h:Xwu g l lang ws t u=0
 ·by_cases h0:ws=[]
  ·rw[X3v h0];simp
  ·have hm:=can_c (Xxc g (Xwo l lang t u) ws)
   have Ho:=its_ok h h0 hm
   have Hru:=X4s Ho.args.check
   rw[X3u h h0 hm]
   cases hb:Xdl g (canL (Xxc g (Xwo l lang t u) ws)) ws.length with
   | none =>
    rw[X18 hb]
    have h1:=Ybp (Yam h hm) ws.length 0 (by omega)
    have h2:=(Xyi h).2.2.1
    show (wbwT _ ws.length 0).length≤_
    exact Nat.le_trans h1 (by omega)
   | some y =>
    rw[X19 hb]
    obtain⟨h1,h2⟩:=X6t Ho.args hb
    have h3:=X7o Ho.tgt Hru.2 y.2 h1 []
    show (Xwm g _ y.2 []).length≤_
    omega
 ·rw[X6i h];simp
theorem Ybh (g:Gram) (l:List Term) (lang:Int) (ws:List ByteArray) (t u:Int):∀p∈(trE g l lang ws t u).1,p.deps.length≤1000000:=by
 by_cases h:Xwu g l lang ws t u=0
 ·by_cases h0:ws=[]
  ·rw[X3v h0];intro p hp;cases hp
  ·have h2:=(Xyi h).2.2.1
   exact X7e (X80 h h0 (can_c _)) (by omega)
 ·rw[X6i h];intro p hp;cases hp
end Go.Proofs.YtolpbjjapodmnaaGreatDoor
namespace Go.Proofs.YtolpbjjapodmnaaGreatDoor
open Go.RowKit Go.Han
attribute [local irreducible] wpStill wpQuiet
set_option maxRecDepth 100000
theorem Ybn (a:ByteArray):(a.toList != [])=decide (a.size≠0):=by
 by_cases h:a.size≠0
 ·rw[decide_eq_true h]
  have h1:=Zp (s:=a) (by omega)
  cases hs:a.toList with
  | nil=>rw[hs] at h1;cases h1
  | cons x l=>rfl
 ·rw[decide_eq_false h]
  have h1:=List.isEmpty_iff.1 (Zq (s:=a) (by omega))
  rw[h1];rfl
theorem Ybi (w:World):ItemsAt w ⟨none,0,[]⟩:=⟨⟨Rd.nil _ _,by simp,by simp,fun _=>rfl⟩,fun x hx=>by cases hx⟩
theorem Ybd {g:Gram} {l:List Term} {lang:Int} {ws:List ByteArray} {t u:Int} {w w':World} {e:Ending} (h:X6o g l lang ws t u w e w') :
  Below w.heap.size w w'∧∃its:SlS ItemG,e = .returned (.tuple #[.slice its.addr its.xs.length its.cap,.int .i64 (Xwu g l lang ws t u)])∧its.xs.map ItemG.c=(if Xwu g l lang ws t u=0 then Xxc g (Xwo l lang t u) ws else [])∧ItemsAt w' its:=by
 obtain⟨hb,⟨hne,rfl⟩|⟨hz,its,rfl,hm,hi⟩⟩:=h
 ·exact⟨hb,⟨none,0,[]⟩,rfl,by rw[if_neg hne];rfl,Ybi _⟩
 ·exact⟨hb,its,by rw[hz],by rw[if_pos hz];exact hm,hi⟩
theorem RowT.one (V:World) (y:TgG) (hy:DepsAt (fun _=>False) V y.dA y.dc y.deps):RowT V.heap.size (.slice (some ⟨V.heap.size,0,none⟩) 1 1) [y] (V.alloc (.cells #[.string y.text,.slice y.dA y.deps.length y.dc,.int .i64 y.term] 75)) :=
 ⟨⟨by simp[TgG.cells],.inr ⟨V.heap.size,1,#[.string y.text,.slice y.dA y.deps.length y.dc,.int .i64 y.term],rfl,Nat.le_refl _,World.alloc_heap_new _ _,Nat.le_refl _,by unfold maxLen;decide,rfl,rfl⟩⟩,fun x hx=>by rw[List.mem_singleton.1 hx];exact hy.below (Xe (Below.refl _ _) _)⟩
def Yaw (i:Int) (L:List TgG):List TgG:=L.filter fun y => !y.deps.contains i
theorem Ybl (i:Int) (L:List TgG):(Yaw i L).map TgG.c=Xxy i (L.map TgG.c):=by
 unfold Yaw Xxy
 rw[List.filter_map]
 rfl
theorem Ybe {i:Int} {L:List TgG} {k:Nat} (h:k<L.length):Yaw i (L.take (k+1))=Yaw i (L.take k)++(if L[k].deps.contains i then [] else [L[k]]):=by
 unfold Yaw
 rw[List.take_succ_eq_append_getElem h,List.filter_append]
 congr 1
 cases hc:L[k].deps.contains i
 ·rw[List.filter_cons_of_pos (by rw[hc];rfl)];rfl
 ·rw[List.filter_cons_of_neg (by rw[hc];simp)];rfl
theorem Ybg (i:Int) (L:List TgG) (k:Nat):(Yaw i (L.take k)).length≤L.length:=Nat.le_trans (List.length_filter_le _ _) (by rw[List.length_take];exact Nat.min_le_right _ _)
theorem Ybm {w:World} {base g n c:Nat} {ws:List ByteArray} {i:Nat} (h:OwnL strD 9 1 w base (.slice (some ⟨g,0,none⟩) n c) ws) (b:ByteArray):OwnL strD 9 1 (w.setCell ⟨g,i,none⟩ (.string b)) base (.slice (some ⟨g,0,none⟩) n c) (ws.set i b):=by
 have h1:=Xqk (j:=i) h rfl (.string b)
 unfold OwnL
 rw[List.length_set]
 have e:∀(l:List ByteArray),l.flatMap strD=l.map Value.string:=XhD
 rw[e,List.map_set,← e]
 exact h1
def PartsOk (v other:ByteArray) (ps:List PartG):Prop:=∀p∈ps,p.text.size≠0→p.text≠v∧p.text≠other
theorem PartsOk.snoc {v other:ByteArray} {ps:List PartG} {k:Nat} (h:PartsOk v other (ps.take k)) (hk:k<ps.length) (hp:ps[k].text.size≠0→ps[k].text≠v∧ps[k].text≠other):PartsOk v other (ps.take (k+1)):=by
 rw[List.take_succ_eq_append_getElem hk]
 intro p hm
 rcases List.mem_append.1 hm with hm|hm
 ·exact h p hm
 ·rw[List.mem_singleton.1 hm];exact hp
def RulesOk (v other:ByteArray) (rs:List RuleG):Prop:=∀r∈rs,PartsOk v other r.parts.xs
theorem RulesOk.snoc {v other:ByteArray} {rs:List RuleG} {k:Nat} (h:RulesOk v other (rs.take k)) (hk:k<rs.length) (hr:PartsOk v other rs[k].parts.xs):RulesOk v other (rs.take (k+1)):=by
 rw[List.take_succ_eq_append_getElem hk]
 intro r hm
 rcases List.mem_append.1 hm with hm|hm
 ·exact h r hm
 ·rw[List.mem_singleton.1 hm];exact hr
set_option maxHeartbeats 8000000 in
theorem Yay (hsane:X30) (g:Gram) (A:Option Addr) (cp:Nat) (l:List Term) (lang:Int) (s:StrS) (t u:Int) (wh:Nat) (other:ByteArray) (w:World) (hT:TabsG w) (hg:g.lies w) (hgs:g.short) (hr:TermsAt w A l) (hm:l.length≤9223372036854775807) (hs:s.lies w) (hwh:wh≤255) :
  Calls Tryz.prog 8 #[.agg #[.string g.name,.slice g.cats.addr g.cats.xs.length g.cats.cap,.string g.start,.int .i64 g.startNo,.slice g.entries.addr g.entries.xs.length g.entries.cap,.slice g.rules.addr g.rules.xs.length g.rules.cap],.slice A l.length cp,.int .i64 lang,.slice s.addr s.xs.length s.cap,.int .i64 t,.int .i64 u,.int .u8 wh,.string other] w fun e w'=>e = .returned (.bool true)∧Below w.heap.size w w':=by
 obtain⟨W1,hW1⟩:∃W1,w.alloc (.cells #[.string g.name,.slice g.cats.addr g.cats.xs.length g.cats.cap,.string g.start,.int .i64 g.startNo,.slice g.entries.addr g.entries.xs.length g.entries.cap,.slice g.rules.addr g.rules.xs.length g.rules.cap] 26)=W1:=⟨_,rfl⟩
 have hB1:=Yn hW1
 have hk:=Yv hW1
 have hsn:s.xs.length≤9223372036854775807:=Nat.le_trans hs.cap hs.max
 have F0:=Xa (hsane W1 (hT.ext hB1))
 have FF:=Xa (fun V (hV:Below w.heap.size w V)=>X6y g A cp l s.addr s.xs.length s.cap V (hg.ext hV) hm hsn)
 have FT:=Xa (fun (q:StrS) V (hV:Below w.heap.size w V) (hq:q.lies V)=>Xy0 g A cp l lang q t u V (hT.ext hV) (hg.ext hV) hgs (hr.ext hV) hm hq)
 have FA:=Xa (fun (q:StrS) V (hV:Below w.heap.size w V) (hq:q.lies V)=>X2i g A cp l lang q t u V (hT.ext hV) (hg.ext hV) hgs (hr.ext hV) hm hq)
 have HG:=Xa hg
 have HS:=Xa hs
 have hrl:g.rules.xs.length≤9223372036854775807:=Nat.le_trans hg.rules.cap hg.rules.max
 have Hk:=Xa hk
 clear hT hg hgs hr hm hs hsane hk
 go_enter Tryz.func8,Tryz.ntmps8
 go_wp2_with fail
 clear hW1
 refine F0.out.mono ?_
 rintro e w2 ⟨rfl,hb2⟩
 have hB2:=Xb hB1 hb2
 have Hk2:=Xa (Xh hb2 Hk.out)
 have hk2:=Hk2.out
 obtain⟨c0,c1,c2,c3,c4,c5⟩:=gb6 hk2
 clear F0 hk2 Hk
 go_wp2_with fail
 refine(FF.out w2 hB2).mono ?_
 rintro e w3 ⟨b,rfl,hb3⟩
 have hB3:=Xb hB2 hb3
 have Hk3:=Xa (Xh hb3 Hk2.out)
 have hk3:=Hk3.out
 clear c0 c1 c2 c3 c4 c5 FF Hk2
 cases b
 ·clear hk3
  go_wp2_with fail
  go_ret
  exact⟨rfl,hB3⟩
 by_cases h7:7<s.xs.length
 ·have k1:decide ((7:Int)<(s.xs.length:Int))=true:=decide_eq_true (by omega)
  clear h7 hk3
  go_wp2_with fail
  go_ret
  exact⟨rfl,hB3⟩
 have k1:decide ((7:Int)<(s.xs.length:Int))=false:=decide_eq_false (by omega)
 by_cases h0:s.xs.length=0
 ·have k0:((s.xs.length:Int) == 0)=true:=by simp[h0]
  clear h0 h7 hk3
  go_wp2_with fail
  go_ret
  exact⟨rfl,hB3⟩
 have k0:((s.xs.length:Int) == 0)=false:=beq_eq_false_iff_ne.2 (by omega)
 have h7':s.xs.length≤7:=by omega
 have hia:(wh:Int) % (s.xs.length:Int)=((wh % s.xs.length:Nat):Int):=by first|exact(Int.natCast_mod _ _).symm|(push_cast;rfl)
 have hil:wh % s.xs.length<s.xs.length:=Nat.mod_lt _ (by omega)
 obtain⟨i,hi⟩:∃i,wh % s.xs.length=i:=⟨_,rfl⟩
 rw[hi] at hia hil
 obtain⟨c0,c1,c2,c3,c4,c5⟩:=gb6 hk3
 clear hk3 h0 h7 hi
 go_wp2_with fail
 rw[hia]
 clear hia
 have hw0:=HS.out.ext hB3
 obtain⟨bw,ow,hWA,hbw,hcw⟩:=StrS.at_ hw0 (k:=i) hil
 have HCw:Hid (∀V,Below w3.heap.size w3 V→V.cell? ⟨bw,ow+i,none⟩=some (.string s.xs[i])):=fun V hV=>(hV.cell (p:=⟨bw,ow+i,none⟩) hbw).trans (hcw i hil)
 obtain⟨v,hv⟩:∃v,s.xs[i]=v:=⟨_,rfl⟩
 rw[hv] at HCw
 have Hv:Hid (s.xs[i]? = some v):=by show _=_;rw[← hv];exact List.getElem?_eq_getElem hil
 rw[hWA]
 have HWA:=Xa hWA
 clear hw0 hcw hv hWA c0 c1 c2 c3 c4 c5
 go_loopw [64] (fun iv wr=>∃k:Nat,k≤g.rules.xs.length∧iv = .int .i64 k∧Hid (Below w3.heap.size w3 wr)∧Hid (RulesOk v other (g.rules.xs.take k))) (fun iv _=>g.rules.xs.length-(intOf iv).toNat)
 case atStart=>exact⟨0,Nat.zero_le _,rfl,Below.refl _ _,fun r hr=>by simp at hr⟩
 case round =>
  obtain⟨k,hk,rfl,HB,HR⟩:=hrel
  by_cases hlt:k<g.rules.xs.length
  ·obtain⟨bi,oi,hA,hbb,hc⟩:=(HG.out.ext (Xb hB3 HB.out)).rules.at_ RuleG.size_cells (by omega) hlt
   have d0:wr.cell? ⟨bi,oi+k*5,none⟩=some (.string g.rules.xs[k].cat):=hc k hlt wr (Below.refl _ _) 0 _ rfl
   have d1:=hc k hlt wr (Below.refl _ _) 1 _ rfl
   have d2:=hc k hlt wr (Below.refl _ _) 2 _ rfl
   have d3:=hc k hlt wr (Below.refl _ _) 3 _ rfl
   have d4:=hc k hlt wr (Below.refl _ _) 4 _ rfl
   have hpl:=((HG.out.ext (Xb hB3 HB.out)).rule _ (List.getElem_mem hlt)).1
   have Hsn:=Xa (fun h=>RulesOk.snoc HR.out hlt h)
   rw[hA]
   have HAd:=Xa hA
   clear hc hA
   generalize g.rules.xs[k]=x at *
   obtain⟨w8,hw8⟩:∃w8,wr.alloc (.cells #[.string x.cat,.int .i64 x.no,.slice x.parts.addr x.parts.xs.length x.parts.cap,.slice x.gives.addr x.gives.xs.length x.gives.cap,.int .i64 x.cost] 79)=w8:=⟨_,rfl⟩
   have hb8:=Yn hw8
   have hx8:=Yv hw8
   obtain⟨e0,e1,e2,e3,e4⟩:=gb5 hx8
   have Hpl:=Xa (hpl.ext hb8)
   have hpn:x.parts.xs.length≤9223372036854775807:=Nat.le_trans hpl.cap hpl.max
   have HB8:=Xa (Xb HB.out hb8)
   clear hx8 hb8 hpl
   go_wp2_with fail
   go_loopw [71] (fun jv wz=>∃j:Nat,j≤x.parts.xs.length∧jv = .int .i64 j∧Hid (Below w8.heap.size w8 wz)∧Hid (PartsOk v other (x.parts.xs.take j))) (fun jv _=>x.parts.xs.length-(intOf jv).toNat)
   case atStart=>exact⟨0,Nat.zero_le _,rfl,Below.refl _ _,fun p hp=>by simp at hp⟩
   case round =>
    rename World=>wz
    obtain⟨j,hj,rfl,HZ,HP⟩:=hrel
    by_cases hjl:j<x.parts.xs.length
    ·obtain⟨bp,op,hA2,hbp,hcp⟩:=(Hpl.out.ext HZ.out).at_ PartG.size_cells (by omega) hjl
     have f0:wz.cell? ⟨bp,op+j*3,none⟩=some (.string x.parts.xs[j].cat):=hcp j hjl wz (Below.refl _ _) 0 _ rfl
     have f1:=hcp j hjl wz (Below.refl _ _) 1 _ rfl
     have f2:=hcp j hjl wz (Below.refl _ _) 2 _ rfl
     have Hps:=Xa (fun h=>PartsOk.snoc HP.out hjl h)
     rw[hA2]
     have HA2:=Xa hA2
     clear hcp hA2
     generalize x.parts.xs[j]=p at *
     obtain⟨w9,hw9⟩:∃w9,wz.alloc (.cells #[.string p.cat,.int .i64 p.no,.string p.text] 81)=w9:=⟨_,rfl⟩
     have hb9:=Yn hw9
     have hp9:=Yv hw9
     have HZ9:=Xa (Xb HZ.out hb9)
     have HB9:=Xa (Xb HB8.out (Xb HZ.out hb9))
     have HC:Hid (∀V,Below w9.heap.size w9 V→V.cell? ⟨wz.heap.size,2,none⟩=some (.string p.text)∧V.cell? ⟨bw,ow+i,none⟩=some (.string v)):=fun V hV=>by
      have h1:=Xh hV hp9
      exact⟨gblk h1 2,HCw.out V (Xb HB9.out hV)⟩
     clear hp9 hb9
     have kb0:=Ybn p.text
     have kb1:=X8w p.text v
     have kb2:=X8w p.text other
     go_wp2_with fail
     refine wpIn_wide (n:=0) |>.1 ?_
     refine Y4 _ ?_ (fun _ _ h=>h)
     refine Xo (fun V=>Below w9.heap.size w9 V) (by kernel_rfl) ?_
     have hv:=Xi (Below.refl w9.heap.size w9)
     by_cases ht:p.text.size≠0
     rotate_left
     ·have HN:=Xa (Hps.out fun h=>absurd h ht)
      rw[decide_eq_false ht] at kb0
      have ke:p.text.toList=[]:=List.isEmpty_iff.1 (Zq (s:=p.text) (by omega))
      clear ht
      refine Xd (i:=0) rfl (by kernel_rfl) (fun _ _ _ h=>h) (fun V hV=>(by skip;go_simp<;>rfl)) ?_
      refine Xd (i:=1) rfl (by kernel_rfl) (fun _ _ _ h=>h) (fun V hV=>(by obtain⟨m0,m1⟩:=HC.out V hV;go_simp<;>rfl)) ?_
      refine Xd (i:=2) rfl (by kernel_rfl) (fun _ _ _ h=>h) (fun V hV=>(by skip;go_simp<;>rfl)) ?_
      refine Xd (i:=3) rfl (by kernel_rfl) (fun _ _ _ h=>h) (fun V hV=>(by skip;go_simp<;>rfl)) ?_
      refine V4 (i:=4) rfl (by kernel_rfl) (fun _ _ _ h=>h) ?_
      refine V4 (i:=5) rfl (by kernel_rfl) (fun _ _ _ h=>h) ?_
      refine V4 (i:=6) rfl (by kernel_rfl) (fun _ _ _ h=>h) ?_
      refine V4 (i:=7) rfl (by kernel_rfl) (fun _ _ _ h=>h) ?_
      refine V4 (i:=8) rfl (by kernel_rfl) (fun _ _ _ h=>h) ?_
      refine V4 (i:=9) rfl (by kernel_rfl) (fun _ _ _ h=>h) ?_
      refine V4 (i:=10) rfl (by kernel_rfl) (fun _ _ _ h=>h) ?_
      refine V4 (i:=11) rfl (by kernel_rfl) (fun _ _ _ h=>h) ?_
      refine V4 (i:=12) rfl (by kernel_rfl) (fun _ _ _ h=>h) ?_
      refine V4 (i:=13) rfl (by kernel_rfl) (fun _ _ _ h=>h) ?_
      refine V4 (i:=14) rfl (by kernel_rfl) (fun _ _ _ h=>h) ?_
      refine V4 (i:=15) rfl (by kernel_rfl) (fun _ _ _ h=>h) ?_
      refine V4 (i:=16) rfl (by kernel_rfl) (fun _ _ _ h=>h) ?_
      refine Xw1 (by go_simp;rfl) ?_
      refine Xd (i:=17) rfl (by kernel_rfl) (fun _ _ _ h=>h) (fun V hV=>(by skip;go_simp<;>rfl)) ?_
      refine Xl hv (by kernel_rfl) ?_ _
      clear HC
      go_wp2_with fail
      try rw[← HA2.out]
      go_roundw
      case rel=>exact⟨j+1,by omega,by go_num,Xb HZ9.out hv,HN.out⟩
      case measure=>simp[intOf];omega
     rw[decide_eq_true ht] at kb0
     have ke:¬p.text.toList=[]:=fun e=>by rw[e] at kb0;cases kb0
     have kz:p.text.toList.isEmpty=false:=Zp (s:=p.text) (by omega)
     by_cases hpv:p.text=v
     ·subst hpv
      have HBe:=Xa (Xb hB3 (Xb HB9.out hv))
      clear ht
      refine Xd (i:=0) rfl (by kernel_rfl) (fun _ _ _ h=>h) (fun V hV=>(by skip;go_simp<;>rfl)) ?_
      refine Xd (i:=1) rfl (by kernel_rfl) (fun _ _ _ h=>h) (fun V hV=>(by obtain⟨m0,m1⟩:=HC.out V hV;go_simp<;>rfl)) ?_
      refine Xd (i:=2) rfl (by kernel_rfl) (fun _ _ _ h=>h) (fun V hV=>(by skip;go_simp<;>rfl)) ?_
      refine Xd (i:=3) rfl (by kernel_rfl) (fun _ _ _ h=>h) (fun V hV=>(by skip;go_simp<;>rfl)) ?_
      refine Xd (i:=4) rfl (by kernel_rfl) (fun _ _ _ h=>h) (fun V hV=>(by skip;go_simp<;>rfl)) ?_
      refine Xd (i:=5) rfl (by kernel_rfl) (fun _ _ _ h=>h) (fun V hV=>(by obtain⟨m0,m1⟩:=HC.out V hV;go_simp<;>rfl)) ?_
      refine Xd (i:=6) rfl (by kernel_rfl) (fun _ _ _ h=>h) (fun V hV=>(by skip;go_simp<;>rfl)) ?_
      refine Xd (i:=7) rfl (by kernel_rfl) (fun _ _ _ h=>h) (fun V hV=>(by skip;go_simp<;>rfl)) ?_
      refine Xd (i:=8) rfl (by kernel_rfl) (fun _ _ _ h=>h) (fun V hV=>(by skip;go_simp<;>rfl)) ?_
      refine Xd (i:=9) rfl (by kernel_rfl) (fun _ _ _ h=>h) (fun V hV=>(by obtain⟨m0,m1⟩:=HC.out V hV;go_simp<;>rfl)) ?_
      refine Xd (i:=10) rfl (by kernel_rfl) (fun _ _ _ h=>h) (fun V hV=>(by skip;go_simp<;>rfl)) ?_
      refine Xd (i:=11) rfl (by kernel_rfl) (fun _ _ _ h=>h) (fun V hV=>(by skip;go_simp<;>rfl)) ?_
      refine Xw1 (by go_simp;rfl) ?_
      refine V4 (i:=12) rfl (by kernel_rfl) (fun _ _ _ h=>h) ?_
      refine V4 (i:=13) rfl (by kernel_rfl) (fun _ _ _ h=>h) ?_
      refine V4 (i:=14) rfl (by kernel_rfl) (fun _ _ _ h=>h) ?_
      refine V4 (i:=15) rfl (by kernel_rfl) (fun _ _ _ h=>h) ?_
      refine Xw1 (by go_simp;rfl) ?_
      refine Xd (i:=16) rfl (by kernel_rfl) (fun _ _ _ h=>h) (fun V hV=>(by skip;go_simp<;>rfl)) ?_
      refine Xd (i:=17) rfl (by kernel_rfl) (fun _ _ _ h=>h) (fun V hV=>(by skip;go_simp<;>rfl)) ?_
      refine Xl hv (by kernel_rfl) ?_ _
      clear HC
      go_wp2_with fail
      go_ret
      exact⟨rfl,HBe.out⟩
     rw[decide_eq_false hpv] at kb1
     have ka:¬p.text.toList=v.toList:=fun e=>by rw[e] at kb1;simp at kb1
     refine Xd (i:=0) rfl (by kernel_rfl) (fun _ _ _ h=>h) (fun V hV=>(by skip;go_simp<;>rfl)) ?_
     refine Xd (i:=1) rfl (by kernel_rfl) (fun _ _ _ h=>h) (fun V hV=>(by obtain⟨m0,m1⟩:=HC.out V hV;go_simp<;>rfl)) ?_
     refine Xd (i:=2) rfl (by kernel_rfl) (fun _ _ _ h=>h) (fun V hV=>(by skip;go_simp<;>rfl)) ?_
     refine Xd (i:=3) rfl (by kernel_rfl) (fun _ _ _ h=>h) (fun V hV=>(by skip;go_simp<;>rfl)) ?_
     refine Xd (i:=4) rfl (by kernel_rfl) (fun _ _ _ h=>h) (fun V hV=>(by skip;go_simp<;>rfl)) ?_
     refine Xd (i:=5) rfl (by kernel_rfl) (fun _ _ _ h=>h) (fun V hV=>(by obtain⟨m0,m1⟩:=HC.out V hV;go_simp<;>rfl)) ?_
     refine Xd (i:=6) rfl (by kernel_rfl) (fun _ _ _ h=>h) (fun V hV=>(by skip;go_simp<;>rfl)) ?_
     refine Xd (i:=7) rfl (by kernel_rfl) (fun _ _ _ h=>h) (fun V hV=>(by skip;go_simp<;>rfl)) ?_
     refine Xd (i:=8) rfl (by kernel_rfl) (fun _ _ _ h=>h) (fun V hV=>(by skip;go_simp<;>rfl)) ?_
     refine Xd (i:=9) rfl (by kernel_rfl) (fun _ _ _ h=>h) (fun V hV=>(by obtain⟨m0,m1⟩:=HC.out V hV;go_simp<;>rfl)) ?_
     refine Xd (i:=10) rfl (by kernel_rfl) (fun _ _ _ h=>h) (fun V hV=>(by skip;go_simp<;>rfl)) ?_
     refine Xd (i:=11) rfl (by kernel_rfl) (fun _ _ _ h=>h) (fun V hV=>(by skip;go_simp<;>rfl)) ?_
     refine Xw1 (by go_simp;rfl) ?_
     refine Xd (i:=12) rfl (by kernel_rfl) (fun _ _ _ h=>h) (fun V hV=>(by skip;go_simp<;>rfl)) ?_
     refine Xd (i:=13) rfl (by kernel_rfl) (fun _ _ _ h=>h) (fun V hV=>(by obtain⟨m0,m1⟩:=HC.out V hV;go_simp<;>rfl)) ?_
     refine Xd (i:=14) rfl (by kernel_rfl) (fun _ _ _ h=>h) (fun V hV=>(by skip;go_simp<;>rfl)) ?_
     by_cases hpo:p.text=other
     ·subst hpo
      have HBe:=Xa (Xb hB3 (Xb HB9.out hv))
      clear hpv ht
      refine Xd (i:=15) rfl (by kernel_rfl) (fun _ _ _ h=>h) (fun V hV=>(by skip;go_simp<;>rfl)) ?_
      refine Xd (i:=16) rfl (by kernel_rfl) (fun _ _ _ h=>h) (fun V hV=>(by skip;go_simp<;>rfl)) ?_
      refine Xd (i:=17) rfl (by kernel_rfl) (fun _ _ _ h=>h) (fun V hV=>(by skip;go_simp<;>rfl)) ?_
      refine Xl hv (by kernel_rfl) ?_ _
      clear HC
      go_wp2_with fail
      go_ret
      exact⟨rfl,HBe.out⟩
     rw[decide_eq_false hpo] at kb2
     have kc:¬p.text.toList=other.toList:=fun e=>by rw[e] at kb2;simp at kb2
     have HN:=Xa (Hps.out fun _=>⟨hpv,hpo⟩)
     clear ht hpv hpo
     refine Xd (i:=15) rfl (by kernel_rfl) (fun _ _ _ h=>h) (fun V hV=>(by skip;go_simp<;>rfl)) ?_
     refine Xd (i:=16) rfl (by kernel_rfl) (fun _ _ _ h=>h) (fun V hV=>(by skip;go_simp<;>rfl)) ?_
     refine Xd (i:=17) rfl (by kernel_rfl) (fun _ _ _ h=>h) (fun V hV=>(by skip;go_simp<;>rfl)) ?_
     refine Xl hv (by kernel_rfl) ?_ _
     clear HC
     go_wp2_with fail
     try rw[← HA2.out]
     go_roundw
     case rel=>exact⟨j+1,by omega,by go_num,Xb HZ9.out hv,HN.out⟩
     case measure=>simp[intOf];omega
    ·obtain rfl:j=x.parts.xs.length:=by omega
     rw[List.take_length] at HP
     have HN:=Xa (Hsn.out HP.out)
     have HBz:=Xa (Xb HB8.out HZ.out)
     go_wp2_with fail
     try rw[← HAd.out]
     go_roundw
     case rel=>exact⟨k+1,by omega,by go_num,HBz.out,HN.out⟩
     case measure=>simp[intOf];omega
  ·obtain rfl:k=g.rules.xs.length:=by omega
   rw[List.take_length] at HR
   have HBr:=Xa (Xb hB3 HB.out)
   have HBq:=Xa HB.out
   have hwr:=HS.out.ext HBr.out
   obtain⟨i0,hi0,hz0,hz1,hz2⟩:=info_parts Ybf
   have hfl:(s.xs.flatMap strD).length=s.xs.length*1:=Z7 strD 1 (fun _=>rfl) s.xs
   have hone:∀u∈s.xs.flatMap strD,u.oneCell'=true:=by
    intro u hu
    obtain⟨x,_,hx⟩:=List.mem_flatMap.1 hu
    exact Ybj x u hx
   have hcs:∀(j:Nat) (u:Value),(s.xs.flatMap strD)[j]? = some u→wr.cell? ((⟨bw,ow,none⟩:Addr).add j)=some u:=by
    intro j u hu
    rw[XhD] at hu
    rcases hwr.rd with h|⟨b,off,he,_,hc⟩
    ·rw[h] at hu;cases hu
    ·rw[HWA.out] at he
     cases he
     rw[show (⟨bw,ow,none⟩:Addr).add j=⟨bw,ow+j,none⟩ from by simp[Addr.add]]
     exact hc j u hu
   have Hcs:=Xa hcs
   have HRu:=Xa HR.out
   clear hcs hwr HR HB
   go_wp2_with (at_builtin;refine wpList_append_own _ rfl _ _ 22 rfl wr.heap.size 9 i0 (.string ⟨#[]⟩) 1 16 Tryz.underlying22 hi0 hz0 hz1 hz2 (by kernel_rfl) (by decide) _ _ _ rfl (World.ownsRow_made wr #[] 0 (Nat.le_refl _) (Nat.zero_le _) rfl) ⟨bw,ow,none⟩ s.xs.length s.cap (s.xs.flatMap strD) rfl hfl (fun j u hu=>Lib.cell?_alloc_some _ (Hcs.out j u hu)) hone (by unfold maxLen;omega) (by omega) (by simp) ?_)
   intro v' w4 hown hgrow hnil
   have hB4:Below wr.heap.size wr w4:=((Below.refl _ wr).alloc (Nat.le_refl _) _).grown hgrow (by simp) (by intro k hk;simp[Value.ownBlock] at hk;omega)
   have hown4:OwnL strD 9 1 w4 wr.heap.size v' s.xs:=hown
   obtain⟨gn,cn,curn,hvn,hgn,hcurn,hszn⟩:∃gn cn curn,v' = .slice (some ⟨gn,0,none⟩) s.xs.length cn∧wr.heap.size≤gn∧w4.heap[gn]? = some (.cells curn 9 (0,0))∧s.xs.length≤curn.size:=by
    rcases hown4.2 with ⟨h1,h2⟩|⟨g9,c9,cur,h1,h2,h3,h4,_,h6,_⟩
    ·omega
    ·exact⟨g9,c9,cur,h1,h2,h3,by omega⟩
   subst hvn
   have hzc:∃z,w4.cell? ⟨gn,i,none⟩=some z:=by
    rw[gblk hcurn i]
    exact⟨_,Array.getElem?_eq_getElem (by omega)⟩
   obtain⟨zc,hzc⟩:=hzc
   have hzf:=Xf hcurn i
   obtain⟨wn,hwn⟩:∃wn,w4.setCell ⟨gn,i,none⟩ (.string other)=wn:=⟨_,rfl⟩
   have hownn:OwnL strD 9 1 wn wr.heap.size (.slice (some ⟨gn,0,none⟩) s.xs.length cn) (s.xs.set i other):=by rw[← hwn];exact Ybm hown4 other
   have hBn:Below wr.heap.size wr wn:=by rw[← hwn];exact hB4.setCell (p:=⟨gn,i,none⟩) hgn _
   have HBn:=Xa (Xb HBr.out hBn)
   have Hkn:=Xa (((Xb HBq.out hBn).block _ (Xc Hk3.out)).trans Hk3.out)
   obtain⟨now,hnow⟩:∃now:StrS,now=⟨some ⟨gn,0,none⟩,cn,s.xs.set i other⟩:=⟨_,rfl⟩
   have hnl:now.lies wn:=by
    rw[hnow]
    have hs9:=hownn
    obtain⟨_,h2|⟨g9,c9,cur,h1,h2,h3,h4,h5,h6,h7⟩⟩:=hs9
    ·obtain⟨h2,_⟩:=h2;cases h2
    ·rw[List.length_set] at h1 h4
     injection h1 with e1 e2 e3
     subst e3
     obtain⟨A9,c9,he,hr9,hn9⟩:=hownn.form (by decide)
     injection he with q1 q2 q3
     subst q1
     refine⟨by rw[← XhD];exact hr9,by show (s.xs.set i other).length≤cn;rw[List.length_set];exact h4,by unfold maxLen at h5;exact h5,fun h=>by cases h⟩
   have hnlen:now.xs.length=s.xs.length:=by rw[hnow];exact List.length_set
   have Hnl:=Xa hnl
   have Hnow:Hid (now.xs=s.xs.set i other):=by show _=_;rw[hnow]
   have hnaddr:now.addr=some ⟨gn,0,none⟩:=by rw[hnow]
   have hncap:now.cap=cn:=by rw[hnow]
   have hkn:=Hkn.out
   rw[HWA.out.symm]
   obtain⟨c0,c1,c2,c3,c4,c5⟩:=gb6 hkn
   clear hown hown4 hgrow hnil hcurn hB4 hownn hBn hnl hkn hnow Hcs hfl hone hszn
   go_wp2_with fail
   refine(FA.out s wn HBn.out (HS.out.ext HBn.out)).mono ?_
   intro e w5 h5
   obtain⟨hb5,ia,rfl,hma,hia⟩:=Ybd h5
   obtain⟨E,hE⟩:∃E,Xwu g l lang s.xs t u=E:=⟨_,rfl⟩
   rw[hE] at hma
   rw[hE]
   have HE:=Xa hE
   have HMa:=Xa hma
   have hB5:=Xb HBn.out hb5
   have Hk5:=Xa (Xh hb5 Hkn.out)
   have HIa:=Xa hia
   have Hb5:=Xa hb5
   have HB5:=Xa hB5
   have hk5:=Hk5.out
   clear c0 c1 c2 c3 c4 c5 h5 hE hma hia hb5 hB5 Hkn hwn hzc hzf
   obtain⟨c0,c1,c2,c3,c4,c5⟩:=gb6 hk5
   clear hk5
   have CN:=FA.out now w5 HB5.out (StrS.lies.ext Hnl.out Hb5.out)
   rw[hnaddr,hnlen,hncap] at CN
   have HCN:=Xa CN
   clear CN FA
   go_wp2_with fail
   refine HCN.out.mono ?_
   intro e w6 h6
   obtain⟨hb6,ib,rfl,hmb,hib⟩:=Ybd h6
   obtain⟨E2,hE2⟩:∃E,Xwu g l lang now.xs t u=E:=⟨_,rfl⟩
   rw[hE2] at hmb
   rw[hE2]
   have HE2:=Xa hE2
   have HMb:=Xa hmb
   have hB6:=Xb HB5.out hb6
   have Hk6:=Xa (Xh hb6 Hk5.out)
   have HIb:=Xa hib
   have Hb6:=Xa (Xb Hb5.out hb6)
   have HB6:=Xa hB6
   have HIa6:=Xa (HIa.out.ext hb6)
   have hk6:=Hk6.out
   clear c0 c1 c2 c3 c4 c5 h6 hE2 hmb hib hb6 hB6 Hk5 HCN
   obtain⟨c0,c1,c2,c3,c4,c5⟩:=gb6 hk6
   clear hk6
   go_wp2_with fail
   refine(FT.out s w6 HB6.out (HS.out.ext HB6.out)).mono ?_
   rintro e w7 ⟨hb7,A7,n7,c7,L7,rfl,rfl,hr7,hl7⟩
   rw[HE.out]
   obtain⟨w1,hw1⟩:∃z,(trE g l lang s.xs t u).2=z:=⟨_,rfl⟩
   rw[hw1]
   have Hw1:=Xa hw1
   have HR7:=Xa hr7
   have HL7:=Xa hl7
   have hB7:=Xb HB6.out hb7
   have Hk7:=Xa (Xh hb7 Hk6.out)
   have Hb7:=Xa (Xb Hb6.out hb7)
   have HB7:=Xa hB7
   have HIa7:=Xa (HIa6.out.ext hb7)
   have HIb7:=Xa (HIb.out.ext hb7)
   have hk7:=Hk7.out
   clear c0 c1 c2 c3 c4 c5 hw1 hr7 hl7 hb7 hB7 Hk6
   obtain⟨c0,c1,c2,c3,c4,c5⟩:=gb6 hk7
   clear hk7
   have CN:=FT.out now w7 HB7.out (StrS.lies.ext Hnl.out Hb7.out)
   rw[hnaddr,hnlen,hncap] at CN
   have HCN:=Xa CN
   clear CN FT
   go_wp2_with fail
   refine HCN.out.mono ?_
   rintro e w8 ⟨hb8,A8,n8,c8,L8,rfl,rfl,hr8,hl8⟩
   rw[HE2.out]
   obtain⟨w2',hw2⟩:∃z,(trE g l lang now.xs t u).2=z:=⟨_,rfl⟩
   rw[hw2]
   have Hw2:=Xa hw2
   have HR8:=Xa hr8
   have HL8:=Xa hl8
   have HB8:=Xa (Xb HB7.out hb8)
   have HR78:=Xa (HR7.out.ext hb8)
   have HIa8:=Xa (HIa7.out.ext hb8)
   have HIb8:=Xa (HIb7.out.ext hb8)
   clear c0 c1 c2 c3 c4 c5 hw2 hr8 hl8 hb8 HCN Hk7
   by_cases hEz:E=0
   rotate_left
   ·have g1:(E != 0)=true:=by simpa using hEz
    clear hEz
    go_wp2_with fail
    go_ret
    exact⟨rfl,HB8.out⟩
   subst hEz
   by_cases hFz:E2=0
   rotate_left
   ·have g1:(E2 != 0)=true:=by simpa using hFz
    clear hFz
    go_wp2_with fail
    go_ret
    exact⟨rfl,HB8.out⟩
   subst hFz
   have HA:=Xa (Yav ia ib (i:Int) w8 HIa8.out HIb8.out)
   go_wp2_with fail
   refine HA.out.mono ?_
   rintro e w9 ⟨p,rfl,hal,hb9⟩
   have HB9:=Xa (Xb HB8.out hb9)
   cases p
   ·clear hal hb9
    go_wp2_with fail
    go_ret
    exact⟨rfl,HB9.out⟩
   have Hal:=Xa (hal rfl)
   have HR7':=Xa (HR78.out.ext hb9)
   have HR8':=Xa (HR8.out.ext hb9)
   clear hal hb9 HA
   have ma:=HMa.out
   have mb:=HMb.out
   rw[if_pos trivial] at ma mb
   have hio:now.xs[i]? = some other:=by rw[Hnow.out];exact List.getElem?_set_self hil
   have hrev:=tr_revised HE.out HE2.out ma mb hnlen Hv.out hio HRu.out Hal.out
   have Hrev:=Xa hrev
   obtain rfl:w1=w2':=by rw[← Hw1.out,← Hw2.out];exact hrev.1
   have hl7:L7.length≤8192:=by have h:=Ybo g l lang s.xs t u;rw[← HL7.out,List.length_map] at h;exact h
   have hl8:L8.length≤8192:=by have h:=Ybo g l lang now.xs t u;rw[← HL8.out,List.length_map] at h;exact h
   have HTg7:=Xa (HR7'.out.tgs HL7.out (Ybh g l lang s.xs t u)).2
   have HTg8:=Xa (HR8'.out.tgs HL8.out (Ybh g l lang now.xs t u)).2
   clear ma mb hio hrev Hal
   go_wp2_with fail
   go_loopw [33,167] (fun bv iv wr2=>∃(k:Nat) (B:Option Addr) (nB cB:Nat),bv = .slice B nB cB∧iv = .int .i64 k∧k≤L7.length∧Hid (nB=(Yaw (i:Int) (L7.take k)).length∧RowT w9.heap.size (.slice B nB cB) (Yaw (i:Int) (L7.take k)) wr2)∧Hid (Below w9.heap.size w9 wr2)) (fun _ iv _=>L7.length-(intOf iv).toNat)
   case atStart=>exact⟨0,none,0,0,rfl,rfl,Nat.zero_le _,⟨rfl,RowT.nil _ _⟩,Below.refl _ _⟩
   case round =>
    rename World=>wz
    obtain⟨k,B,nB,cB,rfl,rfl,hk,HRw,HBz⟩:=hrel
    by_cases hlt:k<L7.length
    ·obtain⟨bx,ox,hAx,hbx,hcx⟩:=(HTg7.out.ext HBz.out).lies.at_ TgG.size_cells (by omega) hlt
     change _=some (⟨bx,ox,none⟩:Addr) at hAx
     have d0:wz.cell? ⟨bx,ox+k*3,none⟩=some (.string L7[k].text):=hcx k hlt wz (Below.refl _ _) 0 _ rfl
     have d1:=hcx k hlt wz (Below.refl _ _) 1 _ rfl
     have d2:=hcx k hlt wz (Below.refl _ _) 2 _ rfl
     have hok:=(HTg7.out.ok _ (List.getElem_mem hlt)).ext HBz.out
     have hdp:=(HR7'.out.ext HBz.out).deps _ (List.getElem_mem hlt)
     have Htk:=Xa (Ybe (i:=(i:Int)) hlt)
     have hnl:=Ybg (i:Int) L7 k
     change ∀_,_ at hcx
     rw[show A7=some (⟨bx,ox,none⟩:Addr) from hAx]
     have HAx:Hid (A7=some (⟨bx,ox,none⟩:Addr)):=hAx
     clear hcx hAx
     generalize L7[k]=x at *
     obtain⟨w10,hw10⟩:∃w10,wz.alloc (.cells #[.string x.text,.slice x.dA x.deps.length x.dc,.int .i64 x.term] 75)=w10:=⟨_,rfl⟩
     have hb10:=Yn hw10
     have hx10:=Yv hw10
     have HH:=Xa (has30_any x.dA x.dc x.deps (i:Int) w10 (hok.ext hb10).few (hok.ext hb10).num)
     have HR10:=Xa (HRw.out.2.ext hb10)
     have HB10:=Xa (Xb HBz.out hb10)
     have Hdp:=Xa (hdp.below hb10)
     obtain⟨f0,f1,f2⟩:=gb3 hx10
     clear hx10 hb10 hok hdp
     obtain⟨q,hq⟩:∃q,x.deps.contains (i:Int)=q:=⟨_,rfl⟩
     rw[hq] at HH Htk
     clear hq
     go_wp2_with fail
     refine HH.out.mono ?_
     rintro e w11 ⟨rfl,rfl⟩
     clear HH
     cases q
     rotate_left
     ·have HN:Hid (nB=(Yaw (i:Int) (L7.take (k+1))).length∧RowT w9.heap.size (.slice B nB cB) (Yaw (i:Int) (L7.take (k+1))) w11):=by
       have h:=Htk.out
       rw[if_pos rfl,List.append_nil] at h
       show _∧_
       rw[h];exact⟨HRw.out.1,HR10.out⟩
      go_wp2_with fail
      try rw[← HAx.out]
      go_roundw
      case rel=>exact⟨k+1,B,nB,cB,rfl,by go_num,by omega,HN.out,HB10.out⟩
      case measure=>simp[intOf];omega
     ·obtain⟨w12,hw12⟩:∃w12,w11.alloc (.cells #[.string x.text,.slice x.dA x.deps.length x.dc,.int .i64 x.term] 75)=w12:=⟨_,rfl⟩
      have hb12:=Yn hw12
      have h1:RowT w11.heap.size (.slice (some ⟨w11.heap.size,0,none⟩) 1 1) [x] w12:=by rw[← hw12];exact RowT.one w11 x Hdp.out
      have HB12:=Xb HB10.out hb12
      obtain⟨B',n',c',V',hrun,hn',hrow,hbel⟩:=RowT.append (HR10.out.ext hb12) h1 rfl HB12.size (by show _+1≤_;omega) 65
      have Hrun:=Xa hrun
      have HN:Hid (n'=(Yaw (i:Int) (L7.take (k+1))).length∧RowT w9.heap.size (.slice B' n' c') (Yaw (i:Int) (L7.take (k+1))) V'):=by
       have h:=Htk.out
       rw[if_neg (by simp)] at h
       show _∧_
       rw[h];exact⟨hn',hrow⟩
      have HB':=Xa (HB12.trans hbel)
      clear h1 hb12 hrun hn' hrow hbel HB12
      go_wp2_with (at_builtin;refine Xzg rfl _ _ 65 rfl rfl rfl Hrun.out ?_)
      try rw[← HAx.out]
      go_roundw
      case rel=>exact⟨k+1,B',n',c',rfl,by go_num,by omega,HN.out,HB'.out⟩
      case measure=>simp[intOf];omega
    ·obtain rfl:k=L7.length:=by omega
     rw[List.take_length] at HRw
     have HRA:=Xa HRw.out.2
     have HnA:=Xa HRw.out.1
     have HRb:=Xa (HR8'.out.ext HBz.out)
     have hTgB:=HTg8.out.ext HBz.out
     have HTg8':=Xa hTgB
     have HB1:=Xa (Xb HB9.out HBz.out)
     clear hTgB HR7' HTg7
     go_wp2_with fail
     obtain⟨wz0,hwz0⟩:∃z,z=wz:=⟨_,rfl⟩
     subst hwz0
     go_loopw [34,183] (fun bv iv wr2=>∃(k:Nat) (B:Option Addr) (nB cB:Nat),bv = .slice B nB cB∧iv = .int .i64 k∧k≤L8.length∧Hid (nB=(Yaw (i:Int) (L8.take k)).length∧RowT wz0.heap.size (.slice B nB cB) (Yaw (i:Int) (L8.take k)) wr2)∧Hid (Below wz0.heap.size wz0 wr2)) (fun _ iv _=>L8.length-(intOf iv).toNat)
     case atStart=>exact⟨0,none,0,0,rfl,rfl,Nat.zero_le _,⟨rfl,RowT.nil _ _⟩,Below.refl _ _⟩
     case round =>
      rename World=>wz
      obtain⟨k,B,nB,cB,rfl,rfl,hk,HRw,HBz⟩:=hrel
      by_cases hlt:k<L8.length
      ·obtain⟨bx,ox,hAx,hbx,hcx⟩:=(HTg8'.out.ext HBz.out).lies.at_ TgG.size_cells (by omega) hlt
       change _=some (⟨bx,ox,none⟩:Addr) at hAx
       have d0:wz.cell? ⟨bx,ox+k*3,none⟩=some (.string L8[k].text):=hcx k hlt wz (Below.refl _ _) 0 _ rfl
       have d1:=hcx k hlt wz (Below.refl _ _) 1 _ rfl
       have d2:=hcx k hlt wz (Below.refl _ _) 2 _ rfl
       have hok:=(HTg8'.out.ok _ (List.getElem_mem hlt)).ext HBz.out
       have hdp:=(HRb.out.ext HBz.out).deps _ (List.getElem_mem hlt)
       have Htk:=Xa (Ybe (i:=(i:Int)) hlt)
       have hnl:=Ybg (i:Int) L8 k
       change ∀_,_ at hcx
       rw[show A8=some (⟨bx,ox,none⟩:Addr) from hAx]
       have HAx:Hid (A8=some (⟨bx,ox,none⟩:Addr)):=hAx
       clear hcx hAx
       generalize L8[k]=x at *
       obtain⟨w10,hw10⟩:∃w10,wz.alloc (.cells #[.string x.text,.slice x.dA x.deps.length x.dc,.int .i64 x.term] 75)=w10:=⟨_,rfl⟩
       have hb10:=Yn hw10
       have hx10:=Yv hw10
       have HH:=Xa (has30_any x.dA x.dc x.deps (i:Int) w10 (hok.ext hb10).few (hok.ext hb10).num)
       have HR10:=Xa (HRw.out.2.ext hb10)
       have HB10:=Xa (Xb HBz.out hb10)
       have Hdp:=Xa (hdp.below hb10)
       obtain⟨f0,f1,f2⟩:=gb3 hx10
       clear hx10 hb10 hok hdp
       obtain⟨q,hq⟩:∃q,x.deps.contains (i:Int)=q:=⟨_,rfl⟩
       rw[hq] at HH Htk
       clear hq
       go_wp2_with fail
       refine HH.out.mono ?_
       rintro e w11 ⟨rfl,rfl⟩
       clear HH
       cases q
       rotate_left
       ·have HN:Hid (nB=(Yaw (i:Int) (L8.take (k+1))).length∧RowT wz0.heap.size (.slice B nB cB) (Yaw (i:Int) (L8.take (k+1))) w11):=by
         have h:=Htk.out
         rw[if_pos rfl,List.append_nil] at h
         show _∧_
         rw[h];exact⟨HRw.out.1,HR10.out⟩
        go_wp2_with fail
        try rw[← HAx.out]
        go_roundw
        case rel=>exact⟨k+1,B,nB,cB,rfl,by go_num,by omega,HN.out,HB10.out⟩
        case measure=>simp[intOf];omega
       ·obtain⟨w12,hw12⟩:∃w12,w11.alloc (.cells #[.string x.text,.slice x.dA x.deps.length x.dc,.int .i64 x.term] 75)=w12:=⟨_,rfl⟩
        have hb12:=Yn hw12
        have h1:RowT w11.heap.size (.slice (some ⟨w11.heap.size,0,none⟩) 1 1) [x] w12:=by rw[← hw12];exact RowT.one w11 x Hdp.out
        have HB12:=Xb HB10.out hb12
        obtain⟨B',n',c',V',hrun,hn',hrow,hbel⟩:=RowT.append (HR10.out.ext hb12) h1 rfl HB12.size (by show _+1≤_;omega) 65
        have Hrun:=Xa hrun
        have HN:Hid (n'=(Yaw (i:Int) (L8.take (k+1))).length∧RowT wz0.heap.size (.slice B' n' c') (Yaw (i:Int) (L8.take (k+1))) V'):=by
         have h:=Htk.out
         rw[if_neg (by simp)] at h
         show _∧_
         rw[h];exact⟨hn',hrow⟩
        have HB':=Xa (HB12.trans hbel)
        clear h1 hb12 hrun hn' hrow hbel HB12
        go_wp2_with (at_builtin;refine Xzg rfl _ _ 65 rfl rfl rfl Hrun.out ?_)
        try rw[← HAx.out]
        go_roundw
        case rel=>exact⟨k+1,B',n',c',rfl,by go_num,by omega,HN.out,HB'.out⟩
        case measure=>simp[intOf];omega
      ·obtain rfl:k=L8.length:=by omega
       rw[List.take_length] at HRw
       have HF:=Xa (Xb HB1.out HBz.out)
       have hcA:=Ybl (i:Int) L7
       have hcB:=Ybl (i:Int) L8
       rw[HL7.out] at hcA
       rw[HL8.out] at hcB
       have hTA:=(HRA.out.ext HBz.out).tgs hcA fun p hp=>Ybh g l lang s.xs t u p (List.mem_filter.1 hp).1
       have hTB:=HRw.out.2.tgs hcB fun p hp=>Ybh g l lang now.xs t u p (List.mem_filter.1 hp).1
       obtain rfl:=hTA.1
       obtain rfl:=hTB.1
       have HS2:=X5u _ _ wz hTA.2 hTB.2
       have HSm:=Xa HS2
       have HD:Hid (decide ((Yaw (i:Int) L7).map TgG.c=(Yaw (i:Int) L8).map TgG.c)=true):=decide_eq_true (by rw[hcA,hcB];exact Hrev.out.2)
       clear hTA hTB HS2 hcA hcB
       go_wp2_with fail
       refine HSm.out.mono ?_
       rintro e w20 ⟨rfl,hb20⟩
       have HF2:=Xa (Xb HF.out hb20)
       rw[show decide ((Yaw (i:Int) L7).map TgG.c=(Yaw (i:Int) L8).map TgG.c)=true from HD.out]
       clear hb20 HSm HD
       go_wp2_with fail
       go_ret
       exact⟨rfl,HF2.out⟩
end Go.Proofs.YtolpbjjapodmnaaGreatDoor
