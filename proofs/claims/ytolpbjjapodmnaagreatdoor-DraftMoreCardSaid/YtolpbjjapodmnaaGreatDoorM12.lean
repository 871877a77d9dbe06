/- Texts of this claim, one after the other: Stand2, Term8, FindB, MapD, TagB, Chw3, ChaS, ChaW, Chw4. -/
import Derived.Test.YtolpbjjapodmnaaGreatDoorM11
import Derived.Test.YtolpbjjapodmnaaGreatDoorM9
import Derived.Test.YtolpbjjapodmnaaGreatDoorM10
import Derived.Test.YtolpbjjapodmnaaGreatDoorM1
import Derived.Test.YtolpbjjapodmnaaGreatDoorShelf2
import Derived.Test.YtolpbjjapodmnaaGreatDoorM7
import Derived.Test.YtolpbjjapodmnaaGreatDoorM8
import Derived.Maps.OwnSet
import Derived.StringKeys
import Derived.Stop.RegionWithIn
import Derived.Sort.QuietTacIn
import Derived.Deep.Draws
namespace Go.Proofs.YtolpbjjapodmnaaGreatDoor
open Go.RowKit Go.Han
set_option maxRecDepth 100000
attribute [local irreducible] wpStill wpQuiet
set_option maxHeartbeats 8000000
def Xko (l:List Term) (lang t u:Int) (w:World) (e:Ending) (w':World):Prop :=
 Below w.heap.size w w'/\((Zj l lang t u≠0/\e = .returned (.tuple #[.slice none 0 0,.int .i64 (Zj l lang t u)]))\/(Zj l lang t u=0/\∃A c,e = .returned (.tuple #[.slice A (Yh l lang t u).length c,.int .i64 0])/\TermsAt w' A (Yh l lang t u)/\(A=none->Yh l lang t u=[])))
def Xtf (y:Term) (l:List Term) (lang t u:Int) (k b:Nat) (w5:World) (e:Ending) (w':World):Prop :=
 ∃w9,e = .returned (.agg #[.int .i64 y.lang,.string ⟨(U8 y.src.xs).toArray⟩])/\Below w5.heap.size w5 w'/\(Instr.mapUpdate 140 (.map (some w5.heap.size)) (.agg #[.int .i64 y.lang,.string ⟨(U8 y.src.xs).toArray⟩]) (y.vl)).run Tryz.prog w' = .ok () w9 /\
  MapF w9 keyShape termShape w5.heap.size (k+1) (fun K=>if K=Xu y then some y.shown else (Yi lang t u (l.take k) K).map Term.shown)/\w'.grownBy w9 (some w5.heap.size)/\w9.heap.size=w'.heap.size/\w'.cell? ⟨b,0,none⟩=some (.int .i64 y.no)/\w'.cell? ⟨b,1,none⟩=some (.int .i64 y.at_)/\w'.cell? ⟨b,2,none⟩=some (.int .i64 y.known)/\w'.cell? ⟨b,3,none⟩=some (.int .i64 y.lang)/\w'.cell? ⟨b,4,none⟩=some (.slice y.src.addr y.src.xs.length y.src.cap)/\w'.cell? ⟨b,5,none⟩=some (.slice y.tgt.addr y.tgt.xs.length y.tgt.cap)/\w'.cell? ⟨b,6,none⟩=some (.string y.cat)/\w'.cell? ⟨b,7,none⟩=some (.bool y.gone)
theorem Xws (y:Term):∀v∈[.int .i64 y.no,.int .i64 y.at_,.int .i64 y.known,.int .i64 y.lang,.slice y.src.addr y.src.xs.length y.src.cap,.slice y.tgt.addr y.tgt.xs.length y.tgt.cap,.string y.cat,.bool false],Value.oneCell' v=true:=by
 intro v hv;simp at hv;rcases hv with rfl|rfl|rfl|rfl|rfl|rfl|rfl|rfl<;>rfl
theorem wf_i64 {n:Nat} (h:n<=2000):n<maxLen:=by unfold maxLen;omega
theorem Xmg (A:Option Addr) (cp:Nat) (l:List Term) (lang t u:Int) (w:World) (hT:Tabs w) (hr:TermsAt w A l) (hm:l.length<=9223372036854775807) :
  Calls Tryz.prog 26 #[.slice A l.length cp,.int .i64 lang,.int .i64 t,.int .i64 u] w (Xko l lang t u w):=by
 obtain⟨i0,z0,hi0,iz0,is0,ib0,izs⟩:=Xsc;have hmm:=@run_makeMap Tryz.prog;have HE:Hid (Zj l lang t u=if Zi l≠0 then Zi l else if (Xbe lang && tmB t && tmB u)=false then 1 else 0):=rfl;have Hr:=Xa hr;have HT:=Xa hT;go_enter Tryz.func26,Tryz.ntmps26
 go_wp2_with fail
 refine(Xqf A cp l w hT hr hm).mono ?_;rintro e w1 ⟨rfl,hB1⟩;clear hr hT;by_cases hc:Zi l≠0
 ·have HF:Hid (Zj l lang t u=Zi l):=by show _=_;rw[HE.out,if_pos hc]
  have n1:(Zi l == 0)=false:=by simpa using hc
  have n2:(Zi l != 0)=true:=by simpa using hc
  have Hc:=Xa hc;clear hc;go_wp2_with fail
  go_ret2
  exact⟨hB1,.inl ⟨by rw[HF.out];exact Hc.out,by rw[HF.out];rfl⟩⟩
 have hc:=Decidable.not_not.1 hc;obtain⟨hl,hoks,hpw⟩:=Qi hc;have HC:=Xa hc;have Hoks:=Xa hoks;have Hpw:=Xa hpw;rw[hc];clear hc hoks hpw;have c2:=Xa (fun w=>Xaw t w);have c3:=Xa (fun w=>Xaw u w);go_wp2_with fail
 refine(Xik lang w1).mono ?_;rintro e w' ⟨rfl,rfl⟩;generalize Xbe lang=b1 at *;generalize tmB t=b2 at *;generalize tmB u=b3 at *;cases b1
 ·have HF:Hid (Zj l lang t u=1):=by show _=_;rw[HE.out,HC.out];rfl
  go_wp2_with fail
  go_ret2
  exact⟨hB1,.inl ⟨by rw[HF.out];decide,by rw[HF.out];rfl⟩⟩
 go_wp2_with fail
 refine(c2.out _).mono ?_;rintro e w' ⟨rfl,rfl⟩;cases b2
 ·have HF:Hid (Zj l lang t u=1):=by show _=_;rw[HE.out,HC.out];rfl
  go_wp2_with fail
  go_ret2
  exact⟨hB1,.inl ⟨by rw[HF.out];decide,by rw[HF.out];rfl⟩⟩
 go_wp2_with fail
 refine(c3.out _).mono ?_;rintro e w' ⟨rfl,rfl⟩;cases b3
 ·have HF:Hid (Zj l lang t u=1):=by show _=_;rw[HE.out,HC.out];rfl
  go_wp2_with fail
  go_ret2
  exact⟨hB1,.inl ⟨by rw[HF.out];decide,by rw[HF.out];rfl⟩⟩
 have HF:Hid (Zj l lang t u=0):=by show _=_;rw[HE.out,HC.out];rfl
 clear c2 c3 HE;obtain⟨w5,hw5⟩:∃w5,w5=w1:=⟨_,rfl⟩
 have hB5:Below w.heap.size w w5:=by rw[hw5];exact hB1
 subst hw5;go_wp2_with fail
 go_loopw [40] (fun i wr=>∃k:Nat,k<=l.length/\i = .int .i64 k/\Below w5.heap.size w5 wr/\MapF wr keyShape termShape w5.heap.size k (fun K=>(Yi lang t u (l.take k) K).map Term.shown)) (fun i _=>l.length-(intOf i).toNat)
 case atStart=>exact⟨0,Nat.zero_le _,rfl,ba_q,MapF.made _ _ _⟩
 case round =>
  obtain⟨k,hk,rfl,hB,hmap⟩:=hrel;by_cases hlt:k<l.length
  ·obtain⟨b,off,rfl,hb,hcl⟩:=Hr.out.at_ hlt
   obtain⟨d0,d1,d2,d3,d4,d5,d6,d7⟩:=hcl k hlt wr (Xb hB5 hB);have hmem:l[k]∈l:=List.getElem_mem hlt;have htk:l.take (k+1)=l.take k++[l[k]]:=List.take_succ_eq_append_getElem hlt;have hyok:=Hoks.out _ hmem;clear hcl;generalize l[k]=y at *;by_cases hl1:y.lang≠lang
   ·have g1:(y.lang != lang)=true:=by simpa using hl1
    have HM:Hid (MapF (wr.alloc y.ob) keyShape termShape w5.heap.size (k+1) (fun K=>(Yi lang t u (l.take (k+1)) K).map Term.shown)):=by
     refine((hmap.of_block (Below.heap_alloc _ _ _ (by have:=hmap.lt;omega))).mono (by omega)).congr fun K _=>?_;rw[htk,Vw];unfold Ug;rw[if_neg (by rintro⟨h,_⟩;simp[cntB,Vr] at h;omega)]
    clear htk hmap;go_wp2_with fail
    go_roundw
    case rel=>exact⟨k+1,by omega,by go_num,Xg hB _,HM.out⟩
    case measure=>simp[intOf];omega
   have hl1:=Decidable.not_not.1 hl1;have g1:(y.lang != lang)=false:=(by simp[hl1]);by_cases hl2:t<y.at_
   ·clear hl1
    have HM:Hid (MapF (wr.alloc y.ob) keyShape termShape w5.heap.size (k+1) (fun K=>(Yi lang t u (l.take (k+1)) K).map Term.shown)):=by
     refine((hmap.of_block (Below.heap_alloc _ _ _ (by have:=hmap.lt;omega))).mono (by omega)).congr fun K _=>?_;rw[htk,Vw];unfold Ug;rw[if_neg (by rintro⟨h,_⟩;simp[cntB,Vr] at h;omega)]
    clear htk hmap;go_wp2_with fail
    go_roundw
    case rel=>exact⟨k+1,by omega,by go_num,Xg hB _,HM.out⟩
    case measure=>simp[intOf];omega
   by_cases hl3:u<y.known
   ·clear hl1
    have HM:Hid (MapF (wr.alloc y.ob) keyShape termShape w5.heap.size (k+1) (fun K=>(Yi lang t u (l.take (k+1)) K).map Term.shown)):=by
     refine((hmap.of_block (Below.heap_alloc _ _ _ (by have:=hmap.lt;omega))).mono (by omega)).congr fun K _=>?_;rw[htk,Vw];unfold Ug;rw[if_neg (by rintro⟨h,_⟩;simp[cntB,Vr] at h;omega)]
    clear htk hmap;go_wp2_with fail
    go_roundw
    case rel=>exact⟨k+1,by omega,by go_num,Xg hB _,HM.out⟩
    case measure=>simp[intOf];omega
   have Hcnt:Hid (cntB lang t u y=true):=(by show _=_;simp[cntB,Vr,hl1];omega);have Hyok:=Xa hyok;have Hmem:=Xa hmem;have hkm:k<maxLen:=wf_i64 (by omega);have Hkm:=Xa hkm;have hBy:Below wr.heap.size wr (wr.alloc y.ob):=ba_q;have n0:=World.alloc_heap_new wr y.ob;have hylie:y.lies wr:=(Hr.out.ext (Xb hB5 hB)).lie y hmem;have HMAP:=Xa hmap;have Htk:=Xa htk;have cA:=Xa (Xd7 y _ hyok (hylie.ext hBy));clear hmap hkm hyok hmem hl1 htk hylie;go_wp2_with fail
   refine cA.out.mono ?_;rintro e w6 ⟨rfl,hb6⟩;have hB6:=Xb hBy hb6;have hx6:=Xi hb6 n0;obtain⟨e0,e1,e2,e3,e4,e5,e6,e7⟩:=gb8 hx6;have hbw:wr.heap.size<w6.heap.size:=Xd hx6;have hm6:MapF w6 keyShape termShape w5.heap.size k (fun K=>(Yi lang t u (l.take k) K).map Term.shown):=HMAP.out.of_block (hB6.block _ HMAP.out.lt);clear cA n0 d0 d1 d2 d3 d4 d5 d6 d7;cases hlf:Yi lang t u (l.take k) (Xu y) with
   | none =>
    have Hlf:=Xa hlf
    have Hfun:Hid (∀K,keyShape.good K->(Yi lang t u (l.take (k+1)) K).map Term.shown=if K=Xu y then some y.shown else (Yi lang t u (l.take k) K).map Term.shown):=by
     intro K _;rw[Htk.out,Vw];unfold Ug;by_cases e:K=Xu y
     ·subst e;rw[if_pos ⟨Hcnt.out,rfl⟩,if_pos rfl,Hlf.out];rfl
     ·rw[if_neg (fun h=>e h.2.symm),if_neg e]
    clear hlf;go_wp2_with (at_lookup;refine Ys _ rfl _ _ 140 rfl 56 Zv Tryz.underlying140 keyShape termShape Zx w5.heap.size k _ (Vd _) rfl hm6 (Xu y) rfl (Ze Hyok.out) (.agg #[.int .i64 0,.int .i64 0,.int .i64 0,.int .i64 0,.slice none 0 0,.slice none 0 0,.string ⟨#[]⟩,.bool false]) false (by show termShape.val (((Yi lang t u (l.take k) (Xu y)).map Term.shown).getD Zx)=_;rw[Hlf.out];rfl) (by show ((Yi lang t u (l.take k) (Xu y)).map Term.shown).isSome=_;rw[Hlf.out];rfl) ?_)
    have hB7:Below wr.heap.size wr (w6.alloc (.cells #[.int .i64 0,.int .i64 0,.int .i64 0,.int .i64 0,.slice none 0 0,.slice none 0 0,.string ⟨#[]⟩,.bool false] 56)):=Xg hB6 _;have hx7:(w6.alloc (.cells #[.int .i64 0,.int .i64 0,.int .i64 0,.int .i64 0,.slice none 0 0,.slice none 0 0,.string ⟨#[]⟩,.bool false] 56)).heap[wr.heap.size]? = some y.ob:=(Below.heap_alloc _ _ _ (by omega)).trans hx6;generalize w6.alloc (.cells #[.int .i64 0,.int .i64 0,.int .i64 0,.int .i64 0,.slice none 0 0,.slice none 0 0,.string ⟨#[]⟩,.bool false] 56)=w7 at *;have hB57:=Xb hB hB7;clear e0 e1 e2 e3 e4 e5 e6 e7 hm6
    have cA7:Hid (∀W,Below w7.heap.size w7 W->Calls Tryz.prog 90 #[y.vl] W (Xtf y l lang t u k wr.heap.size w5)):=by
     intro W hbW;have hW5:Below w5.heap.size w5 W:=Xb hB57 hbW;refine(Xd7 y W Hyok.out ((Hr.out.ext (Xb hB5 hW5)).lie y Hmem.out)).mono ?_;rintro e w8 ⟨rfl,hb8⟩;have hbb:=Xb hbW hb8;have hm8:MapF w8 keyShape termShape w5.heap.size k (fun K=>(Yi lang t u (l.take k) K).map Term.shown):=HMAP.out.of_block ((Xb hB7 hbb).block _ HMAP.out.lt);obtain⟨w9,hrun,hm9,hg9,hs9⟩:=hm8.store w8 Zv Tryz.underlying140 Hkm.out (Xu y) y.shown (Ze Hyok.out);have hx8:w8.heap[wr.heap.size]? = some y.ob:=Xi hbb hx7;exact⟨w9,rfl,Xb hW5 hb8,hrun,hm9,hg9,hs9,gblk hx8 0,gblk hx8 1,gblk hx8 2,gblk hx8 3,gblk hx8 4,gblk hx8 5,gblk hx8 6,gblk hx8 7⟩
    obtain⟨p0,p1,p2,p3,p4,p5,p6,p7⟩:=gb8 hx7;go_region_with (go_at_call 90;refine(cA7.out _ ?_).mono ?_;(repeat (first|exact bo_q|refine Xr ?_|refine Xg ?_ _));rintro e w8 ⟨w9,rfl,hb8,hrun8,hm8,hg8,hs8,q0,q1,q2,q3,q4,q5,q6,q7⟩)
    all_goals
     have hB9:Below w5.heap.size w5 w9:=⟨hg8.os.trans hb8.os,hg8.tape.trans hb8.tape,hg8.output.trans hb8.output,Nat.le_trans hb8.size hg8.size,fun i hi=>(hg8.block i (Nat.lt_of_lt_of_le hi hb8.size) (by simp;omega)).trans (hb8.block i hi)⟩
     have hm9:=hm8.congr Hfun.out;clear q0 q1 q2 q3 q4 q5 q6 q7 hrun8;go_wp2_with fail
     go_roundw
     case rel=>exact⟨k+1,by omega,by go_num,hB9,hm9⟩
     case measure=>simp[intOf];omega
   | some z =>
    have Hlf:=Xa hlf;by_cases hza:z.at_<=y.at_
    ·have Hfun:Hid (∀K,keyShape.good K->(Yi lang t u (l.take (k+1)) K).map Term.shown=if K=Xu y then some y.shown else (Yi lang t u (l.take k) K).map Term.shown):=by
      intro K _;rw[Htk.out,Vw];unfold Ug;by_cases e:K=Xu y
      ·subst e;rw[if_pos ⟨Hcnt.out,rfl⟩,if_pos rfl,Hlf.out];simp[hza]
      ·rw[if_neg (fun h=>e h.2.symm),if_neg e]
     clear hlf;go_wp2_with (at_lookup;refine Ys _ rfl _ _ 140 rfl 56 Zv Tryz.underlying140 keyShape termShape Zx w5.heap.size k _ (Vd _) rfl hm6 (Xu y) rfl (Ze Hyok.out) (z.vl) true (by show termShape.val (((Yi lang t u (l.take k) (Xu y)).map Term.shown).getD Zx)=_;rw[Hlf.out];rfl) (by show ((Yi lang t u (l.take k) (Xu y)).map Term.shown).isSome=_;rw[Hlf.out];rfl) ?_)
     have hB7:Below wr.heap.size wr (w6.alloc z.ob):=Xg hB6 _;have hx7:(w6.alloc z.ob).heap[wr.heap.size]? = some y.ob:=(Below.heap_alloc _ _ _ (by omega)).trans hx6;generalize w6.alloc z.ob=w7 at *;have hB57:=Xb hB hB7;clear e0 e1 e2 e3 e4 e5 e6 e7 hm6 hza
     have cA7:Hid (∀W,Below w7.heap.size w7 W->Calls Tryz.prog 90 #[y.vl] W (Xtf y l lang t u k wr.heap.size w5)):=by
      intro W hbW;have hW5:Below w5.heap.size w5 W:=Xb hB57 hbW;refine(Xd7 y W Hyok.out ((Hr.out.ext (Xb hB5 hW5)).lie y Hmem.out)).mono ?_;rintro e w8 ⟨rfl,hb8⟩;have hbb:=Xb hbW hb8;have hm8:MapF w8 keyShape termShape w5.heap.size k (fun K=>(Yi lang t u (l.take k) K).map Term.shown):=HMAP.out.of_block ((Xb hB7 hbb).block _ HMAP.out.lt);obtain⟨w9,hrun,hm9,hg9,hs9⟩:=hm8.store w8 Zv Tryz.underlying140 Hkm.out (Xu y) y.shown (Ze Hyok.out);have hx8:w8.heap[wr.heap.size]? = some y.ob:=Xi hbb hx7;exact⟨w9,rfl,Xb hW5 hb8,hrun,hm9,hg9,hs9,gblk hx8 0,gblk hx8 1,gblk hx8 2,gblk hx8 3,gblk hx8 4,gblk hx8 5,gblk hx8 6,gblk hx8 7⟩
     obtain⟨p0,p1,p2,p3,p4,p5,p6,p7⟩:=gb8 hx7;go_region_with (go_at_call 90;refine(cA7.out _ ?_).mono ?_;(repeat (first|exact bo_q|refine Xr ?_|refine Xg ?_ _));rintro e w8 ⟨w9,rfl,hb8,hrun8,hm8,hg8,hs8,q0,q1,q2,q3,q4,q5,q6,q7⟩)
     all_goals
      have hB9:Below w5.heap.size w5 w9:=⟨hg8.os.trans hb8.os,hg8.tape.trans hb8.tape,hg8.output.trans hb8.output,Nat.le_trans hb8.size hg8.size,fun i hi=>(hg8.block i (Nat.lt_of_lt_of_le hi hb8.size) (by simp;omega)).trans (hb8.block i hi)⟩
      have hm9:=hm8.congr Hfun.out;clear q0 q1 q2 q3 q4 q5 q6 q7 hrun8;go_wp2_with fail
      go_roundw
      case rel=>exact⟨k+1,by omega,by go_num,hB9,hm9⟩
      case measure=>simp[intOf];omega
    ·have Hfun:Hid (∀K,keyShape.good K->(Yi lang t u (l.take (k+1)) K).map Term.shown=(Yi lang t u (l.take k) K).map Term.shown):=by
      intro K _;rw[Htk.out,Vw];unfold Ug;by_cases e:K=Xu y
      ·subst e;rw[if_pos ⟨Hcnt.out,rfl⟩,Hlf.out];simp[hza]
      ·rw[if_neg (fun h=>e h.2.symm)]
     clear hlf;go_wp2_with (at_lookup;refine Ys _ rfl _ _ 140 rfl 56 Zv Tryz.underlying140 keyShape termShape Zx w5.heap.size k _ (Vd _) rfl hm6 (Xu y) rfl (Ze Hyok.out) (z.vl) true (by show termShape.val (((Yi lang t u (l.take k) (Xu y)).map Term.shown).getD Zx)=_;rw[Hlf.out];rfl) (by show ((Yi lang t u (l.take k) (Xu y)).map Term.shown).isSome=_;rw[Hlf.out];rfl) ?_)
     go_roundw
     case rel=>exact⟨k+1,by omega,by go_num,Xg (Xb hB hB6) _,((hm6.of_block (Below.heap_alloc _ _ _ (by have:=hm6.lt;omega))).mono (by omega)).congr Hfun.out⟩
     case measure=>simp[intOf];omega
  ·obtain rfl:k=l.length:=by omega
   rw[List.take_length] at hmap;obtain⟨w6,hw6⟩:∃w6,w6=wr:=⟨_,rfl⟩
   subst hw6;have hB6:=Xb hB5 hB;have HMAP:=Xa hmap;clear hlt hk hB hmap;go_wp2_with fail
   go_loopw [8,83] (fun x i wr=>∃k:Nat,k<=l.length/\i = .int .i64 k/\OwnT wr w6.heap.size x ((l.take k).filter (Zs lang t u l))/\Below w6.heap.size w6 wr) (fun _ i _=>l.length-(intOf i).toNat)
   case atStart=>exact⟨0,Nat.zero_le _,rfl,OwnL.nil _ _ _ _ _,bo_q⟩
   case round =>
    obtain⟨k,hk,rfl,hown,hB⟩:=hrel;by_cases hlt:k<l.length
    ·obtain⟨b,off,rfl,hb,hcl⟩:=Hr.out.at_ hlt
     obtain⟨d0,d1,d2,d3,d4,d5,d6,d7⟩:=hcl k hlt wr (Xb hB6 hB);have hmem:l[k]∈l:=List.getElem_mem hlt
     have htk:(l.take (k+1)).filter (Zs lang t u l)=(l.take k).filter (Zs lang t u l)++(if Zs lang t u l l[k]=true then [l[k]] else []):=by
      rw[List.take_succ_eq_append_getElem hlt,List.filter_append];by_cases hp:Zs lang t u l l[k]=true<;>simp[hp]
     have hyok:=Hoks.out _ hmem;have hpick:Zs lang t u l l[k]=match Yi lang t u l (Xu l[k]) with|some z=>z.no == l[k].no && !l[k].gone|none=>false:=rfl
     have hfl:((l.take k).filter (Zs lang t u l)).length<=k:=Nat.le_trans (List.length_filter_le _ _) (List.length_take_le _ _);clear hcl;generalize l[k]=y at *;have hBy:Below wr.heap.size wr (wr.alloc y.ob):=ba_q;have n0:=World.alloc_heap_new wr y.ob;have hylie:y.lies wr:=(Hr.out.ext (Xb hB6 hB)).lie y hmem;have Htk:=Xa htk;have Hpk:=Xa hpick;have Hyok:=Xa hyok;have cA:=Xa (Xd7 y _ hyok (hylie.ext hBy));have Hown:=Xa hown;clear hyok hmem htk hylie hpick hown;go_wp2_with fail
     refine cA.out.mono ?_;rintro e w7 ⟨rfl,hb7⟩;have hB7:=Xb hBy hb7;have hx7:=Xi hb7 n0;obtain⟨e0,e1,e2,e3,e4,e5,e6,e7⟩:=gb8 hx7;have hbw:wr.heap.size<w7.heap.size:=Xd hx7;have hm7:MapF w7 keyShape termShape w5.heap.size l.length (fun K=>(Yi lang t u l K).map Term.shown):=HMAP.out.of_block ((Xb hB hB7).block _ HMAP.out.lt);have hbm:=HMAP.out.lt;clear cA n0 d0 d1 d2 d3 d4 d5 d6 d7;cases hlf:Yi lang t u l (Xu y) with
     | none =>
      have Hlf:=Xa hlf;have hp0:Zs lang t u l y=false:=(by rw[Hpk.out,hlf]);have Htk2:Hid ((l.take (k+1)).filter (Zs lang t u l)=(l.take k).filter (Zs lang t u l)):=(by show _=_;rw[Htk.out,hp0];simp);clear hlf hp0;go_wp2_with (at_lookup;refine Ys _ rfl _ _ 140 rfl 56 Zv Tryz.underlying140 keyShape termShape Zx w5.heap.size l.length _ (Vd _) rfl hm7 (Xu y) rfl (Ze Hyok.out) (.agg #[.int .i64 0,.int .i64 0,.int .i64 0,.int .i64 0,.slice none 0 0,.slice none 0 0,.string ⟨#[]⟩,.bool false]) false (by show termShape.val (((Yi lang t u l (Xu y)).map Term.shown).getD Zx)=_;rw[Hlf.out];rfl) (by show ((Yi lang t u l (Xu y)).map Term.shown).isSome=_;rw[Hlf.out];rfl) ?_)
      go_roundw
      case rel=>exact⟨k+1,by omega,by go_num,by rw[Htk2.out];exact(Hown.out.ext hB7).ext ba_q,Xg (Xb hB hB7) _⟩
      case measure=>simp[intOf];omega
     | some z =>
      have Hlf:=Xa hlf;have hp0:Zs lang t u l y=(z.no == y.no && !y.gone):=(by rw[Hpk.out,hlf]);by_cases hno:z.no=y.no
      ·have g1:(z.no == y.no)=true:=by simp[hno]
       cases hg:y.gone
       ·have hp1:Zs lang t u l y=true:=by rw[hp0,g1,hg];rfl
        have Htk2:Hid ((l.take (k+1)).filter (Zs lang t u l)=(l.take k).filter (Zs lang t u l)++[y]):=(by show _=_;rw[Htk.out,hp1];simp);have Hg:=Xa hg;rw[hg] at e7;have ho:w7.ownsRow w6.heap.size 56 8 _ ((l.take k).filter (Zs lang t u l)).length (((l.take k).filter (Zs lang t u l)).flatMap Term.cells):=Hown.out.ext hB7;generalize (l.take k).filter (Zs lang t u l)=el at *;have A1:el.length+1<=maxLen:=(by unfold maxLen;omega);have A2:(el.length+1)*104<=140737488355328:=(by omega);have A3:w6.heap.size<=((w7.alloc z.ob).alloc (.cells #[.int .i64 y.no,.int .i64 y.at_,.int .i64 y.known,.int .i64 y.lang,.slice y.src.addr y.src.xs.length y.src.cap,.slice y.tgt.addr y.tgt.xs.length y.tgt.cap,.string y.cat,.bool false] 56)).heap.size:=by have h1:=hB.size;simp;omega
        clear hlf hp0 hp1 hno hg;go_wp2_with (first|(at_lookup;refine Ys _ rfl _ _ 140 rfl 56 Zv Tryz.underlying140 keyShape termShape Zx w5.heap.size l.length _ (Vd _) rfl hm7 (Xu y) rfl (Ze Hyok.out) (z.vl) true (by show termShape.val (((Yi lang t u l (Xu y)).map Term.shown).getD Zx)=_;rw[Hlf.out];rfl) (by show ((Yi lang t u l (Xu y)).map Term.shown).isSome=_;rw[Hlf.out];rfl) ?_)|(at_builtin;refine wpList_append_own _ rfl _ _ 43 rfl w6.heap.size 56 i0 z0 8 104 Tryz.underlying43 hi0 iz0 is0 ib0 izs (by decide) _ _ _ rfl ((ho.alloc _).alloc _) _ _ _ [.int .i64 y.no,.int .i64 y.at_,.int .i64 y.known,.int .i64 y.lang,.slice y.src.addr y.src.xs.length y.src.cap,.slice y.tgt.addr y.tgt.xs.length y.tgt.cap,.string y.cat,.bool false] rfl rfl (Xgb w7 _ [.int .i64 y.no,.int .i64 y.at_,.int .i64 y.known,.int .i64 y.lang,.slice y.src.addr y.src.xs.length y.src.cap,.slice y.tgt.addr y.tgt.xs.length y.tgt.cap,.string y.cat,.bool false] _) (Xws y) A1 A2 A3 ?_;intro v5 w10 hown6 hgrow6 _))
        have hB10:Below w6.heap.size w6 w10:=(Xg (Xg (Xb hB hB7) _) _).grown hgrow6 A3 (fun k hk=>(ho.lt k hk).1)
        have hown7:w10.ownsRow w6.heap.size 56 8 v5 (el.length+1) (el.flatMap Term.cells++y.cells):=by
         have e:y.cells=[.int .i64 y.no,.int .i64 y.at_,.int .i64 y.known,.int .i64 y.lang,.slice y.src.addr y.src.xs.length y.src.cap,.slice y.tgt.addr y.tgt.xs.length y.tgt.cap,.string y.cat,.bool false]:=(by unfold Term.cells;rw[Hg.out];rfl);rw[e];exact hown6
        go_roundw
        case rel=>exact⟨k+1,by omega,by go_num,by rw[Htk2.out];exact OwnL.snoc y hown7,hB10⟩
        case measure=>simp[intOf];omega
       ·have hp1:Zs lang t u l y=false:=by rw[hp0,hg];simp
        have Htk2:Hid ((l.take (k+1)).filter (Zs lang t u l)=(l.take k).filter (Zs lang t u l)):=(by show _=_;rw[Htk.out,hp1];simp);rw[hg] at e7;clear hlf hp0 hp1 hno hg;go_wp2_with (at_lookup;refine Ys _ rfl _ _ 140 rfl 56 Zv Tryz.underlying140 keyShape termShape Zx w5.heap.size l.length _ (Vd _) rfl hm7 (Xu y) rfl (Ze Hyok.out) (z.vl) true (by show termShape.val (((Yi lang t u l (Xu y)).map Term.shown).getD Zx)=_;rw[Hlf.out];rfl) (by show ((Yi lang t u l (Xu y)).map Term.shown).isSome=_;rw[Hlf.out];rfl) ?_)
        go_roundw
        case rel=>exact⟨k+1,by omega,by go_num,by rw[Htk2.out];exact(Hown.out.ext hB7).ext ba_q,Xg (Xb hB hB7) _⟩
        case measure=>simp[intOf];omega
      ·have g1:(z.no == y.no)=false:=by simpa using hno
       have hp1:Zs lang t u l y=false:=(by rw[hp0,g1];rfl);have Htk2:Hid ((l.take (k+1)).filter (Zs lang t u l)=(l.take k).filter (Zs lang t u l)):=(by show _=_;rw[Htk.out,hp1];simp);clear hlf hp0 hp1 hno;go_wp2_with (at_lookup;refine Ys _ rfl _ _ 140 rfl 56 Zv Tryz.underlying140 keyShape termShape Zx w5.heap.size l.length _ (Vd _) rfl hm7 (Xu y) rfl (Ze Hyok.out) (z.vl) true (by show termShape.val (((Yi lang t u l (Xu y)).map Term.shown).getD Zx)=_;rw[Hlf.out];rfl) (by show ((Yi lang t u l (Xu y)).map Term.shown).isSome=_;rw[Hlf.out];rfl) ?_)
       go_roundw
       case rel=>exact⟨k+1,by omega,by go_num,by rw[Htk2.out];exact(Hown.out.ext hB7).ext ba_q,Xg (Xb hB hB7) _⟩
       case measure=>simp[intOf];omega
    ·obtain rfl:k=l.length:=by omega
     rw[List.take_length,Xog Hpw.out Hoks.out] at hown;obtain⟨A9,c9,rfl,hrd9,hn9⟩:=OwnL.form (by omega) hown
     have hfin:Hid (Xko l lang t u w (.returned (.tuple #[.slice A9 (Yh l lang t u).length c9,.int .i64 0])) wr):=by
      refine⟨Xb hB6 hB,.inr ⟨HF.out,A9,c9,rfl,⟨hrd9,fun y hy=>?_⟩,hn9⟩⟩;exact(Hr.out.ext (Xb hB6 hB)).lie y (List.mem_filter.1 hy).1
     clear hown hrd9 hn9 hlt hk;go_wp2_with fail
     go_ret2
     exact hfin.out
end Go.Proofs.YtolpbjjapodmnaaGreatDoor
/- Maps as functions: struck keys, a look-up without ok, how many entries there are, keys that are strings. Conditions: none; plain facts about the machine's steps. No program in sight. -/
namespace Go.Han
open Go.RowKit
section
variable {α β:Type} {P:Program} {k:TypeId} {w:World}
theorem HoldsAt.del [DecidableEq α] {S:Xx P k α} {D:DataW β} {f:α->Option β} (h:HoldsAt S D f) {x:α} (hx:S.good x):HoldsAt S (D.del (S.lit x)) (fun y=>if y=x then none else f y):=by
 intro y hy;by_cases e:y=x
 ·subst e
  exact⟨fun _=>Maps.has_del_same,fun c h=>by simp at h⟩
 ·have hne:S.lit y≠S.lit x:=fun h'=>e (S.inj y x hy hx h')
  obtain⟨h1,h2⟩:=h y hy
  exact⟨fun h'=>by rw[Maps.has_del_other hne];exact h1 (by simpa[e] using h'),fun c h'=>by
   have:=h2 c (by simpa[e] using h');exact⟨by rw[Maps.has_del_other hne];exact this.1,fun z=>by rw[Maps.atKey_del_other hne];exact this.2 z⟩⟩
theorem Xg6 [DecidableEq α] {ops:Array Oper} {rest:List Oper} {o:Oper} {a:Act} {Q:Exit->Act->World->Prop} (hg:o.guard=none) (m x:Operand) (t:TypeId) (hop:o.op=Op.call {callee:=Callee.builtin Builtin.delete,args:=#[m,x],argTypes:=#[t,k]})
  (e:TypeId) (K:Maps.Keyed P k) (ht:P.underlying t=some (.map k e)) (S:Xx P k α) (E:ElemShape β) (b r n:Nat) (f:α->Option β) (left:α->Bool) (cnt:Nat)
  (hm:a.eval m = .map (some b)) (h:RangeF w S E b r n f left cnt) (key:α) (hx:a.eval x=S.val key) (hgood:S.good key)
  (hK:∀w' cnt',RangeF w' S E b r n (fun y=>if y=key then none else f y) (fun y=>left y && !decide (y=key)) cnt'->cnt'<=cnt->w.mapTurned w' b->wpList P ops Q rest (a.put o.dst (.tuple #[])) w') :
  wpList P ops Q (o :: rest) a w:=by
 obtain⟨D,lf,h1,h2,h3,h4⟩:=h;refine wpList_delete_ranges w hg m x t k hop e K ht E.read b r n D lf cnt hm h1 _ _ hx (S.of key hgood) fun w' cnt' r1 r2 r3=>?_;refine hK w' cnt' ⟨_,_,r1,h2.del hgood,fun y hy=>?_,fun l hl=>?_⟩ r2 r3
 ·show (left y && !decide (y=key))=(lf (S.lit y) && !(S.lit y).sameKey (S.lit key))
  rw[h3 y hy];by_cases e:y=key
  ·subst e
   rw[WideAt.sameKey_self (K.key (S.of y hy))];simp
  ·rw[Maps.sameKey_ne (fun h'=>e (S.inj y key hy hgood h'))];simp[e]
 ·refine h4 l ?_
  cases hl':lf l
  ·simp[hl'] at hl
  ·rfl
theorem Xdr {t e:TypeId} (K:Maps.Keyed P k) (ht:P.underlying t=some (.map k e)) (S:Xx P k α) (E:ElemShape β) (z0:β) {b n:Nat} {f:α->Option β} (hz:(zeroValue e).run P w = .ok (E.val z0) w) (hown:MapF w S E b n f) (key:α) (hgood:S.good key) :
  (Instr.lookup t (.map (some b)) (S.val key) false).run P w = .ok (E.val ((f key).getD z0)) w:=by
 obtain⟨D,h1,h2⟩:=hown;obtain⟨v,ps,hrun,hv⟩:=h1.lookup K ht hz (E.read_val z0) (S.of key hgood);obtain⟨g1,g2⟩:=h2 key hgood;obtain⟨c,rfl,hc⟩:=E.read_inv hv;simp only[Prod.mk.injEq] at hc;cases hf:f key with
 | none =>
  have:=g1 hf;rw[Maps.atKey_of_not_has this] at hc;cases hc.1;exact hrun
 | some c' =>
  obtain⟨g3,g4⟩:=g2 c' hf;rw[g4] at hc;cases hc.1;exact hrun
theorem MapF.size {S:Xx P k α} {E:ElemShape β} {b n:Nat} {f:α->Option β} (h:MapF w S E b n f) (K:Maps.Keyed P k) (u:List α) (hu:u.Nodup) (hg:∀x∈u,S.good x) (hm:∀x,S.good x->((f x).isSome↔x∈u)) {t e:TypeId} (ht:P.underlying t=some (.map k e)) (ty:TypeId) :
  (Builtin.len_ #[t] ty #[.map (some b)]).run P w = .ok (.int .i64 u.length) w:=by
 obtain⟨D,h1,h2⟩:=h;rw[h1.len ht ty];obtain⟨es,hD,hpw⟩:=h1.tidy K
 have hkeys:∀p∈es,∃x,S.good x/\p.1=S.lit x:=by
  obtain⟨es',clock,_,F,_,hD'⟩:=h1;intro p hp;rw[hD'] at hD;have e:es=_:=(DataW.map.inj hD).symm;rw[e] at hp;obtain⟨y,hy,rfl⟩:=List.mem_map.1 (mem_sorted.1 hp);obtain⟨z,hz⟩:=F.reads y hy;have hk':=WideElems.rd_key hz;have e1:(WideElems.rg P k E.read y).1=z.1:=by rw[WideElems.rg_of hz]
  obtain⟨x,hx,_,hl'⟩:=S.inv _ _ hk';exact⟨x,hx,by rw[<- hl',<- e1]⟩
 subst hD
 have hhas:∀x,S.good x->(Maps.has (.map es:DataW β) (S.lit x)=true↔x∈u):=by
  intro x hx;rw[<- hm x hx];obtain⟨g1,g2⟩:=h2 x hx;cases hf:f x with
  | none=>simp[g1 hf]
  | some c=>simp[(g2 c hf).1]
 have n1:(es.map (·.1)).Nodup:=by rw[List.nodup_iff_pairwise_ne,List.pairwise_map];exact hpw
 have n2:(u.map S.lit).Nodup:=by
  rw[List.nodup_iff_pairwise_ne,List.pairwise_map];refine(List.Pairwise.and_mem.1 (List.nodup_iff_pairwise_ne.1 hu)).imp fun {a b} ⟨ha,hb,hne⟩ e=>hne (S.inj a b (hg a ha) (hg b hb) e)
 have s1:es.map (·.1) ⊆ u.map S.lit:=by
  intro l hl;obtain⟨p,hp,rfl⟩:=List.mem_map.1 hl;obtain⟨x,hx,e⟩:=hkeys p hp;refine List.mem_map.2 ⟨x,(hhas x hx).1 ?_,e.symm⟩;rw[Maps.has_eq];refine List.any_eq_true.2 ⟨p,hp,?_⟩;rw[e];exact WideAt.sameKey_self (K.key (S.of x hx))
 have s2:u.map S.lit ⊆ es.map (·.1):=by
  intro l hl;obtain⟨x,hx,rfl⟩:=List.mem_map.1 hl;have:=(hhas x (hg x hx)).2 hx;rw[Maps.has_eq] at this;obtain⟨p,hp,e⟩:=List.any_eq_true.1 this;exact List.mem_map.2 ⟨p,hp,WideAt.sameKey_eq e⟩
 have l1:=n1.length_le_of_subset s1;have l2:=n2.length_le_of_subset s2;rw[List.length_map] at l1 l2;rw[List.length_map] at l1 l2;rw[Maps.size_eq]
 congr 2
 omega
end
def X0y {P:Program} {k:TypeId} (hk:P.underlying k=some .string):Xx P k ByteArray where
 val:=.string
 lit s:=.string s.data.toList
 good s:=s.size<=maxLen
 of x hx:=Go.WideMaps.keyOf_string_mk hk hx
 inv v l h:=by
  rw[Go.keyOf_string hk] at h;cases v<;>simp[mapKey,hk] at h
  exact⟨_,h.1,rfl,h.2.symm⟩
 inj x y _ _ h:=by
  injection h with h;exact WideShapes.bytes_inj h
end Go.Han
namespace Go.Proofs.YtolpbjjapodmnaaGreatDoor
open Go.RowKit Go.Han
set_option maxRecDepth 100000
attribute [local irreducible] wpStill wpQuiet
set_option maxHeartbeats 8000000
section
attribute [local go_sem] Oper.semAt_some
structure TagG where
 g:Gram
 m:Nat
 ws:StrS
abbrev TagG.ob (x:TagG):Obj:=.cells #[.string x.g.name,.slice x.g.cats.addr x.g.cats.xs.length x.g.cats.cap,.string x.g.start,.int .i64 x.g.startNo,.slice x.g.entries.addr x.g.entries.xs.length x.g.entries.cap,.slice x.g.rules.addr x.g.rules.xs.length x.g.rules.cap,.map (some x.m),.slice x.ws.addr x.ws.xs.length x.ws.cap] 129
abbrev TagG.vl (x:TagG):Value:=.agg #[.string x.g.name,.slice x.g.cats.addr x.g.cats.xs.length x.g.cats.cap,.string x.g.start,.int .i64 x.g.startNo,.slice x.g.entries.addr x.g.entries.xs.length x.g.entries.cap,.slice x.g.rules.addr x.g.rules.xs.length x.g.rules.cap,.map (some x.m),.slice x.ws.addr x.ws.xs.length x.ws.cap]
def X0f (w V:World):World:={V with os:=w.os,tape:=w.tape,output:=w.output}
theorem Xdq {w V:World} (hs:w.heap.size<=V.heap.size) (hk:∀k,k<w.heap.size->V.heap[k]? = w.heap[k]?):Below w.heap.size w (X0f w V):=⟨rfl,rfl,rfl,hs,hk⟩
theorem Xk7 {w V:World} {s:StrS} (h:s.lies (X0f w V)):s.lies V:=⟨h.rd,h.cap,h.max,h.nil⟩
theorem Xrp {α:Type} {f:α->List Value} {w V:World} {s:SlS α} (h:s.lies f (X0f w V)):s.lies f V:=⟨h.rd,h.cap,h.max,h.nil⟩
structure TagD (w V:World) (T:TagG):Prop where
 size:w.heap.size<=V.heap.size
 low:∀k,k<w.heap.size->V.heap[k]? = w.heap[k]?
 g:T.g.lies w
 ws:T.ws.lies w
theorem TagD.ext {w V V':World} {T:TagG} (h:TagD w V T) (hb:Below V.heap.size V V'):TagD w V' T:=⟨Nat.le_trans h.size hb.size,fun k hk=>(hb.block k (Nat.lt_of_lt_of_le hk h.size)).trans (h.low k hk),h.g,h.ws⟩
theorem TagD.wsv {w V:World} {T:TagG} (h:TagD w V T):T.ws.lies V:=Xk7 (h.ws.ext (Xdq h.size h.low))
theorem TagD.cats {w V:World} {T:TagG} (h:TagD w V T):T.g.cats.lies V:=Xk7 (h.g.cats.ext (Xdq h.size h.low))
theorem TagD.ents {w V:World} {T:TagG} (h:TagD w V T):T.g.entries.lies EntryG.cells V:=Xrp (h.g.entries.ext (Xdq h.size h.low))
theorem TagD.far {w V:World} {T:TagG} (h:TagD w V T) {s:StrS} (hs:s.lies w):FarI w.heap.size V s:=FarI.low hs h.low h.size
theorem Xoe (T:TagG) (i:Nat) (w:World):Calls Tryz.prog 80 #[T.vl,.int .i64 i] w fun e w' =>
  e = .returned (.func (.func 145) #[] #[.pointer (some ⟨w.heap.size,0,none⟩),.pointer (some ⟨w.heap.size+1,0,none⟩)])/\(w.alloc T.ob).alloc (.cells #[.int .i64 i] 3)=w':=by
 have hmf:∀(fn:Fn) (first cap:Array Value) (w:World),(Instr.makeFunc fn first cap).run Tryz.prog w = .ok (.func fn first cap) w:=fun _ _ _ _=>rfl;go_enter Tryz.func80,Tryz.ntmps80
 go_wp2
 go_ret;exact⟨rfl,rfl⟩
theorem Xnf (T:TagG) (i:Nat) (w:World):Calls Tryz.prog 82 #[T.vl,.int .i64 i] w fun e w' =>
  e = .returned (.func (.func 146) #[] #[.pointer (some ⟨w.heap.size,0,none⟩),.pointer (some ⟨w.heap.size+1,0,none⟩)])/\(w.alloc T.ob).alloc (.cells #[.int .i64 i] 3)=w':=by
 have hmf:∀(fn:Fn) (first cap:Array Value) (w:World),(Instr.makeFunc fn first cap).run Tryz.prog w = .ok (.func fn first cap) w:=fun _ _ _ _=>rfl;go_enter Tryz.func82,Tryz.ntmps82
 go_wp2
 go_ret;exact⟨rfl,rfl⟩
theorem X01 (T:TagG) (i many:Int) (w:World):Calls Tryz.prog 78 #[T.vl,.int .i64 i,.int .i64 many] w fun e w' =>
  e = .returned (.func (.func 143) #[] #[.pointer (some ⟨w.heap.size+1,0,none⟩),.pointer (some ⟨w.heap.size+2,0,none⟩),.pointer (some ⟨w.heap.size,0,none⟩)])/\((w.alloc T.ob).alloc (.cells #[.int .i64 i] 3)).alloc (.cells #[.int .i64 many] 3)=w':=by
 have hmf:∀(fn:Fn) (first cap:Array Value) (w:World),(Instr.makeFunc fn first cap).run Tryz.prog w = .ok (.func fn first cap) w:=fun _ _ _ _=>rfl;go_enter Tryz.func78,Tryz.ntmps78
 go_wp2
 go_ret;exact⟨rfl,rfl⟩
theorem Xb7 {w V:World} (h:∀k,k<w.heap.size->V.heap[k]? = w.heap[k]?):w.heap.size<=V.heap.size:=by
 rcases Nat.lt_or_ge V.heap.size w.heap.size with hlt|hge
 ·have:=h _ hlt
  rw[Array.getElem?_eq_none (Nat.le_refl _),Array.getElem?_eq_getElem hlt] at this;cases this
 ·exact hge
def Zy (es:List EntryG) (i:Nat) (s:ByteArray):List Ye:=Xy es i s
theorem Xkc (es:List EntryG) (i:Nat) (s:ByteArray) (k:Nat) (h:k<es.length):Zy (es.take (k+1)) i s=Zy (es.take k) i s++if es[k].text=s then [Xe9 i es[k]] else []:=by
 unfold Zy Xy;rw[List.take_succ_eq_append_getElem h,List.filter_append,List.map_append];by_cases hp:es[k].text=s<;>simp[hp]
theorem Xmv (es:List EntryG) (i:Nat) (s:ByteArray) (k:Nat):Zy (es.take k) i s <+: Zy es i s:=by
 refine⟨Zy (es.drop k) i s,?_⟩;unfold Zy Xy;rw[<- List.map_append,<- List.filter_append,List.take_append_drop]
end
def KidP (w:World) (b:Nat):Prop:=∃cs fr,w.heap[b]? = some (.cells cs 37 fr)
def TreeW (X:Nat->Prop) (w:World) (t:TreeV) (x:TreeG):Prop:=TreeAt w (fun b=>KidP w b/\¬X b) t [.int .i64 x.rule,.int .i64 x.item,.int .i64 x.frm,.int .i64 x.unt,.slice x.kids.addr x.kids.len x.kids.cap]
theorem TreeW.keep {X X':Nat->Prop} {w w':World} {t:TreeV} {x:TreeG} (h:TreeW X w t x) (hk:∀b,KidP w b->¬X b->w'.heap[b]? = w.heap[b]?) (hs:w.heap.size<=w'.heap.size) (hX:∀b,KidP w b->¬X b->¬X' b):TreeW X' w' t x :=
 TreeAt.keep (fun b ⟨h1,h2⟩ _=>hk b h1 h2) hs (fun b ⟨⟨cs,fr,hb⟩,hn⟩=>⟨⟨cs,fr,(hk b ⟨cs,fr,hb⟩ hn).trans hb⟩,hX b ⟨cs,fr,hb⟩ hn⟩) h
theorem TreeW.ext {X:Nat->Prop} {w w':World} {t:TreeV} {x:TreeG} (h:TreeW X w t x) (hb:Below w.heap.size w w'):TreeW X w' t x:=h.keep (fun b ⟨_,_,hk⟩ _=>hb.block b (Xd hk)) hb.size fun _ _ h=>h
theorem TreeW.only {X:Nat->Prop} {w w':World} {M:Nat->Prop} {t:TreeV} {x:TreeG} (h:TreeW X w t x) (ho:Only M w w') (hM:∀b,M b->¬(KidP w b/\¬X b)):TreeW X w' t x :=
 h.keep (fun b hk hn=>ho.block b (by obtain⟨cs,fr,hk⟩:=hk;exact Xd hk) fun hm=>hM b hm ⟨hk,hn⟩) ho.size fun _ _ h=>h
def FoundG.tree (f:FoundG):TreeG:=⟨f.rule,f.item,f.frm,f.unt,f.kids⟩
def Xd0:TreeG:=⟨0,0,0,0,⟨none,0,0⟩⟩
structure FoundOk (X:Nat->Prop) (w:World) (f:FoundG) (d:Fd TreeV):Prop where
 many:f.many=(d.many:Nat)
 best:match d.best with
  | none=>f.ok=false/\f.cost=0/\f.tree=Xd0
  | some (c,t)=>f.ok=true/\f.cost=c/\TreeW X w t f.tree
theorem FoundOk.keep {X X':Nat->Prop} {w w':World} {f:FoundG} {d:Fd TreeV} (h:FoundOk X w f d) (hk:∀t x,TreeW X w t x->TreeW X' w' t x):FoundOk X' w' f d:=by
 refine⟨h.many,?_⟩;have hb:=h.best;cases hd:d.best with
 | none=>rw[hd] at hb;exact hb
 | some y =>
  obtain⟨c,t⟩:=y;rw[hd] at hb;exact⟨hb.1,hb.2.1,hk t _ hb.2.2⟩
theorem FoundOk.zero (X:Nat->Prop) (w:World):FoundOk X w ⟨false,0,0,0,0,0,⟨none,0,0⟩,0⟩ (Fd.of bigN ([]:List Dv)):=⟨rfl,rfl,rfl,rfl⟩
theorem FoundOk.take {X X':Nat->Prop} {w w':World} {f:FoundG} {d:Fd TreeV} (h:FoundOk X w f d) (hk:∀t x,TreeW X w t x->TreeW X' w' t x) {cost:Int} {m:Nat} {t:TreeV} {x:TreeG} (ht:TreeW X' w' t x) :
  FoundOk X' w' (Xgu f cost (m:Int) x) (Fd.add bigN d ⟨m,some (cost,t)⟩):=by
 have hm:min (f.many+(m:Int)) 1099511627777=((capN bigN (d.many+m):Nat):Int):=by
  rw[h.many,Xyw];rfl
 have hb:=h.best;unfold Xgu Fd.add;rw[hm];cases hd:d.best with
 | none =>
  rw[hd] at hb;rw[if_pos (.inl hb.1)];exact⟨rfl,rfl,rfl,ht⟩
 | some y =>
  obtain⟨c,t'⟩:=y;rw[hd] at hb;obtain⟨h1,h2,h3⟩:=hb;by_cases hc:cost<f.cost
  ·rw[if_pos (.inr hc)]
   refine⟨rfl,?_⟩;rw[X6,if_pos (by rw[<- h2];exact hc)];exact⟨rfl,rfl,ht⟩
  ·rw[if_neg (by rintro(h|h);rw[h1] at h;cases h;exact hc h)]
   refine⟨rfl,?_⟩;rw[X6,if_neg (by rw[<- h2];exact hc)];exact⟨h1,h2,hk _ _ h3⟩
theorem Xwa (X:Nat->Prop) (w:World) (j:Nat) (i k:Int):TreeW X w (Xc6 j i k) ⟨-1,j,i,k,⟨none,0,0⟩⟩:=by
 unfold TreeW Xc6 TreeAt;exact⟨none,0,[],rfl,Nat.le_refl _,by omega,fun _=>rfl,fun h=>by simp at h,.inl rfl,rfl⟩
theorem Xz3 (bi bx:Nat) (j i k c:Int) (w:World) (hi:w.heap[bi]? = some (.cells #[.int .i64 j] 3 (0,0))) (hx:w.heap[bx]? = some (.cells #[.int .i64 c,.int .i64 i,.int .i64 k] 119 (0,0))) :
  Calls Tryz.prog 179 #[.pointer (some ⟨bi,0,none⟩),.pointer (some ⟨bx,0,none⟩)] w fun e w'=>e = .returned (.agg #[.int .i64 (-1),.int .i64 j,.int .i64 i,.int .i64 k,.slice none 0 0])/\Below w.heap.size w w':=by
 have a0:=Xe hi;obtain⟨b0,b1,b2⟩:=gb3 hx;have hli:=Xd hi;have hlx:=Xd hx;have hni:bi≠w.heap.size:=by omega
 have hnx:bx≠w.heap.size:=by omega
 have hB:Below w.heap.size w (w.alloc (.cells #[.int .i64 (-1),.int .i64 j,.int .i64 i,.int .i64 k,.slice none 0 0] 37)):=ba_q;clear hi hx;go_enter Tryz.func179,Tryz.ntmps179
 go_wp2_with fail
 exact bodyPost_ret (v:=.agg #[.int .i64 (-1),.int .i64 j,.int .i64 i,.int .i64 k,.slice none 0 0]) (by simp[results,Tryz.results179,go_sem]) rfl ⟨rfl,hB⟩
/-! ### by the ways to lay the parts -/
def Ya (st:Int->ByteArray->Bool):List PartG->Nat->Nat->List (List Nat)
 | [],i,k=>if i=k then [[]] else []
 | p :: ps,i,k =>
  if k<i+(ps.length+1) then []
  else if p.text.size≠0 then (if st i p.text=true then Ya st ps (i+1) k else [])
  else (List.range' (i+1) (k-ps.length-i)).flatMap fun m=>(Ya st ps m k).map (m :: ·)
def Y2 (A:Int->Nat->Nat->List Dv):List PartG->Nat->List Nat->List Dk
 | [],_,_=>[(0,[])]
 | p :: ps,i,es =>
  if p.text.size≠0 then Y2 A ps (i+1) es
  else match es with
   | m :: es'=>Uj List.cons (A p.no i m) (Y2 A ps m es')
   | []=>[]
def SameM {α:Type} (l k:List (Int×α)):Prop:=l.length=k.length/\Yc l=Yc k
theorem SameM.refl {α:Type} (l:List (Int×α)):SameM l l:=⟨rfl,rfl⟩
theorem SameM.trans {α:Type} {a b c:List (Int×α)} (h:SameM a b) (k:SameM b c):SameM a c:=⟨h.1.trans k.1,h.2.trans k.2⟩
theorem SameM.symm {α:Type} {a b:List (Int×α)} (h:SameM a b):SameM b a:=⟨h.1.symm,h.2.symm⟩
theorem SameM.append {α:Type} {a b c d:List (Int×α)} (h:SameM a b) (k:SameM c d):SameM (a++c) (b++d):=⟨by simp[h.1,k.1],by rw[Z1,Z1,h.2,k.2]⟩
theorem SameM.prod {α β γ:Type} (f:α->β->γ) (a:List (Int×α)) {b c:List (Int×β)} (h:SameM b c):SameM (Uj f a b) (Uj f a c):=⟨by rw[Zw,Zw,h.1],by rw[V6,V6,h.2]⟩
theorem SameM.flatMap {α β:Type} {f g:β->List (Int×α)}:∀ {l:List β},(∀x∈l,SameM (f x) (g x))->SameM (l.flatMap f) (l.flatMap g)
 | [],_ => .refl _
 | x :: l,h=>by
  rw[List.flatMap_cons,List.flatMap_cons];exact(h x (List.mem_cons_self ..)).append (SameM.flatMap fun y hy=>h y (List.mem_cons_of_mem _ hy))
theorem SameM.map {α β:Type} (g:Int×α->Int×β) (c:Int) (hg:∀a,(g a).1=c+a.1) {a b:List (Int×α)} (h:SameM a b):SameM (a.map g) (b.map g):=⟨by simp[h.1],by rw[Xas g c hg,Xas g c hg,h.2]⟩
theorem Xbh {α β γ δ:Type} (f:α->β->γ) (a:List (Int×α)) (B:δ->List (Int×β)):∀l:List δ,SameM (l.flatMap fun e=>Uj f a (B e)) (Uj f a (l.flatMap B))
 | []=>by
  rw[List.flatMap_nil,List.flatMap_nil];have:Uj f a ([]:List (Int×β))=[]:=List.flatMap_eq_nil_iff.2 (fun _ _=>rfl);rw[this];exact .refl _
 | e :: l=>by
  rw[List.flatMap_cons,List.flatMap_cons];refine((SameM.refl _).append (Xbh f a B l)).trans ⟨?_,?_⟩
  ·rw[List.length_append,Zw,Zw,Zw,List.length_append,Nat.mul_add]
  ·rw[Z1,V6,V6,V6,Z1,Xjy]
theorem Xfi (st:Int->ByteArray->Bool) (A:Int->Nat->Nat->List Dv):∀(ps:List PartG) (i k:Nat),SameM ((Ya st ps i k).flatMap (Y2 A ps i)) (Yx st A ps i k)
 | [],i,k=>by
  unfold Ya Yx;split
  ·exact .refl _
  ·exact .refl _
 | p :: ps,i,k=>by
  by_cases hk:k<i+(ps.length+1)
  ·rw[Vv st A (p :: ps) i k (by rw[List.length_cons];omega)]
   unfold Ya;rw[if_pos hk];exact .refl _
  unfold Ya Yx;rw[if_neg hk];by_cases hp:p.text.size≠0
  ·rw[if_pos hp,if_pos hp]
   have e:∀es,Y2 A (p :: ps) i es=Y2 A ps (i+1) es:=fun es=>by simp only[Y2];rw[if_pos hp]
   by_cases hs:st i p.text=true
   ·rw[if_pos hs,if_pos ⟨by omega,hs⟩]
    have:=Xfi st A ps (i+1) k;rw[show (Ya st ps (i+1) k).flatMap (Y2 A (p :: ps) i)=(Ya st ps (i+1) k).flatMap (Y2 A ps (i+1)) from by congr 1;funext es;exact e es];exact this
   ·rw[if_neg hs,if_neg (fun h=>hs h.2)];exact .refl _
  ·rw[if_neg hp,if_neg hp]
   have e:∀m es,Y2 A (p :: ps) i (m :: es)=Uj List.cons (A p.no i m) (Y2 A ps m es):=fun m es=>by simp only[Y2];rw[if_neg hp]
   have h1:SameM (((List.range' (i+1) (k-ps.length-i)).flatMap fun m=>(Ya st ps m k).map (m :: ·)).flatMap (Y2 A (p :: ps) i)) ((List.range' (i+1) (k-ps.length-i)).flatMap fun m=>Uj List.cons (A p.no i m) (Yx st A ps m k)):=by
    rw[List.flatMap_assoc];refine SameM.flatMap fun m _=>?_;rw[List.flatMap_map];simp only[e];exact(Xbh List.cons (A p.no i m) (Y2 A ps m) (Ya st ps m k)).trans (SameM.prod _ _ (Xfi st A ps m k))
   refine h1.trans ?_
   have h2:List.range' (i+1) (k-i)=List.range' (i+1) (k-ps.length-i)++List.range' (k-ps.length+1) ps.length:=by
    rw[show k-ps.length+1=(i+1)+(k-ps.length-i) by omega];rw[List.range'_append_1];congr 1;omega
   rw[h2,List.flatMap_append]
   rw[show (List.range' (k-ps.length+1) ps.length).flatMap (fun m=>Uj List.cons (A p.no i m) (Yx st A ps m k))=[] from List.flatMap_eq_nil_iff.2 fun m hm=>by
    rw[List.mem_range'_1] at hm;rw[Vv st A ps m k (by omega)];exact List.flatMap_eq_nil_iff.2 (fun _ _=>rfl)]
   rw[List.append_nil];exact .refl _
/-! ### what is found, step by step -/
theorem SameM.of {α:Type} {m:Nat} {a b:List (Int×α)} (h:SameM a b):Fd.of m a=Fd.of m b:=by unfold Fd.of;rw[h.1,h.2]
theorem Xgh (c i k:Int) (x:ItemG):∀(j:Nat) (l:List ItemG),X3 c i k j (l++[x])=X3 c i k j l++(if x.cat=c/\x.frm=i/\x.unt=k then [(x.cost,Xc6 (j+l.length) i k)] else [])
 | j,[]=>by simp[X3]
 | j,y :: l=>by
  rw[List.cons_append,X3,X3,Xgh c i k x (j+1) l,List.append_assoc,List.length_cons];rw[show j+1+l.length=j+(l.length+1) by omega]
theorem Xb3 (st:Int->ByteArray->Bool) (A:Int->Nat->Nat->List Dv) (c:Int) (i k:Nat) (r:RuleG):∀(j:Nat) (l:List RuleG),Yd st A c i k j (l++[r])=Yd st A c i k j l++(if r.no=c then Xeo st A (j+l.length) r i k else [])
 | j,[]=>by simp[Yd]
 | j,y :: l=>by
  rw[List.cons_append,Yd,Yd,Xb3 st A c i k r (j+1) l,List.append_assoc,List.length_cons];rw[show j+1+l.length=j+(l.length+1) by omega]
def Qo (A:Int->Nat->Nat->List Dv) (j:Nat) (r:RuleG) (i k:Nat) (es:List Nat):List Dv:=(Y2 A r.parts.xs i es).map fun x=>(r.cost+x.1,.node j (-1) i k x.2)
theorem Xsl (st:Int->ByteArray->Bool) (A:Int->Nat->Nat->List Dv) (j:Nat) (r:RuleG) (i k:Nat):SameM ((Ya st r.parts.xs i k).flatMap (Qo A j r i k)) (Xeo st A j r i k):=by
 have h:=(Xfi st A r.parts.xs i k).map (fun x=>(r.cost+x.1,TreeV.node j (-1) i k x.2)) r.cost (fun _=>rfl);unfold Xeo;rw[List.map_flatMap] at h;exact h
def MidE (A:Int->Nat->Nat->List Dv) (ps:List PartG) (i:Nat) (es:List Nat) (p at_:Nat) (q:Nat) (C:Int) (kids:List TreeV) (e:Nat):Prop :=
 0<e/\(Y2 A ps i es).length=e*(Y2 A (ps.drop p) at_ (es.drop q)).length /\
  Yc (Y2 A ps i es)=(Yc (Y2 A (ps.drop p) at_ (es.drop q))).map fun x=>(C+x.1,kids++x.2)
theorem Xry (A:Int->Nat->Nat->List Dv) (ps:List PartG) (i:Nat) (es:List Nat):MidE A ps i es 0 i 0 0 [] 1:=by
 refine⟨by omega,by simp,?_⟩;rw[List.drop_zero,List.drop_zero];have:(fun x:Dk=>(0+x.1,[]++x.2))=id:=by funext x;simp
 rw[this,Option.map_id,id]
theorem Xsg (A:Int->Nat->Nat->List Dv) {p:PartG} (hp:p.text.size≠0) (ps:List PartG) (i:Nat) (es:List Nat):Y2 A (p :: ps) i es=Y2 A ps (i+1) es:=by simp only[Y2];rw[if_pos hp]
theorem Xlk (A:Int->Nat->Nat->List Dv) {p:PartG} (hp:p.text.size=0) (ps:List PartG) (i m:Nat) (es:List Nat):Y2 A (p :: ps) i (m :: es)=Uj List.cons (A p.no i m) (Y2 A ps m es):=by simp only[Y2];rw[if_neg (by simpa using hp)]
theorem Xwh {A:Int->Nat->Nat->List Dv} {ps:List PartG} {i:Nat} {es:List Nat} {p at_ q:Nat} {C:Int} {kids:List TreeV} {e:Nat} (h:MidE A ps i es p at_ q C kids e) (hl:p<ps.length) (ht:ps[p].text.size≠0):MidE A ps i es (p+1) (at_+1) q C kids e:=by
 obtain⟨h0,h1,h2⟩:=h;rw[List.drop_eq_getElem_cons hl,Xsg A ht] at h1 h2;exact⟨h0,h1,h2⟩
theorem Xz8 {A:Int->Nat->Nat->List Dv} {ps:List PartG} {i:Nat} {es:List Nat} {p at_ q:Nat} {C:Int} {kids:List TreeV} {e:Nat} (h:MidE A ps i es p at_ q C kids e) (hl:p<ps.length) (ht:ps[p].text.size=0) (hq:q<es.length) {c:Int} {t:TreeV} (hA:Yc (A ps[p].no at_ es[q])=some (c,t)) :
  MidE A ps i es (p+1) es[q] (q+1) (C+c) (kids++[t]) (e*(A ps[p].no at_ es[q]).length):=by
 obtain⟨h0,h1,h2⟩:=h;rw[List.drop_eq_getElem_cons hl,List.drop_eq_getElem_cons hq,Xlk A ht] at h1 h2
 have hpos:0<(A ps[p].no at_ es[q]).length:=by
  cases hn:A ps[p].no at_ es[q] with
  | nil=>rw[hn] at hA;cases hA
  | cons _ _=>simp
 refine⟨Nat.mul_pos h0 hpos,by rw[h1,Zw,Nat.mul_assoc],?_⟩;rw[h2,V6,hA];cases Yc (Y2 A (ps.drop (p+1)) es[q] (es.drop (q+1))) with
 | none=>rfl
 | some x=>simp[Xbo,Int.add_assoc]
theorem Xwg {A:Int->Nat->Nat->List Dv} {ps:List PartG} {i:Nat} {es:List Nat} {p at_ q:Nat} {C:Int} {kids:List TreeV} {e:Nat} (h:MidE A ps i es p at_ q C kids e) (hl:p<ps.length) (ht:ps[p].text.size=0) (hq:q<es.length) (hA:Yc (A ps[p].no at_ es[q])=none):Y2 A ps i es=[]:=by
 obtain⟨h0,h1,h2⟩:=h;rw[List.drop_eq_getElem_cons hl,List.drop_eq_getElem_cons hq,Xlk A ht,Zw,Xga hA] at h1
 simpa using h1
theorem Xz9 {A:Int->Nat->Nat->List Dv} {ps:List PartG} {i:Nat} {es:List Nat} {at_ q:Nat} {C:Int} {kids:List TreeV} {e:Nat} (h:MidE A ps i es ps.length at_ q C kids e):(Y2 A ps i es).length=e/\Yc (Y2 A ps i es)=some (C,kids):=by
 obtain⟨h0,h1,h2⟩:=h;rw[List.drop_length] at h1 h2;refine⟨by rw[h1];simp[Y2],by rw[h2];simp[Y2,Yc,Zd]⟩
def WayE:List PartG->Nat->Nat->List Nat->Prop
 | [],i,k,es=>i=k/\es=[]
 | p :: ps,i,k,es=>if p.text.size≠0 then i<k/\WayE ps (i+1) k es else ∃m es',es=m :: es'/\i<m/\m+ps.length<=k/\WayE ps m k es'
theorem Xfj (st:Int->ByteArray->Bool):∀(ps:List PartG) (i k:Nat) (es:List Nat),es∈Ya st ps i k->WayE ps i k es
 | [],i,k,es,h=>by
  unfold Ya at h;split at h
  ·rename_i e;simp at h;exact⟨e,h⟩
  ·cases h
 | p :: ps,i,k,es,h=>by
  unfold Ya at h;split at h
  ·cases h
  rename_i hk;unfold WayE;split at h
  ·rename_i ht
   rw[if_pos ht];split at h
   ·exact⟨by omega,Xfj st ps _ _ _ h⟩
   ·cases h
  ·rename_i ht
   rw[if_neg ht];obtain⟨m,hm,h⟩:=List.mem_flatMap.1 h;obtain⟨es',h',rfl⟩:=List.mem_map.1 h;rw[List.mem_range'_1] at hm;exact⟨m,es',rfl,by omega,by omega,Xfj st ps _ _ _ h'⟩
theorem Xp8:∀ {ps:List PartG} {i k:Nat} {es:List Nat},WayE ps i k es->i+ps.length<=k
 | [],i,k,es,h=>by have:=h.1;simp;omega
 | p :: ps,i,k,es,h=>by
  unfold WayE at h;rw[List.length_cons];split at h
  ·have:=Xp8 h.2;omega
  ·obtain⟨m,es',_,h1,h2,h3⟩:=h
   omega
theorem X1c {ps:List PartG} {i k:Nat} {es:List Nat} (_h:WayE ps i k es):∀(p at_ q:Nat),WayE (ps.drop p) at_ k (es.drop q)->i<=at_->p<=at_-i->∀(hl:p<ps.length),ps[p].text.size=0->∃hq:q<es.length,at_<es[q]/\es[q]<=k/\(es[q]-at_)+ps.length<=(k-i)+1/\WayE (ps.drop (p+1)) es[q] k (es.drop (q+1)):=by
 intro p at_ q hw hi hp hl ht;rw[List.drop_eq_getElem_cons hl] at hw;unfold WayE at hw;rw[if_neg (by simpa using ht)] at hw;obtain⟨m,es',he,h1,h2,h3⟩:=hw
 have hq:q<es.length:=by
  rcases Nat.lt_or_ge q es.length with h|h
  ·exact h
  ·rw[List.drop_eq_nil_of_le h] at he;cases he
 rw[List.drop_eq_getElem_cons hq] at he;injection he with e1 e2;rw[List.length_drop] at h2;exact⟨hq,by omega,by omega,by omega,by rw[e1,e2];exact h3⟩
def Xdf (w:World) (cb:Nat) (g:Gram) (its:SlS ItemG) (n:Int) (kb wb:Nat):Prop :=
 w.heap[cb]? = some (.cells #[.string g.name,.slice g.cats.addr g.cats.xs.length g.cats.cap,.string g.start,.int .i64 g.startNo,.slice g.entries.addr g.entries.xs.length g.entries.cap,.slice g.rules.addr g.rules.xs.length g.rules.cap,.slice its.addr its.xs.length its.cap,.int .i64 n,.map (some kb),.map (some wb)] 183 (0,0))
theorem X1x (l:List Dv) (c:Int) (t:TreeV):Fd.of bigN (l++[(c,t)])=Fd.add bigN (Fd.of bigN l) ⟨1,some (c,t)⟩:=Fd.of_append bigN l [(c,t)]
theorem Xk9 {X:Nat->Prop} {w:World} {f:FoundG} {l:List Dv} (h:FoundOk X w f (Fd.of bigN l)):0<=f.many/\f.many<=1099511627777:=by
 rw[h.many];have:=Xts bigN l.length;exact⟨Int.natCast_nonneg _,by show ((capN bigN l.length:Nat):Int)<=_;unfold bigN at *;omega⟩
theorem Zf {w:World} {fb:Nat} {cs:Array Value} {fr:Nat×Nat} (h:w.heap[fb]? = some (.cells cs 114 fr)):¬KidP w fb:=by
 rintro⟨cs',fr',h'⟩;rw[h] at h';have:=Option.some.inj h';injection this with _ e _;exact absurd e (by decide)
def X1l (X:Nat->Prop) (fb:Nat) (c i k:Int) (items:List ItemG) (w:World) (e:Ending) (w':World):Prop :=
 e = .returned (.tuple #[])/\∃f,w'.heap[fb]? = some f.ob/\FoundOk X w' f (Fd.of bigN (X3 c i k 0 items))/\Only (fun j=>j=fb) w w'
theorem Xpc (X:Nat->Prop) (cb fb:Nat) (g:Gram) (its:SlS ItemG) (n:Int) (kb wb:Nat) (c i k:Int) (w:World) (hc:Xdf w cb g its n kb wb) (_hit:ItemsAt w its) (hf:w.heap[fb]? = some (.cells #[.bool false,.int .i64 0,.int .i64 0,.int .i64 0,.int .i64 0,.int .i64 0,.slice none 0 0,.int .i64 0] 114 (0,0))) (hm:its.xs.length<=16384)
  (hit2:∀W,Only (fun j=>j=fb) w W->ItemsAt W its) :
  Calls Tryz.prog 126 #[.pointer (some ⟨cb,0,none⟩),.agg #[.int .i64 c,.int .i64 i,.int .i64 k],.pointer (some ⟨fb,0,none⟩)] w (X1l X fb c i k its.xs w):=by
 obtain⟨W1,hW1⟩:∃W1,w.alloc (.cells #[.int .i64 c,.int .i64 i,.int .i64 k] 119)=W1:=⟨_,rfl⟩
 have hB1:=X5 hW1;have hx1:=Yg hW1;have hc1:=Xi hB1 hc;have hf1:=Xi hB1 hf
 have hcf:cb≠fb:=by
  rintro rfl;unfold Xdf at hc;rw[hc] at hf;have:=Option.some.inj hf;injection this with _ e _;exact absurd e (by decide)
 have hlf:=Xd hf;have a6:=gblk hc1 6;have Hx:=Xa hx1;have Hf1:=Xa hf1;have HI:=Xa hit2;have hO1:Only (fun j=>j=fb) w W1:=.of_below hB1;have Ht:=Xa (fun (x:ItemG) (j:Nat)=>Xgh c i k x 0 (its.xs.take j));clear hc hf _hit hc1 hf1 hx1 hit2;go_enter Tryz.func126,Tryz.ntmps126
 go_wp2_with fail
 clear hW1;go_loopw [13] (fun iv wr=>∃(j:Nat) (f:FoundG),j<=its.xs.length/\iv = .int .i64 j/\Hid (wr.heap[fb]? = some f.ob)/\Hid (FoundOk X wr f (Fd.of bigN (X3 c i k 0 (its.xs.take j))))/\Only (fun j=>j=fb) W1 wr) (fun iv _=>its.xs.length-(intOf iv).toNat)
 case atStart=>exact⟨0,⟨false,0,0,0,0,0,⟨none,0,0⟩,0⟩,Nat.zero_le _,rfl,Hf1.out,FoundOk.zero _ _,Only.refl _ _⟩
 case round =>
  obtain⟨j,f,hj,rfl,hfr,hok,hO⟩:=hrel;by_cases hlt:j<its.xs.length
  ·have hOw:=hO1.trans hO
   obtain⟨bi,oi,hA,hbb,hcl⟩:=(HI.out wr hOw).lies.at_ ItemG.size_cells (by omega) hlt;have d0:wr.cell? ⟨bi,oi+j*6,none⟩=some (.int .i64 its.xs[j].cat):=hcl j hlt wr bo_q 0 _ rfl;have d1:wr.cell? ⟨bi,oi+j*6+1,none⟩=some (.int .i64 its.xs[j].frm):=hcl j hlt wr bo_q 1 _ rfl;have d2:wr.cell? ⟨bi,oi+j*6+2,none⟩=some (.int .i64 its.xs[j].unt):=hcl j hlt wr bo_q 2 _ rfl;have d3:wr.cell? ⟨bi,oi+j*6+3,none⟩=some (.int .i64 its.xs[j].cost):=hcl j hlt wr bo_q 3 _ rfl;have d4:wr.cell? ⟨bi,oi+j*6+4,none⟩=some (.slice its.xs[j].tgt.addr its.xs[j].tgt.xs.length its.xs[j].tgt.cap):=hcl j hlt wr bo_q 4 _ rfl;have d5:wr.cell? ⟨bi,oi+j*6+5,none⟩=some (.int .i64 its.xs[j].term):=hcl j hlt wr bo_q 5 _ rfl;have htk:its.xs.take (j+1)=its.xs.take j++[its.xs[j]]:=List.take_succ_eq_append_getElem hlt;have Hsn:=Xa (Ht.out its.xs[j] j);have Htk:=Xa htk;have hjl:(its.xs.take j).length=j:=(by rw[List.length_take];omega);have Hjl:=Xa hjl;rw[hA];clear hcl hA htk hjl;generalize its.xs[j]=x at *;obtain⟨w8,hw8⟩:∃w8,(wr.alloc (.cells #[.int .i64 (j:Int)] 3)).alloc x.ob=w8:=⟨_,rfl⟩
   have hb8:Below wr.heap.size wr w8:=(by rw[<- hw8];exact Xg ba_q _);have hj8:w8.heap[wr.heap.size]? = some (.cells #[.int .i64 (j:Int)] 3 (0,0)):=(by rw[<- hw8];exact(Below.heap_alloc _ _ _ (by simp)).trans (World.alloc_heap_new _ _));have hx8:w8.heap[wr.heap.size+1]? = some x.ob:=(by rw[<- hw8];exact Xo _ _ _ (by simp));have hgr:wr.heap[w.heap.size]? = some (.cells #[.int .i64 c,.int .i64 i,.int .i64 k] 119 (0,0)):=(hO.block _ (Xd Hx.out) (by show w.heap.size≠fb;omega)).trans Hx.out;have hg8:=Xi hb8 hgr;have hf8:=Xi hb8 hfr.out;obtain⟨e0,e1,e2,e3,e4,e5⟩:=gb6 hx8;obtain⟨q0,q1,q2⟩:=gb3 hg8;have hO8:Only (fun j=>j=fb) W1 w8:=hO.ext hb8;have hok8:Hid (FoundOk X w8 f (Fd.of bigN (X3 c i k 0 (its.xs.take j)))):=hok.out.keep fun t y h=>h.ext hb8;have hmr:=Xk9 hok.out
   have cT:=Xa (Xp0 fb f x.cost 1 179 #[.pointer (some ⟨wr.heap.size,0,none⟩),.pointer (some ⟨w.heap.size,0,none⟩)] ⟨-1,j,i,k,⟨none,0,0⟩⟩ w8 hf8 (enters_of Tryz.func179 (by kernel_rfl) rfl)
    (fun W hW=>Xz3 wr.heap.size w.heap.size j i k c W ((hW.block _ (Xd hj8) (by have:=Xd hfr.out;show wr.heap.size≠fb;omega)).trans hj8) ((hW.block _ (Xd hg8) (by show w.heap.size≠fb;omega)).trans hg8)) (IntWalk.i64_in _ (by omega)))
   have hnk:=Zf hf8;have Hf8:=Xa hf8;clear hf8 hx8 hj8 hg8 hgr hok hfr hmr;by_cases h1:x.cat=c
   ·have k1:(x.cat == c)=true:=by simp[h1]
    by_cases h2:x.frm=i
    ·have k2:(x.frm == i)=true:=by simp[h2]
     by_cases h3:x.unt=k
     ·have k3:(x.unt == k)=true:=by simp[h3]
      have hN:Hid (X3 c i k 0 (its.xs.take j++[x])=X3 c i k 0 (its.xs.take j)++[(x.cost,Xc6 j i k)]):=(by show _=_;rw[Hsn.out,if_pos ⟨h1,h2,h3⟩,Hjl.out,Nat.zero_add]);clear h1 h2 h3;go_wp2_with fail
      refine cT.out.mono ?_;rintro e w9 ⟨rfl,hf9,hO9⟩
      have hok9:Hid (FoundOk X w9 (Xgu f x.cost 1 ⟨-1,j,i,k,⟨none,0,0⟩⟩) (Fd.of bigN (X3 c i k 0 (its.xs.take j++[x])))):=by
       show FoundOk _ _ _ _;rw[hN.out,X1x];exact hok8.out.take (m:=1) (fun t y h=>h.only hO9 (fun b hb h=>by rw[show b=fb from hb] at h;exact hnk h.1)) (Xwa X w9 j i k)
      have hO10:=hO8.trans hO9;have Hf9:=Xa hf9;clear hf9 hO9 cT hok8;go_wp2_with fail
      go_roundw
      case rel=>exact⟨j+1,_,by omega,by go_num,Hf9.out,by rw[Htk.out];exact hok9,hO10⟩
      case measure=>simp[intOf];omega
     ·have k3:(x.unt == k)=false:=by simp[h3]
      have hN:Hid (X3 c i k 0 (its.xs.take j++[x])=X3 c i k 0 (its.xs.take j)):=(by show _=_;rw[Hsn.out,if_neg (fun h=>h3 h.2.2),List.append_nil]);clear h1 h2 h3 cT;go_wp2_with fail
      go_roundw
      case rel=>exact⟨j+1,f,by omega,by go_num,Hf8.out,by rw[Htk.out,hN.out];exact hok8,hO8⟩
      case measure=>simp[intOf];omega
    ·have k2:(x.frm == i)=false:=by simp[h2]
     have hN:Hid (X3 c i k 0 (its.xs.take j++[x])=X3 c i k 0 (its.xs.take j)):=(by show _=_;rw[Hsn.out,if_neg (fun h=>h2 h.2.1),List.append_nil]);clear h1 h2 cT;go_wp2_with fail
     go_roundw
     case rel=>exact⟨j+1,f,by omega,by go_num,Hf8.out,by rw[Htk.out,hN.out];exact hok8,hO8⟩
     case measure=>simp[intOf];omega
   ·have k1:(x.cat == c)=false:=by simp[h1]
    have hN:Hid (X3 c i k 0 (its.xs.take j++[x])=X3 c i k 0 (its.xs.take j)):=(by show _=_;rw[Hsn.out,if_neg (fun h=>h1 h.1),List.append_nil]);clear h1 cT;go_wp2_with fail
    go_roundw
    case rel=>exact⟨j+1,f,by omega,by go_num,Hf8.out,by rw[Htk.out,hN.out];exact hok8,hO8⟩
    case measure=>simp[intOf];omega
  ·have hjl:j=its.xs.length:=by omega
   subst hjl
   have HN:Hid (FoundOk X wr f (Fd.of bigN (X3 c i k 0 its.xs))):=by
    have h:=hok.out;rw[List.take_length] at h;exact h
   have hO2:=hO1.trans hO;go_wp2_with fail
   exact bodyPost_ret (results_none rfl _ _ _) rfl ⟨rfl,f,hfr.out,HN.out,hO2⟩
end Go.Proofs.YtolpbjjapodmnaaGreatDoor
