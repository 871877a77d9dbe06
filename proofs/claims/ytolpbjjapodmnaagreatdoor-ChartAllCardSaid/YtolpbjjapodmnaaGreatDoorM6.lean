/- Texts of this claim, one after the other: R26f, R26g, R26h, R26i. -/
import Derived.Test.YtolpbjjapodmnaaGreatDoorM5
namespace Go.Proofs.YtolpbjjapodmnaaGreatDoor
open Go.RowKit Go.Han
attribute [local irreducible] wpStill wpQuiet
attribute [-go_sem] run_slice_l
set_option maxRecDepth 100000
/-! ### plain -/
structure MidR (rs:List RuleG) (frm c:ByteArray) (out todo:List ByteArray) (i:Nat):Prop where
 at_:c=frm∨c∈out
 sound:∀x∈out,Leads (Y2 rs) frm x
 done:∀x∈todo,x=frm∨x∈out
 full:∀x,(x=frm∨x∈out)→x∉todo→x≠c→∀y,Y2 rs x y→y∈out
 here:∀(j:Nat) (r:RuleG),j<i→rs[j]? = some r→∀y,Z2 c y r=true→y∈out
theorem MidR.start {rs:List RuleG} {frm c:ByteArray} {out rest:List ByteArray} (h:ReachInv rs frm out (c :: rest)):MidR rs frm c out rest 0 :=
 ⟨h.done c (List.mem_cons_self ..),h.sound,fun x hx=>h.done x (List.mem_cons_of_mem _ hx),fun x hx hn hne=>h.full x hx (by simp[hne,hn]),fun j r hj=>by omega⟩
theorem MidR.last {rs:List RuleG} {frm c:ByteArray} {out rest:List ByteArray} (h:MidR rs frm c out rest rs.length):ReachInv rs frm out rest:=by
 refine⟨h.sound,h.done,fun x hx hn y hy=>?_⟩
 by_cases e:x=c
 ·subst e
  obtain⟨r,hr,hc⟩:=hy
  obtain⟨j,hj,rfl⟩:=List.getElem_of_mem hr
  exact h.here j _ hj (List.getElem?_eq_getElem hj) y hc
 ·exact h.full x hx hn e y hy
theorem Q0 {r:RuleG} {c y:ByteArray}:Z2 c y r=true↔Uo r=true∧r.cat=c∧∃p,r.parts.xs[0]? = some p∧p.cat=y:=by
 unfold Z2 Uo
 cases hp:r.parts.xs with
 | nil=>simp
 | cons p l =>
  cases l with
  | nil=>simp only[Bool.and_eq_true,decide_eq_true_eq,List.getElem?_cons_zero,Option.some.injEq,exists_eq_left'];constructor<;>(rintro⟨h1,h2⟩;simp_all)
  | cons q l=>simp
theorem MidR.skip {rs:List RuleG} {frm c:ByteArray} {out todo:List ByteArray} {i:Nat} (h:MidR rs frm c out todo i) {r:RuleG} (hr:rs[i]? = some r) (hn:∀y,Z2 c y r=true→y∈out):MidR rs frm c out todo (i+1):=by
 refine⟨h.at_,h.sound,h.done,h.full,fun j r' hj hr'=>?_⟩
 by_cases e:j<i
 ·exact h.here j r' e hr'
 ·obtain rfl:j=i:=by omega
  rw[hr] at hr';cases hr'
  exact hn
theorem MidR.push {rs:List RuleG} {frm c y:ByteArray} {out todo:List ByteArray} {i:Nat} (h:MidR rs frm c out todo i) {r:RuleG} (hr:rs[i]? = some r) (hc:Z2 c y r=true):MidR rs frm c (out++[y]) (todo++[y]) (i+1):=by
 have hmem:=List.mem_of_getElem? hr
 refine⟨h.at_.imp id (fun h=>List.mem_append_left _ h),fun x hx=>?_,fun x hx=>?_,fun x hx hn hne z hz=>?_,fun j r' hj hr' z hz=>?_⟩
 ·rcases List.mem_append.1 hx with hx|hx
  ·exact h.sound x hx
  ·rw[List.mem_singleton.1 hx]
   rcases h.at_ with e|e
   ·rw[← e];exact .one ⟨r,hmem,hc⟩
   ·exact(h.sound c e).snoc ⟨r,hmem,hc⟩
 ·rcases List.mem_append.1 hx with hx|hx
  ·exact(h.done x hx).imp id (fun h=>List.mem_append_left _ h)
  ·exact .inr (List.mem_append_right _ hx)
 ·rw[List.mem_append,not_or] at hn
  refine List.mem_append_left _ (h.full x (hx.imp id fun hx=>?_) hn.1 hne z hz)
  rcases List.mem_append.1 hx with hx|hx
  ·exact hx
  ·exact absurd hx hn.2
 ·by_cases e:j<i
  ·exact List.mem_append_left _ (h.here j r' e hr' z hz)
  ·obtain rfl:j=i:=by omega
   rw[hr] at hr';cases hr'
   obtain⟨_,_,p,hp,rfl⟩:=Q0.1 hz
   obtain⟨_,_,p',hp',rfl⟩:=Q0.1 hc
   rw[hp] at hp';cases hp'
   exact List.mem_append_right _ (List.mem_singleton.2 rfl)
def Xbn (rs:List RuleG):List ByteArray:=rs.filterMap fun r=>match r.parts.xs with|[p]=>some p.cat|_=>none
theorem Xkw (rs:List RuleG):(Xbn rs).length≤rs.length:=List.length_filterMap_le _ _
theorem Xkx {rs:List RuleG} {r:RuleG} (hr:r∈rs) {c y:ByteArray} (h:Z2 c y r=true):y∈Xbn rs:=by
 unfold Xbn
 rw[List.mem_filterMap]
 refine⟨r,hr,?_⟩
 unfold Z2 at h
 split at h
 ·rename_i p hp
  simp only[Bool.and_eq_true,decide_eq_true_eq] at h
  rw[hp];simp[h.2]
 ·cases h
def lenV:Value→Nat | .slice _ n _=>n|_=>0
theorem Xhf (x:ByteArray) (l:List ByteArray):strs (l++[x])=strs l++[.string x]:=by unfold strs;simp
theorem Yp (l:List ByteArray):(strs l).length=l.length:=by unfold strs;simp
/-! ### the walk -/
theorem Xg0:(Tryz.prog.info? 9).map (fun i=>(i.zero,i.size,i.bytes))=some (some (.string ⟨#[]⟩),1,16):=by kernel_rfl
def Xgk (g:Gram) (frm:ByteArray) (w:World) (e:Ending) (w':World):Prop:=∃s:StrS,e = .returned (.slice s.addr s.xs.length s.cap)∧s.lies w'∧(∀x,x∈s.xs↔Leads (Y2 g.rules.xs) frm x)∧Below w.heap.size w w'
theorem Xhb {w:World} {q:Nat} {v:Value} {l:List ByteArray} (h:QRow w q 9 v (strs l)):∃s:StrS,v = .slice s.addr s.xs.length s.cap∧s.xs=l∧s.lies w:=by
 obtain⟨A,c,rfl,h1,h2,h3,h4⟩:=h.form
 refine⟨⟨A,c,l⟩,by rw[Yp],rfl,⟨h3,by rw[Yp] at h1;exact h1,by simpa[maxLen] using h2,fun h=>?_⟩⟩
 have:=h4 h
 simpa[strs] using this
def OutR (W:World) (rs:List RuleG) (frm:ByteArray) (vo vt:Value) (wr:World):Prop :=
 ∃(qo qt:Nat) (out todo:List ByteArray),QRow wr qo 9 vo (strs out)∧QRow wr qt 9 vt (strs todo)∧qo≠qt∧W.heap.size≤qo∧W.heap.size≤qt∧ReachInv rs frm out todo∧out.Nodup∧(∀x∈out,x∈Xbn rs)∧todo.length≤out.length+1∧Below W.heap.size W wr
def InR (W:World) (rs:List RuleG) (frm c:ByteArray) (i m:Nat) (vo vt:Value) (wr:World):Prop :=
 ∃(qo qt:Nat) (out todo:List ByteArray),QRow wr qo 9 vo (strs out)∧QRow wr qt 9 vt (strs todo)∧qo≠qt∧W.heap.size≤qo∧W.heap.size≤qt∧MidR rs frm c out todo i∧out.Nodup∧(∀x∈out,x∈Xbn rs)∧todo.length≤out.length∧todo.length+(128-out.length)=m∧Below W.heap.size W wr
theorem Xqi {rs:List RuleG} {out:List ByteArray} (h1:out.Nodup) (h2:∀x∈out,x∈Xbn rs):out.length≤rs.length:=Nat.le_trans (h1.length_le_of_subset h2) (Xkw rs)
set_option maxHeartbeats 4000000 in
theorem Xjn (g:Gram) (frm:ByteArray) (w:World) (hg:g.lies w) (hr:g.rules.xs.length≤128):Calls Tryz.prog 215 #[.agg #[.string g.name,.slice g.cats.addr g.cats.xs.length g.cats.cap,.string g.start,.int .i64 g.startNo,.slice g.entries.addr g.entries.xs.length g.entries.cap,.slice g.rules.addr g.rules.xs.length g.rules.cap],.string frm] w (Xgk g frm w):=by
 obtain⟨W1,hW1⟩:∃W1,w.alloc (.cells #[.string g.name,.slice g.cats.addr g.cats.xs.length g.cats.cap,.string g.start,.int .i64 g.startNo,.slice g.entries.addr g.entries.xs.length g.entries.cap,.slice g.rules.addr g.rules.xs.length g.rules.cap] 26)=W1:=⟨_,rfl⟩
 have hB1:Below w.heap.size w W1:=by subst hW1;exact Xe (Below.refl _ _) _
 have hk:W1.heap[w.heap.size]? = some (.cells #[.string g.name,.slice g.cats.addr g.cats.xs.length g.cats.cap,.string g.start,.int .i64 g.startNo,.slice g.entries.addr g.entries.xs.length g.entries.cap,.slice g.rules.addr g.rules.xs.length g.rules.cap] 26 (0,0)):=by subst hW1;exact World.alloc_heap_new _ _
 obtain⟨W2,hW2⟩:∃W2,W1.alloc (.cells #[] 9)=W2:=⟨_,rfl⟩
 obtain⟨W3,hW3⟩:∃W3,W2.alloc (.cells #[.string frm] 9)=W3:=⟨_,rfl⟩
 have hb2:Below W1.heap.size W1 W2:=by subst hW2;exact Xe (Below.refl _ _) _
 have hb3:Below W2.heap.size W2 W3:=by subst hW3;exact Xe (Below.refl _ _) _
 have z2:W2.heap.size=W1.heap.size+1:=by subst hW2;simp
 have hq2:W2.heap[W1.heap.size]? = some (.cells #[] 9 (0,0)):=by subst hW2;exact World.alloc_heap_new _ _
 have hq3:W3.heap[W2.heap.size]? = some (.cells #[.string frm] 9 (0,0)):=by subst hW3;exact World.alloc_heap_new _ _
 have H0:Hid (OutR W1 g.rules.xs frm (.slice (some ⟨W1.heap.size,0,none⟩) 0 0) (.slice (some ⟨W2.heap.size,0,none⟩) 1 1) W3):=by
  refine⟨W1.heap.size,W2.heap.size,[],[frm],?_,?_,by omega,Nat.le_refl _,by omega,⟨by simp,by simp,fun x hx hn=>?_⟩,List.nodup_nil,by simp,by simp,Xb hb2 hb3⟩
  ·exact QRow.of_new (cur:=#[]) (Xh hb3 hq2) (by simp)
  ·exact QRow.of_new (cur:=#[.string frm]) hq3 (by simp[maxLen])
  ·simp at hx hn;exact absurd hx hn
 have HG:=Xa (hg.ext hB1)
 have Hk:=Xa hk
 have HB1:=Xa hB1
 have hm:g.rules.xs.length≤9223372036854775807:=by omega
 obtain⟨i0,hi0⟩:∃i,Tryz.prog.info? 9=some i:=by
  have h:=Xg0
  cases h':Tryz.prog.info? 9 with
  | none=>rw[h'] at h;cases h
  | some i=>exact⟨i,rfl⟩
 have hii:=Xg0
 rw[hi0] at hii
 simp only[Option.map_some,Option.some.injEq,Prod.mk.injEq] at hii
 obtain⟨iz0,is0,ib0⟩:=hii
 clear hg hk hb2 hb3 z2 hq2 hq3 hB1
 go_enter Tryz.func215,Tryz.ntmps215
 go_wp2_with fail
 clear hW1 hW2 hW3
 have h0:=H0.out
 clear H0
 go_loopw [5,6] (fun vo vt wr=>OutR W1 g.rules.xs frm vo vt wr) (fun vo vt _=>lenV vt+(128-lenV vo))
 case atStart=>exact h0
 case round =>
  clear h0
  obtain⟨qo,qt,out,todo,ho,ht,hne,hqo,hqt,hR,hnd,hsub,hle,hB⟩:=hrel
  obtain⟨Ao,co,rfl,fo1,fo2,fo3,fo4⟩:=ho.form
  obtain⟨At,ct,rfl,ft1,ft2,ft3,ft4⟩:=ht.form
  simp only[Yp] at *
  cases todo with
  | nil =>
   obtain⟨s,hs1,hs2,hs3⟩:=Xhb ho
   have hfin:Hid (Xgk g frm w (.returned (.slice Ao out.length co)) wr):=by
    refine⟨s,?_,hs3,fun x=>?_,Xb HB1.out hB⟩
    ·rw[← hs1]
    ·rw[hs2];exact hR.last x
   clear ho ht hR fo3 fo4 ft3 ft4 hs1 hs2 hs3 hsub hnd
   go_wp2_with fail
   go_ret
   exact hfin.out
  | cons c rest =>
   obtain⟨off,rfl,hcell⟩:=ht.head
   have htail:=ht.tail
   have hsl:∀W:World,(Instr.slice 22 (.slice (some ⟨qt,off,none⟩) (c :: rest).length ct) (some (.int .i64 1)) none none).run Tryz.prog W = .ok (sliced (some ⟨qt,off,none⟩) 1 (c :: rest).length ct 1) W:=fun W=>by
    have e:=run_slice_l (P:=Tryz.prog) (w:=W) 22 (some ⟨qt,off,none⟩) (c :: rest).length ct (by rw[Tryz.underlying22];rfl) .i64 (1:Int) (by omega) (by simp;omega)
    rw[e]
    have h3:(Go.sizeOf (Tryz.prog.elem 22)).run Tryz.prog W = .ok 1 W:=by kernel_rfl
    rw[h3]
    rfl
   obtain⟨vt',hvt'⟩:∃v,sliced (some ⟨qt,off,none⟩) 1 (c :: rest).length ct 1=v:=⟨_,rfl⟩
   rw[hvt'] at htail
   simp only[hvt'] at hsl
   have HI:Hid (InR W1 g.rules.xs frm c 0 (rest.length+(128-out.length)) (.slice Ao out.length co) vt' wr) :=
    ⟨qo,qt,out,rest,by rw[← Yp out] at ho ⊢;exact ho,htail,hne,hqo,hqt,MidR.start hR,hnd,hsub,by simp at hle;omega,rfl,hB⟩
   have Hlo:Hid (out.length≤128):=Nat.le_trans (Xqi hnd hsub) hr
   have q1:0<(c :: rest).length:=by rw[List.length_cons];omega
   have q2:decide (0<(c :: rest).length)=true:=decide_eq_true q1
   have Hn:Hid ((c :: rest).length=rest.length+1):=rfl
   generalize (c :: rest).length=n at *
   have cl0:wr.cell? ⟨qt,off,none⟩=some (.string c):=hcell
   clear ho ht hR fo3 fo4 ft3 ft4 hsub hnd htail hvt' hcell hle
   have hkB:=Xh hB Hk.out
   have a5:wr.cell? ⟨w.heap.size,5,none⟩=some (.slice g.rules.addr g.rules.xs.length g.rules.cap):=gblk hkB 5
   go_wp2_with fail
   clear cl0 hsl q1 q2 a5 hkB hB hne hqo hqt
   obtain⟨m0,hm0⟩:∃m,m=rest.length+(128-out.length):=⟨_,rfl⟩
   obtain⟨wz,hwz⟩:∃wz,wz=wr:=⟨_,rfl⟩
   rw[← hm0] at HI
   have Hm0:=Xa hm0
   clear hm0
   go_loopw [5,6,8] (fun vo vt i wr=>∃k:Nat,k≤g.rules.xs.length∧i = .int .i64 k∧InR W1 g.rules.xs frm c k m0 vo vt wr) (fun _ _ i _=>g.rules.xs.length-(intOf i).toNat)
   case atStart=>exact⟨0,Nat.zero_le _,rfl,HI.out⟩
   case round =>
    clear HI hwz wz
    obtain⟨k,hk,rfl,qo,qt,out,todo,ho,ht,hne,hqo,hqt,hM,hnd,hsub,hle,hmm,hB⟩:=hrel
    rename World=>wr
    obtain⟨Ao,co,rfl,fo1,fo2,fo3,fo4⟩:=ho.form
    obtain⟨At,ct,rfl,ft1,ft2,ft3,ft4⟩:=ht.form
    simp only[Yp] at *
    have hkB:=Xh hB Hk.out
    have a5:wr.cell? ⟨w.heap.size,5,none⟩=some (.slice g.rules.addr g.rules.xs.length g.rules.cap):=gblk hkB 5
    by_cases hlt:k<g.rules.xs.length
    ·obtain⟨b,off,hA,hb,hc⟩:=HG.out.rules.at_ RuleG.size_cells (by omega) hlt
     have d0:wr.cell? ⟨b,off+k*5,none⟩=some (.string g.rules.xs[k].cat):=hc k hlt wr hB 0 _ rfl
     have d1:wr.cell? ⟨b,off+k*5+1,none⟩=some (.int .i64 g.rules.xs[k].no):=hc k hlt wr hB 1 _ rfl
     have d2:wr.cell? ⟨b,off+k*5+2,none⟩=some (.slice g.rules.xs[k].parts.addr g.rules.xs[k].parts.xs.length g.rules.xs[k].parts.cap):=hc k hlt wr hB 2 _ rfl
     have d3:wr.cell? ⟨b,off+k*5+3,none⟩=some (.slice g.rules.xs[k].gives.addr g.rules.xs[k].gives.xs.length g.rules.xs[k].gives.cap):=hc k hlt wr hB 3 _ rfl
     have d4:wr.cell? ⟨b,off+k*5+4,none⟩=some (.int .i64 g.rules.xs[k].cost):=hc k hlt wr hB 4 _ rfl
     rw[hA] at a5 ⊢
     have hget:g.rules.xs[k]? = some g.rules.xs[k]:=List.getElem?_eq_getElem hlt
     have hrl:=(HG.out.rule _ (List.getElem_mem hlt))
     have Hskip:=Xa (fun h=>hM.skip hget h)
     have Hpush:=Xa (fun y h=>hM.push (y:=y) hget h)
     have Hhead:=Xa (fun y h=>Xkx (List.getElem_mem hlt) (c:=c) (y:=y) h)
     have hG:=fun y=>Q0 (r:=g.rules.xs[k]) (c:=c) (y:=y)
     have HGc:=Xa hG
     clear hc hA hget hG
     generalize g.rules.xs[k]=r at *
     obtain⟨W2,hW2⟩:∃W2,wr.alloc (.cells #[.string r.cat,.int .i64 r.no,.slice r.parts.addr r.parts.xs.length r.parts.cap,.slice r.gives.addr r.gives.xs.length r.gives.cap,.int .i64 r.cost] 79)=W2:=⟨_,rfl⟩
     have hb2:Below wr.heap.size wr W2:=by subst hW2;exact Xe (Below.refl _ _) _
     have hk2:W2.heap[wr.heap.size]? = some (.cells #[.string r.cat,.int .i64 r.no,.slice r.parts.addr r.parts.xs.length r.parts.cap,.slice r.gives.addr r.gives.xs.length r.gives.cap,.int .i64 r.cost] 79 (0,0)):=by subst hW2;exact World.alloc_heap_new _ _
     have hB2:=Xb hB hb2
     have cC:=Xa (Xij r W2 (hrl.ext hB2))
     have ho2:=ho.block (hb2.block _ ho.lt)
     have ht2:=ht.block (hb2.block _ ht.lt)
     have lo:=ho.lt
     have lt_:=ht.lt
     have hstay:∀V,Below W2.heap.size W2 V→MidR g.rules.xs frm c out todo (k+1)→InR W1 g.rules.xs frm c (k+1) m0 (.slice Ao out.length co) (.slice At todo.length ct) V:=fun V hV hM'=>by
      refine⟨qo,qt,out,todo,?_,?_,hne,hqo,hqt,hM',hnd,hsub,hle,hmm,Xb hB2 hV⟩
      ·exact ho2.block (hV.block _ ho2.lt)
      ·exact ht2.block (hV.block _ ht2.lt)
     have Hstay:=Xa hstay
     obtain⟨e0,e1,e2,e3,e4⟩:=gb5 hk2
     have Hk2:=Xa hk2
     have Ho2:=Xa ho2
     have Ht2:=Xa ht2
     have HB2:=Xa hB2
     have Hrl:=Xa hrl
     have Hnd:=Xa hnd
     have Hsub:=Xa hsub
     have Hmm:=Xa hmm
     have Hle:=Xa hle
     have Hhz:Hid (wr.heap.size<W2.heap.size∧qo<wr.heap.size∧qt<wr.heap.size):=⟨Xc hk2,lo,lt_⟩
     clear ho ht fo3 fo4 ft3 ft4 hM hnd hsub hle hmm hB hb2 hk2 hB2 hrl ho2 ht2 hstay hkB lo lt_ fo1 fo2 ft1 ft2
     go_wp2_with fail
     clear hW2 d0 d1 d2 d3 d4 a5
     refine cC.out.mono ?_
     rintro ee w3 ⟨rfl,hb3⟩
     have hk3:=Xh hb3 Hk2.out
     clear e0 e1 e2 e3 e4 cC
     obtain⟨e0,e1,e2,e3,e4⟩:=gb5 hk3
     cases hcg:Uo r
     ·have HI:=Xa (Hstay.out w3 hb3 (Hskip.out fun y h=>by have:=(HGc.out y).1 h;rw[hcg] at this;cases this.1))
      clear hcg Hskip Hpush
      go_wp2_with fail
      go_roundw
      case rel=>exact⟨k+1,by omega,by go_num,HI.out⟩
      case measure=>simp[intOf];omega
     ·have hp:∃p,r.parts.xs=[p]∧p.text.size=0:=by
       unfold Uo at hcg
       split at hcg
       ·rename_i p hp;exact⟨p,hp,of_decide_eq_true hcg⟩
       ·cases hcg
      obtain⟨p,hp,_⟩:=hp
      obtain⟨b',off',hA',hb',hc'⟩:=Hrl.out.1.at_ PartG.size_cells (by omega) (k:=0) (by rw[hp];simp)
      have f0:=hc' 0 (by rw[hp];simp) w3 (Xb HB2.out hb3) 0 _ rfl
      have h00:r.parts.xs[0]'(by rw[hp];simp)=p:=by simp[hp]
      rw[h00] at f0
      have Hf0:Hid (∀V,Below W1.heap.size W1 V→V.cell? ⟨b',off',none⟩=some (.string p.cat)):=fun V hV=>by
       have:=hc' 0 (by rw[hp];simp) V hV 0 _ rfl
       rw[h00] at this
       simpa using this
      have f0:=Hf0.out w3 (Xb HB2.out hb3)
      have hl1:r.parts.xs.length=1:=by rw[hp];rfl
      have HGp:Hid (∀y,Z2 c y r=true↔r.cat=c∧p.cat=y):=fun y=>by rw[HGc.out y,hcg,hp];simp
      have HA':=Xa hA'
      have Hl1:=Xa hl1
      rw[hA',hl1] at e2
      clear hp hcg hc' h00 HGc
      by_cases hcat:r.cat=c
      ·have g1:(r.cat.toList == c.toList)=true:=by simp[hcat]
       have cI:=Xa (Zb ⟨Ao,co,out⟩ p.cat w3 (by
        obtain⟨s,hs1,hs2,hs3⟩:=Xhb (Ho2.out.block (hb3.block _ Ho2.out.lt))
        cases s with
        | mk a c2 l=>cases hs2;simp only[Value.slice.injEq] at hs1;obtain⟨rfl,_,rfl⟩:=hs1;exact hs3))
       change Hid (Calls _ _ #[.slice Ao out.length co,_] _ _) at cI
       by_cases hidx:0≤idxF p.cat out
       ·have HI:=Xa (Hstay.out w3 hb3 (Hskip.out fun y h=>by
         obtain⟨_,rfl⟩:=(HGp.out y).1 h
         exact(Vo _ _).1 hidx))
        have g2:¬idxF p.cat out<0:=by omega
        change Hid (Calls _ _ _ _ fun e w'=>e = .returned (.int .i64 (idxF p.cat out))∧w3=w') at cI
        generalize idxF p.cat out=nI at *
        clear hidx hcat Hskip Hpush hA' hl1
        go_wp2_with fail
        refine cI.out.mono ?_
        rintro ee w4 ⟨rfl,rfl⟩
        go_wp2_with fail
        go_roundw
        case rel=>exact⟨k+1,by omega,by go_num,HI.out⟩
        case measure=>simp[intOf];omega
       ·have hn:p.cat∉out:=fun h=>hidx ((Vo _ _).2 h)
        have hch:=(HGp.out p.cat).2 ⟨hcat,rfl⟩
        have hnd2:(out++[p.cat]).Nodup:=by
         rw[List.nodup_append]
         exact⟨Hnd.out,by simp,fun a ha b hb=>by rw[List.mem_singleton.1 hb];rintro rfl;exact hn ha⟩
        have hsub2:∀x∈out++[p.cat],x∈Xbn g.rules.xs:=fun x hx=>by
         rcases List.mem_append.1 hx with h|h
         ·exact Hsub.out x h
         ·rw[List.mem_singleton.1 h];exact Hhead.out _ hch
        have hl2:=Xqi hnd2 hsub2
        have hlo:(out++[p.cat]).length=out.length+1:=by simp
        have hlt2:(todo++[p.cat]).length=todo.length+1:=by simp
        have hM2:=Hpush.out p.cat hch
        have HI2:Hid (∀V q1 q2 v1 v2,QRow V q1 9 v1 (strs (out++[p.cat]))→QRow V q2 9 v2 (strs (todo++[p.cat]))→q1≠q2→W1.heap.size≤q1→W1.heap.size≤q2→Below W1.heap.size W1 V→InR W1 g.rules.xs frm c (k+1) m0 v1 v2 V):=fun V q1 q2 v1 v2 h1 h2 h3 h4 h5 h6 =>
         ⟨q1,q2,_,_,h1,h2,h3,h4,h5,hM2,hnd2,hsub2,by have:=Hle.out;omega,by have:=Hmm.out;omega,h6⟩
        have A1:(strs out).length+1≤maxLen:=by rw[Yp];simp only[maxLen];omega
        have A2:((strs out).length+1)*16≤140737488355328:=by rw[Yp];omega
        have A3:(strs todo).length+1≤maxLen:=by rw[Yp];simp only[maxLen];have:=Hle.out;omega
        have A4:((strs todo).length+1)*16≤140737488355328:=by rw[Yp];have:=Hle.out;omega
        have g2:idxF p.cat out<0:=by omega
        change Hid (Calls _ _ _ _ fun e w'=>e = .returned (.int .i64 (idxF p.cat out))∧w3=w') at cI
        have ho3:=Ho2.out.block (hb3.block _ Ho2.out.lt)
        have Ho3:=Xa ho3
        have Ht3:=Xa (Ht2.out.block (hb3.block _ Ht2.out.lt))
        have HB3:=Xa (Xb HB2.out hb3)
        have Hk3:=Xa hk3
        have Hz3:Hid (w3.heap.size≥W2.heap.size):=hb3.size
        have hv:Value.slice Ao out.length co=Value.slice Ao (strs out).length co:=by rw[Yp]
        have hv2:Value.slice At todo.length ct=Value.slice At (strs todo).length ct:=by rw[Yp]
        generalize idxF p.cat out=nI at *
        clear hidx hcat Hskip Hpush hA' hl1 hn hch hnd2 hsub2 hl2 hlo hlt2 hM2 hb3 hk3 Hstay ho3 hv hv2
        go_wp2_with fail
        refine cI.out.mono ?_
        rintro ee w4 ⟨rfl,rfl⟩
        clear cI
        obtain⟨V1,hV1⟩:∃V1,w3.alloc (.cells #[.string p.cat] 9)=V1:=⟨_,rfl⟩
        have hbV:Below w3.heap.size w3 V1:=by subst hV1;exact Xe (Below.refl _ _) _
        have hkV:V1.heap[w3.heap.size]? = some (.cells #[.string p.cat] 9 (0,0)):=by subst hV1;exact World.alloc_heap_new _ _
        have hcV:V1.cell? ((⟨w3.heap.size,0,none⟩:Addr).add 0)=some (.string p.cat):=World.news_of_block hkV 0 _ rfl
        have hoV:=Ho3.out.block (hbV.block _ Ho3.out.lt)
        have HN:Hid (∀w5 q5,(q5=qo∨q5=V1.heap.size)→QStep qo V1 w5→(∀j,w5.cell? ⟨wr.heap.size,j,none⟩=V1.cell? ⟨wr.heap.size,j,none⟩)∧w5.cell? ⟨b',off',none⟩=some (.string p.cat)∧QRow w5 qt 9 (.slice At todo.length ct) (strs todo)∧Below W1.heap.size W1 w5∧q5≠qt∧W1.heap.size≤q5):=by
         intro w5 q5 hq hst
         have hz:=Hhz.out
         have hz3:=Hz3.out
         have hzV:=hbV.size
         have h1:=Ht3.out.block (hbV.block _ Ht3.out.lt)
         have hB5:=hst.below (Xb HB3.out hbV) hqo
         refine⟨fun j=>?_,Hf0.out w5 hB5,h1.block (hst.block _ h1.lt (fun e=>hne e.symm)),hB5,?_,?_⟩
         ·unfold World.cell?
          rw[hst.block wr.heap.size (by omega) (by omega)]
         ·rcases hq with rfl|rfl
          ·exact hne
          ·have:=h1.lt;omega
         ·rcases hq with rfl|rfl
          ·exact hqo
          ·have:=HB3.out.size;omega
        have e2V:V1.cell? ⟨wr.heap.size,2,none⟩=some (.slice (some ⟨b',off',none⟩) 1 r.parts.cap):=(hbV.cell (p:=⟨wr.heap.size,2,none⟩) (by have:=Hhz.out;have:=Hz3.out;show wr.heap.size<_;omega)).trans e2
        have He2V:=Xa e2V
        have HcV:=Xa hcV
        have HoV:=Xa hoV
        have HbV:=Xa hbV
        clear hbV hkV hcV hoV e2V
        go_wp2_with (first|(at_builtin;have hmark:=HN5;refine Xd2 rfl _ _ 22 rfl 9 i0 _ 16 Tryz.underlying22 hi0 iz0 is0 ib0 rfl qt _ (strs todo) rfl (HN5.out.2.2.1.block (Below.heap_alloc _ _ _ HN5.out.2.2.1.lt)) ⟨w5.heap.size,0,none⟩ 1 (.string p.cat) rfl (World.news_of_block (World.alloc_heap_new w5 _) 0 _ rfl) rfl A3 A4 ?_;intro v7 w7 q7 hq7 hq7' hst7;have HX:=Xa (And.intro hq7 (And.intro hq7' hst7));clear hmark hq7 hq7' hst7)|(at_builtin;refine Xd2 rfl _ _ 22 rfl 9 i0 _ 16 Tryz.underlying22 hi0 iz0 is0 ib0 rfl qo _ (strs out) rfl HoV.out ⟨w3.heap.size,0,none⟩ 1 (.string p.cat) rfl HcV.out rfl A1 A2 ?_;intro v5 w5 q5 hq5 hq5' hst5;have hN:=HN.out w5 q5 hq5' hst5;have x2:=(hN.1 2).trans He2V.out;have x0:=hN.2.1;have HN5:=Xa hN;have Hq5:=Xa hq5;clear hq5 hq5' hst5 hN HN HoV HcV He2V HbV e0 e1 e2 e3 e4 f0))
        have HF:Hid (InR W1 g.rules.xs frm c (k+1) m0 v5 v7 w7):=by
         obtain⟨h7,h7',hst7⟩:=HX.out
         obtain⟨_,_,ht5,hB5,hne5,hz5⟩:=HN5.out
         have hb6:Below w5.heap.size w5 (w5.alloc (.cells #[.string p.cat] 9)):=Xe (Below.refl _ _) _
         have h5:=Hq5.out.block (hb6.block _ Hq5.out.lt)
         refine HI2.out w7 q5 q7 v5 v7 ?_ ?_ ?_ hz5 ?_ (hst7.below (Xb hB5 hb6) hqt)
         ·rw[Xhf]
          exact h5.block (hst7.block _ h5.lt hne5)
         ·rw[Xhf];exact h7
         ·rcases h7' with rfl|rfl
          ·exact hne5
          ·have:=h5.lt;omega
         ·rcases h7' with rfl|rfl
          ·exact hqt
          ·have:=hB5.size;simp;omega
        clear HX HN5 Hq5 HI2
        go_wp2_with fail
        go_roundw
        case rel=>exact⟨k+1,by omega,by go_num,HF.out⟩
        case measure=>simp[intOf];omega
      ·have g1:(r.cat.toList == c.toList)=false:=by simpa using fun h=>hcat (Xcm h)
       have HI:=Xa (Hstay.out w3 hb3 (Hskip.out fun y h=>absurd ((HGp.out y).1 h).1 hcat))
       clear hcat Hskip Hpush hA' hl1
       go_wp2_with fail
       go_roundw
       case rel=>exact⟨k+1,by omega,by go_num,HI.out⟩
       case measure=>simp[intOf];omega
    ·obtain rfl:k=g.rules.xs.length:=by omega
     have HO:Hid (OutR W1 g.rules.xs frm (.slice Ao out.length co) (.slice At todo.length ct) wr):=⟨qo,qt,out,todo,ho,ht,hne,hqo,hqt,hM.last,hnd,hsub,by omega,hB⟩
     clear ho ht hM hnd hsub fo3 fo4 ft3 ft4 hkB hB
     go_wp2_with fail
     go_roundw
     case rel=>exact HO.out
     case measure=>have h1:=Hm0.out;have h2:=Hn.out;have h3:=Hlo.out;simp[lenV];omega
end Go.Proofs.YtolpbjjapodmnaaGreatDoor
namespace Go.Proofs.YtolpbjjapodmnaaGreatDoor
open Go.RowKit Go.Han
attribute [local irreducible] wpStill wpQuiet
set_option maxRecDepth 100000
deriving instance DecidableEq for PartG
deriving instance DecidableEq for GiveG
theorem Tl (x y:ByteArray):(x.toList == y.toList)=decide (x=y):=by
 by_cases h:x=y
 ·subst h;simp
 ·rw[decide_eq_false h];simpa using fun e=>h (Xcm e)
theorem Xrt (x y:ByteArray):(x.toList != y.toList) = !decide (x=y):=by unfold bne;rw[Tl]
theorem Z8 (x y:Int):(x == y)=decide (x=y):=by
 by_cases h:x=y
 ·subst h;simp
 ·rw[decide_eq_false h];simpa using h
theorem Xb9 (x y:Int):(x != y) = !decide (x=y):=by unfold bne;rw[Z8]
theorem T0 (a a':ByteArray) (n n':Int) (s s':ByteArray) (w:World):(Op.equalIn 10000 81 (.agg #[.string a,.int .i64 n,.string s]) (.agg #[.string a',.int .i64 n',.string s'])).run Tryz.prog w = .ok (decide ((⟨a,n,s⟩:PartG)=⟨a',n',s'⟩)) w:=by
 have hb:decide ((⟨a,n,s⟩:PartG)=⟨a',n',s'⟩)=((a.toList == a'.toList) && ((n == n') && (s.toList == s'.toList))):=by
  rw[Tl,Tl,Z8,← Bool.decide_and,← Bool.decide_and]
  exact decide_eq_decide.2 (by simp)
 rw[hb]
 by_cases e1:a.toList=a'.toList
 ·by_cases e2:n=n'
  ·by_cases e3:s.toList=s'.toList
   ·simp[go_sem,e1,e2,e3]
   ·simp[go_sem,e1,e2,e3]
  ·simp[go_sem,e1,e2]
 ·simp[go_sem,e1]
theorem Xdf (n n':Int) (s s':ByteArray) (w:World):(Op.equalIn 10000 176 (.agg #[.int .i64 n,.string s]) (.agg #[.int .i64 n',.string s'])).run Tryz.prog w = .ok (decide ((⟨n,s⟩:GiveG)=⟨n',s'⟩)) w:=by
 have hb:decide ((⟨n,s⟩:GiveG)=⟨n',s'⟩)=((n == n') && (s.toList == s'.toList)):=by
  rw[Tl,Z8,← Bool.decide_and]
  exact decide_eq_decide.2 (by simp)
 rw[hb]
 by_cases e2:n=n'
 ·by_cases e3:s.toList=s'.toList
  ·simp[go_sem,e2,e3]
  ·simp[go_sem,e2,e3]
 ·simp[go_sem,e2]
def Vr (a b:EntryG):Bool:=decide (a.text=b.text) && decide (a.cat=b.cat) && decide (a.no=b.no) && decide (a.cost=b.cost) && decide (a.gives.xs=b.gives.xs)
set_option maxHeartbeats 1000000 in
theorem Xd5 (a b:EntryG) (w:World) (ha:a.lies w) (hb:b.lies w):Calls Tryz.prog 216 #[.agg #[.string a.text,.string a.cat,.int .i64 a.no,.slice a.gives.addr a.gives.xs.length a.gives.cap,.int .i64 a.cost],.agg #[.string b.text,.string b.cat,.int .i64 b.no,.slice b.gives.addr b.gives.xs.length b.gives.cap,.int .i64 b.cost]] w fun e w'=>e = .returned (.bool (Vr a b))∧Below w.heap.size w w':=by
 obtain⟨W1,hW1⟩:∃W1,(w.alloc (.cells #[.string a.text,.string a.cat,.int .i64 a.no,.slice a.gives.addr a.gives.xs.length a.gives.cap,.int .i64 a.cost] 60)).alloc (.cells #[.string b.text,.string b.cat,.int .i64 b.no,.slice b.gives.addr b.gives.xs.length b.gives.cap,.int .i64 b.cost] 60)=W1:=⟨_,rfl⟩
 have hB1:Below w.heap.size w W1:=by subst hW1;exact Xe (Xe (Below.refl _ _) _) _
 have hk:W1.heap[w.heap.size]? = some (.cells #[.string a.text,.string a.cat,.int .i64 a.no,.slice a.gives.addr a.gives.xs.length a.gives.cap,.int .i64 a.cost] 60 (0,0)):=by subst hW1;exact(Below.heap_alloc _ _ _ (by simp)).trans (World.alloc_heap_new _ _)
 have hk2:W1.heap[w.heap.size+1]? = some (.cells #[.string b.text,.string b.cat,.int .i64 b.no,.slice b.gives.addr b.gives.xs.length b.gives.cap,.int .i64 b.cost] 60 (0,0)):=by subst hW1;have:=World.alloc_heap_new (w.alloc (.cells #[.string a.text,.string a.cat,.int .i64 a.no,.slice a.gives.addr a.gives.xs.length a.gives.cap,.int .i64 a.cost] 60)) (.cells #[.string b.text,.string b.cat,.int .i64 b.no,.slice b.gives.addr b.gives.xs.length b.gives.cap,.int .i64 b.cost] 60);rwa [World.size_alloc] at this
 have cS:=Xa (Xag a.gives b.gives W1 (StrS.lies.ext ha hB1) (StrS.lies.ext hb hB1))
 have HE:Hid (Vr a b=(decide (a.text=b.text) && decide (a.cat=b.cat) && decide (a.no=b.no) && decide (a.cost=b.cost) && decide (a.gives.xs=b.gives.xs))):=rfl
 have q1:=Tl a.text b.text
 have q2:=Tl a.cat b.cat
 have q3:=Z8 a.no b.no
 have q4:=Z8 a.cost b.cost
 obtain⟨c0,c1,c2,c3,c4⟩:=gb5 hk
 obtain⟨d0,d1,d2,d3,d4⟩:=gb5 hk2
 clear ha hb hk hk2
 generalize decide (a.text=b.text)=f1 at *
 generalize decide (a.cat=b.cat)=f2 at *
 generalize decide (a.no=b.no)=f3 at *
 generalize decide (a.cost=b.cost)=f4 at *
 generalize decide (a.gives.xs=b.gives.xs)=f5 at *
 cases f1
 ·go_enter Tryz.func216,Tryz.ntmps216
  go_wp2_with fail
  go_ret
  exact⟨by rw[HE.out];rfl,hB1⟩
 cases f2
 ·go_enter Tryz.func216,Tryz.ntmps216
  go_wp2_with fail
  go_ret
  exact⟨by rw[HE.out];rfl,hB1⟩
 cases f3
 ·go_enter Tryz.func216,Tryz.ntmps216
  go_wp2_with fail
  go_ret
  exact⟨by rw[HE.out];rfl,hB1⟩
 cases f4
 ·go_enter Tryz.func216,Tryz.ntmps216
  go_wp2_with fail
  go_ret
  exact⟨by rw[HE.out];rfl,hB1⟩
 go_enter Tryz.func216,Tryz.ntmps216
 go_wp2_with fail
 refine cS.out.mono ?_
 rintro e w2 ⟨rfl,hb2⟩
 go_wp2_with fail
 go_ret
 exact⟨by rw[HE.out];rfl,Xb hB1 hb2⟩
def Y3 (a b:RuleG):Bool:=decide (a.cat=b.cat) && decide (a.no=b.no) && decide (a.cost=b.cost) && decide (a.parts.xs=b.parts.xs) && decide (a.gives.xs=b.gives.xs)
theorem Xdg {α:Type} {l l':List α} {k:Nat} (h:k<l.length) (h':k<l'.length) (ht:l.take k=l'.take k) (he:l[k]=l'[k]):l.take (k+1)=l'.take (k+1):=by
 rw[List.take_succ_eq_append_getElem h,List.take_succ_eq_append_getElem h',ht,he]
set_option maxHeartbeats 4000000 in
theorem Xft (a b:RuleG) (w:World) (ha:a.lies w) (hb:b.lies w):Calls Tryz.prog 217 #[.agg #[.string a.cat,.int .i64 a.no,.slice a.parts.addr a.parts.xs.length a.parts.cap,.slice a.gives.addr a.gives.xs.length a.gives.cap,.int .i64 a.cost],.agg #[.string b.cat,.int .i64 b.no,.slice b.parts.addr b.parts.xs.length b.parts.cap,.slice b.gives.addr b.gives.xs.length b.gives.cap,.int .i64 b.cost]] w fun e w'=>e = .returned (.bool (Y3 a b))∧Below w.heap.size w w':=by
 obtain⟨W1,hW1⟩:∃W1,(w.alloc (.cells #[.string a.cat,.int .i64 a.no,.slice a.parts.addr a.parts.xs.length a.parts.cap,.slice a.gives.addr a.gives.xs.length a.gives.cap,.int .i64 a.cost] 79)).alloc (.cells #[.string b.cat,.int .i64 b.no,.slice b.parts.addr b.parts.xs.length b.parts.cap,.slice b.gives.addr b.gives.xs.length b.gives.cap,.int .i64 b.cost] 79)=W1:=⟨_,rfl⟩
 have hB1:Below w.heap.size w W1:=by subst hW1;exact Xe (Xe (Below.refl _ _) _) _
 have hk:W1.heap[w.heap.size]? = some (.cells #[.string a.cat,.int .i64 a.no,.slice a.parts.addr a.parts.xs.length a.parts.cap,.slice a.gives.addr a.gives.xs.length a.gives.cap,.int .i64 a.cost] 79 (0,0)):=by subst hW1;exact(Below.heap_alloc _ _ _ (by simp)).trans (World.alloc_heap_new _ _)
 have hk2:W1.heap[w.heap.size+1]? = some (.cells #[.string b.cat,.int .i64 b.no,.slice b.parts.addr b.parts.xs.length b.parts.cap,.slice b.gives.addr b.gives.xs.length b.gives.cap,.int .i64 b.cost] 79 (0,0)):=by subst hW1;have:=World.alloc_heap_new (w.alloc (.cells #[.string a.cat,.int .i64 a.no,.slice a.parts.addr a.parts.xs.length a.parts.cap,.slice a.gives.addr a.gives.xs.length a.gives.cap,.int .i64 a.cost] 79)) (.cells #[.string b.cat,.int .i64 b.no,.slice b.parts.addr b.parts.xs.length b.parts.cap,.slice b.gives.addr b.gives.xs.length b.gives.cap,.int .i64 b.cost] 79);rwa [World.size_alloc] at this
 have HA:=Xa (RuleG.lies.ext ha hB1)
 have HB:=Xa (RuleG.lies.ext hb hB1)
 have hm1:a.parts.xs.length≤9223372036854775807:=Nat.le_trans ha.1.cap ha.1.max
 have hm2:a.gives.xs.length≤9223372036854775807:=Nat.le_trans ha.2.cap ha.2.max
 have HE:Hid (Y3 a b=(decide (a.cat=b.cat) && decide (a.no=b.no) && decide (a.cost=b.cost) && decide (a.parts.xs=b.parts.xs) && decide (a.gives.xs=b.gives.xs))):=rfl
 have q1:=Xrt a.cat b.cat
 have q2:=Tl a.cat b.cat
 have q3:=Xb9 a.no b.no
 have q4:=Xb9 a.cost b.cost
 have Hk:=Xa hk
 have Hk2:=Xa hk2
 obtain⟨c0,c1,c2,c3,c4⟩:=gb5 hk
 obtain⟨d0,d1,d2,d3,d4⟩:=gb5 hk2
 clear ha hb hk hk2
 generalize decide (a.cat=b.cat)=f1 at *
 generalize decide (a.no=b.no)=f2 at *
 generalize decide (a.cost=b.cost)=f3 at *
 cases f1
 ·simp only[Bool.not_false] at q1
  go_enter Tryz.func217,Tryz.ntmps217
  go_wp2_with fail
  go_ret
  exact⟨by rw[HE.out];rfl,hB1⟩
 simp only[Bool.not_true] at q1
 cases f2
 ·simp only[Bool.not_false] at q3
  go_enter Tryz.func217,Tryz.ntmps217
  go_wp2_with fail
  go_ret
  exact⟨by rw[HE.out];rfl,hB1⟩
 simp only[Bool.not_true] at q3
 cases f3
 ·simp only[Bool.not_false] at q4
  go_enter Tryz.func217,Tryz.ntmps217
  go_wp2_with fail
  go_ret
  exact⟨by rw[HE.out];rfl,hB1⟩
 simp only[Bool.not_true] at q4
 by_cases l1:a.parts.xs.length=b.parts.xs.length
 rotate_left
 ·have g1:((a.parts.xs.length:Int) != (b.parts.xs.length:Int))=true:=by simp;omega
  have HF:Hid (Y3 a b=false):=by
   show _=_
   rw[HE.out,decide_eq_false (fun h:a.parts.xs=b.parts.xs=>l1 (by rw[h]))];rfl
  clear l1 HE
  go_enter Tryz.func217,Tryz.ntmps217
  go_wp2_with fail
  go_ret
  exact⟨by rw[HF.out];rfl,hB1⟩
 by_cases l2:a.gives.xs.length=b.gives.xs.length
 rotate_left
 ·have g1:((a.parts.xs.length:Int) != (b.parts.xs.length:Int))=false:=by simp;omega
  have g2:((a.gives.xs.length:Int) != (b.gives.xs.length:Int))=true:=by simp;omega
  have HF:Hid (Y3 a b=false):=by
   show _=_
   rw[HE.out,decide_eq_false (fun h:a.gives.xs=b.gives.xs=>l2 (by rw[h]))];simp
  clear l2 HE g1
  generalize hb1:b.parts.xs.length=n1 at *
  subst l1
  clear hb1
  go_enter Tryz.func217,Tryz.ntmps217
  go_wp2_with fail
  go_ret
  exact⟨by rw[HF.out];rfl,hB1⟩
 have HE2:Hid (Y3 a b=(decide (a.parts.xs=b.parts.xs) && decide (a.gives.xs=b.gives.xs))):=by show _=_;rw[HE.out];simp
 clear HE
 generalize hb1:b.parts.xs.length=n1 at *
 subst l1
 generalize hb2:b.gives.xs.length=n2 at *
 subst l2
 have L1:=Xa hb1
 have L2:=Xa hb2
 clear hb1 hb2
 go_enter Tryz.func217,Tryz.ntmps217
 go_wp2_with fail
 clear q1 q2 q3 q4 c0 c1 c2 c3 c4 d0 d1 d2 d3 d4
 go_loopw [5] (fun i wr=>∃k:Nat,k≤a.parts.xs.length∧i = .int .i64 k∧Below W1.heap.size W1 wr∧Hid (a.parts.xs.take k=b.parts.xs.take k)) (fun i _=>a.parts.xs.length-(intOf i).toNat)
 case atStart=>exact⟨0,Nat.zero_le _,rfl,Below.refl _ _,rfl⟩
 case round =>
  obtain⟨k,hk,rfl,hB,HR⟩:=hrel
  have hka:=Xh hB Hk.out
  have hkb:=Xh hB Hk2.out
  have c2:wr.cell? ⟨w.heap.size,2,none⟩=some (.slice a.parts.addr a.parts.xs.length a.parts.cap):=gblk hka 2
  have d2:wr.cell? ⟨w.heap.size+1,2,none⟩=some (.slice b.parts.addr a.parts.xs.length b.parts.cap):=gblk hkb 2
  by_cases hlt:k<a.parts.xs.length
  ·have hlt':k<b.parts.xs.length:=by have:=L1.out;omega
   obtain⟨b1,o1,hA,hb,hc⟩:=HA.out.1.at_ PartG.size_cells (by omega) hlt
   obtain⟨b2,o2,hA',hb',hc'⟩:=HB.out.1.at_ PartG.size_cells (by omega) hlt'
   have e0:wr.cell? ⟨b1,o1+k*3,none⟩=some (.string a.parts.xs[k].cat):=hc k hlt wr hB 0 _ rfl
   have e1:wr.cell? ⟨b1,o1+k*3+1,none⟩=some (.int .i64 a.parts.xs[k].no):=hc k hlt wr hB 1 _ rfl
   have e2:wr.cell? ⟨b1,o1+k*3+2,none⟩=some (.string a.parts.xs[k].text):=hc k hlt wr hB 2 _ rfl
   have f0:wr.cell? ⟨b2,o2+k*3,none⟩=some (.string b.parts.xs[k].cat):=hc' k hlt' wr hB 0 _ rfl
   have f1:wr.cell? ⟨b2,o2+k*3+1,none⟩=some (.int .i64 b.parts.xs[k].no):=hc' k hlt' wr hB 1 _ rfl
   have f2:wr.cell? ⟨b2,o2+k*3+2,none⟩=some (.string b.parts.xs[k].text):=hc' k hlt' wr hB 2 _ rfl
   rw[hA] at c2 ⊢
   rw[hA'] at d2 ⊢
   have hq:=fun (w:World)=>T0 a.parts.xs[k].cat b.parts.xs[k].cat a.parts.xs[k].no b.parts.xs[k].no a.parts.xs[k].text b.parts.xs[k].text w
   have Ht:=Xa (fun h=>Xdg hlt hlt' HR.out h)
   have Hf:Hid (a.parts.xs[k]≠b.parts.xs[k]→a.parts.xs≠b.parts.xs):=fun h e=>h (by simp[e])
   clear hc hc' hA hA' HR
   generalize a.parts.xs[k]=x at *
   generalize b.parts.xs[k]=y at *
   obtain⟨xa,xn,xs⟩:=x
   obtain⟨ya,yn,ys⟩:=y
   simp only at hq e0 e1 e2 f0 f1 f2
   cases hxy:decide ((⟨xa,xn,xs⟩:PartG)=⟨ya,yn,ys⟩)
   ·rw[hxy] at hq
    have HF:Hid (Y3 a b=false):=by
     show _=_
     rw[HE2.out,decide_eq_false (Hf.out (of_decide_eq_false hxy))];rfl
    clear hxy Hf Ht
    go_wp2_with fail
    go_still (by kernel_rfl)
    go_wp2
    go_ret
    exact⟨by rw[HF.out];rfl,Xb hB1 hB.drew⟩
   ·rw[hxy] at hq
    have HT:=Xa (Ht.out (of_decide_eq_true hxy))
    clear hxy Hf Ht
    go_wp2_with fail
    go_still (by kernel_rfl)
    go_wp2
    go_roundw
    case rel=>exact⟨k+1,by omega,by go_num,hB.drew,HT⟩
    case measure=>simp[intOf];omega
  ·have HE3:Hid (Y3 a b=decide (a.gives.xs=b.gives.xs)):=by
    have h:=HR.out
    rw[List.take_of_length_le (by omega),List.take_of_length_le (by have:=L1.out;omega)] at h
    show _=_
    rw[HE2.out,decide_eq_true h];rfl
   clear HR HE2
   go_wp2_with fail
   clear c2 d2 hka hkb hlt hk
   go_loopw [6] (fun i wr=>∃k:Nat,k≤a.gives.xs.length∧i = .int .i64 k∧Below W1.heap.size W1 wr∧Hid (a.gives.xs.take k=b.gives.xs.take k)) (fun i _=>a.gives.xs.length-(intOf i).toNat)
   case atStart=>exact⟨0,Nat.zero_le _,rfl,hB,rfl⟩
   case round =>
    clear hB
    obtain⟨k,hk,rfl,hB,HR⟩:=hrel
    rename World=>wr
    have hka:=Xh hB Hk.out
    have hkb:=Xh hB Hk2.out
    have c3:wr.cell? ⟨w.heap.size,3,none⟩=some (.slice a.gives.addr a.gives.xs.length a.gives.cap):=gblk hka 3
    have d3:wr.cell? ⟨w.heap.size+1,3,none⟩=some (.slice b.gives.addr a.gives.xs.length b.gives.cap):=gblk hkb 3
    by_cases hlt:k<a.gives.xs.length
    ·have hlt':k<b.gives.xs.length:=by have:=L2.out;omega
     obtain⟨b1,o1,hA,hb,hc⟩:=HA.out.2.at_ GiveG.size_cells (by omega) hlt
     obtain⟨b2,o2,hA',hb',hc'⟩:=HB.out.2.at_ GiveG.size_cells (by omega) hlt'
     have e0:wr.cell? ⟨b1,o1+k*2,none⟩=some (.int .i64 a.gives.xs[k].part):=hc k hlt wr hB 0 _ rfl
     have e1:wr.cell? ⟨b1,o1+k*2+1,none⟩=some (.string a.gives.xs[k].text):=hc k hlt wr hB 1 _ rfl
     have f0:wr.cell? ⟨b2,o2+k*2,none⟩=some (.int .i64 b.gives.xs[k].part):=hc' k hlt' wr hB 0 _ rfl
     have f1:wr.cell? ⟨b2,o2+k*2+1,none⟩=some (.string b.gives.xs[k].text):=hc' k hlt' wr hB 1 _ rfl
     rw[hA] at c3 ⊢
     rw[hA'] at d3 ⊢
     have hq:=fun (w:World)=>Xdf a.gives.xs[k].part b.gives.xs[k].part a.gives.xs[k].text b.gives.xs[k].text w
     have Ht:=Xa (fun h=>Xdg hlt hlt' HR.out h)
     have Hf:Hid (a.gives.xs[k]≠b.gives.xs[k]→a.gives.xs≠b.gives.xs):=fun h e=>h (by simp[e])
     clear hc hc' hA hA' HR
     generalize a.gives.xs[k]=x at *
     generalize b.gives.xs[k]=y at *
     obtain⟨xn,xs⟩:=x
     obtain⟨yn,ys⟩:=y
     simp only at hq e0 e1 f0 f1
     cases hxy:decide ((⟨xn,xs⟩:GiveG)=⟨yn,ys⟩)
     ·rw[hxy] at hq
      have HF:Hid (Y3 a b=false):=by
       show _=_
       rw[HE3.out,decide_eq_false (Hf.out (of_decide_eq_false hxy))]
      clear hxy Hf Ht
      go_wp2_with fail
      go_still (by kernel_rfl)
      go_wp2
      go_ret
      exact⟨by rw[HF.out];rfl,Xb hB1 hB.drew⟩
     ·rw[hxy] at hq
      have HT:=Xa (Ht.out (of_decide_eq_true hxy))
      clear hxy Hf Ht
      go_wp2_with fail
      go_still (by kernel_rfl)
      go_wp2
      go_roundw
      case rel=>exact⟨k+1,by omega,by go_num,hB.drew,HT⟩
      case measure=>simp[intOf];omega
    ·have HE4:Hid (Y3 a b=true):=by
      have h:=HR.out
      rw[List.take_of_length_le (by omega),List.take_of_length_le (by have:=L2.out;omega)] at h
      show _=_
      rw[HE3.out,decide_eq_true h]
     clear HR HE3
     go_wp2_with fail
     go_ret
     exact⟨by rw[HE4.out];rfl,Xb hB1 hB⟩
def allZ {α:Type} (f:α→α→Bool):List α→List α→Bool
 | [],[]=>true
 | a :: l,b :: m=>f a b && allZ f l m
 | _,_=>false
theorem Vl {α:Type} (f:α→α→Bool):∀ {l m:List α},l.length=m.length→(allZ f l m=true↔∀(i:Nat) (x y:α),l[i]? = some x→m[i]? = some y→f x y=true)
 | [],[],_=>by simp[allZ]
 | [],_ :: _,h=>by simp at h
 | _ :: _,[],h=>by simp at h
 | a :: l,b :: m,h=>by
  have ih:=Vl f (l:=l) (m:=m) (by simpa using h)
  rw[allZ,Bool.and_eq_true,ih]
  constructor
  ·rintro⟨h1,h2⟩ i x y hx hy
   cases i with
   | zero=>simp at hx hy;rw[← hx,← hy];exact h1
   | succ i=>exact h2 i x y (by simpa using hx) (by simpa using hy)
  ·intro h
   exact⟨h 0 a b (by simp) (by simp),fun i x y hx hy=>h (i+1) x y (by simpa using hx) (by simpa using hy)⟩
def Ql (a b:Gram):Bool:=decide (a.startNo=b.startNo) && allZ Vr a.entries.xs b.entries.xs && allZ Y3 a.rules.xs b.rules.xs
set_option maxHeartbeats 4000000 in
theorem Xjv (a b:Gram) (w:World) (ha:a.lies w) (hb:b.lies w) (hn:a.name=b.name) (hs:a.start=b.start) (hc:a.cats.xs=b.cats.xs) (he:a.entries.xs.length=b.entries.xs.length) (hr:a.rules.xs.length=b.rules.xs.length) :
  Calls Tryz.prog 177 #[.agg #[.string a.name,.slice a.cats.addr a.cats.xs.length a.cats.cap,.string a.start,.int .i64 a.startNo,.slice a.entries.addr a.entries.xs.length a.entries.cap,.slice a.rules.addr a.rules.xs.length a.rules.cap],.agg #[.string b.name,.slice b.cats.addr b.cats.xs.length b.cats.cap,.string b.start,.int .i64 b.startNo,.slice b.entries.addr b.entries.xs.length b.entries.cap,.slice b.rules.addr b.rules.xs.length b.rules.cap]] w fun e w'=>e = .returned (.bool (Ql a b))∧Below w.heap.size w w':=by
 obtain⟨W1,hW1⟩:∃W1,(w.alloc (.cells #[.string a.name,.slice a.cats.addr a.cats.xs.length a.cats.cap,.string a.start,.int .i64 a.startNo,.slice a.entries.addr a.entries.xs.length a.entries.cap,.slice a.rules.addr a.rules.xs.length a.rules.cap] 26)).alloc (.cells #[.string b.name,.slice b.cats.addr b.cats.xs.length b.cats.cap,.string b.start,.int .i64 b.startNo,.slice b.entries.addr b.entries.xs.length b.entries.cap,.slice b.rules.addr b.rules.xs.length b.rules.cap] 26)=W1:=⟨_,rfl⟩
 have hB1:Below w.heap.size w W1:=by subst hW1;exact Xe (Xe (Below.refl _ _) _) _
 have hk:W1.heap[w.heap.size]? = some (.cells #[.string a.name,.slice a.cats.addr a.cats.xs.length a.cats.cap,.string a.start,.int .i64 a.startNo,.slice a.entries.addr a.entries.xs.length a.entries.cap,.slice a.rules.addr a.rules.xs.length a.rules.cap] 26 (0,0)):=by subst hW1;exact(Below.heap_alloc _ _ _ (by simp)).trans (World.alloc_heap_new _ _)
 have hk2:W1.heap[w.heap.size+1]? = some (.cells #[.string b.name,.slice b.cats.addr b.cats.xs.length b.cats.cap,.string b.start,.int .i64 b.startNo,.slice b.entries.addr b.entries.xs.length b.entries.cap,.slice b.rules.addr b.rules.xs.length b.rules.cap] 26 (0,0)):=by subst hW1;have:=World.alloc_heap_new (w.alloc (.cells #[.string a.name,.slice a.cats.addr a.cats.xs.length a.cats.cap,.string a.start,.int .i64 a.startNo,.slice a.entries.addr a.entries.xs.length a.entries.cap,.slice a.rules.addr a.rules.xs.length a.rules.cap] 26)) (.cells #[.string b.name,.slice b.cats.addr b.cats.xs.length b.cats.cap,.string b.start,.int .i64 b.startNo,.slice b.entries.addr b.entries.xs.length b.entries.cap,.slice b.rules.addr b.rules.xs.length b.rules.cap] 26);rwa [World.size_alloc] at this
 have HA:=Xa (ha.ext hB1)
 have HB:=Xa (hb.ext hB1)
 have hm2:a.entries.xs.length≤9223372036854775807:=Nat.le_trans ha.entries.cap ha.entries.max
 have hm3:a.rules.xs.length≤9223372036854775807:=Nat.le_trans ha.rules.cap ha.rules.max
 have cS:=Xa (Xag a.cats b.cats W1 HA.out.cats HB.out.cats)
 rw[decide_eq_true hc] at cS
 have HE:Hid (Ql a b=(decide (a.startNo=b.startNo) && allZ Vr a.entries.xs b.entries.xs && allZ Y3 a.rules.xs b.rules.xs)):=rfl
 have Hze:=Xa (Vl Vr he)
 have Hzr:=Xa (Vl Y3 hr)
 have q1:(a.name.toList != b.name.toList)=false:=by simp[hn]
 have q1e:(a.name.toList == b.name.toList)=true:=by simp[hn]
 have q2:(a.start.toList != b.start.toList)=false:=by simp[hs]
 have q2e:(a.start.toList == b.start.toList)=true:=by simp[hs]
 have q3:=Xb9 a.startNo b.startNo
 have Hk:=Xa hk
 have Hk2:=Xa hk2
 obtain⟨c0,c1,c2,c3,c4,c5⟩:=gb6 hk
 obtain⟨d0,d1,d2,d3,d4,d5⟩:=gb6 hk2
 clear ha hb hk hk2 hn hs hc
 generalize decide (a.startNo=b.startNo)=f1 at *
 generalize allZ Vr a.entries.xs b.entries.xs=f2 at *
 generalize allZ Y3 a.rules.xs b.rules.xs=f3 at *
 cases f1
 ·simp only[Bool.not_false] at q3
  clear he hr
  go_enter Tryz.func177,Tryz.ntmps177
  go_wp2_with fail
  go_ret
  exact⟨by rw[HE.out];rfl,hB1⟩
 simp only[Bool.not_true] at q3
 have HE2:Hid (Ql a b=(f2 && f3)):=by show _=_;rw[HE.out];simp
 clear HE
 generalize hb1:b.entries.xs.length=n1 at *
 subst he
 generalize hb2:b.rules.xs.length=n2 at *
 subst hr
 have L1:=Xa hb1
 have L2:=Xa hb2
 clear hb1 hb2
 go_enter Tryz.func177,Tryz.ntmps177
 go_wp2_with fail
 refine cS.out.mono ?_
 rintro ee w2 ⟨rfl,hb2⟩
 have hB2:=Xb hB1 hb2
 have hka:=Xh hb2 Hk.out
 have hkb:=Xh hb2 Hk2.out
 clear c0 c1 c2 c3 c4 c5 d0 d1 d2 d3 d4 d5 cS hW1
 obtain⟨c0,c1,c2,c3,c4,c5⟩:=gb6 hka
 obtain⟨d0,d1,d2,d3,d4,d5⟩:=gb6 hkb
 have HA2:=Xa (HA.out.ext hb2)
 have HB2:=Xa (HB.out.ext hb2)
 have Hka:=Xa hka
 have Hkb:=Xa hkb
 clear HA HB Hk Hk2 hka hkb
 go_wp2_with fail
 clear q1 q1e q2 q2e q3 c0 c1 c2 c3 c4 c5 d0 d1 d2 d3 d4 d5
 go_loopw [5] (fun i wr=>∃k:Nat,k≤a.entries.xs.length∧i = .int .i64 k∧Below w2.heap.size w2 wr∧Hid (∀(i:Nat) x y,a.entries.xs[i]? = some x→b.entries.xs[i]? = some y→i<k→Vr x y=true)) (fun i _=>a.entries.xs.length-(intOf i).toNat)
 case atStart=>exact⟨0,Nat.zero_le _,rfl,Below.refl _ _,fun i _ _ _ _ h=>by omega⟩
 case round =>
  obtain⟨k,hk,rfl,hB,HR⟩:=hrel
  have hBw:=Xb hB2 hB
  have hka:=Xh hB Hka.out
  have hkb:=Xh hB Hkb.out
  have c4:wr.cell? ⟨w.heap.size,4,none⟩=some (.slice a.entries.addr a.entries.xs.length a.entries.cap):=gblk hka 4
  by_cases hlt:k<a.entries.xs.length
  ·have hlt':k<b.entries.xs.length:=by have:=L1.out;omega
   obtain⟨b1,o1,hA,hb,hc⟩:=HA2.out.entries.at_ EntryG.size_cells (by omega) hlt
   obtain⟨b2,o2,hA',hb',hc'⟩:=HB2.out.entries.at_ EntryG.size_cells (by omega) hlt'
   have r4:∀p:Xn wr,p.wt.cell? ⟨w.heap.size,4,none⟩=some (.slice a.entries.addr a.entries.xs.length a.entries.cap):=fun p=>Xu (Xc hka) (gblk hka 4) p
   have s4:∀p:Xn wr,p.wt.cell? ⟨w.heap.size+1,4,none⟩=some (.slice b.entries.addr a.entries.xs.length b.entries.cap):=fun p=>Xu (Xc hkb) (gblk hkb 4) p
   have e0:∀p:Xn wr,p.wt.cell? ⟨b1,o1+k*5,none⟩=some (.string a.entries.xs[k].text):=fun p=>hc k hlt p.wt (Xb hB p.ext) 0 _ rfl
   have e1:∀p:Xn wr,p.wt.cell? ⟨b1,o1+k*5+1,none⟩=some (.string a.entries.xs[k].cat):=fun p=>hc k hlt p.wt (Xb hB p.ext) 1 _ rfl
   have e2:∀p:Xn wr,p.wt.cell? ⟨b1,o1+k*5+2,none⟩=some (.int .i64 a.entries.xs[k].no):=fun p=>hc k hlt p.wt (Xb hB p.ext) 2 _ rfl
   have e3:∀p:Xn wr,p.wt.cell? ⟨b1,o1+k*5+3,none⟩=some (.slice a.entries.xs[k].gives.addr a.entries.xs[k].gives.xs.length a.entries.xs[k].gives.cap):=fun p=>hc k hlt p.wt (Xb hB p.ext) 3 _ rfl
   have e4:∀p:Xn wr,p.wt.cell? ⟨b1,o1+k*5+4,none⟩=some (.int .i64 a.entries.xs[k].cost):=fun p=>hc k hlt p.wt (Xb hB p.ext) 4 _ rfl
   have t0:∀p:Xn wr,p.wt.cell? ⟨b2,o2+k*5,none⟩=some (.string b.entries.xs[k].text):=fun p=>hc' k hlt' p.wt (Xb hB p.ext) 0 _ rfl
   have t1:∀p:Xn wr,p.wt.cell? ⟨b2,o2+k*5+1,none⟩=some (.string b.entries.xs[k].cat):=fun p=>hc' k hlt' p.wt (Xb hB p.ext) 1 _ rfl
   have t2:∀p:Xn wr,p.wt.cell? ⟨b2,o2+k*5+2,none⟩=some (.int .i64 b.entries.xs[k].no):=fun p=>hc' k hlt' p.wt (Xb hB p.ext) 2 _ rfl
   have t3:∀p:Xn wr,p.wt.cell? ⟨b2,o2+k*5+3,none⟩=some (.slice b.entries.xs[k].gives.addr b.entries.xs[k].gives.xs.length b.entries.xs[k].gives.cap):=fun p=>hc' k hlt' p.wt (Xb hB p.ext) 3 _ rfl
   have t4:∀p:Xn wr,p.wt.cell? ⟨b2,o2+k*5+4,none⟩=some (.int .i64 b.entries.xs[k].cost):=fun p=>hc' k hlt' p.wt (Xb hB p.ext) 4 _ rfl
   rw[hA] at r4 c4 ⊢
   rw[hA'] at s4 ⊢
   have cP:=Xa (fun p:Xn wr=>Xd5 a.entries.xs[k] b.entries.xs[k] p.wt ((HA2.out.entry _ (List.getElem_mem hlt)).ext (Xb hB p.ext)) ((HB2.out.entry _ (List.getElem_mem hlt')).ext (Xb hB p.ext)))
   have HT:Hid (Vr a.entries.xs[k] b.entries.xs[k]=true→∀(i:Nat) x y,a.entries.xs[i]? = some x→b.entries.xs[i]? = some y→i<k+1→Vr x y=true):=by
    intro h0 i x y hx hy hi
    by_cases e:i<k
    ·exact HR.out i x y hx hy e
    ·obtain rfl:i=k:=by omega
     rw[List.getElem?_eq_getElem hlt] at hx
     rw[List.getElem?_eq_getElem hlt'] at hy
     cases hx;cases hy
     exact h0
   have HF:Hid (Vr a.entries.xs[k] b.entries.xs[k]=false→Ql a b=false):=by
    intro h0
    have:f2=false:=by
     rw[Bool.eq_false_iff]
     intro h
     rw[Hze.out.1 h k _ _ (List.getElem?_eq_getElem hlt) (List.getElem?_eq_getElem hlt')] at h0
     cases h0
    rw[HE2.out,this];rfl
   clear hc hc' hA hA' HR hka hkb
   generalize a.entries.xs[k]=x at *
   generalize b.entries.xs[k]=y at *
   generalize Vr x y=f at *
   go_wp2_with fail
   refine X7 (by kernel_rfl) (by kernel_rfl) ?_
   repeat (go_big_quiet_step ((go_at_call 216;exact Calls.ext_of (cP.out _))))
   refine wpQuiet_nil ?_
   intro _ hw'
   obtain⟨p,rfl⟩:=hw'
   have hBp:=Xb hBw p.ext
   have hBq:=Xb hB p.ext
   clear r4 s4 e0 e1 e2 e3 e4 t0 t1 t2 t3 t4 c4 cP
   cases f
   ·have HF3:=Xa (HF.out rfl)
    clear HF HT
    go_wp2_with fail
    go_ret
    exact⟨by rw[HF3.out];rfl,hBp⟩
   ·have HT3:=Xa (HT.out rfl)
    clear HF HT
    go_wp2_with fail
    go_roundw
    case rel=>exact⟨k+1,by omega,by go_num,hBq,HT3⟩
    case measure=>simp[intOf];omega
  ·have HE3:Hid (Ql a b=f3):=by
    have:f2=true:=Hze.out.2 fun i x y hx hy=>HR.out i x y hx hy (by have:=(List.getElem?_eq_some_iff.1 hx).1;omega)
    show _=_
    rw[HE2.out,this];rfl
   clear HR HE2 Hze
   go_wp2_with fail
   clear c4 hka hkb hlt hk
   go_loopw [6] (fun i wr=>∃k:Nat,k≤a.rules.xs.length∧i = .int .i64 k∧Below w2.heap.size w2 wr∧Hid (∀(i:Nat) x y,a.rules.xs[i]? = some x→b.rules.xs[i]? = some y→i<k→Y3 x y=true)) (fun i _=>a.rules.xs.length-(intOf i).toNat)
   case atStart=>exact⟨0,Nat.zero_le _,rfl,hB,fun i _ _ _ _ h=>by omega⟩
   case round =>
    clear hB hBw
    obtain⟨k,hk,rfl,hB,HR⟩:=hrel
    rename World=>wr
    have hBw:=Xb hB2 hB
    have hka:=Xh hB Hka.out
    have hkb:=Xh hB Hkb.out
    have c5:wr.cell? ⟨w.heap.size,5,none⟩=some (.slice a.rules.addr a.rules.xs.length a.rules.cap):=gblk hka 5
    by_cases hlt:k<a.rules.xs.length
    ·have hlt':k<b.rules.xs.length:=by have:=L2.out;omega
     obtain⟨b1,o1,hA,hb,hc⟩:=HA2.out.rules.at_ RuleG.size_cells (by omega) hlt
     obtain⟨b2,o2,hA',hb',hc'⟩:=HB2.out.rules.at_ RuleG.size_cells (by omega) hlt'
     have r5:∀p:Xn wr,p.wt.cell? ⟨w.heap.size,5,none⟩=some (.slice a.rules.addr a.rules.xs.length a.rules.cap):=fun p=>Xu (Xc hka) (gblk hka 5) p
     have s5:∀p:Xn wr,p.wt.cell? ⟨w.heap.size+1,5,none⟩=some (.slice b.rules.addr a.rules.xs.length b.rules.cap):=fun p=>Xu (Xc hkb) (gblk hkb 5) p
     have e0:∀p:Xn wr,p.wt.cell? ⟨b1,o1+k*5,none⟩=some (.string a.rules.xs[k].cat):=fun p=>hc k hlt p.wt (Xb hB p.ext) 0 _ rfl
     have e1:∀p:Xn wr,p.wt.cell? ⟨b1,o1+k*5+1,none⟩=some (.int .i64 a.rules.xs[k].no):=fun p=>hc k hlt p.wt (Xb hB p.ext) 1 _ rfl
     have e2:∀p:Xn wr,p.wt.cell? ⟨b1,o1+k*5+2,none⟩=some (.slice a.rules.xs[k].parts.addr a.rules.xs[k].parts.xs.length a.rules.xs[k].parts.cap):=fun p=>hc k hlt p.wt (Xb hB p.ext) 2 _ rfl
     have e3:∀p:Xn wr,p.wt.cell? ⟨b1,o1+k*5+3,none⟩=some (.slice a.rules.xs[k].gives.addr a.rules.xs[k].gives.xs.length a.rules.xs[k].gives.cap):=fun p=>hc k hlt p.wt (Xb hB p.ext) 3 _ rfl
     have e4:∀p:Xn wr,p.wt.cell? ⟨b1,o1+k*5+4,none⟩=some (.int .i64 a.rules.xs[k].cost):=fun p=>hc k hlt p.wt (Xb hB p.ext) 4 _ rfl
     have t0:∀p:Xn wr,p.wt.cell? ⟨b2,o2+k*5,none⟩=some (.string b.rules.xs[k].cat):=fun p=>hc' k hlt' p.wt (Xb hB p.ext) 0 _ rfl
     have t1:∀p:Xn wr,p.wt.cell? ⟨b2,o2+k*5+1,none⟩=some (.int .i64 b.rules.xs[k].no):=fun p=>hc' k hlt' p.wt (Xb hB p.ext) 1 _ rfl
     have t2:∀p:Xn wr,p.wt.cell? ⟨b2,o2+k*5+2,none⟩=some (.slice b.rules.xs[k].parts.addr b.rules.xs[k].parts.xs.length b.rules.xs[k].parts.cap):=fun p=>hc' k hlt' p.wt (Xb hB p.ext) 2 _ rfl
     have t3:∀p:Xn wr,p.wt.cell? ⟨b2,o2+k*5+3,none⟩=some (.slice b.rules.xs[k].gives.addr b.rules.xs[k].gives.xs.length b.rules.xs[k].gives.cap):=fun p=>hc' k hlt' p.wt (Xb hB p.ext) 3 _ rfl
     have t4:∀p:Xn wr,p.wt.cell? ⟨b2,o2+k*5+4,none⟩=some (.int .i64 b.rules.xs[k].cost):=fun p=>hc' k hlt' p.wt (Xb hB p.ext) 4 _ rfl
     rw[hA] at r5 c5 ⊢
     rw[hA'] at s5 ⊢
     have cP:=Xa (fun p:Xn wr=>Xft a.rules.xs[k] b.rules.xs[k] p.wt ((HA2.out.rule _ (List.getElem_mem hlt)).ext (Xb hB p.ext)) ((HB2.out.rule _ (List.getElem_mem hlt')).ext (Xb hB p.ext)))
     have HT:Hid (Y3 a.rules.xs[k] b.rules.xs[k]=true→∀(i:Nat) x y,a.rules.xs[i]? = some x→b.rules.xs[i]? = some y→i<k+1→Y3 x y=true):=by
      intro h0 i x y hx hy hi
      by_cases e:i<k
      ·exact HR.out i x y hx hy e
      ·obtain rfl:i=k:=by omega
       rw[List.getElem?_eq_getElem hlt] at hx
       rw[List.getElem?_eq_getElem hlt'] at hy
       cases hx;cases hy
       exact h0
     have HF:Hid (Y3 a.rules.xs[k] b.rules.xs[k]=false→Ql a b=false):=by
      intro h0
      have:f3=false:=by
       rw[Bool.eq_false_iff]
       intro h
       rw[Hzr.out.1 h k _ _ (List.getElem?_eq_getElem hlt) (List.getElem?_eq_getElem hlt')] at h0
       cases h0
      rw[HE3.out,this]
     clear hc hc' hA hA' HR hka hkb
     generalize a.rules.xs[k]=x at *
     generalize b.rules.xs[k]=y at *
     generalize Y3 x y=f at *
     go_wp2_with fail
     refine X7 (by kernel_rfl) (by kernel_rfl) ?_
     repeat (go_big_quiet_step ((go_at_call 217;exact Calls.ext_of (cP.out _))))
     refine wpQuiet_nil ?_
     intro _ hw'
     obtain⟨p,rfl⟩:=hw'
     have hBp:=Xb hBw p.ext
     have hBq:=Xb hB p.ext
     clear r5 s5 e0 e1 e2 e3 e4 t0 t1 t2 t3 t4 c5 cP
     cases f
     ·have HF3:=Xa (HF.out rfl)
      clear HF HT
      go_wp2_with fail
      go_ret
      exact⟨by rw[HF3.out];rfl,hBp⟩
     ·have HT3:=Xa (HT.out rfl)
      clear HF HT
      go_wp2_with fail
      go_roundw
      case rel=>exact⟨k+1,by omega,by go_num,hBq,HT3⟩
      case measure=>simp[intOf];omega
    ·have HE4:Hid (Ql a b=true):=by
      have:f3=true:=Hzr.out.2 fun i x y hx hy=>HR.out i x y hx hy (by have:=(List.getElem?_eq_some_iff.1 hx).1;omega)
      show _=_
      rw[HE3.out,this]
     clear HR HE3
     go_wp2_with fail
     go_ret
     exact⟨by rw[HE4.out];rfl,hBw⟩
end Go.Proofs.YtolpbjjapodmnaaGreatDoor
namespace Go.Proofs.YtolpbjjapodmnaaGreatDoor
open Go.RowKit Go.Han
set_option maxRecDepth 100000
def resG (g:Gram):Int:=if bigB g then 2 else if !Xz g then 260 else if Vm g then 261 else 0
def Z0 (cats:List ByteArray) (x:EntryG):EntryG:={x with no:=idxF x.cat cats}
def Um (cats:List ByteArray) (p:PartG):PartG:={p with no:=max 0 (idxF p.cat cats)}
def Zc (cats:List ByteArray) (p:PartG):PartG:={p with no:=noP cats p}
structure Xea (cats:List ByteArray) (f:PartG→PartG) (r r':RuleG):Prop where
 cat:r'.cat=r.cat
 no:r'.no=idxF r.cat cats
 cost:r'.cost=r.cost
 gives:r'.gives=r.gives
 parts:r'.parts.xs=r.parts.xs.map f
structure Xic (f:PartG→PartG) (g X:Gram):Prop where
 name:X.name=g.name
 cats:X.cats=g.cats
 start:X.start=g.start
 startNo:X.startNo=idxF g.start g.cats.xs
 entries:X.entries.xs=g.entries.xs.map (Z0 g.cats.xs)
 rules:X.rules.xs.length=g.rules.xs.length
 rule:∀(i:Nat) r r',g.rules.xs[i]? = some r→X.rules.xs[i]? = some r'→Xea g.cats.xs f r r'
theorem Xfx {g:Gram} (h:Xz g=true) {r:RuleG} (hr:r∈g.rules.xs) {p:PartG} (hp:p∈r.parts.xs):Um g.cats.xs p=Zc g.cats.xs p:=by
 unfold Xz at h
 simp only[Bool.and_eq_true,List.all_eq_true] at h
 obtain⟨⟨⟨⟨⟨⟨_,_⟩,_⟩,h4⟩,_⟩,_⟩,h7⟩:=h
 have h1:=h7 r hr
 unfold Yh at h1
 simp only[Bool.and_eq_true,List.all_eq_true] at h1
 have h3:=h1.1.1.2 p hp
 unfold Yj at h3
 unfold Um Zc noP
 congr 1
 by_cases h0:p.text.size=0
 ·rw[if_pos h0] at h3 ⊢
  unfold catB at h3
  have:=of_decide_eq_true h3
  omega
 ·rw[if_neg h0] at h3 ⊢
  simp only[Bool.and_eq_true,decide_eq_true_eq] at h3
  have hn:p.cat∉g.cats.xs:=by
   intro hm
   have:=h4 _ hm
   have he:p.cat=⟨#[]⟩:=by
    have:=h3.1
    cases hc:p.cat with
    | mk a=>rw[hc] at this;simp only[ByteArray.size] at this;rw[Array.eq_empty_of_size_eq_zero this]
   rw[he] at this
   exact absurd this (by decide)
  rw[Xgz hn]
  omega
theorem Xeb {α:Type} {p:α→Bool} {l:List α}:l.all p=true↔∀(i:Nat) x,l[i]? = some x→p x=true:=by
 rw[List.all_eq_true]
 constructor
 ·intro h i x hx;exact h x (List.mem_of_getElem? hx)
 ·intro h x hx
  obtain⟨i,hi,rfl⟩:=List.getElem_of_mem hx
  exact h i _ (List.getElem?_eq_getElem hi)
theorem Xcf {f:PartG→PartG} {l:List PartG}:l.map f=l↔∀p∈l,f p=p:=by
 constructor
 ·intro h p hp
  obtain⟨i,hi,rfl⟩:=List.getElem_of_mem hp
  have:=congrArg (fun m=>m[i]?) h
  simpa[hi] using this
 ·intro h
  rw[List.map_congr_left (g:=id) (by simpa using h)];simp
theorem Qj (cats:List ByteArray) (p:PartG):Zc cats p=p↔p.no=noP cats p:=by
 unfold Zc
 constructor
 ·intro h;have:=congrArg PartG.no h;exact this.symm
 ·intro h;rw[← h]
theorem Xqt {g X:Gram} (ht:Xz g=true) (h:Xic (Um g.cats.xs) g X):Ql X g=Zm g:=by
 rw[Bool.eq_iff_iff]
 unfold Ql Zm
 have he:X.entries.xs.length=g.entries.xs.length:=by rw[h.entries,List.length_map]
 simp only[Bool.and_eq_true]
 rw[Vl Vr he,Vl Y3 h.rules,Xeb,Xeb]
 constructor
 ·rintro⟨⟨h1,h2⟩,h3⟩
  refine⟨⟨?_,fun i x hx=>?_⟩,fun i x hx=>?_⟩
  ·rw[h.startNo] at h1
   exact decide_eq_true (of_decide_eq_true h1).symm
  ·have hX:X.entries.xs[i]? = some (Z0 g.cats.xs x):=by rw[h.entries,List.getElem?_map,hx];rfl
   have:=h2 i _ _ hX hx
   unfold Vr Z0 at this
   simp only[Bool.and_eq_true,decide_eq_true_eq] at this
   exact decide_eq_true this.1.1.2.symm
  ·obtain⟨r',hr'⟩:∃r',X.rules.xs[i]? = some r':=by
    have hi:=(List.getElem?_eq_some_iff.1 hx).1
    exact⟨_,List.getElem?_eq_getElem (by rw[h.rules];exact hi)⟩
   have hrr:=h.rule i x r' hx hr'
   have:=h3 i _ _ hr' hx
   unfold Y3 at this
   simp only[Bool.and_eq_true,decide_eq_true_eq] at this
   obtain⟨⟨⟨⟨_,t2⟩,_⟩,t4⟩,_⟩:=this
   refine Bool.and_eq_true_iff.2 ⟨decide_eq_true ?_,List.all_eq_true.2 fun p hp=>decide_eq_true ?_⟩
   ·rw[← t2,hrr.no]
   ·rw[hrr.parts,Xcf] at t4
    have h5:=t4 p hp
    rw[Xfx ht (List.mem_of_getElem? hx) hp,Qj] at h5
    exact h5
 ·rintro⟨⟨h1,h2⟩,h3⟩
  refine⟨⟨?_,fun i x y hx hy=>?_⟩,fun i x y hx hy=>?_⟩
  ·rw[h.startNo]
   exact decide_eq_true (of_decide_eq_true h1).symm
  ·rw[h.entries,List.getElem?_map,hy] at hx
   cases hx
   have:=of_decide_eq_true (h2 i y hy)
   unfold Vr Z0
   simp[this]
  ·have hrr:=h.rule i y x hy hx
   have h4:=h3 i y hy
   rw[Bool.and_eq_true,List.all_eq_true] at h4
   unfold Y3
   rw[hrr.cat,hrr.no,hrr.cost,hrr.gives,hrr.parts,← of_decide_eq_true h4.1]
   have:y.parts.xs.map (Um g.cats.xs)=y.parts.xs:=Xcf.2 fun p hp=>by
    rw[Xfx ht (List.mem_of_getElem? hy) hp,Qj]
    exact of_decide_eq_true (h4.2 p hp)
   rw[this]
   simp
theorem Xey (g:Gram):Ys g=if resG g≠0 then resG g else if Zm g then 0 else 260:=by
 unfold Ys resG
 cases bigB g<;>cases Xz g<;>cases Vm g<;>simp
theorem Xai {g:Gram} (h:Xz g=true):(∀x∈g.rules.xs,∀p,x.parts.xs=[p]→p.text.size=0→p.cat∈g.cats.xs)∧(∀x∈g.rules.xs,x.cat∈g.cats.xs):=by
 unfold Xz at h
 simp only[Bool.and_eq_true,List.all_eq_true] at h
 obtain⟨⟨⟨⟨⟨⟨_,_⟩,_⟩,h4⟩,_⟩,_⟩,h7⟩:=h
 refine⟨fun x hx p hp h0=>?_,fun x hx=>?_⟩
 ·have h1:=h7 x hx
  unfold Yh at h1
  simp only[Bool.and_eq_true,List.all_eq_true] at h1
  have h3:=h1.1.1.2 p (by rw[hp];simp)
  unfold Yj at h3
  rw[if_pos h0] at h3
  exact(Ts _ _).1 h3
 ·have h1:=h7 x hx
  unfold Yh at h1
  simp only[Bool.and_eq_true,List.all_eq_true] at h1
  exact(Ts _ _).1 h1.1.1.1.1.1.1
theorem Xke {g:Gram} (h:Xz g=true):Vm g=true↔∃(i:Nat) (c:ByteArray),g.cats.xs[i]? = some c∧Leads (Y2 g.rules.xs) c c:=by
 obtain⟨hp,hc⟩:=Xai h
 rw[Xgt g hp hc]
 constructor
 ·rintro⟨x,hx⟩
  have hm:x∈g.cats.xs:=by
   have:∃y,Y2 g.rules.xs x y:=by cases hx with
    | one e=>exact⟨_,e⟩
    | more e _=>exact⟨_,e⟩
   obtain⟨y,r,hr,e⟩:=this
   obtain⟨_,e2,_⟩:=Q0.1 e
   rw[← e2];exact hc r hr
  obtain⟨i,hi,rfl⟩:=List.getElem_of_mem hm
  exact⟨i,_,List.getElem?_eq_getElem hi,hx⟩
 ·rintro⟨i,c,_,hl⟩
  exact⟨c,hl⟩
end Go.Proofs.YtolpbjjapodmnaaGreatDoor
