/- Texts of this claim, one after the other: DraC. -/
import Derived.Test.YtolpbjjapodmnaaGreatDoorM10
import Derived.Test.YtolpbjjapodmnaaGreatDoorM16
namespace Go.Proofs.YtolpbjjapodmnaaGreatDoor
open Go.RowKit Go.Han
attribute [local irreducible] wpStill wpQuiet
set_option maxRecDepth 100000
def strD (b:ByteArray):List Value:=[.string b]
theorem Ybj (b:ByteArray):∀u∈strD b,u.oneCell'=true:=by intro u hu;simp[strD] at hu;subst hu;rfl
theorem XhD (xs:List ByteArray):xs.flatMap strD=strs xs:=by
 induction xs with
 | nil=>rfl
 | cons x l ih=>rw[List.flatMap_cons,ih];rfl
theorem Ybf:(Tryz.prog.info? 9).map (fun i=>(i.zero,i.size,i.bytes))=some (some (.string ⟨#[]⟩),1,16):=by kernel_rfl
set_option maxHeartbeats 1000000 in
theorem Ybr (A:Option Addr) (c:Nat) (l:List TgG) (w:World) (hr:Rd w A (l.flatMap TgG.cells)) (hA:A=none→l=[]) (hm:l.length≤1000000) :
  Calls Tryz.prog 171 #[.slice A l.length c] w (T4 TgG.cells 75 3 l w):=by
 obtain⟨i0,hi0,hz0,hz1,hz2⟩:=info_parts X4f
 have hfl:(l.flatMap TgG.cells).length=l.length*3:=Z7 TgG.cells 3 (fun _=>rfl) l
 have hone:∀u∈l.flatMap TgG.cells,u.oneCell'=true:=by
  intro u hu
  obtain⟨x,_,hx⟩:=List.mem_flatMap.1 hu
  exact X6h x u hx
 have q22:∀(w:World) (a:Option Addr) (n c n' c':Nat),(binOp .eql 65 (.slice a n c) (.slice none n' c')).run Tryz.prog w = .ok (.bool a.isNone) w:=fun w a n c n' c'=>Lib.run_eql_slice_nil w _ _ a n c n' c' Tryz.underlying65
 cases A with
 | none =>
  have hl:=hA rfl
  subst hl
  go_enter Tryz.func171,Tryz.ntmps171
  go_wp2
  go_ret
  exact⟨_,rfl,OwnL.nil _ _ _ _ _,Below.refl _ _⟩
 | some a =>
  have hcs:∀(j:Nat) (u:Value),(l.flatMap TgG.cells)[j]? = some u→w.cell? (a.add j)=some u:=by
   intro j u hu
   rcases hr with h|⟨b,off,he,_,hc⟩
   ·rw[h] at hu;cases hu
   ·cases he
    rw[show (⟨b,off,none⟩:Addr).add j=⟨b,off+j,none⟩ from by unfold Addr.add;split<;>simp_all]
    exact hc j u hu
  have Hcs:=Xa hcs
  clear hcs hr hA
  go_enter Tryz.func171,Tryz.ntmps171
  go_wp2_with (at_builtin;refine wpList_append_own _ rfl _ _ 65 rfl w.heap.size 75 i0 (.agg #[.string ⟨#[]⟩,.slice none 0 0,.int .i64 0]) 3 48 Tryz.underlying65 hi0 hz0 hz1 hz2 (by kernel_rfl) (by decide) _ _ _ rfl (World.ownsRow_made w #[] 0 (Nat.le_refl _) (Nat.zero_le _) rfl) a l.length c (l.flatMap TgG.cells) rfl hfl (fun j u hu=>Lib.cell?_alloc_some _ (Hcs.out j u hu)) hone (by unfold maxLen;omega) (by omega) (by simp) ?_)
  intro v' w1 hown hgrow hnil
  go_wp2
  go_ret
  refine⟨v',rfl,by simpa[OwnL] using hown,?_⟩
  exact((Below.refl _ w).alloc (Nat.le_refl _) _).grown hgrow (by simp) (by intro k hk;simp[Value.ownBlock] at hk;omega)
set_option maxHeartbeats 1000000 in
theorem Ybq (A:Option Addr) (c:Nat) (l:List ByteArray) (w:World) (hr:Rd w A (l.flatMap strD)) (hA:A=none→l=[]) (hm:l.length≤1000000) :
  Calls Tryz.prog 119 #[.slice A l.length c] w (T4 strD 9 1 l w):=by
 obtain⟨i0,hi0,hz0,hz1,hz2⟩:=info_parts Ybf
 have hfl:(l.flatMap strD).length=l.length*1:=Z7 strD 1 (fun _=>rfl) l
 have hone:∀u∈l.flatMap strD,u.oneCell'=true:=by
  intro u hu
  obtain⟨x,_,hx⟩:=List.mem_flatMap.1 hu
  exact Ybj x u hx
 have q22:∀(w:World) (a:Option Addr) (n c n' c':Nat),(binOp .eql 22 (.slice a n c) (.slice none n' c')).run Tryz.prog w = .ok (.bool a.isNone) w:=fun w a n c n' c'=>Lib.run_eql_slice_nil w _ _ a n c n' c' Tryz.underlying22
 cases A with
 | none =>
  have hl:=hA rfl
  subst hl
  go_enter Tryz.func119,Tryz.ntmps119
  go_wp2
  go_ret
  exact⟨_,rfl,OwnL.nil _ _ _ _ _,Below.refl _ _⟩
 | some a =>
  have hcs:∀(j:Nat) (u:Value),(l.flatMap strD)[j]? = some u→w.cell? (a.add j)=some u:=by
   intro j u hu
   rcases hr with h|⟨b,off,he,_,hc⟩
   ·rw[h] at hu;cases hu
   ·cases he
    rw[show (⟨b,off,none⟩:Addr).add j=⟨b,off+j,none⟩ from by unfold Addr.add;split<;>simp_all]
    exact hc j u hu
  have Hcs:=Xa hcs
  clear hcs hr hA
  go_enter Tryz.func119,Tryz.ntmps119
  go_wp2_with (at_builtin;refine wpList_append_own _ rfl _ _ 22 rfl w.heap.size 9 i0 (.string ⟨#[]⟩) 1 16 Tryz.underlying22 hi0 hz0 hz1 hz2 (by kernel_rfl) (by decide) _ _ _ rfl (World.ownsRow_made w #[] 0 (Nat.le_refl _) (Nat.zero_le _) rfl) a l.length c (l.flatMap strD) rfl hfl (fun j u hu=>Lib.cell?_alloc_some _ (Hcs.out j u hu)) hone (by unfold maxLen;omega) (by omega) (by simp) ?_)
  intro v' w1 hown hgrow hnil
  go_wp2
  go_ret
  refine⟨v',rfl,by simpa[OwnL] using hown,?_⟩
  exact((Below.refl _ w).alloc (Nat.le_refl _) _).grown hgrow (by simp) (by intro k hk;simp[Value.ownBlock] at hk;omega)
end Go.Proofs.YtolpbjjapodmnaaGreatDoor
