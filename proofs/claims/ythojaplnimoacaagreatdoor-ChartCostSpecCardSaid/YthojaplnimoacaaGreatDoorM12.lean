/- Texts of this claim, one after the other: Term7, Stand, KeyT, Stand2, Term8, FindB, EqS, FindC. -/
import Derived.Test.YthojaplnimoacaaGreatDoorM11
import Derived.Test.YthojaplnimoacaaGreatDoorM4
import Derived.Test.YthojaplnimoacaaGreatDoorShelf2
import Derived.Test.YthojaplnimoacaaGreatDoorM1
import Derived.Deep.RegionWith
import Derived.DeepKeys4
import Derived.Stop.RegionWithIn
import Derived.Sort.QuietTacIn
import Derived.Deep.Draws
namespace Go.Proofs.YthojaplnimoacaaGreatDoor
open Go.RowKit Go.Han
attribute [local irreducible] wpStill wpQuiet
set_option maxRecDepth 100000
end Go.Proofs.YthojaplnimoacaaGreatDoor
namespace Go.Proofs.YthojaplnimoacaaGreatDoor
open Go.RowKit Go.Han
set_option maxRecDepth 100000
structure TermV where
 no:Int
 at_:Int
 known:Int
 lang:Int
 sA:Option Addr
 sn:Nat
 sc:Nat
 tA:Option Addr
 tn:Nat
 tc:Nat
 cat:ByteArray
 gone:Bool
def TermV.val (x:TermV):Value:=.agg #[.int .i64 x.no,.int .i64 x.at_,.int .i64 x.known,.int .i64 x.lang,.slice x.sA x.sn x.sc,.slice x.tA x.tn x.tc,.string x.cat,.bool x.gone]
end Go.Proofs.YthojaplnimoacaaGreatDoor
namespace Go.Proofs.YthojaplnimoacaaGreatDoor
open Go.RowKit Go.Han
attribute [local irreducible] wpStill wpQuiet
set_option maxRecDepth 100000
end Go.Proofs.YthojaplnimoacaaGreatDoor
namespace Go.Proofs.YthojaplnimoacaaGreatDoor
open Go.RowKit Go.Han
set_option maxRecDepth 100000
end Go.Proofs.YthojaplnimoacaaGreatDoor
namespace Go.Proofs.YthojaplnimoacaaGreatDoor
open Go.RowKit Go.Han
attribute [local irreducible] wpStill wpQuiet
attribute [local go_sem] Oper.semAt_some
set_option maxRecDepth 100000
end Go.Proofs.YthojaplnimoacaaGreatDoor
