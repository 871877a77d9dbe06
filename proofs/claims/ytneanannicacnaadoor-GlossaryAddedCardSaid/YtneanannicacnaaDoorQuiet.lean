/- A region that draws its order, whose operations only read and whose callees may also lay blocks of their own: one walk in the order of the text. -/
import Derived.Test.YtneanannicacnaaDoorBase
import Derived.Deep.QuietTactic
namespace Go.Han
open Go.RowKit

/-- A world that has come out of w by draws and new blocks. -/
structure ExtBy (w : World) where
  to : World
  ext : Below w.heap.size w to

instance (w : World) : Nonempty (ExtBy w) := ⟨⟨w, Below.refl _ _⟩⟩

theorem wp_region_ext {P : Program} {id : Nat} {Q : Exit → Act → World → Prop} {a : Act} {w : World} {l : List Oper} (hm : P.follows .mixedOrders = true) (hB : Region.lexB .any l.toArray = true)
    (h : wpQuiet P l.toArray (fun w' => ∃ p : ExtBy w, w' = p.to) (fun a' => ∀ w', (∃ p : ExtBy w, w' = p.to) → Q .normal a' w') l a) : (Code.region id l.toArray true).wp P Q a w :=
  wp_region_quiet (C := fun w' => ∃ p : ExtBy w, w' = p.to) hm hB ⟨⟨_, (Below.refl _ w).drew⟩, rfl⟩ (by simpa using h)
theorem cell_ext {w : World} {a : Addr} {v : Value} (hb : a.block < w.heap.size) (h : w.cell? a = some v) (p : ExtBy w) : p.to.cell? a = some v := (p.ext.cell (p := a) hb).trans h
theorem Calls.ext_of {P : Program} {f : FuncId} {args : Array Value} {w : World} {p : ExtBy w} {v : Value}
    (h : Calls P f args p.to fun e w' => e = .returned v ∧ Below p.to.heap.size p.to w') : Calls P f args p.to fun e w'' => e = .returned v ∧ ∃ q : ExtBy w, w'' = q.to :=
  h.mono fun _ _ ⟨he, hb⟩ => ⟨he, ⟨_, ext_trans p.ext hb⟩, rfl⟩
theorem Calls.ext_same {P : Program} {f : FuncId} {args : Array Value} {w : World} {p : ExtBy w} {v : Value}
    (h : Calls P f args p.to fun e w' => e = .returned v ∧ p.to = w') : Calls P f args p.to fun e w'' => e = .returned v ∧ ∃ q : ExtBy w, w'' = q.to :=
  h.mono fun _ _ ⟨he, hb⟩ => ⟨he, p, hb.symm⟩
end Go.Han
