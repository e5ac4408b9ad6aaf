/- A region that draws its order, whose operations read and whose callees make memory but turn none that was there: walked once, in the order of the text. (Over the library's theorem on quiet regions.) -/
import Derived.Test.YtophfeapmmfppaaBase
import Derived.Lib.QuietBelow
import Derived.BigQuiet
namespace Ks
open Go Go.RowKit

/-- a world behind another one: so many draws, such blocks more -/
def After (w : World) (p : Regrown) : World := Sort.grow (redrawn w p.d) p.os

theorem after_below (w : World) (p : Regrown) : Below w.heap.size w (After w p) := below_regrown w p.d p.os
theorem after_of {w w' : World} (h : Below w.heap.size w w') : ∃ p, w' = After w p := regrown_of_below h
theorem after_cell {w : World} {a : Addr} {v : Value} (h : w.cell? a = some v) (p : Regrown) : (After w p).cell? a = some v := cell_regrown h p.d p.os
theorem wp_region_after {P : Program} {id : Nat} {Q : Exit → Act → World → Prop} {a : Act} {w : World} {l : List Oper} (hm : P.follows .mixedOrders = true) (hB : Region.lexB .any l.toArray = true)
    (h : wpQuiet P l.toArray (fun w' => ∃ p : Regrown, w' = After w p) (fun a' => ∀ w', (∃ p : Regrown, w' = After w p) → Q .normal a' w') l a) : (Code.region id l.toArray true).wp P Q a w :=
  wp_region_quiet_below hm hB h
theorem calls_after {P : Program} {f : FuncId} {args : Array Value} {w : World} {p : Regrown} {v : Value}
    (h : Calls P f args (After w p) fun e w' => e = .returned v ∧ Below (After w p).heap.size (After w p) w') : Calls P f args (After w p) fun e w'' => e = .returned v ∧ ∃ p : Regrown, w'' = After w p :=
  Calls.regrown_of h
theorem calls_after_same {P : Program} {f : FuncId} {args : Array Value} {w : World} {p : Regrown} {v : Value}
    (h : Calls P f args (After w p) fun e w' => e = .returned v ∧ After w p = w') : Calls P f args (After w p) fun e w'' => e = .returned v ∧ ∃ p : Regrown, w'' = After w p :=
  h.mono fun _ _ ⟨he, hw⟩ => ⟨he, p, hw.symm⟩
theorem after_frozen {w : World} {a : Addr} (h : a.block < w.heap.size) (p : Regrown) : (After w p).frozen? a = w.frozen? a := (after_below w p).frozen h

theorem RdI.after {w : World} {v : Value} {l : List Int} (h : RdI w v l) (p : Regrown) : RdI (After w p) v l := h.below (after_below w p)

end Ks
