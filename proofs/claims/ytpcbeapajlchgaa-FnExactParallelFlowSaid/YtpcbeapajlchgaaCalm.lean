/-
  A drawn region whose operations read and whose calls may make memory, but hand back values that do not hang on the world: one walk in the order of the text.
-/
import Derived.Test.YtpcbeapajlchgaaBase
set_option linter.unusedVariables false
namespace Go.Proofs.Ytpcbeapajlchgaa
open Go.RowKit

theorem wp_region_calm {P : Program} {C : World → Prop} {id : Nat} {Q : Exit → Act → World → Prop} {a : Act} {w : World} {l : List Oper} (hm : P.follows .mixedOrders = true) (hB : Region.lexB .any l.toArray = true) (hC : C w.drew)
    (h : wpQuiet P l.toArray C (fun a' => ∀ w', C w' → Q .normal a' w') l a) : (Code.region id l.toArray true).wp P Q a w :=
  wp_region_quiet (C := C) hm hB hC (by simpa using h)

/-- at a call of a function: its contract -/
theorem calm_call {P : Program} {C : World → Prop} {w' : World} {f : FuncId} {args : Array Value} {v u : Value} (hC : C w') (keep : ∀ wy w5 : World, C wy → Below wy.heap.size wy w5 → C w5)
    (h : Calls P f args w' fun e w5 => e = .returned u ∧ Below w'.heap.size w' w5) (e : u = v) : Calls P f args w' fun e w'' => e = .returned v ∧ C w'' :=
  h.mono fun _ _ ⟨he, hb⟩ => ⟨by rw [he, e], keep _ _ hC hb⟩
theorem calm_same {P : Program} {C : World → Prop} {w' : World} {f : FuncId} {args : Array Value} {v u : Value} (hC : C w')
    (h : Calls P f args w' fun e w5 => e = .returned u ∧ w' = w5) (e : u = v) : Calls P f args w' fun e w'' => e = .returned v ∧ C w'' :=
  h.mono fun _ _ ⟨he, hb⟩ => ⟨by rw [he, e], hb ▸ hC⟩

end Go.Proofs.Ytpcbeapajlchgaa
