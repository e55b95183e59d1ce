/-
  Pipes: four whole numbers.
-/
import Derived.Test.YtheaagbffphdmaaRange
import Derived.Test.YtheaagbffphdmaaSRows
set_option linter.unusedVariables false
set_option linter.unusedSimpArgs false
namespace Go.Proofs.Ytheaagbffphdmaa
open Go.RowKit

/-- Id, from, to, size. -/
abbrev Pip := Int × Int × Int × Int
def qf (p : Pip) : List Value := [.int .i64 p.1, .int .i64 p.2.1, .int .i64 p.2.2.1, .int .i64 p.2.2.2]
theorem qf_len (p : Pip) : (qf p).length = 4 := rfl
theorem qf_one (p : Pip) : ∀ u ∈ qf p, u.oneCell' = true := by intro u hu; simp [qf] at hu; rcases hu with rfl | rfl | rfl | rfl <;> rfl
abbrev QAt (w : World) (a : Option Addr) (n : Nat) (l : List Pip) : Prop := SAt qf 4 w a n l
abbrev OwnQ (w : World) (B : Nat) (v : Value) (l : List Pip) : Prop := OwnS qf 4 65 w B v l
def pp (l : List Pip) (k : Nat) : Pip := l[k]?.getD (0, 0, 0, 0)
theorem QAt.get {w : World} {a : Option Addr} {n : Nat} {l : List Pip} (h : QAt w a n l) (k : Nat) (hk : k < n) :
    ∃ b off, a = some ⟨b, off, none⟩ ∧ b < w.heap.size ∧ w.cell? ⟨b, off + k * 4, none⟩ = some (.int .i64 (pp l k).1) ∧ w.cell? ⟨b, off + k * 4 + 1, none⟩ = some (.int .i64 (pp l k).2.1) ∧
      w.cell? ⟨b, off + k * 4 + 2, none⟩ = some (.int .i64 (pp l k).2.2.1) ∧ w.cell? ⟨b, off + k * 4 + 3, none⟩ = some (.int .i64 (pp l k).2.2.2) := by
  obtain ⟨b, off, h1, h2, h3⟩ := h.2 k hk
  exact ⟨b, off, h1, h2, h3 0 (by decide), h3 1 (by decide), h3 2 (by decide), h3 3 (by decide)⟩

end Go.Proofs.Ytheaagbffphdmaa
