/- What a row that lists the tables and the two sentinels gives. -/
import Derived.Test.YtkdbkddlbahceaaDoorHi
namespace Go.Proofs.YtkdbkddlbahceaaDoor
open Go.RowKit Go.ChangeShapes Go.WideShapes Go.ChangeAt
theorem star : "*" ++ "errors.errorString" = "*errors.errorString" := by decide
theorem rowErr (u : TypeId) (h : Tryd.prog.typeName? 3 u = some "*errors.errorString") : u = 132 :=
  typeName_ptr_named (nm := "errors.errorString") (by rw [star]; kernel_rfl) (by kernel_rfl) (by decide) u (by rw [star]; exact h)
theorem sent_of_laid {W : World} {n : String} {text : List UInt8} {r : List (String × DataW Unit)} {g : Nat} (hg : Tryd.prog.globalNamed n = some g) (ht : (Tryd.prog.globals[g]?).map (·.type) = some 89) (h : laidMet Tryd.prog ((n, .iface "*errors.errorString" (.ptr (.agg [.lit (.string text)]))) :: r) W) : VE n W := by
  obtain ⟨a, s, h1, _⟩ := laid_sentinel h hg ht Tryd.underlying89 rowErr Tryd.underlying132 Tryd.underlying134 rfl rfl Tryd.underlying9 (by kernel_rfl) (by kernel_rfl)
  exact ⟨_, _, h1⟩
end Go.Proofs.YtkdbkddlbahceaaDoor
