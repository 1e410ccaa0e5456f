/- What a row that lists the tables and the two sentinels gives. -/
import Derived.Test.YtdlebdgdcpemmaaGreatDoorHi
namespace Go.Proofs.YtdlebdgdcpemmaaGreatDoor
open Go.RowKit Go.ChangeShapes Go.WideShapes Go.ChangeAt
theorem star : "*" ++ "errors.errorString" = "*errors.errorString" := by decide
theorem rowErr (u : TypeId) (h : Tryz.prog.typeName? 3 u = some "*errors.errorString") : u = 123 :=
  typeName_ptr_named (nm := "errors.errorString") (by rw [star]; kernel_rfl) (by kernel_rfl) (by decide) u (by rw [star]; exact h)
theorem sent_of_laid {W : World} {n : String} {text : List UInt8} {r : List (String × DataW Unit)} {g : Nat} (hg : Tryz.prog.globalNamed n = some g) (ht : (Tryz.prog.globals[g]?).map (·.type) = some 81) (h : laidMet Tryz.prog ((n, .iface "*errors.errorString" (.ptr (.agg [.lit (.string text)]))) :: r) W) : VE n W := by
  obtain ⟨a, s, h1, _⟩ := laid_sentinel h hg ht Tryz.underlying81 rowErr Tryz.underlying123 Tryz.underlying125 rfl rfl Tryz.underlying9 (by kernel_rfl) (by kernel_rfl)
  exact ⟨_, _, h1⟩
end Go.Proofs.YtdlebdgdcpemmaaGreatDoor
