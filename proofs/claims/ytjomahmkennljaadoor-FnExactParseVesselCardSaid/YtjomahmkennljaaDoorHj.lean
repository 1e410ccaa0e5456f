/- What a row that lists the tables and the two sentinels gives. -/
import Derived.Test.YtjomahmkennljaaDoorHi
namespace Go.Proofs.YtjomahmkennljaaDoor
open Go.RowKit Go.ChangeShapes Go.WideShapes Go.ChangeAt
theorem star : "*" ++ "errors.errorString" = "*errors.errorString" := by decide
theorem rowErr (u : TypeId) (h : Tryd.prog.typeName? 3 u = some "*errors.errorString") : u = 93 :=
  typeName_ptr_named (nm := "errors.errorString") (by rw [star]; kernel_rfl) (by kernel_rfl) (by decide) u (by rw [star]; exact h)
theorem sent_of_laid {W : World} {n : String} {text : List UInt8} {r : List (String × DataW Unit)} {g : Nat} (hg : Tryd.prog.globalNamed n = some g) (ht : (Tryd.prog.globals[g]?).map (·.type) = some 50) (h : laidMet Tryd.prog ((n, .iface "*errors.errorString" (.ptr (.agg [.lit (.string text)]))) :: r) W) : VE n W := by
  obtain ⟨a, s, h1, _⟩ := laid_sentinel h hg ht Tryd.underlying50 rowErr Tryd.underlying93 Tryd.underlying95 rfl rfl Tryd.underlying9 (by kernel_rfl) (by kernel_rfl)
  exact ⟨_, _, h1⟩
theorem t5_of_laid {W : World} (h : laidMet Tryd.prog [("math/bits.deBruijn32tab", Rows.laid_math_bits_deBruijn32tab), ("math/bits.deBruijn64tab", Rows.laid_math_bits_deBruijn64tab), ("internal/strconv.uint64pow10", Rows.laid_internal_strconv_uint64pow10), ("strconv.ErrRange", Rows.laid_strconv_ErrRange), ("strconv.ErrSyntax", Rows.laid_strconv_ErrSyntax)] W) : T5 W := by
  refine ⟨tab_of_laid3 h, sent_of_laid (g := 4) (by kernel_rfl) (by kernel_rfl) h.tail.tail.tail.tail, sent_of_laid (g := 5) (by kernel_rfl) (by kernel_rfl) h.tail.tail.tail⟩
end Go.Proofs.YtjomahmkennljaaDoor
