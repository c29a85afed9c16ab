/- The walk of ConfErrors. -/
import Derived.Test.YtldeohbfhigagaaErrA
import Derived.Test.YtldeohbfhigagaaErrB
import Derived.Test.YtldeohbfhigagaaErrC
set_option linter.unusedVariables false
set_option linter.unusedSimpArgs false
namespace Go.Proofs.Ytldeohbfhigagaa
open Go.RowKit Flo

theorem w_ConfErrors (a0 : Int) (a1 : Bool) (w : World) (w0 : (Lit.int .i64 a0).wf = true) :
    Calls Try.prog 10 #[.int .i64 a0, .bool a1] w fun e w' => e = .returned (.bool true) ∧ Below w.heap.size w w' := by
  have e0 := m255 a0
  rw [show a0 % 256 = ((a0 % 256).toNat : Int) by omega] at e0
  have h0 : (a0 % 256).toNat ≤ 255 := by omega
  generalize (a0 % 256).toNat = nn at *
  have : nn % 9 = 0 ∨ nn % 9 = 1 ∨ nn % 9 = 2 ∨ nn % 9 = 3 ∨ nn % 9 = 4 ∨ nn % 9 = 5 ∨ nn % 9 = 6 ∨ nn % 9 = 7 ∨ nn % 9 = 8 := by omega
  cases a1
  · rcases this with h | h | h | h | h | h | h | h | h
    · exact w_err00 a0 w nn e0 h0 (by omega)
    · exact w_err10 a0 w nn e0 h0 (by omega)
    · exact w_err20 a0 w nn e0 h0 (by omega)
    · exact w_err30 a0 w nn e0 h0 (by omega)
    · exact w_err40 a0 w nn e0 h0 (by omega)
    · exact w_err50 a0 w nn e0 h0 (by omega)
    · exact w_err60 a0 w nn e0 h0 (by omega)
    · exact w_err70 a0 w nn e0 h0 (by omega)
    · exact w_err80 a0 w nn e0 h0 (by omega)
  · rcases this with h | h | h | h | h | h | h | h | h
    · exact w_err01 a0 w nn e0 h0 (by omega)
    · exact w_err11 a0 w nn e0 h0 (by omega)
    · exact w_err21 a0 w nn e0 h0 (by omega)
    · exact w_err31 a0 w nn e0 h0 (by omega)
    · exact w_err41 a0 w nn e0 h0 (by omega)
    · exact w_err51 a0 w nn e0 h0 (by omega)
    · exact w_err61 a0 w nn e0 h0 (by omega)
    · exact w_err71 a0 w nn e0 h0 (by omega)
    · exact w_err81 a0 w nn e0 h0 (by omega)
end Go.Proofs.Ytldeohbfhigagaa
