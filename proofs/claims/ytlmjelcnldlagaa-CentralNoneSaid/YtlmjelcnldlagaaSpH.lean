/- Contracts of Bits and List. -/
import Derived.Test.YtlmjelcnldlagaaSpG
set_option linter.unusedVariables false
set_option linter.unusedSimpArgs false
namespace Go.Proofs.Ytlmjelcnldlagaa
open Go.RowKit

def Sp.bits (s : Sp) : ByteArray := strOfNums (s.st.map (48 + ·))


def Sp.listTo (s : Sp) : Nat → List Int
  | 0 => []
  | k + 1 => s.listTo k ++ (if s.st.getD k 0 = 1 then [s.start * 256 + k * s.size] else [])
def Sp.list (s : Sp) : List Int := s.listTo s.st.length
theorem Sp.listTo_le (s : Sp) (k : Nat) : (s.listTo k).length ≤ k := by
  induction k with
  | zero => simp [Sp.listTo]
  | succ k ih => simp only [Sp.listTo, List.length_append]; split <;> simp <;> omega

end Go.Proofs.Ytlmjelcnldlagaa
