/- Contracts of IsName. -/
import Derived.Test.YtjeeajgijdcdbaaAmt
namespace Go.Proofs.Ytjeeajgijdcdbaa
open Go.ChangeShapes Go.WideShapes Go.ChangeAt Go.RowKit
set_option linter.unusedVariables false

theorem byteAt_eq (s : ByteArray) (k : Nat) (h : k < s.size) : byteAt s k = s[k].toNat := by
  unfold byteAt
  obtain ⟨⟨l⟩⟩ := s
  have h' : k < l.length := h
  simp only [List.getD, List.getElem?_eq_getElem h', Option.getD_some]
  rfl



end Go.Proofs.Ytjeeajgijdcdbaa
