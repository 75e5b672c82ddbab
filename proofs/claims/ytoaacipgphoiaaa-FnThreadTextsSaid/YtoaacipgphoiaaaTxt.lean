/- Texts as lists of bytes. -/
import Derived.Test.YtoaacipgphoiaaaNum
set_option linter.unusedSimpArgs false
set_option linter.unusedVariables false
namespace Go.Proofs.Ytoaacipgphoiaaa
open Go.RowKit

theorem ret_str {a b : ByteArray} (h : a = b) : Ending.returned (.string a) = .returned (.string b) := by rw [h]
/-- A text, written out of its bytes. -/
def txt (l : List UInt8) : ByteArray := ⟨l.toArray⟩
theorem txt_size (l : List UInt8) : (txt l).size = l.length := by show l.toArray.size = _; simp
theorem txt_app (a b : List UInt8) : txt a ++ txt b = txt (a ++ b) := by
  unfold txt
  rw [ByteArray.mk_append_mk]
theorem txt_toList (l : List UInt8) : (txt l).toList = l := by
  rw [ByteArray.toList_eq]
  unfold txt
  simp
theorem txt_isEmpty (l : List UInt8) : (txt l).toList.isEmpty = l.isEmpty := by rw [txt_toList]

end Go.Proofs.Ytoaacipgphoiaaa
