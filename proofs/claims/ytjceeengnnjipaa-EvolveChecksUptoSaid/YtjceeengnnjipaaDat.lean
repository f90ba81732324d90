/- THE VALUES' OWN TYPES of the layers above: values, columns. -/
import Derived.Test.YtjceeengnnjipaaKit
namespace Go.Proofs.Ytjceeengnnjipaa.Kit
open Go.RowKit
set_option linter.unusedVariables false
structure Val where
  k : Int
  n : Int
  t : ByteArray
  deriving DecidableEq
def zVal : Val := ⟨0, 0, ⟨#[]⟩⟩
structure Col where
  name : ByteArray
  kind : Int
  nullable : Bool
  deriving DecidableEq
def zCol : Col := ⟨⟨#[]⟩, 0, false⟩
theorem ba_eq {a b : ByteArray} (h : a.data.toList = b.data.toList) : a = b := by
  cases a with | mk a => cases b with | mk b => simp at h; rw [h]
theorem ba_empty {s : ByteArray} : s = ⟨#[]⟩ ↔ s.size = 0 := by
  constructor
  · rintro rfl; rfl
  · intro h; exact ba_eq (by cases s with | mk a => simpa [ByteArray.size] using h)
end Go.Proofs.Ytjceeengnnjipaa.Kit
