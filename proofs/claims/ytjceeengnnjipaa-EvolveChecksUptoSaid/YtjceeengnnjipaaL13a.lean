/- LAYER 13: names: the reserved words, the loop over a name's letters. -/
import Derived.Test.YtjceeengnnjipaaL07a
import Derived.Laws.RangeString
namespace Go.Proofs.Ytjceeengnnjipaa.L13
open Go.RowKit Go.Proofs.Ytjceeengnnjipaa.Kit Go.Proofs.Ytjceeengnnjipaa.L07
set_option linter.unusedVariables false
attribute [local go_sem] allocCell allocFrozen setFar setFrozen allocAny

theorem decode_big (s : ByteArray) (pos : Nat) (h : pos < s.size) (ha : 128 ≤ (s[pos]'h).toNat) : 128 ≤ (Utf8.decode s pos).1 := by
  have e : s.get! (pos + 0) = s[pos]'h := by
    show s.get! pos = _
    simp [ByteArray.get!, getElem!_pos, h]
    rfl
  simp only [Utf8.decode, e]
  rw [if_neg (by omega)]
  (repeat' split) <;> first | (simp [Utf8.runeError]; done) | (simp_all; omega) | omega
theorem run_next_any {P : Program} (w : World) (s : ByteArray) (pos : Nat) (ty : TypeId) (h : pos < s.size) :
    (Instr.next (.pointer (some ⟨w.heap.size, 0, none⟩)) true ty).run P (w.iter s pos) =
      .ok (.tuple #[.bool true, .int .i64 pos, .int .i32 ((Utf8.decode s pos).1 : Nat)]) (w.iter s (pos + (Utf8.decode s pos).2)) := by
  simp only [Instr.next, getObj, setObj, Sem.run_bind, Sem.run, World.iter_heap, Result.andThen, h, if_true, World.iter_set]
  simp [goInt]
/-- A letter of a name at a place. -/
def nameC (i : Nat) (c : UInt8) : Bool := (decide (97 ≤ c.toNat) && decide (c.toNat ≤ 122)) || (c.toNat == 95) || (decide (48 ≤ c.toNat) && decide (c.toNat ≤ 57) && decide (i ≠ 0))
def letters (s : ByteArray) (n : Nat) : Prop := ∀ i, ∀ h : i < s.size, i < n → nameC i s[i] = true
instance (w : World) (s : ByteArray) (k : Nat) : Bel w (w.iter s k) := ⟨(belAlloc w w (.stringIter s k)).out⟩
end Go.Proofs.Ytjceeengnnjipaa.L13
