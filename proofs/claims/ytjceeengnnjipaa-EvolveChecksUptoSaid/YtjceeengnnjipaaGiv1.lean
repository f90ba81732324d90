/- GIVEN BY HAND for the told texts: slices.Clone, schema.Name. -/
import Derived.Test.YtjceeengnnjipaaTy
import Derived.Test.YtjceeengnnjipaaL13e
import Derived.Test.YtjceeengnnjipaaKdg
import Derived.Lib.SliceRun
namespace Go.Proofs.Ytjceeengnnjipaa.PAll
open Go.RowKit Go.Proofs.Ytjceeengnnjipaa.Kit Go.Proofs.Ytjceeengnnjipaa.L13 Go.Proofs.YtjceeengnnjipaaW.PrintWords
set_option linter.unusedVariables false
attribute [local go_sem] allocCell allocFrozen setFar setFrozen allocAny

def schema_Name.f (a0 : ByteArray) : Option Bool := some (nameOk a0)
theorem schema_Name.calls (a0 : ByteArray) (r : Bool) (w : World) (h : schema_Name.f a0 = some r) :
    Calls Try.prog 20 #[.string a0] w fun e w' => e = .returned (.bool r) ∧ Below w.heap.size w w' := by
  cases h
  exact name_calls a0 w

def bitemporalref13_Name.f (a0 : ByteArray) : Option Bool := some (nameOk a0)
theorem bitemporalref13_Name.calls (a0 : ByteArray) (r : Bool) (w : World) (h : bitemporalref13_Name.f a0 = some r) :
    Calls Try.prog 24 #[.string a0] w fun e w' => e = .returned (.bool r) ∧ Below w.heap.size w w' := by
  cases h
  exact rname_calls a0 w
def value_Valid.f (a0_0 : Int) (a0_1 : Int) (a0_2 : ByteArray) : Option Bool := some (L07.valOk ⟨a0_0, a0_1, a0_2⟩)
theorem value_Valid.calls (a0_0 : Int) (a0_1 : Int) (a0_2 : ByteArray) (r : Bool) (w : World) (h : value_Valid.f a0_0 a0_1 a0_2 = some r) :
    Calls Try.prog 40 #[.agg #[.int .i64 a0_0, .int .i64 a0_1, .string a0_2]] w fun e w' => e = .returned (.bool r) ∧ Below w.heap.size w w' := by
  cases h
  exact L07.valid_calls a0_0 a0_1 a0_2 w
def bitemporalref07_Valid.f (a0_0 : Int) (a0_1 : Int) (a0_2 : ByteArray) : Option Bool := some (L07.valOk ⟨a0_0, a0_1, a0_2⟩)
theorem bitemporalref07_Valid.calls (a0_0 : Int) (a0_1 : Int) (a0_2 : ByteArray) (r : Bool) (w : World) (h : bitemporalref07_Valid.f a0_0 a0_1 a0_2 = some r) :
    Calls Try.prog 46 #[.agg #[.int .i64 a0_0, .int .i64 a0_1, .string a0_2]] w fun e w' => e = .returned (.bool r) ∧ Below w.heap.size w w' := by
  cases h
  exact L07.rvalid_calls a0_0 a0_1 a0_2 w
def slices_Clone_int_int.f (l0 : List Int) : Option (List Int) := if l0.length < 17592186044416 then some l0 else none
set_option maxRecDepth 100000 in
set_option maxHeartbeats 1000000 in
theorem slices_Clone_int_int.calls (A0 : Option Addr) (c0 : Nat) (l0 : List Int) (r : List Int) (w : World) (hr0 : Kd.C (Kd.int .i64) w A0 l0.length l0) (hc0 : l0.length ≤ c0) (h : slices_Clone_int_int.f l0 = some r) :
    Calls Try.prog 53 #[.slice A0 l0.length c0] w fun e w' => ∃ v0_ : Value, e = .returned v0_ ∧ Kd.R (Kd.int .i64) 3 w' w.heap.size (fun _ => True) v0_ r ∧ Below w.heap.size w w' := by
  have hlt : l0.length < 17592186044416 := by
    unfold slices_Clone_int_int.f at h
    split at h
    · assumption
    · cases h
  obtain rfl : r = l0 := by unfold slices_Clone_int_int.f at h; rw [if_pos hlt] at h; injection h with h; exact h.symm
  have hu := Try.underlying23
  have q22 : ∀ (w : World) (a : Option Addr) (n c n' c' : Nat), (binOp .eql 23 (.slice a n c) (.slice none n' c')).run Try.prog w = .ok (.bool a.isNone) w := fun w a n c n' c' => Lib.run_eql_slice_nil w _ _ a n c n' c' hu
  have i3 : (Try.prog.info? 3).map (fun i => (i.zero, i.size, i.bytes)) = some (some (.int .i64 0), 1, 8) := by kernel_rfl
  go_enter Try.func53, Try.ntmps53
  cases A0 with
  | none =>
    have hz : r = [] := by
      rcases Nat.eq_zero_or_pos r.length with h0 | h0
      · exact List.eq_nil_of_length_eq_zero h0
      · obtain ⟨ad, e, _⟩ := hr0.2.2 h0; cases e
    subst hz
    go_wp2
    go_ret
    exact ⟨_, rfl, Kd.R_nil _ _ _ _ _, Bel.out⟩
  | some ad =>
    have HR := Lib.hid hr0; clear hr0
    go_wp2_with (at_builtin; go_loud (refine Kd.R_append_rows (Kd.int .i64) (w0 := w) w.heap.size rfl (.tmp 5) (.tmp 6) 23 3 (.int .i64 0) 8 rfl hu i3 rfl (by decide) (by omega) _ [] r _ _ _ (fun _ => True) (fun _ => False) rfl rfl ?aO ?aR (fun _ _ h => h) (fun _ h => h.elim) ?aF ?aB ?aS ?aL ?_))
    case aF => exact fun _ _ => trivial
    case aS => simp
    case aL => simp only [List.length_nil]; omega
    case aO => exact R_litA (d := Kd.int .i64) (e := 3) (okp := fun _ => False) (inner := []) (Reps.none _ _) HSize.out (Nat.le_refl _) (by simp)
    case aB => exact Bel.out
    case aR => exact up HR.out
    intro v1 w1 hR hb hg hat
    have hb' : Bel w w1 := ⟨hb⟩
    have HR1 := Lib.hid hR; clear hR hb hg hat
    go_wp2
    go_ret
    exact ⟨_, rfl, by simpa using HR1.out, Bel.out⟩
end Go.Proofs.Ytjceeengnnjipaa.PAll
