/- LAYER 7: values that are valid. -/
import Derived.Test.YtjceeengnnjipaaDat
import Derived.LoopTactic
namespace Go.Proofs.Ytjceeengnnjipaa.L07
open Go.RowKit Go.Proofs.Ytjceeengnnjipaa.Kit
set_option linter.unusedVariables false
attribute [local go_sem] allocCell allocFrozen setFar setFrozen allocAny

def okc (c : UInt8) : Bool := decide (32 ≤ c.toNat) && decide (c.toNat ≤ 126)
def pr (s : ByteArray) : Bool := s.data.toList.all okc
theorem take_snoc (s : ByteArray) (k : Nat) (h : k < s.size) : s.data.toList.take (k + 1) = s.data.toList.take k ++ [s[k]] := by
  rw [List.take_succ_eq_append_getElem (by simpa using h)]; rfl
theorem pr_bad {s : ByteArray} {k : Nat} (h : k < s.size) (hc : okc s[k] = false) : pr s = false := by
  unfold pr
  rw [← Bool.not_eq_true, List.all_eq_true]
  intro hh
  have := hh s[k] (by simp [ByteArray.getElem_eq_getElem_data])
  rw [hc] at this; cases this
set_option maxHeartbeats 1000000 in
theorem printable_calls (s : ByteArray) (hs : s.size ≤ 4294967280) (w : World) :
    Calls Try.prog 66 #[.string s] w fun e w' => e = .returned (.bool (pr s)) ∧ Below w.heap.size w w' := by
  go_enter Try.func66, Try.ntmps66
  go_wp2
  go_loop [6] (fun i => ∃ k : Nat, k ≤ s.size ∧ i = .int .i64 k ∧ (s.data.toList.take k).all okc = true) (fun i => s.size - (intOf i).toNat)
  case atStart => exact ⟨0, by omega, rfl, rfl⟩
  case round =>
    obtain ⟨k, hk, rfl, hall⟩ := hrel
    have HA := Lib.hid hall; clear hall
    by_cases hlt : k < s.size
    · go_wp2
      all_goals first
        | (refine ⟨⟨k + 1, by omega, by go_num, ?_⟩, by simp [intOf]; omega⟩
           rw [take_snoc s k hlt, List.all_append, HA.out]; simp [okc]; omega)
        | (go_ret
           exact ⟨ret_bool (pr_bad hlt (by simp [okc]; omega)).symm, Bel.out⟩)
    · go_wp2
      go_ret
      exact ⟨ret_bool (by have := HA.out; rw [List.take_of_length_le (by simp; omega)] at this; exact this.symm), Bel.out⟩
set_option maxHeartbeats 1000000 in
theorem rprintable_calls (s : ByteArray) (hs : s.size ≤ 4294967280) (w : World) :
    Calls Try.prog 71 #[.string s] w fun e w' => e = .returned (.bool (pr s)) ∧ Below w.heap.size w w' := by
  go_enter Try.func71, Try.ntmps71
  go_wp2
  go_loop [3] (fun i => ∃ k : Nat, k ≤ s.size ∧ i = .int .i64 k ∧ (s.data.toList.take k).all okc = true) (fun i => s.size - (intOf i).toNat)
  case atStart => exact ⟨0, by omega, rfl, rfl⟩
  case round =>
    obtain ⟨k, hk, rfl, hall⟩ := hrel
    have HA := Lib.hid hall; clear hall
    by_cases hlt : k < s.size
    · go_wp2
      all_goals first
        | (refine ⟨⟨k + 1, by omega, by go_num, ?_⟩, by simp [intOf]; omega⟩
           rw [take_snoc s k hlt, List.all_append, HA.out]; simp [okc]; omega)
        | (go_ret
           exact ⟨ret_bool (pr_bad hlt (by simp [okc]; omega)).symm, Bel.out⟩)
    · go_wp2
      go_ret
      exact ⟨ret_bool (by have := HA.out; rw [List.take_of_length_le (by simp; omega)] at this; exact this.symm), Bel.out⟩

def valOk (v : Val) : Bool :=
  if v.k = 0 then decide (v.n = 0) && v.t.toList.isEmpty
  else if v.k = 1 then v.t.toList.isEmpty && decide (-1125899906842624 ≤ v.n) && decide (v.n ≤ 1125899906842624)
  else if v.k = 2 then decide (v.n = 0) && decide ((v.t.size : Int) ≤ 200) && pr v.t
  else if v.k = 3 then v.t.toList.isEmpty && (v.n == 0 || v.n == 1)
  else false
theorem valid_calls (k n : Int) (t : ByteArray) (w : World) :
    Calls Try.prog 40 #[.agg #[.int .i64 k, .int .i64 n, .string t]] w fun e w' => e = .returned (.bool (valOk ⟨k, n, t⟩)) ∧ Below w.heap.size w w' := by
  go_enter Try.func40, Try.ntmps40
  go_wp2_with (go_at_call 66; (with_reducible refine (printable_calls _ (by omega) _).mono ?_); rintro e w1 ⟨rfl, hb⟩; have hs := Step.of hb; clear hb; have hc := hs.cell; have hf := hs.frozen)
  all_goals
    go_ret
    refine ⟨ret_bool ?_, Bel.out⟩
    first | (simp_all [valOk]; done) | (simp_all [valOk]; omega)
theorem rvalid_calls (k n : Int) (t : ByteArray) (w : World) :
    Calls Try.prog 46 #[.agg #[.int .i64 k, .int .i64 n, .string t]] w fun e w' => e = .returned (.bool (valOk ⟨k, n, t⟩)) ∧ Below w.heap.size w w' := by
  go_enter Try.func46, Try.ntmps46
  go_wp2_with (go_at_call 71; (with_reducible refine (rprintable_calls _ (by omega) _).mono ?_); rintro e w1 ⟨rfl, hb⟩; have hs := Step.of hb; clear hb; have hc := hs.cell; have hf := hs.frozen)
  all_goals
    go_ret
    refine ⟨ret_bool ?_, Bel.out⟩
    first | (simp_all [valOk]; done) | (simp_all [valOk]; omega)
end Go.Proofs.Ytjceeengnnjipaa.L07
