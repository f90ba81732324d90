/- LAYER 1: two lists of periods compared; the digits of a number. -/
import Derived.Test.YtajkbnfpnohdlaaDoorL01b
import Derived.LoopTactic
namespace Go.Proofs.YtajkbnfpnohdlaaDoor.L01
open Go.RowKit Go.Proofs.YtajkbnfpnohdlaaDoor.Kit Go.Proofs.YtajkbnfpnohdlaaDoorW.PrintWords
set_option linter.unusedVariables false
attribute [local go_sem high] eqP
attribute [local go_sem] allocCell allocFrozen setFar setFrozen allocAdd

theorem eqPer_iff (x y : Period) : eqPer x.lo x.hi y.lo y.hi = true ↔ x = y := by
  cases x; cases y; simp [eqPer]
theorem take_succ_eq {α : Type} (xs ys : List α) (k : Nat) (h0 : k < xs.length) (h1 : k < ys.length) (h : xs.take k = ys.take k) (he : xs[k] = ys[k]) : xs.take (k + 1) = ys.take (k + 1) := by
  rw [List.take_succ_eq_append_getElem h0, List.take_succ_eq_append_getElem h1, h]
  rw [he]
set_option maxHeartbeats 1000000 in
theorem same_calls (A0 A1 : Option Addr) (c0 c1 : Nat) (xs ys : List Period) (w : World) (hr0 : Kd.C kPeriod w A0 xs.length xs) (hc0 : xs.length ≤ c0) (hr1 : Kd.C kPeriod w A1 ys.length ys) (hc1 : ys.length ≤ c1) :
    Calls Tryd.prog 13 #[.slice A0 xs.length c0, .slice A1 ys.length c1] w fun e w' => e = .returned (.bool (decide (xs = ys))) ∧ Below w.heap.size w w' := by
  have hu := Tryd.underlying27
  have hm := hr0.2.1
  have hm1 := hr1.2.1
  go_enter Tryd.func13, Tryd.ntmps13
  go_wp2
  · have hl : xs.length ≠ ys.length := fun e => by have := (by assumption : ((xs.length : Int) != (ys.length : Int)) = true); simp [e] at this
    go_ret
    exact ⟨ret_bool (by rw [decide_eq_false]; intro h; exact hl (by rw [h])), Bel.out⟩
  · have hl : xs.length = ys.length := by have := (by assumption : ((xs.length : Int) != (ys.length : Int)) = false); simp at this; omega
    have HL := Lib.hid hl
    clear hl
    go_loopw [5] (fun i wr => ∃ k : Nat, k ≤ xs.length ∧ i = .int .i64 k ∧ xs.take k = ys.take k ∧ Below w.heap.size w wr) (fun i _ => xs.length - (intOf i).toNat)
    case atStart => exact ⟨0, by omega, rfl, rfl, Bel.out⟩
    case round =>
      obtain ⟨k, hk, rfl, ht, hB⟩ := hrel
      have hs := Step.of hB; clear hB; have hc := hs.cell; have ha := hs.add
      have HT := Lib.hid ht; clear ht
      by_cases hlt : k < xs.length
      · have hlt1 : k < ys.length := by have := HL.out; omega
        obtain ⟨ad, rfl, hi, h0, h1⟩ := at_Period hr0 k hlt
        obtain ⟨ad1, rfl, hi1, h2, h3⟩ := at_Period hr1 k hlt1
        go_wp2_with fail
        go_quiet (fail)
        go_wp2
        · go_ret
          refine ⟨ret_bool (Eq.symm (decide_eq_false fun h => ?_)), Bel.out⟩
          have := (by assumption : (!eqPer xs[k].lo xs[k].hi ys[k].lo ys[k].hi) = true)
          rw [Bool.not_eq_true', ← Bool.not_eq_true] at this
          exact this ((eqPer_iff _ _).2 (by simp [h]))
        · have := (by assumption : (!eqPer xs[k].lo xs[k].hi ys[k].lo ys[k].hi) = false)
          rw [Bool.not_eq_false'] at this
          exact ⟨⟨k + 1, by omega, by go_num, take_succ_eq xs ys k hlt hlt1 HT.out ((eqPer_iff _ _).1 this), Bel.out⟩, by simp [intOf]; omega⟩
      · go_wp2
        go_ret
        refine ⟨ret_bool (Eq.symm (decide_eq_true ?_)), Bel.out⟩
        have h := HT.out
        rwa [List.take_of_length_le (by omega), List.take_of_length_le (by have := HL.out; omega)] at h
end Go.Proofs.YtajkbnfpnohdlaaDoor.L01
