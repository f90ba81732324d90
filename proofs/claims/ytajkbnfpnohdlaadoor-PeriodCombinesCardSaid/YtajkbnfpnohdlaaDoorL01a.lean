/- LAYER 1: periods: the walks that read and build single periods. -/
import Derived.Test.YtajkbnfpnohdlaaDoorKit
namespace Go.Proofs.YtajkbnfpnohdlaaDoor.L01
open Go.RowKit Go.Proofs.YtajkbnfpnohdlaaDoor.Kit
set_option linter.unusedVariables false

def valid (a b : Int) : Bool := decide (0 ≤ a) && (decide (a < b) && decide (b ≤ 1099511627776))
theorem valid_calls (a b : Int) (w : World) :
    Calls Tryd.prog 23 #[.agg #[.int .i64 a, .int .i64 b]] w fun e w' => e = .returned (.bool (valid a b)) ∧ Below w.heap.size w w' := by
  go_enter Tryd.func23, Tryd.ntmps23
  go_wp2
  all_goals
    go_ret
    exact ⟨ret_bool (by simp [valid, *] <;> omega), Bel.out⟩
theorem rvalid_calls (a b : Int) (w : World) :
    Calls Tryd.prog 19 #[.agg #[.int .i64 a, .int .i64 b]] w fun e w' => e = .returned (.bool (valid a b)) ∧ Below w.heap.size w w' := by
  go_enter Tryd.func19, Tryd.ntmps19
  go_wp2
  all_goals
    go_ret
    exact ⟨ret_bool (by simp [valid, *] <;> omega), Bel.out⟩

def contains (a b t : Int) : Bool := valid a b && (decide (a ≤ t) && decide (t < b))
theorem contains_calls (a b t : Int) (w : World) :
    Calls Tryd.prog 22 #[.agg #[.int .i64 a, .int .i64 b], .int .i64 t] w fun e w' => e = .returned (.bool (contains a b t)) ∧ Below w.heap.size w w' := by
  go_enter Tryd.func22, Tryd.ntmps22
  go_wp2_with (go_at_call 23; refine (valid_calls _ _ _).mono ?_; rintro e w1 ⟨rfl, hb⟩; have hs := Step.of hb; clear hb; have hc := hs.cell; have hf := hs.frozen)
  all_goals
    go_ret
    exact ⟨ret_bool (by simp [contains, *] <;> omega), Bel.out⟩
theorem rcontains_calls (a b t : Int) (w : World) :
    Calls Tryd.prog 24 #[.agg #[.int .i64 a, .int .i64 b], .int .i64 t] w fun e w' => e = .returned (.bool (contains a b t)) ∧ Below w.heap.size w w' := by
  go_enter Tryd.func24, Tryd.ntmps24
  go_wp2_with (go_at_call 19; refine (rvalid_calls _ _ _).mono ?_; rintro e w1 ⟨rfl, hb⟩; have hs := Step.of hb; clear hb; have hc := hs.cell; have hf := hs.frozen)
  all_goals
    go_ret
    exact ⟨ret_bool (by simp [contains, *] <;> omega), Bel.out⟩

def covers (a b c d : Int) : Bool := valid a b && (valid c d && (decide (a ≤ c) && decide (d ≤ b)))
def overlaps (a b c d : Int) : Bool := valid a b && (valid c d && (decide (a < d) && decide (c < b)))
def adjacent (a b c d : Int) : Bool := valid a b && (valid c d && (decide (b = c) || decide (d = a)))
theorem covers_calls (a b c d : Int) (w : World) :
    Calls Tryd.prog 25 #[.agg #[.int .i64 a, .int .i64 b], .agg #[.int .i64 c, .int .i64 d]] w fun e w' => e = .returned (.bool (covers a b c d)) ∧ Below w.heap.size w w' := by
  go_enter Tryd.func25, Tryd.ntmps25
  go_wp2_with (go_at_call 23; refine (valid_calls _ _ _).mono ?_; rintro e w1 ⟨rfl, hb⟩; have hs := Step.of hb; clear hb; have hc := hs.cell; have hf := hs.frozen)
  all_goals
    go_ret
    exact ⟨ret_bool (by simp [covers, *] <;> omega), Bel.out⟩
theorem rcovers_calls (a b c d : Int) (w : World) :
    Calls Tryd.prog 26 #[.agg #[.int .i64 a, .int .i64 b], .agg #[.int .i64 c, .int .i64 d]] w fun e w' => e = .returned (.bool (covers a b c d)) ∧ Below w.heap.size w w' := by
  go_enter Tryd.func26, Tryd.ntmps26
  go_wp2_with (go_at_call 19; refine (rvalid_calls _ _ _).mono ?_; rintro e w1 ⟨rfl, hb⟩; have hs := Step.of hb; clear hb; have hc := hs.cell; have hf := hs.frozen)
  all_goals
    go_ret
    exact ⟨ret_bool (by simp [covers, *] <;> omega), Bel.out⟩
theorem overlaps_calls (a b c d : Int) (w : World) :
    Calls Tryd.prog 27 #[.agg #[.int .i64 a, .int .i64 b], .agg #[.int .i64 c, .int .i64 d]] w fun e w' => e = .returned (.bool (overlaps a b c d)) ∧ Below w.heap.size w w' := by
  go_enter Tryd.func27, Tryd.ntmps27
  go_wp2_with (go_at_call 23; refine (valid_calls _ _ _).mono ?_; rintro e w1 ⟨rfl, hb⟩; have hs := Step.of hb; clear hb; have hc := hs.cell; have hf := hs.frozen)
  all_goals
    go_ret
    exact ⟨ret_bool (by simp [overlaps, *] <;> omega), Bel.out⟩
theorem roverlaps_calls (a b c d : Int) (w : World) :
    Calls Tryd.prog 28 #[.agg #[.int .i64 a, .int .i64 b], .agg #[.int .i64 c, .int .i64 d]] w fun e w' => e = .returned (.bool (overlaps a b c d)) ∧ Below w.heap.size w w' := by
  go_enter Tryd.func28, Tryd.ntmps28
  go_wp2_with (go_at_call 19; refine (rvalid_calls _ _ _).mono ?_; rintro e w1 ⟨rfl, hb⟩; have hs := Step.of hb; clear hb; have hc := hs.cell; have hf := hs.frozen)
  all_goals
    go_ret
    exact ⟨ret_bool (by simp [overlaps, *] <;> omega), Bel.out⟩
theorem adjacent_calls (a b c d : Int) (w : World) :
    Calls Tryd.prog 29 #[.agg #[.int .i64 a, .int .i64 b], .agg #[.int .i64 c, .int .i64 d]] w fun e w' => e = .returned (.bool (adjacent a b c d)) ∧ Below w.heap.size w w' := by
  go_enter Tryd.func29, Tryd.ntmps29
  go_wp2_with (go_at_call 23; refine (valid_calls _ _ _).mono ?_; rintro e w1 ⟨rfl, hb⟩; have hs := Step.of hb; clear hb; have hc := hs.cell; have hf := hs.frozen)
  all_goals
    go_ret
    exact ⟨ret_bool (by first | (simp [adjacent, *]; done) | (simp [adjacent, *] <;> omega) | (simp_all [adjacent] <;> (rw [Bool.eq_iff_iff]; simp; omega))), Bel.out⟩
theorem radjacent_calls (a b c d : Int) (w : World) :
    Calls Tryd.prog 30 #[.agg #[.int .i64 a, .int .i64 b], .agg #[.int .i64 c, .int .i64 d]] w fun e w' => e = .returned (.bool (adjacent a b c d)) ∧ Below w.heap.size w w' := by
  go_enter Tryd.func30, Tryd.ntmps30
  go_wp2_with (go_at_call 19; refine (rvalid_calls _ _ _).mono ?_; rintro e w1 ⟨rfl, hb⟩; have hs := Step.of hb; clear hb; have hc := hs.cell; have hf := hs.frozen)
  all_goals
    go_ret
    exact ⟨ret_bool (by first | (simp [adjacent, *]; done) | (simp [adjacent, *] <;> omega) | (simp_all [adjacent] <;> (rw [Bool.eq_iff_iff]; simp; omega))), Bel.out⟩

def intersect (a b c d : Int) : Int × Int × Bool := if overlaps a b c d then (max a c, min b d, true) else (0, 0, false)
def merge (a b c d : Int) : Int × Int × Bool := if overlaps a b c d || adjacent a b c d then (min a c, max b d, true) else (0, 0, false)

theorem intersect_calls (a b c d : Int) (w : World) :
    Calls Tryd.prog 9 #[.agg #[.int .i64 a, .int .i64 b], .agg #[.int .i64 c, .int .i64 d]] w fun e w' => e = .returned (.tuple #[.agg #[.int .i64 (intersect a b c d).1, .int .i64 (intersect a b c d).2.1], .bool (intersect a b c d).2.2]) ∧ Below w.heap.size w w' := by
  go_enter Tryd.func9, Tryd.ntmps9
  go_wp2_with (go_at_call 27; refine (overlaps_calls _ _ _ _ _).mono ?_; rintro e w1 ⟨rfl, hb⟩; have hs := Step.of hb; clear hb; have hc := hs.cell; have hf := hs.frozen)
  all_goals
    exact bodyPost_ret (v := .tuple #[.agg #[.int .i64 (intersect a b c d).1, .int .i64 (intersect a b c d).2.1], .bool (intersect a b c d).2.2]) (by simp_all [results, Tryd.results9, go_sem, intersect] <;> omega) rfl ⟨rfl, Bel.out⟩
theorem rintersect_calls (a b c d : Int) (w : World) :
    Calls Tryd.prog 10 #[.agg #[.int .i64 a, .int .i64 b], .agg #[.int .i64 c, .int .i64 d]] w fun e w' => e = .returned (.tuple #[.agg #[.int .i64 (intersect a b c d).1, .int .i64 (intersect a b c d).2.1], .bool (intersect a b c d).2.2]) ∧ Below w.heap.size w w' := by
  go_enter Tryd.func10, Tryd.ntmps10
  go_wp2_with (go_at_call 28; refine (roverlaps_calls _ _ _ _ _).mono ?_; rintro e w1 ⟨rfl, hb⟩; have hs := Step.of hb; clear hb; have hc := hs.cell; have hf := hs.frozen)
  all_goals
    exact bodyPost_ret (v := .tuple #[.agg #[.int .i64 (intersect a b c d).1, .int .i64 (intersect a b c d).2.1], .bool (intersect a b c d).2.2]) (by simp_all [results, Tryd.results10, go_sem, intersect] <;> omega) rfl ⟨rfl, Bel.out⟩
theorem merge_calls (a b c d : Int) (w : World) :
    Calls Tryd.prog 11 #[.agg #[.int .i64 a, .int .i64 b], .agg #[.int .i64 c, .int .i64 d]] w fun e w' => e = .returned (.tuple #[.agg #[.int .i64 (merge a b c d).1, .int .i64 (merge a b c d).2.1], .bool (merge a b c d).2.2]) ∧ Below w.heap.size w w' := by
  go_enter Tryd.func11, Tryd.ntmps11
  go_wp2_with (first | (go_at_call 27; refine (overlaps_calls _ _ _ _ _).mono ?_; rintro e w1 ⟨rfl, hb⟩; have hs := Step.of hb; clear hb; have hc := hs.cell; have hf := hs.frozen) | (go_at_call 29; refine (adjacent_calls _ _ _ _ _).mono ?_; rintro e w1 ⟨rfl, hb⟩; have hs := Step.of hb; clear hb; have hc := hs.cell; have hf := hs.frozen))
  all_goals
    exact bodyPost_ret (v := .tuple #[.agg #[.int .i64 (merge a b c d).1, .int .i64 (merge a b c d).2.1], .bool (merge a b c d).2.2]) (by simp_all [results, Tryd.results11, go_sem, merge] <;> omega) rfl ⟨rfl, Bel.out⟩
theorem rmerge_calls (a b c d : Int) (w : World) :
    Calls Tryd.prog 12 #[.agg #[.int .i64 a, .int .i64 b], .agg #[.int .i64 c, .int .i64 d]] w fun e w' => e = .returned (.tuple #[.agg #[.int .i64 (merge a b c d).1, .int .i64 (merge a b c d).2.1], .bool (merge a b c d).2.2]) ∧ Below w.heap.size w w' := by
  go_enter Tryd.func12, Tryd.ntmps12
  go_wp2_with (first | (go_at_call 28; refine (roverlaps_calls _ _ _ _ _).mono ?_; rintro e w1 ⟨rfl, hb⟩; have hs := Step.of hb; clear hb; have hc := hs.cell; have hf := hs.frozen) | (go_at_call 30; refine (radjacent_calls _ _ _ _ _).mono ?_; rintro e w1 ⟨rfl, hb⟩; have hs := Step.of hb; clear hb; have hc := hs.cell; have hf := hs.frozen))
  all_goals
    exact bodyPost_ret (v := .tuple #[.agg #[.int .i64 (merge a b c d).1, .int .i64 (merge a b c d).2.1], .bool (merge a b c d).2.2]) (by simp_all [results, Tryd.results12, go_sem, merge] <;> omega) rfl ⟨rfl, Bel.out⟩
end Go.Proofs.YtajkbnfpnohdlaaDoor.L01
