/- LAYER 1: the walk of the law of partition. -/
import Derived.Test.YtajkbnfpnohdlaaDoorL01m
import Derived.WalkLawsBesides
namespace Go.Proofs.YtajkbnfpnohdlaaDoor.L01
open Go.RowKit Go.Proofs.YtajkbnfpnohdlaaDoor.Kit Go.Proofs.YtajkbnfpnohdlaaDoorW.PrintWords
set_option linter.unusedVariables false
attribute [local go_sem high] eqP
attribute [local go_sem] allocCell allocFrozen setFar setFrozen allocAny

theorem intersect_x {a b c d x y : Int} {r : Bool} (h : Hid (intersect a b c d = (x, y, r))) (w : World) :
    Calls Tryd.prog 9 #[.agg #[.int .i64 a, .int .i64 b], .agg #[.int .i64 c, .int .i64 d]] w fun e w' => e = .returned (.tuple #[.agg #[.int .i64 x, .int .i64 y], .bool r]) ∧ Below w.heap.size w w' := by
  have h1 := intersect_calls a b c d w
  rw [h.out] at h1
  exact h1
theorem merge_x {a b c d x y : Int} {r : Bool} (h : Hid (merge a b c d = (x, y, r))) (w : World) :
    Calls Tryd.prog 11 #[.agg #[.int .i64 a, .int .i64 b], .agg #[.int .i64 c, .int .i64 d]] w fun e w' => e = .returned (.tuple #[.agg #[.int .i64 x, .int .i64 y], .bool r]) ∧ Below w.heap.size w w' := by
  have h1 := merge_calls a b c d w
  rw [h.out] at h1
  exact h1
theorem contains_x {a b t : Int} {r : Bool} (h : Hid (contains a b t = r)) (w : World) :
    Calls Tryd.prog 22 #[.agg #[.int .i64 a, .int .i64 b], .int .i64 t] w fun e w' => e = .returned (.bool r) ∧ Below w.heap.size w w' := by
  have h1 := contains_calls a b t w
  rw [h.out] at h1
  exact h1
theorem subtract_x {a b c d : Int} {l : List Period} (h : Hid (subtract a b c d = l)) (w : World) :
    Calls Tryd.prog 14 #[.agg #[.int .i64 a, .int .i64 b], .agg #[.int .i64 c, .int .i64 d]] w fun e w' => ∃ A n c, e = .returned (.slice A n c) ∧ Hid (l.length = n) ∧ kPeriod.C w' A n l ∧ Below w.heap.size w w' := by
  refine (subtract_calls a b c d w).mono ?_
  rintro e w' ⟨v, rfl, hR, hb⟩
  rw [h.out] at hR
  obtain ⟨A, c, rfl, hl, hC⟩ := Kd.R_reads hR
  exact ⟨A, _, c, rfl, Lib.hid rfl, hC, hb⟩
/-- How many of them have an instant. -/
def cnt (l : List Period) (t : Int) : Nat := l.countP fun p => contains p.lo p.hi t
theorem cnt_snoc (l : List Period) (t : Int) (k : Nat) (h : k < l.length) : cnt (l.take (k + 1)) t = cnt (l.take k) t + if contains l[k].lo l[k].hi t then 1 else 0 := by
  unfold cnt
  rw [List.take_succ_eq_append_getElem h, List.countP_append]
  simp [List.countP_cons]
def n0 (r c : Bool) : Nat := if r && c then 1 else 0
theorem part_len (a b c d : Int) : (subtract a b c d).length ≤ 2 := by unfold subtract; (repeat' split) <;> simp
theorem contains_valid {a b : Int} (h : valid a b = true) (t : Int) : contains a b t = decide (a ≤ t ∧ t < b) := by
  rw [contains, h]; simp [Bool.decide_and]
/-- THE PLAIN LAW. -/
theorem part_law (a b c d t : Int) : (contains a b t = true ∧ n0 (intersect a b c d).2.2 (contains (intersect a b c d).1 (intersect a b c d).2.1 t) + cnt (subtract a b c d) t = 1) ∨ (contains a b t = false ∧ n0 (intersect a b c d).2.2 (contains (intersect a b c d).1 (intersect a b c d).2.1 t) + cnt (subtract a b c d) t = 0) := by
  by_cases h1 : valid a b = true
  · by_cases h2 : overlaps a b c d = true
    · have v1 := h1
      have v2 := h2
      simp only [overlaps, Bool.and_eq_true, valid, decide_eq_true_eq] at v1 v2
      simp only [intersect, subtract, h1, h2, if_true, n0, Bool.true_and]
      rw [contains_valid h1, contains_valid (show valid (max a c) (min b d) = true by simp [valid]; omega)]
      have e1 : cnt ((if a < c then [⟨a, c⟩] else []) ++ if d < b then [⟨d, b⟩] else []) t = (if a ≤ t ∧ t < c then 1 else 0) + (if d ≤ t ∧ t < b then 1 else 0) := by
        unfold cnt
        rw [List.countP_append]
        congr 1
        · split
          · rw [List.countP_singleton, contains_valid (show valid a c = true by simp [valid]; omega)]
            simp
          · rw [if_neg (by omega)]; rfl
        · split
          · rw [List.countP_singleton, contains_valid (show valid d b = true by simp [valid]; omega)]
            simp
          · rw [if_neg (by omega)]; rfl
      rw [e1]
      simp only [decide_eq_true_eq, decide_eq_false_iff_not]
      (repeat' split) <;> omega
    · simp only [intersect, subtract, h1, h2, if_true, n0]
      simp [cnt, List.countP_cons]
  · have h2 : overlaps a b c d = false := by simp [overlaps, h1]
    simp [intersect, subtract, h1, h2, n0, cnt, contains]
theorem merge_law (a b c d t : Int) (h : (merge a b c d).2.2 = true) : contains (merge a b c d).1 (merge a b c d).2.1 t = (contains a b t || contains c d t) := by
  unfold merge at h ⊢
  split at h
  · rename_i h2
    rw [if_pos h2]
    simp only [overlaps, adjacent, Bool.or_eq_true, Bool.and_eq_true, valid, decide_eq_true_eq] at h2
    rw [Bool.eq_iff_iff]
    simp only [contains, valid, Bool.or_eq_true, Bool.and_eq_true, decide_eq_true_eq]
    omega
  · simp at h
set_option maxHeartbeats 4000000 in
theorem PeriodPartition_calls (a b c d t : Int) (w : World) (he : Env w) :
    Calls Tryd.prog 6 #[.agg #[.int .i64 a, .int .i64 b], .agg #[.int .i64 c, .int .i64 d], .int .i64 t] w fun e w' => e = .returned (.bool true) ∧ Below w.heap.size w w' := by
  have HE := Lib.hid he; clear he
  have hu := Tryd.underlying27
  have hlaw := part_law a b c d t
  have hmer := merge_law a b c d t
  obtain ⟨x, y, r, hI⟩ : ∃ x y r, Hid (intersect a b c d = (x, y, r)) := ⟨_, _, _, Lib.hid rfl⟩
  obtain ⟨x2, y2, r2, hM⟩ : ∃ x y r, Hid (merge a b c d = (x, y, r)) := ⟨_, _, _, Lib.hid rfl⟩
  obtain ⟨l, hS⟩ : ∃ l, Hid (subtract a b c d = l) := ⟨_, Lib.hid rfl⟩
  obtain ⟨c1, hc1⟩ : ∃ r, Hid (contains x y t = r) := ⟨_, Lib.hid rfl⟩
  obtain ⟨c2, hc2⟩ : ∃ r, Hid (contains a b t = r) := ⟨_, Lib.hid rfl⟩
  obtain ⟨c3, hc3⟩ : ∃ r, Hid (contains c d t = r) := ⟨_, Lib.hid rfl⟩
  obtain ⟨c4, hc4⟩ : ∃ r, Hid (contains x2 y2 t = r) := ⟨_, Lib.hid rfl⟩
  have hlen := part_len a b c d
  rw [hS.out] at hlen
  rw [hI.out, hS.out, hc2.out] at hlaw
  simp only [hc1.out] at hlaw
  rw [hM.out, hc2.out, hc3.out] at hmer
  simp only [hc4.out] at hmer
  have HM := Lib.hid hmer
  clear hmer
  obtain ⟨N0, hN0⟩ : ∃ N0, Hid (N0 = n0 r c1) := ⟨_, Lib.hid rfl⟩
  rw [← hN0.out] at hlaw
  have HL := Lib.hid hlaw
  clear hlaw
  rcases r with _ | _
  all_goals rcases c1 with _ | _
  all_goals
    go_enter Tryd.func6, Tryd.ntmps6
    go_wp2_with (first
      | (go_at_call 9; (with_reducible refine (intersect_x hI _).mono ?_); rintro e w1 ⟨rfl, hb⟩; have hs := Step.of hb; clear hb; have hc := hs.cell; have hf := hs.frozen; have ha := hs.any)
      | (go_at_call 22; (with_reducible refine (contains_x hc1 _).mono ?_); rintro e w1 ⟨rfl, hb⟩; have hs := Step.of hb; clear hb; have hc := hs.cell; have hf := hs.frozen; have ha := hs.any)
      | (go_at_call 14; (with_reducible refine (subtract_x hS _).mono ?_); rintro e w1 ⟨A, n, cc, rfl, hn, hC, hb⟩; have hnl : n ≤ 2 := (by have := hn.out; omega); have hs := Step.of hb; clear hb; have hc := hs.cell; have hf := hs.frozen; have ha := hs.any; have HC := Lib.hid hC; clear hC))
    have hcl : l.length ≤ 2 := hlen
    go_loopw [11, 7] (fun i m wr => ∃ k : Nat, k ≤ n ∧ i = .int .i64 k ∧ m = .int .i64 ((N0 + cnt (l.take k) t : Nat) : Int) ∧ N0 + cnt (l.take k) t ≤ 1 + k ∧ Below w1.heap.size w1 wr) (fun i _ _ => n - (intOf i).toNat)
    case atStart => exact ⟨0, by omega, rfl, by rw [hN0.out]; rfl, by rw [hN0.out]; simp [n0, cnt], Bel.out⟩
    case round =>
      obtain ⟨k, hk, rfl, rfl, hbd, hB⟩ := hrel
      have hs2 := Step.of hB; clear hB; have hd1 := hs2.cell; have hd2 := hs2.frozen; have hd3 := hs2.any
      by_cases hlt : k < n
      · obtain ⟨ad, e, hi, h0, h1⟩ := at_Period HC.out k hlt
        subst e
        obtain ⟨lo, hlo⟩ : ∃ lo, Hid ((l.getD k zPeriod).lo = lo) := ⟨_, Lib.hid rfl⟩
        obtain ⟨hi_, hhi⟩ : ∃ lo, Hid ((l.getD k zPeriod).hi = lo) := ⟨_, Lib.hid rfl⟩
        rw [hlo.out] at h0
        rw [hhi.out] at h1
        obtain ⟨q, hq⟩ : ∃ q, Hid (contains lo hi_ t = q) := ⟨_, Lib.hid rfl⟩
        have hsn : Hid (cnt (l.take (k + 1)) t = cnt (l.take k) t + if q then 1 else 0) := Lib.hid (by
          have hkl : k < l.length := by have := hn.out; omega
          rw [cnt_snoc l t k hkl, ← hq.out, ← hlo.out, ← hhi.out]
          simp [List.getD_eq_getElem?_getD, hkl])
        rcases q with _ | _
        all_goals
          go_wp2_with (go_at_call 22; (with_reducible refine (contains_x hq _).mono ?_); rintro e w2 ⟨rfl, hb⟩; have hs3 := Step.of hb; clear hb)
          refine ⟨⟨k + 1, by omega, by go_num, ?_, ?_, Bel.out⟩, by simp [intOf]; omega⟩
          · rw [hsn.out]; simp; (try omega)
          · rw [hsn.out]; simp; omega
      · have hkn : k = n := by omega
        have ht : l.take k = l := List.take_of_length_le (by have := hn.out; omega)
        rcases HL.out with ⟨e1, e2⟩ | ⟨e1, e2⟩
        all_goals
          rw [← ht] at e2
          simp only [e2]
          subst e1
          clear e2 ht
          rcases r2 with _ | _
          · go_wp2_with (first
      | (go_at_call 22; (with_reducible refine (contains_x hc2 _).mono ?_); rintro e w1 ⟨rfl, hb⟩; have hs := Step.of hb; clear hb; have hc := hs.cell; have hf := hs.frozen; have ha := hs.any)
      | (go_at_call 11; (with_reducible refine (merge_x hM _).mono ?_); rintro e w1 ⟨rfl, hb⟩; have hs := Step.of hb; clear hb; have hc := hs.cell; have hf := hs.frozen; have ha := hs.any)
      | (go_at_call 16; (with_reducible refine (awake_calls _ (Env.up (w := w) HE.out)).mono ?_); rintro e w1 ⟨rfl, hb⟩; have hs := Step.of hb; clear hb; have hc := hs.cell; have hf := hs.frozen; have ha := hs.any))
            go_ret
            exact ⟨rfl, Bel.out⟩
          · have e3 := HM.out rfl
            rcases c3 with _ | _
            all_goals
              subst e3
              go_wp2_with (first
      | (go_at_call 22; (with_reducible refine (contains_x hc2 _).mono ?_); rintro e w1 ⟨rfl, hb⟩; have hs := Step.of hb; clear hb; have hc := hs.cell; have hf := hs.frozen; have ha := hs.any)
      | (go_at_call 11; (with_reducible refine (merge_x hM _).mono ?_); rintro e w1 ⟨rfl, hb⟩; have hs := Step.of hb; clear hb; have hc := hs.cell; have hf := hs.frozen; have ha := hs.any)
      | (go_at_call 22; (with_reducible refine (contains_x hc4 _).mono ?_); rintro e w1 ⟨rfl, hb⟩; have hs := Step.of hb; clear hb; have hc := hs.cell; have hf := hs.frozen; have ha := hs.any)
      | (go_at_call 22; (with_reducible refine (contains_x hc3 _).mono ?_); rintro e w1 ⟨rfl, hb⟩; have hs := Step.of hb; clear hb; have hc := hs.cell; have hf := hs.frozen; have ha := hs.any)
      | (go_at_call 16; (with_reducible refine (awake_calls _ (Env.up (w := w) HE.out)).mono ?_); rintro e w1 ⟨rfl, hb⟩; have hs := Step.of hb; clear hb; have hc := hs.cell; have hf := hs.frozen; have ha := hs.any))
              go_ret
              exact ⟨rfl, Bel.out⟩
end Go.Proofs.YtajkbnfpnohdlaaDoor.L01
