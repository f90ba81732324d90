/- LAYER 1: the walk of the law of the predicates. -/
import Derived.Test.YtajkbnfpnohdlaaDoorL01m
import Derived.Deep.RegionHeld3
import Derived.Deep.DrawnRows
namespace Go.Proofs.YtajkbnfpnohdlaaDoor.L01
open Go.RowKit Go.Proofs.YtajkbnfpnohdlaaDoor.Kit Go.Proofs.YtajkbnfpnohdlaaDoorW.PrintWords
set_option linter.unusedVariables false
attribute [local go_sem high] eqP
attribute [local go_sem] allocCell allocFrozen setFar setFrozen allocAny
attribute [local go_sem ↓] Go.wp_at_zero Go.wp_at_succ

theorem held2 {W w' : World} {p q : Nat} {v1 v2 v3 v4 : Value} [h : Bel W w'] [i1 : InHeap W p] [i2 : InHeap W q]
    (c1 : W.cell? ⟨p, 0, none⟩ = some v1) (c2 : W.cell? ⟨p, 1, none⟩ = some v2) (c3 : W.cell? ⟨q, 0, none⟩ = some v3) (c4 : W.cell? ⟨q, 1, none⟩ = some v4) :
    Bel W w' ∧ (w'.cell? ⟨p, 0, none⟩ = some v1 ∧ w'.cell? ⟨p, 1, none⟩ = some v2) ∧ (w'.cell? ⟨q, 0, none⟩ = some v3 ∧ w'.cell? ⟨q, 1, none⟩ = some v4) := by
  have k : ∀ (b o : Nat), b < W.heap.size → w'.cell? ⟨b, o, none⟩ = W.cell? ⟨b, o, none⟩ := fun b o hb => h.out.cell (p := ⟨b, o, none⟩) hb
  exact ⟨h, ⟨(k _ _ i1.out).trans c1, (k _ _ i1.out).trans c2⟩, ⟨(k _ _ i2.out).trans c3, (k _ _ i2.out).trans c4⟩⟩
theorem valid_s {a b : Int} {r : Bool} (h : Hid (valid a b = r)) (w : World) :
    Calls Tryd.prog 23 #[.agg #[.int .i64 a, .int .i64 b]] w fun e w' => e = .returned (.bool r) ∧ Below w.heap.size w w' := by
  have h1 := valid_calls a b w
  rw [h.out] at h1
  exact h1
theorem rvalid_s {a b : Int} {r : Bool} (h : Hid (valid a b = r)) (w : World) :
    Calls Tryd.prog 19 #[.agg #[.int .i64 a, .int .i64 b]] w fun e w' => e = .returned (.bool r) ∧ Below w.heap.size w w' := by
  have h1 := rvalid_calls a b w
  rw [h.out] at h1
  exact h1
theorem contains_s {a b t : Int} {r : Bool} (h : Hid (contains a b t = r)) (w : World) :
    Calls Tryd.prog 22 #[.agg #[.int .i64 a, .int .i64 b], .int .i64 t] w fun e w' => e = .returned (.bool r) ∧ Below w.heap.size w w' := by
  have h1 := contains_calls a b t w
  rw [h.out] at h1
  exact h1
theorem rcontains_s {a b t : Int} {r : Bool} (h : Hid (contains a b t = r)) (w : World) :
    Calls Tryd.prog 24 #[.agg #[.int .i64 a, .int .i64 b], .int .i64 t] w fun e w' => e = .returned (.bool r) ∧ Below w.heap.size w w' := by
  have h1 := rcontains_calls a b t w
  rw [h.out] at h1
  exact h1
theorem covers_s {a b c d : Int} {r : Bool} (h : Hid (covers a b c d = r)) (w : World) :
    Calls Tryd.prog 25 #[.agg #[.int .i64 a, .int .i64 b], .agg #[.int .i64 c, .int .i64 d]] w fun e w' => e = .returned (.bool r) ∧ Below w.heap.size w w' := by
  have h1 := covers_calls a b c d w
  rw [h.out] at h1
  exact h1
theorem rcovers_s {a b c d : Int} {r : Bool} (h : Hid (covers a b c d = r)) (w : World) :
    Calls Tryd.prog 26 #[.agg #[.int .i64 a, .int .i64 b], .agg #[.int .i64 c, .int .i64 d]] w fun e w' => e = .returned (.bool r) ∧ Below w.heap.size w w' := by
  have h1 := rcovers_calls a b c d w
  rw [h.out] at h1
  exact h1
theorem overlaps_s {a b c d : Int} {r : Bool} (h : Hid (overlaps a b c d = r)) (w : World) :
    Calls Tryd.prog 27 #[.agg #[.int .i64 a, .int .i64 b], .agg #[.int .i64 c, .int .i64 d]] w fun e w' => e = .returned (.bool r) ∧ Below w.heap.size w w' := by
  have h1 := overlaps_calls a b c d w
  rw [h.out] at h1
  exact h1
theorem roverlaps_s {a b c d : Int} {r : Bool} (h : Hid (overlaps a b c d = r)) (w : World) :
    Calls Tryd.prog 28 #[.agg #[.int .i64 a, .int .i64 b], .agg #[.int .i64 c, .int .i64 d]] w fun e w' => e = .returned (.bool r) ∧ Below w.heap.size w w' := by
  have h1 := roverlaps_calls a b c d w
  rw [h.out] at h1
  exact h1
theorem adjacent_s {a b c d : Int} {r : Bool} (h : Hid (adjacent a b c d = r)) (w : World) :
    Calls Tryd.prog 29 #[.agg #[.int .i64 a, .int .i64 b], .agg #[.int .i64 c, .int .i64 d]] w fun e w' => e = .returned (.bool r) ∧ Below w.heap.size w w' := by
  have h1 := adjacent_calls a b c d w
  rw [h.out] at h1
  exact h1
theorem radjacent_s {a b c d : Int} {r : Bool} (h : Hid (adjacent a b c d = r)) (w : World) :
    Calls Tryd.prog 30 #[.agg #[.int .i64 a, .int .i64 b], .agg #[.int .i64 c, .int .i64 d]] w fun e w' => e = .returned (.bool r) ∧ Below w.heap.size w w' := by
  have h1 := radjacent_calls a b c d w
  rw [h.out] at h1
  exact h1
set_option maxHeartbeats 4000000 in
theorem PeriodTells_at (a b c d t : Int) (v g h o j : Bool) (hv : Hid (valid a b = v)) (hg : Hid (contains a b t = g)) (hh : Hid (covers a b c d = h)) (ho : Hid (overlaps a b c d = o)) (hj : Hid (adjacent a b c d = j)) (w : World) (HE : Hid (Env w)) :
    Calls Tryd.prog 7 #[.agg #[.int .i64 a, .int .i64 b], .agg #[.int .i64 c, .int .i64 d], .int .i64 t] w fun e w' => e = .returned (.bool true) ∧ Below w.heap.size w w' := by
  go_enter Tryd.func7, Tryd.ntmps7
  go_wp2_with fail
  rename_i K a_k
  generalize hW : ((w.alloc (.cells #[.int .i64 a, .int .i64 b] 23)).alloc (.cells #[.int .i64 c, .int .i64 d] 23)) = W3
  have c1 : W3.cell? ⟨w.heap.size, 0, none⟩ = some (.int .i64 a) := by subst hW; clear a_k; go_simp
  have c2 : W3.cell? ⟨w.heap.size, 1, none⟩ = some (.int .i64 b) := by subst hW; clear a_k; go_simp
  have c3 : W3.cell? ⟨w.heap.size + 1, 0, none⟩ = some (.int .i64 c) := by subst hW; clear a_k; go_simp
  have c4 : W3.cell? ⟨w.heap.size + 1, 1, none⟩ = some (.int .i64 d) := by subst hW; clear a_k; go_simp
  have i0 : Bel w W3 := by subst hW; infer_instance
  have i1 : InHeap W3 w.heap.size := by subst hW; infer_instance
  have i2 : InHeap W3 (w.heap.size + 1) := by subst hW; infer_instance
  clear hW
  go_region_held3 (fun w' => Bel W3 w' ∧ (w'.cell? ⟨w.heap.size, 0, none⟩ = some (.int .i64 a) ∧ w'.cell? ⟨w.heap.size, 1, none⟩ = some (.int .i64 b)) ∧ (w'.cell? ⟨w.heap.size + 1, 0, none⟩ = some (.int .i64 c) ∧ w'.cell? ⟨w.heap.size + 1, 1, none⟩ = some (.int .i64 d))) (exact held2 c1 c2 c3 c4)
    (first
    | (go_at_call 23; with_reducible refine (valid_s hv _).mono ?_; rintro e w1 ⟨rfl, hb⟩; have hs := Step.of hb; clear hb)
    | (go_at_call 19; with_reducible refine (rvalid_s hv _).mono ?_; rintro e w1 ⟨rfl, hb⟩; have hs := Step.of hb; clear hb)
    | (go_at_call 22; with_reducible refine (contains_s hg _).mono ?_; rintro e w1 ⟨rfl, hb⟩; have hs := Step.of hb; clear hb)
    | (go_at_call 24; with_reducible refine (rcontains_s hg _).mono ?_; rintro e w1 ⟨rfl, hb⟩; have hs := Step.of hb; clear hb)
    | (go_at_call 25; with_reducible refine (covers_s hh _).mono ?_; rintro e w1 ⟨rfl, hb⟩; have hs := Step.of hb; clear hb)
    | (go_at_call 26; with_reducible refine (rcovers_s hh _).mono ?_; rintro e w1 ⟨rfl, hb⟩; have hs := Step.of hb; clear hb)
    | (go_at_call 27; with_reducible refine (overlaps_s ho _).mono ?_; rintro e w1 ⟨rfl, hb⟩; have hs := Step.of hb; clear hb)
    | (go_at_call 28; with_reducible refine (roverlaps_s ho _).mono ?_; rintro e w1 ⟨rfl, hb⟩; have hs := Step.of hb; clear hb)
    | (go_at_call 29; with_reducible refine (adjacent_s hj _).mono ?_; rintro e w1 ⟨rfl, hb⟩; have hs := Step.of hb; clear hb)
    | (go_at_call 30; with_reducible refine (radjacent_s hj _).mono ?_; rintro e w1 ⟨rfl, hb⟩; have hs := Step.of hb; clear hb)
    | (go_at_call 16; (with_reducible refine (awake_calls _ (Env.up (w := w) HE.out)).mono ?_); rintro e w1 ⟨rfl, hb⟩; have hs := Step.of hb; clear hb))
  go_wp2
  all_goals
    go_ret
    exact ⟨rfl, Bel.out⟩
theorem PeriodTells_calls (a b c d t : Int) (w : World) (he : Env w) :
    Calls Tryd.prog 7 #[.agg #[.int .i64 a, .int .i64 b], .agg #[.int .i64 c, .int .i64 d], .int .i64 t] w fun e w' => e = .returned (.bool true) ∧ Below w.heap.size w w' :=
  PeriodTells_at a b c d t _ _ _ _ _ (Lib.hid rfl) (Lib.hid rfl) (Lib.hid rfl) (Lib.hid rfl) (Lib.hid rfl) w (Lib.hid he)
end Go.Proofs.YtajkbnfpnohdlaaDoor.L01
