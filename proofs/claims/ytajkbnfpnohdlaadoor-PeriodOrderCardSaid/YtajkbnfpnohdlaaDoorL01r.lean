/- LAYER 1: the walk of the law of order. -/
import Derived.Test.YtajkbnfpnohdlaaDoorL01m
import Derived.Deep.RegionHeld3
import Derived.Deep.DrawnRows
namespace Go.Proofs.YtajkbnfpnohdlaaDoor.L01
open Go.RowKit Go.Proofs.YtajkbnfpnohdlaaDoor.Kit Go.Proofs.YtajkbnfpnohdlaaDoorW.PrintWords
set_option linter.unusedVariables false
attribute [local go_sem high] eqP
attribute [local go_sem] allocCell allocFrozen setFar setFrozen allocAny
attribute [local go_sem ↓] Go.wp_at_zero Go.wp_at_succ

theorem compare_x {a b c d r : Int} (h : Hid (compare a b c d = r)) (w : World) :
    Calls Tryd.prog 31 #[.agg #[.int .i64 a, .int .i64 b], .agg #[.int .i64 c, .int .i64 d]] w fun e w' => e = .returned (.int .i64 r) ∧ Below w.heap.size w w' := by
  have h1 := compare_calls a b c d w
  rw [h.out] at h1
  exact h1
theorem held3 {W w' : World} {p q r : Nat} {v1 v2 v3 v4 v5 v6 : Value} [h : Bel W w'] [i1 : InHeap W p] [i2 : InHeap W q] [i3 : InHeap W r]
    (c1 : W.cell? ⟨p, 0, none⟩ = some v1) (c2 : W.cell? ⟨p, 1, none⟩ = some v2) (c3 : W.cell? ⟨q, 0, none⟩ = some v3) (c4 : W.cell? ⟨q, 1, none⟩ = some v4) (c5 : W.cell? ⟨r, 0, none⟩ = some v5) (c6 : W.cell? ⟨r, 1, none⟩ = some v6) :
    Bel W w' ∧ (w'.cell? ⟨p, 0, none⟩ = some v1 ∧ w'.cell? ⟨p, 1, none⟩ = some v2) ∧ (w'.cell? ⟨q, 0, none⟩ = some v3 ∧ w'.cell? ⟨q, 1, none⟩ = some v4) ∧ (w'.cell? ⟨r, 0, none⟩ = some v5 ∧ w'.cell? ⟨r, 1, none⟩ = some v6) := by
  have k : ∀ (b o : Nat), b < W.heap.size → w'.cell? ⟨b, o, none⟩ = W.cell? ⟨b, o, none⟩ := fun b o hb => h.out.cell (p := ⟨b, o, none⟩) hb
  exact ⟨h, ⟨(k _ _ i1.out).trans c1, (k _ _ i1.out).trans c2⟩, ⟨(k _ _ i2.out).trans c3, (k _ _ i2.out).trans c4⟩, ⟨(k _ _ i3.out).trans c5, (k _ _ i3.out).trans c6⟩⟩
theorem rcompare_x {a b c d r : Int} (h : Hid (compare a b c d = r)) (w : World) :
    Calls Tryd.prog 32 #[.agg #[.int .i64 a, .int .i64 b], .agg #[.int .i64 c, .int .i64 d]] w fun e w' => e = .returned (.int .i64 r) ∧ Below w.heap.size w w' := by
  have h1 := rcompare_calls a b c d w
  rw [h.out] at h1
  exact h1
set_option maxHeartbeats 1000000 in
theorem PeriodOrder_at (a b c d e f x y z u : Int) (q : Bool) (hx : Hid (compare a b c d = x)) (hy : Hid (compare c d e f = y)) (hz : Hid (compare a b e f = z)) (hu : Hid (compare c d a b = u)) (hq : eqPer a b c d = q)
    (HX : (x = -1 ∧ u = 1 ∧ q = false) ∨ (x = 0 ∧ u = 0 ∧ q = true) ∨ (x = 1 ∧ u = -1 ∧ q = false)) (HY : (y = 1) ∨ (y = -1) ∨ (y = 0)) (HZ : z = 1 ∨ z = -1 ∨ z = 0) (tri : 0 < x ∨ 0 < y ∨ z ≤ 0) (w : World) (HE : Hid (Env w)) :
    Calls Tryd.prog 8 #[.agg #[.int .i64 a, .int .i64 b], .agg #[.int .i64 c, .int .i64 d], .agg #[.int .i64 e, .int .i64 f]] w fun e w' => e = .returned (.bool true) ∧ Below w.heap.size w w' := by
  go_enter Tryd.func8, Tryd.ntmps8
  go_wp2_with fail
  rename_i K a_k
  generalize hW : (((w.alloc (.cells #[.int .i64 a, .int .i64 b] 23)).alloc (.cells #[.int .i64 c, .int .i64 d] 23)).alloc (.cells #[.int .i64 e, .int .i64 f] 23)) = W3
  have c1 : W3.cell? ⟨w.heap.size, 0, none⟩ = some (.int .i64 a) := by subst hW; clear a_k; go_simp
  have c2 : W3.cell? ⟨w.heap.size, 1, none⟩ = some (.int .i64 b) := by subst hW; clear a_k; go_simp
  have c3 : W3.cell? ⟨w.heap.size + 1, 0, none⟩ = some (.int .i64 c) := by subst hW; clear a_k; go_simp
  have c4 : W3.cell? ⟨w.heap.size + 1, 1, none⟩ = some (.int .i64 d) := by subst hW; clear a_k; go_simp
  have c5 : W3.cell? ⟨w.heap.size + 1 + 1, 0, none⟩ = some (.int .i64 e) := by subst hW; clear a_k; go_simp
  have c6 : W3.cell? ⟨w.heap.size + 1 + 1, 1, none⟩ = some (.int .i64 f) := by subst hW; clear a_k; go_simp
  have i0 : Bel w W3 := by subst hW; infer_instance
  have i1 : InHeap W3 w.heap.size := by subst hW; infer_instance
  have i2 : InHeap W3 (w.heap.size + 1) := by subst hW; infer_instance
  have i3 : InHeap W3 (w.heap.size + 1 + 1) := by subst hW; infer_instance
  clear hW
  go_region_held3 (fun w' => Bel W3 w' ∧ (w'.cell? ⟨w.heap.size, 0, none⟩ = some (.int .i64 a) ∧ w'.cell? ⟨w.heap.size, 1, none⟩ = some (.int .i64 b)) ∧ (w'.cell? ⟨w.heap.size + 1, 0, none⟩ = some (.int .i64 c) ∧ w'.cell? ⟨w.heap.size + 1, 1, none⟩ = some (.int .i64 d)) ∧ (w'.cell? ⟨w.heap.size + 1 + 1, 0, none⟩ = some (.int .i64 e) ∧ w'.cell? ⟨w.heap.size + 1 + 1, 1, none⟩ = some (.int .i64 f))) (exact held3 c1 c2 c3 c4 c5 c6)
    (first
    | (go_at_call 31; with_reducible refine (compare_x hx _).mono ?_; rintro e w1 ⟨rfl, hb⟩; have hs := Step.of hb; clear hb)
    | (go_at_call 31; with_reducible refine (compare_x hy _).mono ?_; rintro e w1 ⟨rfl, hb⟩; have hs := Step.of hb; clear hb)
    | (go_at_call 31; with_reducible refine (compare_x hz _).mono ?_; rintro e w1 ⟨rfl, hb⟩; have hs := Step.of hb; clear hb))
  rename_i hH
  obtain ⟨hB, ⟨k1, k2⟩, ⟨k3, k4⟩, k5, k6⟩ := hH
  clear c1 c2 c3 c4 c5 c6
  have j1 : InHeap w1 w.heap.size := ⟨Nat.lt_of_lt_of_le i1.out hB.out.size⟩
  have j2 : InHeap w1 (w.heap.size + 1) := ⟨Nat.lt_of_lt_of_le i2.out hB.out.size⟩
  have j3 : InHeap w1 (w.heap.size + 1 + 1) := ⟨Nat.lt_of_lt_of_le i3.out hB.out.size⟩
  have hw : Bel w w1 := ⟨i0.out.trans (hB.out.mono i0.out.size)⟩
  clear hB i0 i1 i2 i3 hs
  rcases HX with ⟨rfl, rfl, rfl⟩ | ⟨rfl, rfl, rfl⟩ | ⟨rfl, rfl, rfl⟩ <;> rcases HY with rfl | rfl | rfl <;> rcases HZ with rfl | rfl | rfl <;> first | (exact absurd tri (by decide)) | skip
  all_goals clear tri
  all_goals
   go_wp2_with (first
    | (go_at_call 32; with_reducible refine (rcompare_x hx _).mono ?_; rintro e w1 ⟨rfl, hb⟩; have hs := Step.of hb; clear hb; have hc := hs.cell; have hf := hs.frozen)
    | (go_at_call 31; with_reducible refine (compare_x hu _).mono ?_; rintro e w1 ⟨rfl, hb⟩; have hs := Step.of hb; clear hb; have hc := hs.cell; have hf := hs.frozen)
    | (go_at_call 16; (with_reducible refine (awake_calls _ (Env.up (w := w) HE.out)).mono ?_); rintro e w1 ⟨rfl, hb⟩; have hs := Step.of hb; clear hb; have hc := hs.cell; have hf := hs.frozen))
  all_goals
    go_ret
    exact ⟨rfl, Bel.out⟩
theorem compare_three (a b c d : Int) : compare a b c d = 1 ∨ compare a b c d = -1 ∨ compare a b c d = 0 := by unfold compare sgn; (repeat' split) <;> simp
theorem PeriodOrder_calls (a b c d e f : Int) (w : World) (he : Env w) :
    Calls Tryd.prog 8 #[.agg #[.int .i64 a, .int .i64 b], .agg #[.int .i64 c, .int .i64 d], .agg #[.int .i64 e, .int .i64 f]] w fun e w' => e = .returned (.bool true) ∧ Below w.heap.size w w' := by
  refine PeriodOrder_at a b c d e f _ _ _ _ _ (Lib.hid rfl) (Lib.hid rfl) (Lib.hid rfl) (Lib.hid rfl) rfl ?_ (compare_three _ _ _ _) (compare_three _ _ _ _) ?_ w (Lib.hid he)
  · unfold compare sgn eqPer
    by_cases h1 : a = c
    · subst h1
      by_cases h2 : b = d
      · subst h2
        simp
      · have : (b == d) = false := by simpa using h2
        simp [this]
        omega
    · have : (a == c) = false := by simpa using h1
      simp [this, h1, Ne.symm h1]
      omega
  · unfold compare sgn
    (repeat' split) <;> omega
end Go.Proofs.YtajkbnfpnohdlaaDoor.L01
