/- LAYER 1: the walk of the law of the combinations. -/
import Derived.Test.YtajkbnfpnohdlaaDoorL01s
import Derived.Test.YtajkbnfpnohdlaaDoorL01d
import Derived.Test.YtajkbnfpnohdlaaDoorL01c
namespace Go.Proofs.YtajkbnfpnohdlaaDoor.L01
open Go.RowKit Go.Proofs.YtajkbnfpnohdlaaDoor.Kit Go.Proofs.YtajkbnfpnohdlaaDoorW.PrintWords
set_option linter.unusedVariables false
attribute [local go_sem high] eqP
attribute [local go_sem] allocCell allocFrozen setFar setFrozen allocAny
attribute [local go_sem ↓] Go.wp_at_zero Go.wp_at_succ

theorem intersect_s {a b c d x y : Int} {r : Bool} (h : Hid (intersect a b c d = (x, y, r))) (w : World) :
    Calls Tryd.prog 9 #[.agg #[.int .i64 a, .int .i64 b], .agg #[.int .i64 c, .int .i64 d]] w fun e w' => e = .returned (.tuple #[.agg #[.int .i64 x, .int .i64 y], .bool r]) ∧ Below w.heap.size w w' := by
  have h1 := intersect_calls a b c d w
  rw [h.out] at h1
  exact h1
theorem rintersect_s {a b c d x y : Int} {r : Bool} (h : Hid (intersect a b c d = (x, y, r))) (w : World) :
    Calls Tryd.prog 10 #[.agg #[.int .i64 a, .int .i64 b], .agg #[.int .i64 c, .int .i64 d]] w fun e w' => e = .returned (.tuple #[.agg #[.int .i64 x, .int .i64 y], .bool r]) ∧ Below w.heap.size w w' := by
  have h1 := rintersect_calls a b c d w
  rw [h.out] at h1
  exact h1
theorem merge_s {a b c d x y : Int} {r : Bool} (h : Hid (merge a b c d = (x, y, r))) (w : World) :
    Calls Tryd.prog 11 #[.agg #[.int .i64 a, .int .i64 b], .agg #[.int .i64 c, .int .i64 d]] w fun e w' => e = .returned (.tuple #[.agg #[.int .i64 x, .int .i64 y], .bool r]) ∧ Below w.heap.size w w' := by
  have h1 := merge_calls a b c d w
  rw [h.out] at h1
  exact h1
theorem rmerge_s {a b c d x y : Int} {r : Bool} (h : Hid (merge a b c d = (x, y, r))) (w : World) :
    Calls Tryd.prog 12 #[.agg #[.int .i64 a, .int .i64 b], .agg #[.int .i64 c, .int .i64 d]] w fun e w' => e = .returned (.tuple #[.agg #[.int .i64 x, .int .i64 y], .bool r]) ∧ Below w.heap.size w w' := by
  have h1 := rmerge_calls a b c d w
  rw [h.out] at h1
  exact h1
theorem subtract_s {a b c d : Int} {l : List Period} (h : Hid (subtract a b c d = l)) (w : World) :
    Calls Tryd.prog 14 #[.agg #[.int .i64 a, .int .i64 b], .agg #[.int .i64 c, .int .i64 d]] w fun e w' => ∃ A c, e = .returned (.slice A l.length c) ∧ Hid (l.length ≤ c ∧ kPeriod.C w' A l.length l) ∧ Below w.heap.size w w' := by
  refine (subtract_calls a b c d w).mono ?_
  rintro e w' ⟨v, rfl, hR, hb⟩
  rw [h.out] at hR
  obtain ⟨A, c, rfl, hl, hC⟩ := Kd.R_reads hR
  exact ⟨A, c, rfl, Lib.hid ⟨hl, hC⟩, hb⟩
theorem rsubtract_s {a b c d : Int} {l : List Period} (h : Hid (subtract a b c d = l)) (w : World) :
    Calls Tryd.prog 15 #[.agg #[.int .i64 a, .int .i64 b], .agg #[.int .i64 c, .int .i64 d]] w fun e w' => ∃ A c, e = .returned (.slice A l.length c) ∧ Hid (l.length ≤ c ∧ kPeriod.C w' A l.length l) ∧ Below w.heap.size w w' := by
  refine (rsubtract_calls a b c d w).mono ?_
  rintro e w' ⟨v, rfl, hR, hb⟩
  rw [h.out] at hR
  obtain ⟨A, c, rfl, hl, hC⟩ := Kd.R_reads hR
  exact ⟨A, c, rfl, Lib.hid ⟨hl, hC⟩, hb⟩
theorem held6 {W w' : World} {p1 p2 p3 p4 p5 p6 : Nat} {v1 v2 v3 v4 v5 v6 v7 v8 v9 u1 u2 u3 : Value} [h : Bel W w'] [i1 : InHeap W p1] [i2 : InHeap W p2] [i3 : InHeap W p3] [i4 : InHeap W p4] [i5 : InHeap W p5] [i6 : InHeap W p6]
    (c1 : W.cell? ⟨p1, 0, none⟩ = some v1) (c2 : W.cell? ⟨p1, 1, none⟩ = some v2) (c3 : W.cell? ⟨p2, 0, none⟩ = some v3) (c4 : W.cell? ⟨p2, 1, none⟩ = some v4) (c5 : W.cell? ⟨p3, 0, none⟩ = some v5) (c6 : W.cell? ⟨p3, 1, none⟩ = some v6)
    (c7 : W.cell? ⟨p4, 0, none⟩ = some v7) (c8 : W.cell? ⟨p4, 1, none⟩ = some v8) (c9 : W.cell? ⟨p5, 0, none⟩ = some v9) (d1 : W.cell? ⟨p5, 1, none⟩ = some u1) (d2 : W.cell? ⟨p6, 0, none⟩ = some u2) (d3 : W.cell? ⟨p6, 1, none⟩ = some u3) :
    Bel W w' ∧ (w'.cell? ⟨p1, 0, none⟩ = some v1 ∧ w'.cell? ⟨p1, 1, none⟩ = some v2) ∧ (w'.cell? ⟨p2, 0, none⟩ = some v3 ∧ w'.cell? ⟨p2, 1, none⟩ = some v4) ∧ (w'.cell? ⟨p3, 0, none⟩ = some v5 ∧ w'.cell? ⟨p3, 1, none⟩ = some v6) ∧ (w'.cell? ⟨p4, 0, none⟩ = some v7 ∧ w'.cell? ⟨p4, 1, none⟩ = some v8) ∧ (w'.cell? ⟨p5, 0, none⟩ = some v9 ∧ w'.cell? ⟨p5, 1, none⟩ = some u1) ∧ (w'.cell? ⟨p6, 0, none⟩ = some u2 ∧ w'.cell? ⟨p6, 1, none⟩ = some u3) := by
  have k : ∀ (b o : Nat), b < W.heap.size → w'.cell? ⟨b, o, none⟩ = W.cell? ⟨b, o, none⟩ := fun b o hb => h.out.cell (p := ⟨b, o, none⟩) hb
  exact ⟨h, ⟨(k _ _ i1.out).trans c1, (k _ _ i1.out).trans c2⟩, ⟨(k _ _ i2.out).trans c3, (k _ _ i2.out).trans c4⟩, ⟨(k _ _ i3.out).trans c5, (k _ _ i3.out).trans c6⟩, ⟨(k _ _ i4.out).trans c7, (k _ _ i4.out).trans c8⟩, ⟨(k _ _ i5.out).trans c9, (k _ _ i5.out).trans d1⟩, ⟨(k _ _ i6.out).trans d2, (k _ _ i6.out).trans d3⟩⟩
theorem same_s {A0 A1 : Option Addr} {c0 c1 : Nat} {l : List Period} {w : World} (h0 : Hid (l.length ≤ c0 ∧ kPeriod.C w A0 l.length l)) (h1 : Hid (l.length ≤ c1 ∧ kPeriod.C w A1 l.length l)) :
    Calls Tryd.prog 13 #[.slice A0 l.length c0, .slice A1 l.length c1] w fun e w' => e = .returned (.bool true) ∧ Below w.heap.size w w' := by
  have h := same_calls A0 A1 c0 c1 l l w h0.out.2 h0.out.1 h1.out.2 h1.out.1
  simpa using h
theorem same_up {A : Option Addr} {c : Nat} {l : List Period} {w w' : World} (h : Hid (l.length ≤ c ∧ kPeriod.C w A l.length l)) (hb : Hid (Below w.heap.size w w')) : Hid (l.length ≤ c ∧ kPeriod.C w' A l.length l) :=
  Lib.hid ⟨h.out.1, Kd.C_below h.out.2 hb.out⟩
set_option maxHeartbeats 4000000 in
theorem PeriodCombines_at (a b c d x y x2 y2 : Int) (r r2 : Bool) (l : List Period) (hI : Hid (intersect a b c d = (x, y, r))) (hM : Hid (merge a b c d = (x2, y2, r2))) (hS : Hid (subtract a b c d = l)) (q1 : eqPer x y x y = true) (q2 : eqPer x2 y2 x2 y2 = true) (w : World) (HE : Hid (Env w)) :
    Calls Tryd.prog 3 #[.agg #[.int .i64 a, .int .i64 b], .agg #[.int .i64 c, .int .i64 d]] w fun e w' => e = .returned (.bool true) ∧ Below w.heap.size w w' := by
  go_enter Tryd.func3, Tryd.ntmps3
  go_wp2_with (first
    | (go_at_call 9; with_reducible refine (intersect_s hI _).mono ?_; rintro e w1 ⟨rfl, hb⟩; have hs := Step.of hb; clear hb; have hc := hs.cell; have hf := hs.frozen)
    | (go_at_call 10; with_reducible refine (rintersect_s hI _).mono ?_; rintro e w1 ⟨rfl, hb⟩; have hs := Step.of hb; clear hb; have hc := hs.cell; have hf := hs.frozen)
    | (go_at_call 11; with_reducible refine (merge_s hM _).mono ?_; rintro e w1 ⟨rfl, hb⟩; have hs := Step.of hb; clear hb; have hc := hs.cell; have hf := hs.frozen)
    | (go_at_call 12; with_reducible refine (rmerge_s hM _).mono ?_; rintro e w1 ⟨rfl, hb⟩; have hs := Step.of hb; clear hb; have hc := hs.cell; have hf := hs.frozen))
  rename_i u1 _ _ _ u2 _ _ _ u3 _ _ _ K a_k
  generalize hW : (w1.alloc (.cells #[.int .i64 x2, .int .i64 y2] 23)) = W5
  have c1 : W5.cell? ⟨w.heap.size, 0, none⟩ = some (.int .i64 a) := by subst hW; clear a_k; go_simp
  have c2 : W5.cell? ⟨w.heap.size, 1, none⟩ = some (.int .i64 b) := by subst hW; clear a_k; go_simp
  have c3 : W5.cell? ⟨w.heap.size + 1, 0, none⟩ = some (.int .i64 c) := by subst hW; clear a_k; go_simp
  have c4 : W5.cell? ⟨w.heap.size + 1, 1, none⟩ = some (.int .i64 d) := by subst hW; clear a_k; go_simp
  have c5 : W5.cell? ⟨u1.heap.size, 0, none⟩ = some (.int .i64 x) := by subst hW; clear a_k; go_simp
  have c6 : W5.cell? ⟨u1.heap.size, 1, none⟩ = some (.int .i64 y) := by subst hW; clear a_k; go_simp
  have c7 : W5.cell? ⟨u2.heap.size, 0, none⟩ = some (.int .i64 x) := by subst hW; clear a_k; go_simp
  have c8 : W5.cell? ⟨u2.heap.size, 1, none⟩ = some (.int .i64 y) := by subst hW; clear a_k; go_simp
  have c9 : W5.cell? ⟨u3.heap.size, 0, none⟩ = some (.int .i64 x2) := by subst hW; clear a_k; go_simp
  have c10 : W5.cell? ⟨u3.heap.size, 1, none⟩ = some (.int .i64 y2) := by subst hW; clear a_k; go_simp
  have c11 : W5.cell? ⟨w1.heap.size, 0, none⟩ = some (.int .i64 x2) := by subst hW; clear a_k; go_simp
  have c12 : W5.cell? ⟨w1.heap.size, 1, none⟩ = some (.int .i64 y2) := by subst hW; clear a_k; go_simp
  have i0 : Bel w W5 := by subst hW; infer_instance
  have i1 : InHeap W5 (w.heap.size) := by subst hW; infer_instance
  have i2 : InHeap W5 (w.heap.size + 1) := by subst hW; infer_instance
  have i3 : InHeap W5 (u1.heap.size) := by subst hW; infer_instance
  have i4 : InHeap W5 (u2.heap.size) := by subst hW; infer_instance
  have i5 : InHeap W5 (u3.heap.size) := by subst hW; infer_instance
  have i6 : InHeap W5 (w1.heap.size) := by subst hW; infer_instance
  clear hW
  go_region_held3 (fun w' => Bel W5 w' ∧ (w'.cell? ⟨w.heap.size, 0, none⟩ = some (.int .i64 a) ∧ w'.cell? ⟨w.heap.size, 1, none⟩ = some (.int .i64 b)) ∧ (w'.cell? ⟨w.heap.size + 1, 0, none⟩ = some (.int .i64 c) ∧ w'.cell? ⟨w.heap.size + 1, 1, none⟩ = some (.int .i64 d)) ∧ (w'.cell? ⟨u1.heap.size, 0, none⟩ = some (.int .i64 x) ∧ w'.cell? ⟨u1.heap.size, 1, none⟩ = some (.int .i64 y)) ∧ (w'.cell? ⟨u2.heap.size, 0, none⟩ = some (.int .i64 x) ∧ w'.cell? ⟨u2.heap.size, 1, none⟩ = some (.int .i64 y)) ∧ (w'.cell? ⟨u3.heap.size, 0, none⟩ = some (.int .i64 x2) ∧ w'.cell? ⟨u3.heap.size, 1, none⟩ = some (.int .i64 y2)) ∧ (w'.cell? ⟨w1.heap.size, 0, none⟩ = some (.int .i64 x2) ∧ w'.cell? ⟨w1.heap.size, 1, none⟩ = some (.int .i64 y2))) (exact held6 c1 c2 c3 c4 c5 c6 c7 c8 c9 c10 c11 c12)
    (first
    | (go_at_call 14; with_reducible refine (subtract_s hS _).mono ?_; rintro e v1 ⟨A1, k1, rfl, H1, hb⟩; have hs := Step.of hb; clear hb)
    | (go_at_call 15; with_reducible refine (rsubtract_s hS _).mono ?_; rintro e v2 ⟨A2, k2, rfl, H2, hb⟩; have hs := Step.of hb; have HB := Lib.hid hb; clear hb)
    | (go_at_call 13; with_reducible refine (same_s (same_up H1 HB) H2).mono ?_; rintro e v3 ⟨rfl, hb⟩; have hs := Step.of hb; clear hb)
    | (go_at_call 16; (with_reducible refine (awake_calls _ (Env.up (w := w) HE.out)).mono ?_); rintro e v4 ⟨rfl, hb⟩; have hs := Step.of hb; clear hb))
  go_wp2
  all_goals
    go_ret
    exact ⟨rfl, Bel.out⟩
theorem PeriodCombines_calls (a b c d : Int) (w : World) (he : Env w) :
    Calls Tryd.prog 3 #[.agg #[.int .i64 a, .int .i64 b], .agg #[.int .i64 c, .int .i64 d]] w fun e w' => e = .returned (.bool true) ∧ Below w.heap.size w w' :=
  PeriodCombines_at a b c d _ _ _ _ _ _ _ (Lib.hid rfl) (Lib.hid rfl) (Lib.hid rfl) (by simp [eqPer]) (by simp [eqPer]) w (Lib.hid he)
end Go.Proofs.YtajkbnfpnohdlaaDoor.L01
