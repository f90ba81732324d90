/- LAYER 1: the program's difference of periods. -/
import Derived.Test.YtajkbnfpnohdlaaDoorL01b
import Derived.LoopTactic
namespace Go.Proofs.YtajkbnfpnohdlaaDoor.L01
open Go.RowKit Go.Proofs.YtajkbnfpnohdlaaDoor.Kit Go.Proofs.YtajkbnfpnohdlaaDoorW.PrintWords
set_option linter.unusedVariables false

theorem intersect_yes {a b c d : Int} (h : overlaps a b c d = true) (w : World) :
    Calls Tryd.prog 9 #[.agg #[.int .i64 a, .int .i64 b], .agg #[.int .i64 c, .int .i64 d]] w fun e w' => e = .returned (.tuple #[.agg #[.int .i64 (max a c), .int .i64 (min b d)], .bool true]) ∧ Below w.heap.size w w' :=
  (intersect_calls a b c d w).mono fun e w' ⟨he, hb⟩ => ⟨by rw [he]; simp [intersect, h], hb⟩
theorem intersect_no {a b c d : Int} (h : overlaps a b c d = false) (w : World) :
    Calls Tryd.prog 9 #[.agg #[.int .i64 a, .int .i64 b], .agg #[.int .i64 c, .int .i64 d]] w fun e w' => e = .returned (.tuple #[.agg #[.int .i64 0, .int .i64 0], .bool false]) ∧ Below w.heap.size w w' :=
  (intersect_calls a b c d w).mono fun e w' ⟨he, hb⟩ => ⟨by rw [he]; simp [intersect, h], hb⟩
def keeps (x y : Int) : List Period := if valid x y then [⟨x, y⟩] else []
theorem keeps_le (x y : Int) : (keeps x y).length ≤ 1 := by unfold keeps; split <;> simp
theorem keeps_first {a b c d : Int} (h1 : valid a b = true) (h2 : overlaps a b c d = true) : keeps a (max a c) ++ keeps (min b d) b = subtract a b c d := by
  simp [overlaps, valid] at h1 h2
  simp [subtract, keeps, overlaps, valid, h1, h2]
  (repeat' split) <;> simp_all <;> omega

theorem index0 : ∀ (p q r s : Int) (w : World), (Instr.index 41 (.agg #[.int .i64 p, .int .i64 q, .int .i64 r, .int .i64 s]) (.int .i64 0)).run Tryd.prog w = .ok (.agg #[.int .i64 p, .int .i64 q]) w := fun _ _ _ _ _ => by kernel_rfl
theorem index1 : ∀ (p q r s : Int) (w : World), (Instr.index 41 (.agg #[.int .i64 p, .int .i64 q, .int .i64 r, .int .i64 s]) (.int .i64 1)).run Tryd.prog w = .ok (.agg #[.int .i64 r, .int .i64 s]) w := fun _ _ _ _ _ => by kernel_rfl
attribute [local go_sem high] eqP
attribute [local go_sem] allocCell allocFrozen setFar setFrozen
set_option maxHeartbeats 1000000 in
theorem subtract_calls (a b c d : Int) (w : World) :
    Calls Tryd.prog 14 #[.agg #[.int .i64 a, .int .i64 b], .agg #[.int .i64 c, .int .i64 d]] w fun e w' => ∃ v, e = .returned v ∧ kPeriod.R 23 w' w.heap.size (fun _ => True) v (subtract a b c d) ∧ Below w.heap.size w w' := by
  have hu := Tryd.underlying27
  have i0 := index0
  have i1 := index1
  rcases hv : valid a b with _ | _
  · go_enter Tryd.func14, Tryd.ntmps14
    go_wp2_with (go_at_call 23; refine (valid_calls _ _ _).mono ?_; rintro e w1 ⟨rfl, hb⟩; have hs := Step.of hb; clear hb; have hc := hs.cell; have hf := hs.frozen)
    go_ret
    refine ⟨_, rfl, ?_, Bel.out⟩
    rw [show subtract a b c d = [] by simp [subtract, hv]]; exact Kd.R_nil _ _ _ _ _
  rcases ho : overlaps a b c d with _ | _
  · go_enter Tryd.func14, Tryd.ntmps14
    go_wp2_with (first
      | (go_at_call 23; refine (valid_calls _ _ _).mono ?_; rintro e w1 ⟨rfl, hb⟩; have hs := Step.of hb; clear hb; have hc := hs.cell; have hf := hs.frozen)
      | (go_at_call 9; refine (intersect_no ho _).mono ?_; rintro e w1 ⟨rfl, hb⟩; have hs := Step.of hb; clear hb; have hc := hs.cell; have hf := hs.frozen))
    go_ret
    refine ⟨_, rfl, ?_, Bel.out⟩
    rw [show subtract a b c d = [⟨a, b⟩] by simp [subtract, hv, ho]]; refine R_litA (okp := fun _ => False) (reps1 (kPeriod_mkM _ _ _ ⟨a, b⟩) rfl) HSize.out ?_ (by simp); exact Fresh.out
  have hk := Lib.hid (keeps_first hv ho)
  go_enter Tryd.func14, Tryd.ntmps14
  go_wp2_with (first
      | (go_at_call 23; refine (valid_calls _ _ _).mono ?_; rintro e w1 ⟨rfl, hb⟩; have hs := Step.of hb; clear hb; have hc := hs.cell; have hf := hs.frozen)
      | (go_at_call 9; refine (intersect_yes ho _).mono ?_; rintro e w1 ⟨rfl, hb⟩; have hs := Step.of hb; clear hb; have hc := hs.cell; have hf := hs.frozen))
  go_loopw [36, 8] (fun i v wr => ∃ k : Nat, k ≤ 2 ∧ i = .int .i64 k ∧ kPeriod.R 23 wr w1.heap.size (fun _ => True) v (if k = 0 then [] else if k = 1 then keeps a (max a c) else keeps a (max a c) ++ keeps (min b d) b) ∧ Below w1.heap.size w1 wr) (fun i _ _ => 2 - (intOf i).toNat)
  case atStart => exact ⟨0, by omega, rfl, Kd.R_nil _ _ _ _ _, Bel.out⟩
  case round =>
    obtain ⟨k, hk2, rfl, hR, hB⟩ := hrel
    have hs1 := Step.of hB; clear hB; have HR := Lib.hid hR; clear hR
    obtain rfl | rfl | rfl : k = 0 ∨ k = 1 ∨ k = 2 := by omega
    · go_wp2_with (first
          | (go_at_call 23; refine (valid_calls _ _ _).mono ?_; rintro e w2 ⟨rfl, hb⟩; have hs := Step.of hb; clear hb; have hc := hs.cell; have hf := hs.frozen)
          | (at_builtin; refine Kd.R_append kPeriod (w0 := w1) w1.heap.size rfl (.tmp 46) (.tmp 48) 27 23 (.agg #[.int .i64 0, .int .i64 0]) 16 rfl hu infoP rfl (by decide) (by decide) u8 [] ⟨a, max a c⟩ [.int .i64 a, .int .i64 (max a c)] (fun _ => True) (fun _ => False) rfl rfl (kPeriod_mkM _ _ _ _) (fun _ h => h.elim) (fun _ _ => trivial) (Kd.R_below HR.out Bel.out) Bel.out Fresh.out (by simp) ?_; intro v1 w2 ho1 hb1 hg1 ha1; clear hg1 ha1; have HO1 := Lib.hid ho1; have HB1 := Lib.hid hb1; have hs2 := Bel.mk hb1; clear hb1 ho1))
      all_goals
        refine ⟨⟨1, by omega, rfl, ?_, Bel.out⟩, by simp [intOf]⟩
        first
          | (rw [show (if 1 = 0 then [] else if 1 = 1 then keeps a (max a c) else keeps a (max a c) ++ keeps (min b d) b) = [] ++ [⟨a, max a c⟩] by simp_all [keeps]]; exact HO1.out)
          | (rw [show (if 1 = 0 then [] else if 1 = 1 then keeps a (max a c) else keeps a (max a c) ++ keeps (min b d) b) = [] by simp_all [keeps, eqPer, valid] <;> omega]; exact Kd.R_below HR.out Bel.out)
    · go_wp2_with (first
          | (go_at_call 23; refine (valid_calls _ _ _).mono ?_; rintro e w2 ⟨rfl, hb⟩; have hs := Step.of hb; clear hb; have hc := hs.cell; have hf := hs.frozen)
          | (at_builtin; refine Kd.R_append kPeriod (w0 := w1) w1.heap.size rfl (.tmp 46) (.tmp 48) 27 23 (.agg #[.int .i64 0, .int .i64 0]) 16 rfl hu infoP rfl (by decide) (by decide) u8 (keeps a (max a c)) ⟨min b d, b⟩ [.int .i64 (min b d), .int .i64 b] (fun _ => True) (fun _ => False) rfl rfl (kPeriod_mkM _ _ _ _) (fun _ h => h.elim) (fun _ _ => trivial) (Kd.R_below HR.out Bel.out) Bel.out Fresh.out (by have := keeps_le a (max a c); simp; omega) ?_; intro v1 w2 ho1 hb1 hg1 ha1; clear hg1 ha1; have HO1 := Lib.hid ho1; have HB1 := Lib.hid hb1; have hs2 := Bel.mk hb1; clear hb1 ho1))
      all_goals
        refine ⟨⟨2, by omega, rfl, ?_, Bel.out⟩, by simp [intOf]⟩
        first
          | (rw [show (if 2 = 0 then [] else if 2 = 1 then keeps a (max a c) else keeps a (max a c) ++ keeps (min b d) b) = (keeps a (max a c)) ++ [⟨min b d, b⟩] by simp_all [keeps]]; exact HO1.out)
          | (rw [show (if 2 = 0 then [] else if 2 = 1 then keeps a (max a c) else keeps a (max a c) ++ keeps (min b d) b) = (keeps a (max a c)) by simp_all [keeps, eqPer, valid] <;> omega]; exact Kd.R_below HR.out Bel.out)
    · go_wp2
      go_ret
      have HR2 : Kd.R kPeriod 23 wr w1.heap.size (fun _ => True) u8 (subtract a b c d) := by rw [← hk.out]; exact HR.out
      exact ⟨_, rfl, Rdown HR2, Bel.out⟩
end Go.Proofs.YtajkbnfpnohdlaaDoor.L01
