/- LAYER 1: comparison, difference, lists of periods. -/
import Derived.Test.YtajkbnfpnohdlaaDoorL01a
import Derived.Test.YtajkbnfpnohdlaaDoorKds
import Derived.Test.YtajkbnfpnohdlaaDoorWEqStruct
namespace Go.Proofs.YtajkbnfpnohdlaaDoor.L01
open Go.RowKit Go.Proofs.YtajkbnfpnohdlaaDoor.Kit Go.Proofs.YtajkbnfpnohdlaaDoorW.PrintWords
set_option linter.unusedVariables false

def sgn (a b : Int) : Int := if a < b then -1 else if b < a then 1 else 0
theorem sign_calls (a b : Int) (w : World) :
    Calls Tryd.prog 40 #[.int .i64 a, .int .i64 b] w fun e w' => e = .returned (.int .i64 (sgn a b)) ∧ Below w.heap.size w w' := by
  go_enter Tryd.func40, Tryd.ntmps40
  go_wp2
  all_goals
    go_ret
    exact ⟨ret_int (by simp [sgn, *] <;> omega), Bel.out⟩
def compare (a b c d : Int) : Int := if a = c then sgn b d else sgn a c
theorem compare_calls (a b c d : Int) (w : World) :
    Calls Tryd.prog 31 #[.agg #[.int .i64 a, .int .i64 b], .agg #[.int .i64 c, .int .i64 d]] w fun e w' => e = .returned (.int .i64 (compare a b c d)) ∧ Below w.heap.size w w' := by
  go_enter Tryd.func31, Tryd.ntmps31
  go_wp2_with (go_at_call 40; refine (sign_calls _ _ _).mono ?_; rintro e w1 ⟨rfl, hb⟩; have hs := Step.of hb; clear hb; have hc := hs.cell; have hf := hs.frozen)
  all_goals
    go_ret
    exact ⟨ret_int (by simp_all [compare]), Bel.out⟩
def eqPer (x0 x1 y0 y1 : Int) : Bool := x0 == y0 && (x1 == y1)
theorem eqP (d : Nat) (w : World) (x0 y0 x1 y1 : Int) :
    (Op.equalIn (d + 2) 23 (.agg #[.int .i64 x0, .int .i64 x1]) (.agg #[.int .i64 y0, .int .i64 y1])).run Tryd.prog w = .ok (eqPer x0 x1 y0 y1) w := by
  refine eqA_of Tryd.underlying23 (by kernel_rfl) ?_
  refine eqf_cons (by rfl) (by go_simp; rfl) (by go_simp; rfl) (by go_simp) ?_
  exact eqf_last (by rfl) (by go_simp; rfl) (by go_simp; rfl) (by go_simp)
attribute [local go_sem high] eqP
theorem rcompare_calls (a b c d : Int) (w : World) :
    Calls Tryd.prog 32 #[.agg #[.int .i64 a, .int .i64 b], .agg #[.int .i64 c, .int .i64 d]] w fun e w' => e = .returned (.int .i64 (compare a b c d)) ∧ Below w.heap.size w w' := by
  go_enter Tryd.func32, Tryd.ntmps32
  go_wp2
  all_goals
    go_ret
    exact ⟨ret_int (by simp_all [eqPer]; unfold compare sgn; (repeat' split) <;> omega), Bel.out⟩

theorem infoP : (Tryd.prog.info? 23).map (fun i => (i.zero, i.size, i.bytes)) = some (some (.agg #[(.int .i64 0), (.int .i64 0)]), 2, 16) := by kernel_rfl

def subtract (a b c d : Int) : List Period :=
  if valid a b then (if overlaps a b c d then (if a < c then [⟨a, c⟩] else []) ++ (if d < b then [⟨d, b⟩] else []) else [⟨a, b⟩]) else []
theorem rsubtract_calls (a b c d : Int) (w : World) :
    Calls Tryd.prog 15 #[.agg #[.int .i64 a, .int .i64 b], .agg #[.int .i64 c, .int .i64 d]] w fun e w' => ∃ v, e = .returned v ∧ kPeriod.R 23 w' w.heap.size (fun _ => True) v (subtract a b c d) ∧ Below w.heap.size w w' := by
  have hu := Tryd.underlying27
  go_enter Tryd.func15, Tryd.ntmps15
  go_wp2_with (first
    | (go_at_call 19; refine (rvalid_calls _ _ _).mono ?_; rintro e w1 ⟨rfl, hb⟩; have hs := Step.of hb; clear hb; have hc := hs.cell; have hf := hs.frozen)
    | (go_at_call 28; refine (roverlaps_calls _ _ _ _ _).mono ?_; rintro e w1 ⟨rfl, hb⟩; have hs := Step.of hb; clear hb; have hc := hs.cell; have hf := hs.frozen)
    | (at_builtin; refine Kd.R_append kPeriod (w0 := _) _ rfl (.tmp 20) (.tmp 26) 27 23 (.agg #[.int .i64 0, .int .i64 0]) 16 rfl hu infoP rfl (by decide) (by decide) (.slice none 0 0) ([] : List Period) ⟨a, c⟩ [.int .i64 a, .int .i64 c] (fun _ => True) (fun _ => False) rfl rfl (kPeriod_mkM _ _ _ _) (fun _ h => h.elim) (fun _ _ => trivial) (Kd.R_nil _ _ _ _ _) (Below.refl _ _) (Nat.le_refl _) (by decide) ?_; intro v1 w2 ho1 hb1 hg1 ha1; clear hg1 ha1; have hs := Step.of hb1; have HB1 := Lib.hid hb1; clear hb1; have HO1 := Lib.hid ho1; clear ho1; have hc := hs.cell; have hf := hs.frozen)
    | (at_builtin; refine Kd.R_append kPeriod (w0 := _) _ rfl (.tmp 33) (.tmp 39) 27 23 (.agg #[.int .i64 0, .int .i64 0]) 16 rfl hu infoP rfl (by decide) (by decide) (.slice none 0 0) ([] : List Period) ⟨d, b⟩ [.int .i64 d, .int .i64 b] (fun _ => True) (fun _ => False) rfl rfl (kPeriod_mkM _ _ _ _) (fun _ h => h.elim) (fun _ _ => trivial) (Kd.R_nil _ _ _ _ _) (Below.refl _ _) (Nat.le_refl _) (by decide) ?_; intro v1 w2 ho1 hb1 hg1 ha1; clear hg1 ha1; have hs := Step.of hb1; have HB1 := Lib.hid hb1; clear hb1; have HO1 := Lib.hid ho1; clear ho1; have hc := hs.cell; have hf := hs.frozen)
    | (at_builtin; refine Kd.R_append kPeriod (w0 := _) _ rfl (.tmp 33) (.tmp 39) 27 23 (.agg #[.int .i64 0, .int .i64 0]) 16 rfl hu infoP rfl (by decide) (by decide) v1 [⟨a, c⟩] ⟨d, b⟩ [.int .i64 d, .int .i64 b] (fun _ => True) (fun _ => False) rfl rfl (kPeriod_mkM _ _ _ _) (fun _ h => h.elim) (fun _ _ => trivial) HO1.out HB1.out HB1.out.size (by simp) ?_; intro v1 w2 ho1 hb1 hg1 ha1; clear hg1 ha1; have hs := Step.of hb1; have HB1 := Lib.hid hb1; clear hb1; have HO1 := Lib.hid ho1; clear ho1)
    )
  all_goals
    go_ret
    refine ⟨_, rfl, ?_, Bel.out⟩
    first
      | (rw [show subtract a b c d = [] by simp_all [subtract] <;> omega]; exact Kd.R_nil _ _ _ _ _)
      | (rw [show subtract a b c d = [⟨a, b⟩] by simp_all [subtract]]; refine R_litA (okp := fun _ => False) (reps1 (kPeriod_mkM _ _ _ ⟨a, b⟩) rfl) HSize.out ?_ (by simp); exact Fresh.out)
      | (rw [show subtract a b c d = [⟨a, c⟩] ++ [⟨d, b⟩] by simp_all [subtract]]; exact Rdown HO1.out)
      | (rw [show subtract a b c d = [] ++ [⟨a, c⟩] by simp_all [subtract] <;> omega]; exact Rdown HO1.out)
      | (rw [show subtract a b c d = [] ++ [⟨d, b⟩] by simp_all [subtract] <;> omega]; exact Rdown HO1.out)
end Go.Proofs.YtajkbnfpnohdlaaDoor.L01
