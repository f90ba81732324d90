/- LAYER 1: the examples of the chapter. -/
import Derived.Test.YtajkbnfpnohdlaaDoorL01c
import Derived.Test.YtajkbnfpnohdlaaDoorL01d
import Derived.Test.YtajkbnfpnohdlaaDoorL01h
import Derived.Test.YtajkbnfpnohdlaaDoorL01i
import Derived.WalkLawsBesides
namespace Go.Proofs.YtajkbnfpnohdlaaDoor.L01
open Go.RowKit Go.Proofs.YtajkbnfpnohdlaaDoor.Kit Go.Proofs.YtajkbnfpnohdlaaDoorW.PrintWords Go.Lib
set_option linter.unusedVariables false
attribute [local go_sem high] eqP
attribute [local go_sem] allocCell allocFrozen setFar setFrozen allocAny

theorem awake_sub (w : World) :
    Calls Tryd.prog 14 #[.agg #[.int .i64 3, .int .i64 9], .agg #[.int .i64 5, .int .i64 6]] w fun e w' => ∃ ad c, e = .returned (.slice (some ad) 2 c) ∧ InHeap w' ad.block ∧ w'.cell? ad = some (.int .i64 3) ∧ w'.cell? ⟨ad.block, ad.off + 1, none⟩ = some (.int .i64 5) ∧ Below w.heap.size w w' := by
  refine (subtract_calls 3 9 5 6 w).mono ?_
  rintro e w' ⟨v, rfl, hR, hb⟩
  rw [show subtract 3 9 5 6 = [⟨3, 5⟩, ⟨6, 9⟩] by decide] at hR
  obtain ⟨A, c, rfl, hl, hC⟩ := Kd.R_reads hR
  obtain ⟨ad, rfl, hin, h0, h1⟩ := at_Period hC 0 (by simp)
  rw [show ad.add (0 * 2) = ad by simp [Addr.add]] at h0 h1
  exact ⟨ad, c, rfl, hin, h0, h1, hb⟩
theorem awake_text : txt 3 1099511627776 = ⟨#[91, 51, 44, 32, 102, 111, 114, 101, 118, 101, 114, 41]⟩ := by
  have : num 3 = ⟨#[51]⟩ := by rw [num, show (3 : Int).toNat = 3 from rfl, decDigits_one (by decide)]; rfl
  rw [txt, if_pos (by decide), this]
  rfl
set_option maxHeartbeats 4000000 in
theorem awake_calls (w : World) (he : Env w) :
    Calls Tryd.prog 16 #[] w fun e w' => e = .returned (.bool true) ∧ Below w.heap.size w w' := by
  have HE := Lib.hid he; clear he
  have m1 : merge 3 7 7 9 = (3, 9, true) := by decide
  have p1 : parseP [91, 48, 55, 44, 32, 57, 41] = (0, 0, 1) := by decide
  have p2 : parseP [91, 57, 44, 32, 55, 41] = (0, 0, 6) := by decide
  have q1 : eqPer 3 9 3 9 = true := rfl
  have q2 : eqPer 3 5 3 5 = true := rfl
  have a1 : adjacent 3 7 7 9 = true := by decide
  have o1 : overlaps 3 7 7 9 = false := by decide
  have HT := Lib.hid awake_text
  have hz1 : (⟨#[91, 48, 55, 44, 32, 57, 41]⟩ : ByteArray).size ≤ 4294967280 := by decide
  have hz2 : (⟨#[91, 57, 44, 32, 55, 41]⟩ : ByteArray).size ≤ 4294967280 := by decide
  go_enter Tryd.func16, Tryd.ntmps16
  go_wp2_with (first
      | (go_at_call 11; (with_reducible refine (merge_calls 3 7 7 9 _).mono ?_); rw [m1]; rintro e w1 ⟨rfl, hb⟩; have hs := Step.of hb; clear hb; have hc := hs.cell; have hf := hs.frozen)
      | (go_at_call 18; (with_reducible refine (parse_calls ⟨#[91, 48, 55, 44, 32, 57, 41]⟩ hz1 _ (Env.up (w := w) HE.out)).mono ?_); rw [p1]; rintro e w1 ⟨rfl, hb⟩; have hs := Step.of hb; clear hb; have hc := hs.cell; have hf := hs.frozen)
      | (go_at_call 18; (with_reducible refine (parse_calls ⟨#[91, 57, 44, 32, 55, 41]⟩ hz2 _ (Env.up (w := w) HE.out)).mono ?_); rw [p2]; rintro e w1 ⟨rfl, hb⟩; have hs := Step.of hb; clear hb; have hc := hs.cell; have hf := hs.frozen)
      | (go_at_call 14; (with_reducible refine (awake_sub _).mono ?_); rintro e w1 ⟨ad, c, rfl, hin, h0, h1, hb⟩; have hs := Step.of hb; clear hb; have hc := hs.cell; have hf := hs.frozen; have ha := hs.any)
      | (go_at_call 29; (with_reducible refine (adjacent_calls 3 7 7 9 _).mono ?_); rw [a1]; rintro e w1 ⟨rfl, hb⟩; have hs := Step.of hb; clear hb; have hc := hs.cell; have hf := hs.frozen; have ha := hs.any)
      | (go_at_call 27; (with_reducible refine (overlaps_calls 3 7 7 9 _).mono ?_); rw [o1]; rintro e w1 ⟨rfl, hb⟩; have hs := Step.of hb; clear hb; have hc := hs.cell; have hf := hs.frozen; have ha := hs.any)
      | (go_at_call 17; (with_reducible refine (text_calls 3 1099511627776 _ (Env.up (w := w) HE.out)).mono ?_); rw [HT.out]; rintro e w1 ⟨rfl, hb⟩; have hs := Step.of hb; clear hb; have hc := hs.cell; have hf := hs.frozen))

  all_goals
    go_ret
    exact ⟨rfl, Bel.out⟩
end Go.Proofs.YtajkbnfpnohdlaaDoor.L01
