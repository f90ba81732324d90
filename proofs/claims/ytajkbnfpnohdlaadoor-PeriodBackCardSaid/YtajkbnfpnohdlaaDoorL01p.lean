/- LAYER 1: the walks of the laws on texts. -/
import Derived.Test.YtajkbnfpnohdlaaDoorL01m
import Derived.Test.YtajkbnfpnohdlaaDoorL01n
import Derived.WalkLawsBesides
namespace Go.Proofs.YtajkbnfpnohdlaaDoor.L01
open Go.RowKit Go.Proofs.YtajkbnfpnohdlaaDoor.Kit Go.Proofs.YtajkbnfpnohdlaaDoorW.PrintWords Go.Lib
set_option linter.unusedVariables false
attribute [local go_sem high] eqP
attribute [local go_sem] allocCell allocFrozen setFar setFrozen allocAny

theorem parse_x {s : ByteArray} {x y e : Int} (h : Hid (parseP s.data.toList = (x, y, e))) (hs : s.size ≤ 4294967280) (w : World) (he : Env w) :
    Calls Tryd.prog 18 #[.string s] w fun e' w' => e' = .returned (.tuple #[.agg #[.int .i64 x, .int .i64 y], .int .i64 e]) ∧ Below w.heap.size w w' := by
  have h1 := parse_calls s hs w he
  rw [h.out] at h1
  exact h1
theorem rparse_x {s : ByteArray} {x y e : Int} (h : Hid (parseP s.data.toList = (x, y, e))) (hs : s.size ≤ 4294967280) (w : World) :
    Calls Tryd.prog 21 #[.string s] w fun e' w' => e' = .returned (.tuple #[.agg #[.int .i64 x, .int .i64 y], .int .i64 e]) ∧ Below w.heap.size w w' := by
  have h1 := rparse_calls s hs w
  rw [parsers_agree, h.out] at h1
  exact h1
theorem text_x {a b : Int} {s : ByteArray} (h : Hid (txt a b = s)) (w : World) (he : Env w) :
    Calls Tryd.prog 17 #[.agg #[.int .i64 a, .int .i64 b]] w fun e w' => e = .returned (.string s) ∧ Below w.heap.size w w' := by
  have h1 := text_calls a b w he
  rw [h.out] at h1
  exact h1
theorem rtext_x {a b : Int} {s : ByteArray} (h : Hid (txt a b = s)) (w : World) :
    Calls Tryd.prog 20 #[.agg #[.int .i64 a, .int .i64 b]] w fun e w' => e = .returned (.string s) ∧ Below w.heap.size w w' := by
  have h1 := rtext_calls a b w
  rw [h.out] at h1
  exact h1
theorem eqPer_self (x y : Int) : eqPer x y x y = true := by simp [eqPer]
theorem txt_size (a b : Int) : (txt a b).size ≤ 60 := by
  unfold txt
  split
  · rename_i h
    simp [valid] at h
    have s1 := num_size a h.1 (by omega)
    have s2 := num_size b (by omega) (by omega)
    have l1 : (⟨#[91]⟩ : ByteArray).size = 1 := rfl
    have l2 : (⟨#[44, 32]⟩ : ByteArray).size = 2 := rfl
    have l3 : (⟨#[102, 111, 114, 101, 118, 101, 114]⟩ : ByteArray).size = 7 := rfl
    have l4 : (⟨#[41]⟩ : ByteArray).size = 1 := rfl
    split <;> simp only [ByteArray.size_append, l1, l2, l3, l4] <;> omega
  · decide
set_option maxHeartbeats 4000000 in
theorem PeriodParse_calls (s : ByteArray) (hs : s.size ≤ 140737488351232) (w : World) (he : Env w) :
    Calls Tryd.prog 5 #[.string s] w fun e w' => e = .returned (.bool true) ∧ Below w.heap.size w w' := by
  have HE := Lib.hid he; clear he
  by_cases hl : 60 < s.size
  · go_enter Tryd.func5, Tryd.ntmps5
    go_wp2_with (go_at_call 16; (with_reducible refine (awake_calls _ (Env.up (w := w) HE.out)).mono ?_); rintro e w1 ⟨rfl, hb⟩; have hs := Step.of hb; clear hb; have hc := hs.cell; have hf := hs.frozen)
    go_ret
    exact ⟨rfl, Bel.out⟩
  have hs2 : s.size ≤ 4294967280 := by omega
  obtain ⟨x, y, e, hX⟩ : ∃ x y e, Hid (parseP s.data.toList = (x, y, e)) := ⟨_, _, _, Lib.hid rfl⟩
  have q1 := eqPer_self x y
  by_cases h0 : e = 0
  · have ht : Hid (txt x y = s) := Lib.hid (by have := txt_parse s (by rw [hX.out]; exact h0); rw [hX.out] at this; exact this)
    subst h0
    go_enter Tryd.func5, Tryd.ntmps5
    go_wp2_with (first
      | (go_at_call 18; (with_reducible refine (parse_x hX hs2 _ (Env.up (w := w) HE.out)).mono ?_); rintro e w1 ⟨rfl, hb⟩; have hs := Step.of hb; clear hb; have hc := hs.cell; have hf := hs.frozen)
      | (go_at_call 21; (with_reducible refine (rparse_x hX hs2 _).mono ?_); rintro e w1 ⟨rfl, hb⟩; have hs := Step.of hb; clear hb; have hc := hs.cell; have hf := hs.frozen)
      | (go_at_call 17; (with_reducible refine (text_x ht _ (Env.up (w := w) HE.out)).mono ?_); rintro e w1 ⟨rfl, hb⟩; have hs := Step.of hb; clear hb; have hc := hs.cell; have hf := hs.frozen)
      | (go_at_call 16; (with_reducible refine (awake_calls _ (Env.up (w := w) HE.out)).mono ?_); rintro e w1 ⟨rfl, hb⟩; have hs := Step.of hb; clear hb; have hc := hs.cell; have hf := hs.frozen))
    go_ret
    exact ⟨rfl, Bel.out⟩
  · have h1 : (e != 0) = true := by simpa using h0
    have h2 : (e == 0) = false := by simpa using h0
    clear h0
    go_enter Tryd.func5, Tryd.ntmps5
    go_wp2_with (first
      | (go_at_call 18; (with_reducible refine (parse_x hX hs2 _ (Env.up (w := w) HE.out)).mono ?_); rintro e w1 ⟨rfl, hb⟩; have hs := Step.of hb; clear hb; have hc := hs.cell; have hf := hs.frozen)
      | (go_at_call 21; (with_reducible refine (rparse_x hX hs2 _).mono ?_); rintro e w1 ⟨rfl, hb⟩; have hs := Step.of hb; clear hb; have hc := hs.cell; have hf := hs.frozen)
      | (go_at_call 16; (with_reducible refine (awake_calls _ (Env.up (w := w) HE.out)).mono ?_); rintro e w1 ⟨rfl, hb⟩; have hs := Step.of hb; clear hb; have hc := hs.cell; have hf := hs.frozen))
    go_ret
    exact ⟨rfl, Bel.out⟩
theorem rvalid_x {a b : Int} {r : Bool} (h : Hid (valid a b = r)) (w : World) :
    Calls Tryd.prog 19 #[.agg #[.int .i64 a, .int .i64 b]] w fun e w' => e = .returned (.bool r) ∧ Below w.heap.size w w' := by
  have h1 := rvalid_calls a b w
  rw [h.out] at h1
  exact h1
set_option maxHeartbeats 4000000 in
theorem PeriodBack_calls (a b : Int) (w : World) (he : Env w) :
    Calls Tryd.prog 4 #[.agg #[.int .i64 a, .int .i64 b]] w fun e w' => e = .returned (.bool true) ∧ Below w.heap.size w w' := by
  have HE := Lib.hid he; clear he
  obtain ⟨t, ht⟩ : ∃ t, Hid (txt a b = t) := ⟨_, Lib.hid rfl⟩
  have hs2 : t.size ≤ 4294967280 := by have := txt_size a b; rw [ht.out] at this; omega
  have q1 := eqPer_self a b
  rcases hv : valid a b with _ | _
  · have HV := Lib.hid hv
    have h1 : t = ⟨#[]⟩ := by rw [← ht.out, txt, if_neg (by rw [hv]; decide)]
    subst h1
    have hX : Hid (parseP (⟨#[]⟩ : ByteArray).data.toList = (0, 0, 1)) := Lib.hid (by decide)
    clear hv
    go_enter Tryd.func4, Tryd.ntmps4
    go_wp2_with (first
      | (go_at_call 17; (with_reducible refine (text_x ht _ (Env.up (w := w) HE.out)).mono ?_); rintro e w1 ⟨rfl, hb⟩; have hs := Step.of hb; clear hb; have hc := hs.cell; have hf := hs.frozen)
      | (go_at_call 18; (with_reducible refine (parse_x hX hs2 _ (Env.up (w := w) HE.out)).mono ?_); rintro e w1 ⟨rfl, hb⟩; have hs := Step.of hb; clear hb; have hc := hs.cell; have hf := hs.frozen)
      | (go_at_call 19; (with_reducible refine (rvalid_x HV _).mono ?_); rintro e w1 ⟨rfl, hb⟩; have hs := Step.of hb; clear hb; have hc := hs.cell; have hf := hs.frozen)
      | (go_at_call 16; (with_reducible refine (awake_calls _ (Env.up (w := w) HE.out)).mono ?_); rintro e w1 ⟨rfl, hb⟩; have hs := Step.of hb; clear hb; have hc := hs.cell; have hf := hs.frozen))
    go_ret
    exact ⟨rfl, Bel.out⟩
  · have HV := Lib.hid hv
    have hX : Hid (parseP t.data.toList = (a, b, 0)) := Lib.hid (by have := parse_txt hv; rwa [ht.out] at this)
    clear hv
    go_enter Tryd.func4, Tryd.ntmps4
    go_wp2_with (first
      | (go_at_call 17; (with_reducible refine (text_x ht _ (Env.up (w := w) HE.out)).mono ?_); rintro e w1 ⟨rfl, hb⟩; have hs := Step.of hb; clear hb; have hc := hs.cell; have hf := hs.frozen)
      | (go_at_call 18; (with_reducible refine (parse_x hX hs2 _ (Env.up (w := w) HE.out)).mono ?_); rintro e w1 ⟨rfl, hb⟩; have hs := Step.of hb; clear hb; have hc := hs.cell; have hf := hs.frozen)
      | (go_at_call 19; (with_reducible refine (rvalid_x HV _).mono ?_); rintro e w1 ⟨rfl, hb⟩; have hs := Step.of hb; clear hb; have hc := hs.cell; have hf := hs.frozen)
      | (go_at_call 20; (with_reducible refine (rtext_x ht _).mono ?_); rintro e w1 ⟨rfl, hb⟩; have hs := Step.of hb; clear hb; have hc := hs.cell; have hf := hs.frozen)
      | (go_at_call 16; (with_reducible refine (awake_calls _ (Env.up (w := w) HE.out)).mono ?_); rintro e w1 ⟨rfl, hb⟩; have hs := Step.of hb; clear hb; have hc := hs.cell; have hf := hs.frozen))
    go_ret
    exact ⟨rfl, Bel.out⟩
end Go.Proofs.YtajkbnfpnohdlaaDoor.L01
