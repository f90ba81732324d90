/- The examples of the chapter are as they are told. -/
import Derived.Test.YtjceeengnnjipaaAwe
namespace Go.Proofs.Ytjceeengnnjipaa.PAll
open Go.RowKit Go.Proofs.Ytjceeengnnjipaa.Kit Go.Proofs.Ytjceeengnnjipaa.L13 Go.Proofs.YtjceeengnnjipaaW.PrintWords
set_option linter.unusedVariables false
attribute [local go_sem] allocCell allocFrozen setFar setFrozen allocAny
attribute [local go_sem ↓] Go.wp_at_zero Go.wp_at_succ

abbrev bN : ByteArray := ⟨#[]⟩
def uCols : List Cl := [⟨bB, 2, false⟩, ⟨bA, 1, false⟩, ⟨bC, 1, false⟩]
theorem uCols_reps (W : World) : Reps (k29.M W W.heap.size (fun _ => False)) 3 uCols [.string bB, .int .i64 2, .bool false, .string bA, .int .i64 1, .bool false, .string bC, .int .i64 1, .bool false] := cols_reps uCols W _ _
theorem int1_reps (W : World) : Reps ((Kd.int .i64).M W W.heap.size (fun _ => False)) 1 [1] [.int .i64 1] := int_reps [1] W
theorem uTab (w3 : World) (o o' : Obj) : Kd.C k29 ((((w3.alloc o).alloc (.cells #[.string bB, .int .i64 2, .bool false, .string bA, .int .i64 1, .bool false, .string bC, .int .i64 1, .bool false] 29)).alloc (.cells #[.int .i64 1] 3)).alloc o') (some ⟨w3.heap.size + 1, 0, none⟩) 3 uCols ∧ Kd.C (Kd.int .i64) ((((w3.alloc o).alloc (.cells #[.string bB, .int .i64 2, .bool false, .string bA, .int .i64 1, .bool false, .string bC, .int .i64 1, .bool false] 29)).alloc (.cells #[.int .i64 1] 3)).alloc o') (some ⟨w3.heap.size + 1 + 1, 0, none⟩) 1 [1] := by
  have h1 := C_litA (d := k29) (e := 29) (xs := uCols) (uCols_reps (w3.alloc o)) HSize.out (by decide)
  have h2 := C_litA (d := Kd.int .i64) (e := 3) (int1_reps ((w3.alloc o).alloc (.cells #[.string bB, .int .i64 2, .bool false, .string bA, .int .i64 1, .bool false, .string bC, .int .i64 1, .bool false] 29))) HSize.out (by decide)
  exact ⟨up h1, up h2⟩
theorem fitsS : Fits sCols [0] [] [] := ⟨by decide, by decide, by decide, by simp, by decide, by simp, by intro c hc; simp only [sCols, List.mem_cons, List.not_mem_nil, or_false] at hc; rcases hc with rfl | rfl <;> decide, by intro c hc; simp only [List.mem_cons, List.not_mem_nil, or_false] at hc; subst hc; decide, by simp⟩
theorem fitsU : Fits uCols [1] [] [] := ⟨by decide, by decide, by decide, by simp, by decide, by simp, by intro c hc; simp only [uCols, List.mem_cons, List.not_mem_nil, or_false] at hc; rcases hc with rfl | rfl | rfl <;> decide, by intro c hc; simp only [List.mem_cons, List.not_mem_nil, or_false] at hc; subst hc; decide, by simp⟩
theorem awk1 {A1 A2 : Option Addr} {w : World} (h1 : Kd.C k29 w A1 2 sCols) (h2 : Kd.C (Kd.int .i64) w A2 1 [0]) :
    Calls Try.prog 10 #[.agg #[.string bT, .slice A1 2 2, .slice A2 1 1, .slice none 0 0, .slice none 0 0], .agg #[.int .i64 1, .string bN, .string bN, .string bC, .int .i64 1, .bool true, .int .i64 1, .int .i64 7, .string bN]] w fun e w' => (∃ B1 d1 B2 d2, e = .returned (.tuple #[.agg #[.string bT, .slice B1 3 d1, .slice B2 1 d2, .slice none 0 0, .slice none 0 0], .int .i64 0])) ∧ Below w.heap.size w w' :=
  apply_add bT A1 2 sCols A2 1 [0] bN bN bC 1 true 1 7 bN w h1 (by decide) h2 (by decide) fitsS (by decide) (by decide) (by kernel_rfl)
theorem awk2 {A1 A2 : Option Addr} {w : World} (h1 : Kd.C k29 w A1 3 uCols) (h2 : Kd.C (Kd.int .i64) w A2 1 [1]) :
    Calls Try.prog 10 #[.agg #[.string bT, .slice A1 3 3, .slice A2 1 1, .slice none 0 0, .slice none 0 0], .agg #[.int .i64 2, .string bB, .string bN, .string bN, .int .i64 0, .bool false, .int .i64 0, .int .i64 0, .string bN]] w fun e w' => ∃ g1 d1 g2 d2, e = .returned (.tuple #[.agg #[.string bT, .slice (some ⟨g1, 0, none⟩) 2 d1, .slice (some ⟨g2, 0, none⟩) 1 d2, .slice none 0 0, .slice none 0 0], .int .i64 0]) ∧ w'.cell? ⟨g2, 0, none⟩ = some (.int .i64 0) ∧ InHeap w' g2 ∧ Below w.heap.size w w' := by
  refine (apply_drop bT A1 3 uCols A2 1 [1] bB bN bN 0 false 0 0 bN w h1 (by decide) h2 (by decide) fitsU (by decide) (by decide) (by decide) (by kernel_rfl) 0 (by decide) (by kernel_rfl)).mono ?_
  rintro e w' ⟨g1, d1, g2, d2, rfl, hR, hb⟩
  have h3 : Kd.R (Kd.int .i64) 3 w' w.heap.size (fun _ => True) (.slice (some ⟨g2, 0, none⟩) 1 d2) [0] := hR
  have h4 := key_cell (key := [0]) (i := 0) (m := 0) h3 (by decide)
  exact ⟨_, _, _, _, rfl, h4.1, InHeap.ofCell h4.1, hb⟩
theorem awk3 {A1 A2 : Option Addr} {w : World} (h1 : Kd.C k29 w A1 2 sCols) (h2 : Kd.C (Kd.int .i64) w A2 1 [0]) :
    Calls Try.prog 7 #[.agg #[.string bT, .slice A1 2 2, .slice A2 1 1, .slice none 0 0, .slice none 0 0], .agg #[.int .i64 2, .string bA, .string bN, .string bN, .int .i64 0, .bool false, .int .i64 0, .int .i64 0, .string bN]] w fun e w' => e = .returned (.int .i64 25) ∧ Below w.heap.size w w' :=
  ev0_calls bT A1 2 sCols A2 1 [0] 2 bA bN bN 0 false 0 0 bN w h1 (by decide) h2 (by decide) fitsS 25 (by kernel_rfl)
theorem awk4 {A1 A2 : Option Addr} {w : World} (h1 : Kd.C k29 w A1 2 sCols) (h2 : Kd.C (Kd.int .i64) w A2 1 [0]) :
    Calls Try.prog 7 #[.agg #[.string bT, .slice A1 2 2, .slice A2 1 1, .slice none 0 0, .slice none 0 0], .agg #[.int .i64 2, .string bC, .string bN, .string bN, .int .i64 0, .bool false, .int .i64 0, .int .i64 0, .string bN]] w fun e w' => e = .returned (.int .i64 11) ∧ Below w.heap.size w w' :=
  ev0_calls bT A1 2 sCols A2 1 [0] 2 bC bN bN 0 false 0 0 bN w h1 (by decide) h2 (by decide) fitsS 11 (by kernel_rfl)
set_option maxRecDepth 20000 in
set_option maxHeartbeats 2000000 in
theorem awake_calls (w : World) :
    Calls Try.prog 9 #[] w fun e w' => e = .returned (.bool true) ∧ Below w.heap.size w w' := by
  have hu := Try.underlying27
  have hu1 := Try.underlying33
  have hu2 := Try.underlying29
  have hu3 := Try.underlying23
  go_enter Try.func9, Try.ntmps9
  go_wp2_with (first
    | (go_at_call 26; (with_reducible refine (sample_calls _).mono ?_); rintro e w1 ⟨A1, A2, rfl, q1, q2, hb⟩; have hs := Step.of hb; clear hb; have Q1 := Lib.hid q1; have Q2 := Lib.hid q2; clear q1 q2; have hc := hs.cell; have hf := hs.frozen)
    | (go_at_call 27; (with_reducible refine (rint_calls _).mono ?_); rintro e w2 ⟨rfl, hb⟩; have hs := Step.of hb; clear hb; have hc := hs.cell; have hf := hs.frozen)
    | (go_at_call 10; (with_reducible refine (awk1 ?g1 ?g2).mono ?_); (case g1 => exact up Q1.out); (case g2 => exact up Q2.out); rintro e w3 ⟨⟨B1, d1, B2, d2, rfl⟩, hb⟩; have hs := Step.of hb; clear hb; have hc := hs.cell; have hf := hs.frozen)
    | (go_at_call 10; (with_reducible refine (awk2 ?g1 ?g2).mono ?_); (case g1 => exact (uTab w3 _ _).1); (case g2 => exact (uTab w3 _ _).2); rintro e w4 ⟨g1, d1', g2, d2', rfl, hk0, hik, hb⟩; have hs4 := Step.of hb; clear hb; have hc4 := hs4.cell; have hf4 := hs4.frozen)
    | (go_at_call 7; (with_reducible refine (awk3 ?g1 ?g2).mono ?_); (case g1 => exact up Q1.out); (case g2 => exact up Q2.out); rintro e w5 ⟨rfl, hb⟩; have hs := Step.of hb; clear hb; have hc := hs.cell; have hf := hs.frozen)
    | (go_at_call 7; (with_reducible refine (awk4 ?g1 ?g2).mono ?_); (case g1 => exact up Q1.out); (case g2 => exact up Q2.out); rintro e w6 ⟨rfl, hb⟩; have hs := Step.of hb; clear hb; have hc := hs.cell; have hf := hs.frozen))
  go_ret
  exact ⟨rfl, Bel.out⟩
end Go.Proofs.Ytjceeengnnjipaa.PAll
