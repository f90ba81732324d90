/- expr.counts, formed, unite; the reference's Arity, Formed, Join, all. -/
import Derived.Test.YtjceeengnnjipaaRdr
import Derived.Test.YtjceeengnnjipaaGiv1
import Derived.LoopTactic
namespace Go.Proofs.Ytjceeengnnjipaa.PAll
open Go.RowKit Go.Proofs.Ytjceeengnnjipaa.Kit Go.Proofs.Ytjceeengnnjipaa.L13 Go.Proofs.YtjceeengnnjipaaW.PrintWords
set_option linter.unusedVariables false
attribute [local go_sem] allocCell allocFrozen setFar setFrozen allocAny allocAdd

set_option maxRecDepth 20000 in
set_option maxHeartbeats 2000000 in
theorem counts_calls (op n : Int) (w : World) :
    Calls Try.prog 88 #[.int .i64 op, .int .i64 n] w fun e w' => e = .returned (.tuple #[.bool (cnts op n).1, .bool (cnts op n).2]) ∧ Below w.heap.size w w' := by
  go_enter Try.func88, Try.ntmps88
  go_wp2
  all_goals
    go_ret2
    refine ⟨ret_eq ?_, Bel.out⟩
    first | (simp_all [cnts]; done) | (simp only [beq_eq_false_iff_ne, ne_eq] at *; (have h7 : ¬ (7 ≤ op ∧ op ≤ 17) := by omega); simp [cnts, *])
set_option maxRecDepth 20000 in
set_option maxHeartbeats 2000000 in
theorem arity_calls (op : Int) (w : World) :
    Calls Try.prog 84 #[.int .i64 op] w fun e w' => e = .returned (.tuple #[.int .i64 (arity op).1, .int .i64 (arity op).2]) ∧ Below w.heap.size w w' := by
  go_enter Try.func84, Try.ntmps84
  go_wp2
  all_goals
    go_ret2
    refine ⟨ret_eq ?_, Bel.out⟩
    first | (simp_all [arity]; done) | (simp only [beq_eq_false_iff_ne, ne_eq] at *; (have h7 : ¬ (7 ≤ op ∧ op ≤ 17) := by omega); simp [arity, *])
set_option maxRecDepth 20000 in
set_option maxHeartbeats 2000000 in
theorem unite_calls (A : Option Addr) (cp : Nat) (l : List Int) (w : World) (h : Rc (Kd.int .i64) w A cp l) :
    Calls Try.prog 105 #[.slice A l.length cp] w fun e w' => e = .returned (.tuple #[.int .i64 (uni 0 l).1, .bool (uni 0 l).2]) ∧ Below w.heap.size w w' := by
  have hm := h.len
  go_enter Try.func105, Try.ntmps105
  go_wp2
  go_loop [4, 6, 9] (fun acc x i => ∃ (k : Nat) (m : Int), k ≤ l.length ∧ i = .int .i64 k ∧ acc = .int .i64 m ∧ uni m (l.drop k) = uni 0 l) (fun _ _ i => l.length - (intOf i).toNat)
  case atStart => exact ⟨0, 0, by omega, rfl, rfl, rfl⟩
  case round =>
    obtain ⟨k, m, hk, rfl, rfl, hall⟩ := hrel
    have HA := Lib.hid hall; clear hall
    by_cases hlt : k < l.length
    · obtain ⟨ad, rfl, hi, x0⟩ := int_at h.r (belRefl w) k hlt
      have hd : l.drop k = l[k] :: l.drop (k + 1) := List.drop_eq_getElem_cons hlt
      have HD := Lib.hid hd; clear hd
      go_wp2
      · refine ⟨⟨k + 1, m, by omega, by go_num, rfl, ?_⟩, by simp [intOf]; omega⟩
        have h := HA.out
        rw [HD.out, uni, if_pos (by simpa using (by assumption : (l[k] == 0) = true))] at h
        exact h
      · rename_i h0 h1
        refine ⟨⟨k + 1, l[k], by omega, by go_num, rfl, ?_⟩, by simp [intOf]; omega⟩
        have h := HA.out
        rw [HD.out, uni, if_neg (by simpa using (by assumption : (l[k] == 0) = false)), if_pos (.inl h1)] at h
        exact h
      · rename_i h0 h1 h2 _
        go_ret2
        have h := HA.out
        rw [HD.out, uni, if_neg (by simpa using (by assumption : (l[k] == 0) = false)), if_neg (by simpa using h2)] at h
        refine ⟨ret_eq ?_, Bel.out⟩
        rw [← h]
        rfl
      · rename_i h0 h1 h2
        refine ⟨⟨k + 1, l[k], by omega, by go_num, rfl, ?_⟩, by simp [intOf]; omega⟩
        have h := HA.out
        rw [HD.out, uni, if_neg (by simpa using (by assumption : (l[k] == 0) = false)), if_pos (by simpa using h2)] at h
        exact h
    · go_wp2
      go_ret2
      refine ⟨ret_eq ?_, Bel.out⟩
      have h := HA.out
      rw [List.drop_eq_nil_of_le (by omega)] at h
      simp only [uni] at h
      rw [← h]
      rfl
set_option maxRecDepth 20000 in
set_option maxHeartbeats 2000000 in
theorem join_calls (A : Option Addr) (cp : Nat) (l : List Int) (w : World) (h : Rc (Kd.int .i64) w A cp l) :
    Calls Try.prog 103 #[.slice A l.length cp] w fun e w' => e = .returned (.tuple #[.int .i64 (uni 0 l).1, .bool (uni 0 l).2]) ∧ Below w.heap.size w w' := by
  have hm := h.len
  go_enter Try.func103, Try.ntmps103
  go_wp2
  go_loop [4, 5] (fun acc i => ∃ (k : Nat) (m : Int), k ≤ l.length ∧ i = .int .i64 k ∧ acc = .int .i64 m ∧ uni m (l.drop k) = uni 0 l) (fun _ i => l.length - (intOf i).toNat)
  case atStart => exact ⟨0, 0, by omega, rfl, rfl, rfl⟩
  case round =>
    obtain ⟨k, m, hk, rfl, rfl, hall⟩ := hrel
    have HA := Lib.hid hall; clear hall
    by_cases hlt : k < l.length
    · obtain ⟨ad, rfl, hi, x0⟩ := int_at h.r (belRefl w) k hlt
      have hd : l.drop k = l[k] :: l.drop (k + 1) := List.drop_eq_getElem_cons hlt
      have HD := Lib.hid hd; clear hd
      go_wp2
      · refine ⟨⟨k + 1, m, by omega, by go_num, rfl, ?_⟩, by simp [intOf]; omega⟩
        have h := HA.out
        rw [HD.out, uni, if_pos (by simpa using (by assumption : (l[k] == 0) = true))] at h
        exact h
      · rename_i h0 h1
        refine ⟨⟨k + 1, l[k], by omega, by go_num, rfl, ?_⟩, by simp [intOf]; omega⟩
        have h := HA.out
        rw [HD.out, uni, if_neg (by simpa using (by assumption : (l[k] == 0) = false)), if_pos (.inl h1)] at h
        exact h
      · rename_i h0 h1 h2 _
        go_ret2
        have h := HA.out
        rw [HD.out, uni, if_neg (by simpa using (by assumption : (l[k] == 0) = false)), if_neg (by simpa using h2)] at h
        refine ⟨ret_eq ?_, Bel.out⟩
        rw [← h]
        rfl
      · rename_i h0 h1 h2
        refine ⟨⟨k + 1, l[k], by omega, by go_num, rfl, ?_⟩, by simp [intOf]; omega⟩
        have h := HA.out
        rw [HD.out, uni, if_neg (by simpa using (by assumption : (l[k] == 0) = false)), if_pos (by simpa using h2)] at h
        exact h
    · go_wp2
      go_ret2
      refine ⟨ret_eq ?_, Bel.out⟩
      have h := HA.out
      rw [List.drop_eq_nil_of_le (by omega)] at h
      simp only [uni] at h
      rw [← h]
      rfl
set_option maxRecDepth 20000 in
set_option maxHeartbeats 2000000 in
theorem rall_calls (A : Option Addr) (cp : Nat) (l : List Int) (kind : Int) (w : World) (h : Rc (Kd.int .i64) w A cp l) :
    Calls Try.prog 102 #[.slice A l.length cp, .int .i64 kind] w fun e w' => e = .returned (.bool (fit l kind)) ∧ Below w.heap.size w w' := by
  have hm := h.len
  go_enter Try.func102, Try.ntmps102
  go_wp2
  go_loop [5] (fun i => ∃ (k : Nat), k ≤ l.length ∧ i = .int .i64 k ∧ fit (l.drop k) kind = fit l kind) (fun i => l.length - (intOf i).toNat)
  case atStart => exact ⟨0, by omega, rfl, rfl⟩
  case round =>
    obtain ⟨k, hk, rfl, hall⟩ := hrel
    have HA := Lib.hid hall; clear hall
    by_cases hlt : k < l.length
    · obtain ⟨ad, rfl, hi, x0⟩ := int_at h.r (belRefl w) k hlt
      have hd : l.drop k = l[k] :: l.drop (k + 1) := List.drop_eq_getElem_cons hlt
      have HD := Lib.hid hd; clear hd
      go_wp2
      · refine ⟨⟨k + 1, by omega, by go_num, ?_⟩, by simp [intOf]; omega⟩
        have h := HA.out
        rw [HD.out, fit, List.all_cons, (by assumption : l[k] = kind)] at h
        simpa [fit] using h
      · rename_i h1 h2 _
        go_ret
        refine ⟨ret_bool ?_, Bel.out⟩
        have h := HA.out
        rw [HD.out, fit, List.all_cons, show (l[k] == kind || l[k] == 0) = false by simpa using h2] at h
        exact h
      · rename_i h1 h2
        refine ⟨⟨k + 1, by omega, by go_num, ?_⟩, by simp [intOf]; omega⟩
        have h := HA.out
        rw [HD.out, fit, List.all_cons, show (l[k] == kind || l[k] == 0) = true by simpa using h2] at h
        simpa [fit] using h
    · go_wp2
      go_ret
      refine ⟨ret_bool ?_, Bel.out⟩
      have h := HA.out
      rw [List.drop_eq_nil_of_le (by omega)] at h
      exact h
set_option maxRecDepth 20000 in
set_option maxHeartbeats 2000000 in
theorem all_calls (A : Option Addr) (cp : Nat) (l : List Int) (kind : Int) (w : World) (h : Rc (Kd.int .i64) w A cp l) (hl : l.length < 1099511627776) (hk : kind ≠ 0) :
    Calls Try.prog 104 #[.slice A l.length cp, .int .i64 kind] w fun e w' => e = .returned (.bool (fit l kind)) ∧ Below w.heap.size w w' := by
  have hm := h.len
  have hu := Try.underlying23
  have hf : ((uni 0 (l ++ [kind])).2 && (uni 0 (l ++ [kind])).1 == kind) = fit l kind := by rw [uni_fit kind hk l 0]; simp
  obtain ⟨L, hL⟩ : ∃ L, l ++ [kind] = L := ⟨_, rfl⟩
  rw [hL] at hf
  have HF := Lib.hid hf; clear hf
  have HL := Lib.hid hL; clear hL
  have HK := Lib.hid hk; clear hk
  go_enter Try.func104, Try.ntmps104
  go_wp2_with (first
    | (go_at_call 53; (with_reducible refine (slices_Clone_int_int.calls _ _ l l _ ?g1 h.h ?g2).mono ?_); (case g1 => exact up h.r); (case g2 => unfold slices_Clone_int_int.f; rw [if_pos (by omega)]); rintro e w1 ⟨v0, rfl, hR, hb⟩; have hs1 := Step.of hb; have HR := Lib.hid hR; clear hb hR; have hc1 := hs1.cell; have hf1 := hs1.frozen)
    | (at_builtin; refine Kd.R_append (Kd.int .i64) (w0 := w) w.heap.size rfl (.tmp 9) (.tmp 11) 23 3 (.int .i64 0) 8 rfl hu info3 rfl (by decide) (by decide) v0 l kind [.int .i64 kind] (fun _ => True) (fun _ => False) rfl rfl rfl (fun _ h => h.elim) (fun _ _ => trivial) HR.out ?c1 ?c2 ?c3 ?_; (case c1 => exact Bel.out); (case c2 => exact Below.size Bel.out); (case c3 => omega); intro v1 w2 hR2 hb2 _ _; rw [HL.out] at hR2; have i2 : Bel w w2 := ⟨hb2⟩; obtain ⟨A2, c2, rfl, hl2, hC2⟩ := Kd.R_reads hR2; have HC := Lib.hid (Rc.mk hC2 hl2); clear hR2 hb2 hC2 hl2)
    | (go_at_call 105; (with_reducible refine (unite_calls _ _ L _ HC.out).mono ?_); rintro e w3 ⟨rfl, hb⟩; have hs3 := Step.of hb; clear hb))
  all_goals
    go_ret
    refine ⟨ret_bool ?_, Bel.out⟩
    rw [← HF.out]
    simp_all
end Go.Proofs.Ytjceeengnnjipaa.PAll
