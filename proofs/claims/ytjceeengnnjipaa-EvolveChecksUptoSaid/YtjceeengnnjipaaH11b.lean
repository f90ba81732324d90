/- expr.formed, the reference's Formed. -/
import Derived.Test.YtjceeengnnjipaaH11a
import Derived.RegionTactic
import Derived.Deep.RegionHeld3
import Derived.Deep.DrawnRows
namespace Go.Proofs.Ytjceeengnnjipaa.PAll
open Go.RowKit Go.Proofs.Ytjceeengnnjipaa.Kit Go.Proofs.Ytjceeengnnjipaa.L13 Go.Proofs.YtjceeengnnjipaaW.PrintWords
set_option linter.unusedVariables false
set_option linter.unusedSimpArgs false
attribute [local go_sem] allocCell allocFrozen setFar setFrozen allocAny allocAdd
attribute [local go_sem ↓] Go.wp_at_zero Go.wp_at_succ

set_option maxRecDepth 20000 in
set_option maxHeartbeats 2000000 in
theorem formed_calls (op n a b : Int) (c nm : ByteArray) (A : Option Addr) (cp len : Nat) (w : World) (hl : len ≤ 9223372036854775807) :
    Calls Try.prog 89 #[.agg #[.int .i64 op, .int .i64 n, .int .i64 a, .int .i64 b, .string c, .string nm, .slice A len cp]] w fun e w' => e = .returned (.bool (formedOk op n ⟨a, b, c⟩ nm len)) ∧ Below w.heap.size w w' := by
  have hu := Try.underlying70
  have hu1 := Try.underlying31
  go_enter Try.func89, Try.ntmps89
  go_wp2_with (first
    | (go_at_call 88; (with_reducible refine (counts_calls _ _ _).mono ?_); rintro e w1 ⟨rfl, hb⟩; have hs1 := Step.of hb; clear hb; have hc1 := hs1.cell; have hf1 := hs1.frozen; have hd1 := hs1.add)
    | (go_at_call 40; (with_reducible refine (L07.valid_calls _ _ _ _).mono ?_); rintro e w2 ⟨rfl, hb⟩; have hs2 := Step.of hb; clear hb; have hc2 := hs2.cell; have hf2 := hs2.frozen; have hd2 := hs2.add))
  all_goals
    go_ret
    refine ⟨ret_bool ?_, Bel.out⟩
    first | (simp_all [formedOk, vOk, vZero]; done) | (simp_all [formedOk, vOk, vZero]; omega)
theorem keepB {W w' : World} [h : Bel W w'] : Bel W w' ∧ ∀ (b o : Nat) [InHeap W b], w'.cell? ⟨b, o, none⟩ = W.cell? ⟨b, o, none⟩ := ⟨h, fun b o i => h.out.cell (p := ⟨b, o, none⟩) i.out⟩
theorem keepC {W w' : World} [h : Bel W w'] : Bel W w' ∧ (∀ (b o : Nat) [InHeap W b], w'.cell? ⟨b, o, none⟩ = W.cell? ⟨b, o, none⟩) ∧ (∀ (a : Addr) (k : Nat) [InHeap W a.block], w'.cell? (a.add k) = W.cell? (a.add k)) ∧ (∀ (a : Addr) [InHeap W a.block], w'.cell? a = W.cell? a) :=
  ⟨h, fun b o i => h.out.cell (p := ⟨b, o, none⟩) i.out, fun a k i => h.out.cell (by rw [addBlock]; exact i.out), fun a i => h.out.cell i.out⟩
theorem takeN {P : Program} {md : Region.Mode} {ops : Array Oper} {Q : Exit → Act → World → Prop} {S : World → Prop} {i : Nat} {N : Option Tmp} {oi : Oper} {v : Value} {fuel : Nat} {listed : Array Bool} {a : Act} {w : World} (hi : ops[i]? = some oi) (hN : oi.dst = N)
    (hs : Region.noSelect ops = true) (hf : Region.free md ops listed i = true) (hr : (Region.ready md ops listed).contains i = true)
    (hQ : ∀ c a w, Q (.panic c) (a.put N v) w → Q (.panic c) a w) (hy : YieldsIf P ops S oi v a) (hS : S w)
    (h : wpAnyH P md ops Q S fuel (listed.setIfInBounds i true) (a.put N v) w) : wpAnyH P md ops Q S (fuel + 1) listed a w := by
  subst hN; exact wpAnyH_take hi hs hf hr hQ hy hS h
theorem rnull_calls (w : World) :
    Calls Try.prog 73 #[] w fun e w' => e = .returned (.agg #[.int .i64 0, .int .i64 0, .string ⟨#[]⟩]) ∧ Below w.heap.size w w' := by
  have hu1 := Try.underlying31
  go_enter Try.func73, Try.ntmps73
  go_wp2
  exact bodyPost_ret (v := .agg #[.int .i64 0, .int .i64 0, .string ⟨#[]⟩]) (by simp [results, Try.results73, go_sem]) rfl ⟨rfl, Bel.out⟩
set_option maxRecDepth 20000 in
set_option maxHeartbeats 2000000 in
theorem rformed_calls (op n a b : Int) (c nm : ByteArray) (A : Option Addr) (cp len : Nat) (w : World) (hl : len < 1099511627776) :
    Calls Try.prog 85 #[.agg #[.int .i64 op, .int .i64 n, .int .i64 a, .int .i64 b, .string c, .string nm, .slice A len cp]] w fun e w' => e = .returned (.bool (formedOk op n ⟨a, b, c⟩ nm len)) ∧ Below w.heap.size w w' := by
  have hu := Try.underlying70
  have hu1 := Try.underlying31
  have hac := (arity_cnts op len hl).1
  have HA := Lib.hid hac; clear hac
  go_enter Try.func85, Try.ntmps85
  go_wp2_with (first
    | (go_at_call 84; (with_reducible refine (arity_calls _ _).mono ?_); rintro e w1 ⟨rfl, hb⟩; have hs1 := Step.of hb; clear hb; have hc1 := hs1.cell; have hf1 := hs1.frozen; have hd1 := hs1.add)
    | (go_at_call 46; (with_reducible refine (L07.rvalid_calls _ _ _ _).mono ?_); rintro e w2 ⟨rfl, hb⟩; have hs2 := Step.of hb; clear hb; have hc2 := hs2.cell; have hf2 := hs2.frozen; have hd2 := hs2.add))
  all_goals try (go_ret; refine ⟨ret_bool ?_, Bel.out⟩; unfold formedOk; rw [HA.out]; (first | (simp_all [vOk, vZero]; done) | (simp_all [vOk, vZero]; omega) | (rename_i h; rcases h with ((h | h) | h) | h; (exfalso; omega); (exfalso; omega); (exfalso; omega); (rw [Bool.not_eq_true'] at h; simp [h]))))
  · have u1 : w1.cell? ⟨w.heap.size, 1, none⟩ = some (.int .i64 n) := by go_simp
    have u2 : w1.cell? ⟨w.heap.size, 2, none⟩ = some (.int .i64 a) := by go_simp
    have u3 : w1.cell? ⟨w.heap.size, 3, none⟩ = some (.int .i64 b) := by go_simp
    have u4 : w1.cell? ⟨w.heap.size, 4, none⟩ = some (.string c) := by go_simp
    have j1 : InHeap w1 w.heap.size := inferInstance
    have j2 : Bel w w1 := inferInstance
    clear hc1 hf1 hd1
    have hv : (a = 0 ∧ b = 0 ∧ c.toList = []) ∨ (a = 0 ∧ b = 0 ∧ ¬ c.toList = []) ∨ (a = 0 ∧ ¬ b = 0) ∨ ¬ a = 0 := by
      by_cases ha : a = 0 <;> by_cases hb : b = 0 <;> by_cases hc : c.toList = [] <;> simp [*]
    rcases hv with ⟨ha, hb, hc⟩ | ⟨ha, hb, hc⟩ | ⟨ha, hb⟩ | ha
    all_goals
      refine wp_region_held_drew (S := (fun w' => Bel w1 w' ∧ (∀ (b o : Nat) [InHeap w1 b], w'.cell? ⟨b, o, none⟩ = w1.cell? ⟨b, o, none⟩) ∧ (∀ (a : Addr) (k : Nat) [InHeap w1 a.block], w'.cell? (a.add k) = w1.cell? (a.add k)) ∧ (∀ (a : Addr) [InHeap w1 a.block], w'.cell? a = w1.cell? a))) (by kernel_rfl) ?_ (fun hHeld => ?_)
      · exact keepC
      first | (refine takeN (i := 0) (N := (some 46)) (v := ?_) rfl rfl (by kernel_rfl) (by kernel_rfl) (by kernel_rfl) (fun _ _ _ h => h) (Or.inl ⟨by rfl, ?_⟩) (by assumption) ?_; rotate_left; focus ((intro w hSw; (try dsimp only at hSw); go_simp); (try with_reducible rfl))) | (refine takeN (i := 0) (N := (some 46)) (v := undef) rfl rfl (by kernel_rfl) (by kernel_rfl) (by kernel_rfl) (fun _ _ _ h => h) (Or.inr ⟨by rfl, rfl⟩) (by assumption) ?_)
      try simp only [Act.put, List.setIfInBounds_toArray, List.set_cons_zero, List.set_cons_succ]
      first | (refine takeN (i := 1) (N := (some 47)) (v := ?_) rfl rfl (by kernel_rfl) (by kernel_rfl) (by kernel_rfl) (fun _ _ _ h => h) (Or.inl ⟨by rfl, ?_⟩) (by assumption) ?_; rotate_left; focus ((intro w hSw; (try dsimp only at hSw); go_simp); (try with_reducible rfl))) | (refine takeN (i := 1) (N := (some 47)) (v := undef) rfl rfl (by kernel_rfl) (by kernel_rfl) (by kernel_rfl) (fun _ _ _ h => h) (Or.inr ⟨by rfl, rfl⟩) (by assumption) ?_)
      try simp only [Act.put, List.setIfInBounds_toArray, List.set_cons_zero, List.set_cons_succ]
      refine wpAnyH_ready (rs := [2]) (by kernel_rfl) (by simp) ?_
      refine AllReadyH.cons rfl (fun K hK => ?_) AllReadyH.nil
      go_simp
      (go_at_call 73; (with_reducible refine (rnull_calls _).mono ?_); rintro e w2 ⟨rfl, hb⟩; have hs2 := Step.of hb; clear hb)
      clear hHeld
      refine hK.out _ _ ?_ (fun hHeld => ?_)
      · (try dsimp only); exact keepC
      try simp only [Act.put, List.setIfInBounds_toArray, List.set_cons_zero, List.set_cons_succ]
      first | (refine takeN (i := 3) (N := (some 49)) (v := ?_) rfl rfl (by kernel_rfl) (by kernel_rfl) (by kernel_rfl) (fun _ _ _ h => h) (Or.inl ⟨by rfl, ?_⟩) (by assumption) ?_; rotate_left; focus ((intro w hSw; (try dsimp only at hSw); go_simp); (try with_reducible rfl))) | (refine takeN (i := 3) (N := (some 49)) (v := undef) rfl rfl (by kernel_rfl) (by kernel_rfl) (by kernel_rfl) (fun _ _ _ h => h) (Or.inr ⟨by rfl, rfl⟩) (by assumption) ?_)
      try simp only [Act.put, List.setIfInBounds_toArray, List.set_cons_zero, List.set_cons_succ]
      first | (refine takeN (i := 4) (N := (some 2)) (v := ?_) rfl rfl (by kernel_rfl) (by kernel_rfl) (by kernel_rfl) (fun _ _ _ h => h) (Or.inl ⟨by rfl, ?_⟩) (by assumption) ?_; rotate_left; focus ((intro w hSw; (try dsimp only at hSw); go_simp); (try with_reducible rfl))) | (refine takeN (i := 4) (N := (some 2)) (v := undef) rfl rfl (by kernel_rfl) (by kernel_rfl) (by kernel_rfl) (fun _ _ _ h => h) (Or.inr ⟨by rfl, rfl⟩) (by assumption) ?_)
      try simp only [Act.put, List.setIfInBounds_toArray, List.set_cons_zero, List.set_cons_succ]
      refine wpAnyH_done (by kernel_rfl) ?_ _
      go_wp2
      go_ret
      refine ⟨ret_bool ?_, j2.out.trans (hHeld.1.out.mono j2.out.size)⟩
      unfold formedOk; rw [HA.out]
      first | (simp_all [vOk, vZero]; done) | (simp_all [vOk, vZero]; omega)
  · have u1 : w1.cell? ⟨w.heap.size, 1, none⟩ = some (.int .i64 n) := by go_simp
    have u2 : w1.cell? ⟨w.heap.size, 2, none⟩ = some (.int .i64 a) := by go_simp
    have u3 : w1.cell? ⟨w.heap.size, 3, none⟩ = some (.int .i64 b) := by go_simp
    have u4 : w1.cell? ⟨w.heap.size, 4, none⟩ = some (.string c) := by go_simp
    have j1 : InHeap w1 w.heap.size := inferInstance
    have j2 : Bel w w1 := inferInstance
    clear hc1 hf1 hd1
    have hv : ((a = 0 ∧ b = 0 ∧ c.toList = []) ∧ decide (0 ≤ n) = true ∧ decide (n < 13) = true) ∨ ((a = 0 ∧ b = 0 ∧ c.toList = []) ∧ decide (0 ≤ n) = true ∧ decide (n < 13) = false) ∨ ((a = 0 ∧ b = 0 ∧ c.toList = []) ∧ decide (0 ≤ n) = false) ∨ (a = 0 ∧ b = 0 ∧ ¬ c.toList = []) ∨ (a = 0 ∧ ¬ b = 0) ∨ ¬ a = 0 := by
      by_cases ha : a = 0 <;> by_cases hb : b = 0 <;> by_cases hc : c.toList = [] <;> by_cases h0 : 0 ≤ n <;> by_cases h1 : n < 13 <;> simp [*]
    rcases hv with ⟨⟨ha, hb, hc⟩, hn0, hn1⟩ | ⟨⟨ha, hb, hc⟩, hn0, hn1⟩ | ⟨⟨ha, hb, hc⟩, hn0⟩ | ⟨ha, hb, hc⟩ | ⟨ha, hb⟩ | ha
    all_goals
      refine wp_region_held_drew (S := (fun w' => Bel w1 w' ∧ (∀ (b o : Nat) [InHeap w1 b], w'.cell? ⟨b, o, none⟩ = w1.cell? ⟨b, o, none⟩) ∧ (∀ (a : Addr) (k : Nat) [InHeap w1 a.block], w'.cell? (a.add k) = w1.cell? (a.add k)) ∧ (∀ (a : Addr) [InHeap w1 a.block], w'.cell? a = w1.cell? a))) (by kernel_rfl) ?_ (fun hHeld => ?_)
      · exact keepC
      first | (refine takeN (i := 0) (N := (some 52)) (v := ?_) rfl rfl (by kernel_rfl) (by kernel_rfl) (by kernel_rfl) (fun _ _ _ h => h) (Or.inl ⟨by rfl, ?_⟩) (by assumption) ?_; rotate_left; focus ((intro w hSw; (try dsimp only at hSw); go_simp); (try with_reducible rfl))) | (refine takeN (i := 0) (N := (some 52)) (v := undef) rfl rfl (by kernel_rfl) (by kernel_rfl) (by kernel_rfl) (fun _ _ _ h => h) (Or.inr ⟨by rfl, rfl⟩) (by assumption) ?_)
      try simp only [Act.put, List.setIfInBounds_toArray, List.set_cons_zero, List.set_cons_succ]
      first | (refine takeN (i := 1) (N := (some 53)) (v := ?_) rfl rfl (by kernel_rfl) (by kernel_rfl) (by kernel_rfl) (fun _ _ _ h => h) (Or.inl ⟨by rfl, ?_⟩) (by assumption) ?_; rotate_left; focus ((intro w hSw; (try dsimp only at hSw); go_simp); (try with_reducible rfl))) | (refine takeN (i := 1) (N := (some 53)) (v := undef) rfl rfl (by kernel_rfl) (by kernel_rfl) (by kernel_rfl) (fun _ _ _ h => h) (Or.inr ⟨by rfl, rfl⟩) (by assumption) ?_)
      try simp only [Act.put, List.setIfInBounds_toArray, List.set_cons_zero, List.set_cons_succ]
      refine wpAnyH_ready (rs := [2]) (by kernel_rfl) (by simp) ?_
      refine AllReadyH.cons rfl (fun K hK => ?_) AllReadyH.nil
      go_simp
      (go_at_call 73; (with_reducible refine (rnull_calls _).mono ?_); rintro e w2 ⟨rfl, hb⟩; have hs2 := Step.of hb; clear hb)
      clear hHeld
      refine hK.out _ _ ?_ (fun hHeld => ?_)
      · (try dsimp only); exact keepC
      try simp only [Act.put, List.setIfInBounds_toArray, List.set_cons_zero, List.set_cons_succ]
      first | (refine takeN (i := 3) (N := (some 55)) (v := ?_) rfl rfl (by kernel_rfl) (by kernel_rfl) (by kernel_rfl) (fun _ _ _ h => h) (Or.inl ⟨by rfl, ?_⟩) (by assumption) ?_; rotate_left; focus ((intro w hSw; (try dsimp only at hSw); go_simp); (try with_reducible rfl))) | (refine takeN (i := 3) (N := (some 55)) (v := undef) rfl rfl (by kernel_rfl) (by kernel_rfl) (by kernel_rfl) (fun _ _ _ h => h) (Or.inr ⟨by rfl, rfl⟩) (by assumption) ?_)
      try simp only [Act.put, List.setIfInBounds_toArray, List.set_cons_zero, List.set_cons_succ]
      first | (refine takeN (i := 4) (N := (some 56)) (v := ?_) rfl rfl (by kernel_rfl) (by kernel_rfl) (by kernel_rfl) (fun _ _ _ h => h) (Or.inl ⟨by rfl, ?_⟩) (by assumption) ?_; rotate_left; focus ((intro w hSw; (try dsimp only at hSw); go_simp); (try with_reducible rfl))) | (refine takeN (i := 4) (N := (some 56)) (v := undef) rfl rfl (by kernel_rfl) (by kernel_rfl) (by kernel_rfl) (fun _ _ _ h => h) (Or.inr ⟨by rfl, rfl⟩) (by assumption) ?_)
      try simp only [Act.put, List.setIfInBounds_toArray, List.set_cons_zero, List.set_cons_succ]
      first | (refine takeN (i := 5) (N := (some 57)) (v := ?_) rfl rfl (by kernel_rfl) (by kernel_rfl) (by kernel_rfl) (fun _ _ _ h => h) (Or.inl ⟨by rfl, ?_⟩) (by assumption) ?_; rotate_left; focus ((intro w hSw; (try dsimp only at hSw); go_simp); (try with_reducible rfl))) | (refine takeN (i := 5) (N := (some 57)) (v := undef) rfl rfl (by kernel_rfl) (by kernel_rfl) (by kernel_rfl) (fun _ _ _ h => h) (Or.inr ⟨by rfl, rfl⟩) (by assumption) ?_)
      try simp only [Act.put, List.setIfInBounds_toArray, List.set_cons_zero, List.set_cons_succ]
      first | (refine takeN (i := 6) (N := (some 58)) (v := ?_) rfl rfl (by kernel_rfl) (by kernel_rfl) (by kernel_rfl) (fun _ _ _ h => h) (Or.inl ⟨by rfl, ?_⟩) (by assumption) ?_; rotate_left; focus ((intro w hSw; (try dsimp only at hSw); go_simp); (try with_reducible rfl))) | (refine takeN (i := 6) (N := (some 58)) (v := undef) rfl rfl (by kernel_rfl) (by kernel_rfl) (by kernel_rfl) (fun _ _ _ h => h) (Or.inr ⟨by rfl, rfl⟩) (by assumption) ?_)
      try simp only [Act.put, List.setIfInBounds_toArray, List.set_cons_zero, List.set_cons_succ]
      first | (refine takeN (i := 7) (N := (some 59)) (v := ?_) rfl rfl (by kernel_rfl) (by kernel_rfl) (by kernel_rfl) (fun _ _ _ h => h) (Or.inl ⟨by rfl, ?_⟩) (by assumption) ?_; rotate_left; focus ((intro w hSw; (try dsimp only at hSw); go_simp); (try with_reducible rfl))) | (refine takeN (i := 7) (N := (some 59)) (v := undef) rfl rfl (by kernel_rfl) (by kernel_rfl) (by kernel_rfl) (fun _ _ _ h => h) (Or.inr ⟨by rfl, rfl⟩) (by assumption) ?_)
      try simp only [Act.put, List.setIfInBounds_toArray, List.set_cons_zero, List.set_cons_succ]
      first | (refine takeN (i := 8) (N := (some 60)) (v := ?_) rfl rfl (by kernel_rfl) (by kernel_rfl) (by kernel_rfl) (fun _ _ _ h => h) (Or.inl ⟨by rfl, ?_⟩) (by assumption) ?_; rotate_left; focus ((intro w hSw; (try dsimp only at hSw); go_simp); (try with_reducible rfl))) | (refine takeN (i := 8) (N := (some 60)) (v := undef) rfl rfl (by kernel_rfl) (by kernel_rfl) (by kernel_rfl) (fun _ _ _ h => h) (Or.inr ⟨by rfl, rfl⟩) (by assumption) ?_)
      try simp only [Act.put, List.setIfInBounds_toArray, List.set_cons_zero, List.set_cons_succ]
      first | (refine takeN (i := 9) (N := (some 61)) (v := ?_) rfl rfl (by kernel_rfl) (by kernel_rfl) (by kernel_rfl) (fun _ _ _ h => h) (Or.inl ⟨by rfl, ?_⟩) (by assumption) ?_; rotate_left; focus ((intro w hSw; (try dsimp only at hSw); go_simp); (try with_reducible rfl))) | (refine takeN (i := 9) (N := (some 61)) (v := undef) rfl rfl (by kernel_rfl) (by kernel_rfl) (by kernel_rfl) (fun _ _ _ h => h) (Or.inr ⟨by rfl, rfl⟩) (by assumption) ?_)
      try simp only [Act.put, List.setIfInBounds_toArray, List.set_cons_zero, List.set_cons_succ]
      first | (refine takeN (i := 10) (N := (some 62)) (v := ?_) rfl rfl (by kernel_rfl) (by kernel_rfl) (by kernel_rfl) (fun _ _ _ h => h) (Or.inl ⟨by rfl, ?_⟩) (by assumption) ?_; rotate_left; focus ((intro w hSw; (try dsimp only at hSw); go_simp); (try with_reducible rfl))) | (refine takeN (i := 10) (N := (some 62)) (v := undef) rfl rfl (by kernel_rfl) (by kernel_rfl) (by kernel_rfl) (fun _ _ _ h => h) (Or.inr ⟨by rfl, rfl⟩) (by assumption) ?_)
      try simp only [Act.put, List.setIfInBounds_toArray, List.set_cons_zero, List.set_cons_succ]
      first | (refine takeN (i := 11) (N := (some 63)) (v := ?_) rfl rfl (by kernel_rfl) (by kernel_rfl) (by kernel_rfl) (fun _ _ _ h => h) (Or.inl ⟨by rfl, ?_⟩) (by assumption) ?_; rotate_left; focus ((intro w hSw; (try dsimp only at hSw); go_simp); (try with_reducible rfl))) | (refine takeN (i := 11) (N := (some 63)) (v := undef) rfl rfl (by kernel_rfl) (by kernel_rfl) (by kernel_rfl) (fun _ _ _ h => h) (Or.inr ⟨by rfl, rfl⟩) (by assumption) ?_)
      try simp only [Act.put, List.setIfInBounds_toArray, List.set_cons_zero, List.set_cons_succ]
      first | (refine takeN (i := 12) (N := (some 64)) (v := ?_) rfl rfl (by kernel_rfl) (by kernel_rfl) (by kernel_rfl) (fun _ _ _ h => h) (Or.inl ⟨by rfl, ?_⟩) (by assumption) ?_; rotate_left; focus ((intro w hSw; (try dsimp only at hSw); go_simp); (try with_reducible rfl))) | (refine takeN (i := 12) (N := (some 64)) (v := undef) rfl rfl (by kernel_rfl) (by kernel_rfl) (by kernel_rfl) (fun _ _ _ h => h) (Or.inr ⟨by rfl, rfl⟩) (by assumption) ?_)
      try simp only [Act.put, List.setIfInBounds_toArray, List.set_cons_zero, List.set_cons_succ]
      first | (refine takeN (i := 13) (N := (some 65)) (v := ?_) rfl rfl (by kernel_rfl) (by kernel_rfl) (by kernel_rfl) (fun _ _ _ h => h) (Or.inl ⟨by rfl, ?_⟩) (by assumption) ?_; rotate_left; focus ((intro w hSw; (try dsimp only at hSw); go_simp); (try with_reducible rfl))) | (refine takeN (i := 13) (N := (some 65)) (v := undef) rfl rfl (by kernel_rfl) (by kernel_rfl) (by kernel_rfl) (fun _ _ _ h => h) (Or.inr ⟨by rfl, rfl⟩) (by assumption) ?_)
      try simp only [Act.put, List.setIfInBounds_toArray, List.set_cons_zero, List.set_cons_succ]
      first | (refine takeN (i := 14) (N := (some 2)) (v := ?_) rfl rfl (by kernel_rfl) (by kernel_rfl) (by kernel_rfl) (fun _ _ _ h => h) (Or.inl ⟨by rfl, ?_⟩) (by assumption) ?_; rotate_left; focus ((intro w hSw; (try dsimp only at hSw); go_simp); (try with_reducible rfl))) | (refine takeN (i := 14) (N := (some 2)) (v := undef) rfl rfl (by kernel_rfl) (by kernel_rfl) (by kernel_rfl) (fun _ _ _ h => h) (Or.inr ⟨by rfl, rfl⟩) (by assumption) ?_)
      try simp only [Act.put, List.setIfInBounds_toArray, List.set_cons_zero, List.set_cons_succ]
      refine wpAnyH_done (by kernel_rfl) ?_ _
      go_wp2
      go_ret
      refine ⟨ret_bool ?_, j2.out.trans (hHeld.1.out.mono j2.out.size)⟩
      unfold formedOk; rw [HA.out]
      first | (simp_all [vOk, vZero]; done) | (simp_all [vOk, vZero]; omega)
  · have u1 : w1.cell? ⟨w.heap.size, 1, none⟩ = some (.int .i64 n) := by go_simp
    have u2 : w1.cell? ⟨w.heap.size, 2, none⟩ = some (.int .i64 a) := by go_simp
    have u3 : w1.cell? ⟨w.heap.size, 3, none⟩ = some (.int .i64 b) := by go_simp
    have u4 : w1.cell? ⟨w.heap.size, 4, none⟩ = some (.string c) := by go_simp
    have j1 : InHeap w1 w.heap.size := inferInstance
    have j2 : Bel w w1 := inferInstance
    clear hc1 hf1 hd1
    have hv : (n = 0 ∧ a = 0 ∧ b = 0 ∧ c.toList = []) ∨ (n = 0 ∧ a = 0 ∧ b = 0 ∧ ¬ c.toList = []) ∨ (n = 0 ∧ a = 0 ∧ ¬ b = 0) ∨ (n = 0 ∧ ¬ a = 0) ∨ (n == 0) = false := by
      by_cases ha : a = 0 <;> by_cases hb : b = 0 <;> by_cases hc : c.toList = [] <;> by_cases h0 : n = 0 <;> simp [*]
    rcases hv with ⟨hn0, ha, hb, hc⟩ | ⟨hn0, ha, hb, hc⟩ | ⟨hn0, ha, hb⟩ | ⟨hn0, ha⟩ | hn0
    all_goals
      refine wp_region_held_drew (S := (fun w' => Bel w1 w' ∧ (∀ (b o : Nat) [InHeap w1 b], w'.cell? ⟨b, o, none⟩ = w1.cell? ⟨b, o, none⟩) ∧ (∀ (a : Addr) (k : Nat) [InHeap w1 a.block], w'.cell? (a.add k) = w1.cell? (a.add k)) ∧ (∀ (a : Addr) [InHeap w1 a.block], w'.cell? a = w1.cell? a))) (by kernel_rfl) ?_ (fun hHeld => ?_)
      · exact keepC
      first | (refine takeN (i := 0) (N := (some 66)) (v := ?_) rfl rfl (by kernel_rfl) (by kernel_rfl) (by kernel_rfl) (fun _ _ _ h => h) (Or.inl ⟨by rfl, ?_⟩) (by assumption) ?_; rotate_left; focus ((intro w hSw; (try dsimp only at hSw); go_simp); (try with_reducible rfl))) | (refine takeN (i := 0) (N := (some 66)) (v := undef) rfl rfl (by kernel_rfl) (by kernel_rfl) (by kernel_rfl) (fun _ _ _ h => h) (Or.inr ⟨by rfl, rfl⟩) (by assumption) ?_)
      try simp only [Act.put, List.setIfInBounds_toArray, List.set_cons_zero, List.set_cons_succ]
      first | (refine takeN (i := 1) (N := (some 67)) (v := ?_) rfl rfl (by kernel_rfl) (by kernel_rfl) (by kernel_rfl) (fun _ _ _ h => h) (Or.inl ⟨by rfl, ?_⟩) (by assumption) ?_; rotate_left; focus ((intro w hSw; (try dsimp only at hSw); go_simp); (try with_reducible rfl))) | (refine takeN (i := 1) (N := (some 67)) (v := undef) rfl rfl (by kernel_rfl) (by kernel_rfl) (by kernel_rfl) (fun _ _ _ h => h) (Or.inr ⟨by rfl, rfl⟩) (by assumption) ?_)
      try simp only [Act.put, List.setIfInBounds_toArray, List.set_cons_zero, List.set_cons_succ]
      first | (refine takeN (i := 2) (N := (some 68)) (v := ?_) rfl rfl (by kernel_rfl) (by kernel_rfl) (by kernel_rfl) (fun _ _ _ h => h) (Or.inl ⟨by rfl, ?_⟩) (by assumption) ?_; rotate_left; focus ((intro w hSw; (try dsimp only at hSw); go_simp); (try with_reducible rfl))) | (refine takeN (i := 2) (N := (some 68)) (v := undef) rfl rfl (by kernel_rfl) (by kernel_rfl) (by kernel_rfl) (fun _ _ _ h => h) (Or.inr ⟨by rfl, rfl⟩) (by assumption) ?_)
      try simp only [Act.put, List.setIfInBounds_toArray, List.set_cons_zero, List.set_cons_succ]
      first | (refine takeN (i := 3) (N := (some 69)) (v := ?_) rfl rfl (by kernel_rfl) (by kernel_rfl) (by kernel_rfl) (fun _ _ _ h => h) (Or.inl ⟨by rfl, ?_⟩) (by assumption) ?_; rotate_left; focus ((intro w hSw; (try dsimp only at hSw); go_simp); (try with_reducible rfl))) | (refine takeN (i := 3) (N := (some 69)) (v := undef) rfl rfl (by kernel_rfl) (by kernel_rfl) (by kernel_rfl) (fun _ _ _ h => h) (Or.inr ⟨by rfl, rfl⟩) (by assumption) ?_)
      try simp only [Act.put, List.setIfInBounds_toArray, List.set_cons_zero, List.set_cons_succ]
      first | (refine takeN (i := 4) (N := (some 70)) (v := ?_) rfl rfl (by kernel_rfl) (by kernel_rfl) (by kernel_rfl) (fun _ _ _ h => h) (Or.inl ⟨by rfl, ?_⟩) (by assumption) ?_; rotate_left; focus ((intro w hSw; (try dsimp only at hSw); go_simp); (try with_reducible rfl))) | (refine takeN (i := 4) (N := (some 70)) (v := undef) rfl rfl (by kernel_rfl) (by kernel_rfl) (by kernel_rfl) (fun _ _ _ h => h) (Or.inr ⟨by rfl, rfl⟩) (by assumption) ?_)
      try simp only [Act.put, List.setIfInBounds_toArray, List.set_cons_zero, List.set_cons_succ]
      first | (refine takeN (i := 5) (N := (some 71)) (v := ?_) rfl rfl (by kernel_rfl) (by kernel_rfl) (by kernel_rfl) (fun _ _ _ h => h) (Or.inl ⟨by rfl, ?_⟩) (by assumption) ?_; rotate_left; focus ((intro w hSw; (try dsimp only at hSw); go_simp); (try with_reducible rfl))) | (refine takeN (i := 5) (N := (some 71)) (v := undef) rfl rfl (by kernel_rfl) (by kernel_rfl) (by kernel_rfl) (fun _ _ _ h => h) (Or.inr ⟨by rfl, rfl⟩) (by assumption) ?_)
      try simp only [Act.put, List.setIfInBounds_toArray, List.set_cons_zero, List.set_cons_succ]
      first | (refine takeN (i := 6) (N := (some 72)) (v := undef) rfl rfl (by kernel_rfl) (by kernel_rfl) (by kernel_rfl) (fun _ _ _ h => h) (Or.inr ⟨by rfl, rfl⟩) (by assumption) ?_) | (refine wpAnyH_ready (rs := [6]) (by kernel_rfl) (by simp) ?_; refine AllReadyH.cons rfl (fun K hK => ?_) AllReadyH.nil; go_simp; (go_at_call 73; (with_reducible refine (rnull_calls _).mono ?_); rintro e w2 ⟨rfl, hb⟩; have hs2 := Step.of hb; clear hb); clear hHeld; refine hK.out _ _ ?_ (fun hHeld => ?_); focus ((try dsimp only); exact keepC))
      try simp only [Act.put, List.setIfInBounds_toArray, List.set_cons_zero, List.set_cons_succ]
      first | (refine takeN (i := 7) (N := (some 73)) (v := ?_) rfl rfl (by kernel_rfl) (by kernel_rfl) (by kernel_rfl) (fun _ _ _ h => h) (Or.inl ⟨by rfl, ?_⟩) (by assumption) ?_; rotate_left; focus ((intro w hSw; (try dsimp only at hSw); go_simp); (try with_reducible rfl))) | (refine takeN (i := 7) (N := (some 73)) (v := undef) rfl rfl (by kernel_rfl) (by kernel_rfl) (by kernel_rfl) (fun _ _ _ h => h) (Or.inr ⟨by rfl, rfl⟩) (by assumption) ?_)
      try simp only [Act.put, List.setIfInBounds_toArray, List.set_cons_zero, List.set_cons_succ]
      first | (refine takeN (i := 8) (N := (some 74)) (v := ?_) rfl rfl (by kernel_rfl) (by kernel_rfl) (by kernel_rfl) (fun _ _ _ h => h) (Or.inl ⟨by rfl, ?_⟩) (by assumption) ?_; rotate_left; focus ((intro w hSw; (try dsimp only at hSw); go_simp); (try with_reducible rfl))) | (refine takeN (i := 8) (N := (some 74)) (v := undef) rfl rfl (by kernel_rfl) (by kernel_rfl) (by kernel_rfl) (fun _ _ _ h => h) (Or.inr ⟨by rfl, rfl⟩) (by assumption) ?_)
      try simp only [Act.put, List.setIfInBounds_toArray, List.set_cons_zero, List.set_cons_succ]
      first | (refine takeN (i := 9) (N := (some 2)) (v := ?_) rfl rfl (by kernel_rfl) (by kernel_rfl) (by kernel_rfl) (fun _ _ _ h => h) (Or.inl ⟨by rfl, ?_⟩) (by assumption) ?_; rotate_left; focus ((intro w hSw; (try dsimp only at hSw); go_simp); (try with_reducible rfl))) | (refine takeN (i := 9) (N := (some 2)) (v := undef) rfl rfl (by kernel_rfl) (by kernel_rfl) (by kernel_rfl) (fun _ _ _ h => h) (Or.inr ⟨by rfl, rfl⟩) (by assumption) ?_)
      try simp only [Act.put, List.setIfInBounds_toArray, List.set_cons_zero, List.set_cons_succ]
      refine wpAnyH_done (by kernel_rfl) ?_ _
      go_wp2
      go_ret
      refine ⟨ret_bool ?_, j2.out.trans (hHeld.1.out.mono j2.out.size)⟩
      unfold formedOk; rw [HA.out]
      first | (simp_all [vOk, vZero]; done) | (simp_all [vOk, vZero]; omega)
end Go.Proofs.Ytjceeengnnjipaa.PAll
