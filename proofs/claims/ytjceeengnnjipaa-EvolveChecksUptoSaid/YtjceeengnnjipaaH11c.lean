/- The depth of an expression: the program's (to a limit), the reference's. -/
import Derived.Test.YtjceeengnnjipaaH11b
namespace Go.Proofs.Ytjceeengnnjipaa.PAll
open Go.RowKit Go.Proofs.Ytjceeengnnjipaa.Kit Go.Proofs.Ytjceeengnnjipaa.L13 Go.Proofs.YtjceeengnnjipaaW.PrintWords
set_option linter.unusedVariables false
attribute [local go_sem] allocCell allocFrozen setFar setFrozen allocAny allocAdd

abbrev exV (op n a b : Int) (c nm : ByteArray) (l : List Ex) : Ex := ⟨op, n, ⟨a, b, c⟩, nm, l⟩
theorem exV_eta (x : Ex) : exV x.f0 x.f1 x.f2.f0 x.f2.f1 x.f2.f2 x.f3 x.f4 = x := by cases x; rfl
theorem depL_mem : ∀ (l : List Ex) (k : Nat) (h : k < l.length), max (dep l[k]) (depL (l.drop (k + 1))) = depL (l.drop k) := by
  intro l k h
  rw [List.drop_eq_getElem_cons h, depL]
set_option maxRecDepth 20000 in
set_option maxHeartbeats 2000000 in
theorem depth_calls : ∀ (N : Nat) (op n a b : Int) (c nm : ByteArray) (A : Option Addr) (cp : Nat) (l : List Ex) (most : Int) (w : World), nodes (exV op n a b c nm l) ≤ N → N ≤ 1048576 → 1 ≤ most → most ≤ 1000 → Rc k70 w A cp l →
    Calls Try.prog 87 #[.agg #[.int .i64 op, .int .i64 n, .int .i64 a, .int .i64 b, .string c, .string nm, .slice A l.length cp], .int .i64 most] w fun e w' => e = .returned (.int .i64 (min (dep (exV op n a b c nm l) : Int) most)) ∧ Below w.heap.size w w' := by
  intro N
  induction N with
  | zero => intro op n a b c nm A cp l most w h; have := nodes_pos (exV op n a b c nm l); omega
  | succ N ih =>
    intro op n a b c nm A cp l most w hn hN h1 h2 h
    simp only [nodes] at hn
    have hlen := nodesL_len l
    have hu := Try.underlying70
    have hd0 : dep (exV op n a b c nm l) = 1 + depL l := by simp only [dep]
    by_cases hm : most ≤ 1
    · obtain rfl : most = 1 := by omega
      have HD := Lib.hid hd0; clear hd0 hn hm h1 h2
      go_enter Try.func87, Try.ntmps87
      go_wp2
      go_ret
      exact ⟨ret_int (by rw [HD.out]; omega), Bel.out⟩
    · have hd1 : min (dep (exV op n a b c nm l) : Int) most = 1 + min (depL l : Int) (most - 1) := by omega
      rw [hd1]
      clear hd0 hd1
      go_enter Try.func87, Try.ntmps87
      go_wp2
      go_loopw [5, 13] (fun v i wr => ∃ (k : Nat) (acc : Int), k ≤ l.length ∧ i = .int .i64 k ∧ v = .int .i64 acc ∧ 1 ≤ acc ∧ acc ≤ 1000 ∧ Below w.heap.size w wr ∧ max (acc : Int) (1 + min (depL (l.drop k) : Int) (most - 1)) = 1 + min (depL l : Int) (most - 1)) (fun _ i wr => l.length - (intOf i).toNat)
      case atStart => exact ⟨0, 1, by omega, rfl, rfl, by omega, by omega, Bel.out, by simp only [List.drop_zero]; omega⟩
      case round =>
        obtain ⟨k, acc, hk, rfl, rfl, ha1, ha2, hbw, hall⟩ := hrel
        have HB : Bel w wr := ⟨hbw⟩
        have HA := Lib.hid hall; clear hall hbw
        by_cases hlt : k < l.length
        · obtain ⟨ad, B, cB, rfl, hi, x0, x1, x2, x3, x4, x5, x6, hl, hr⟩ := ex_at h.r HB k hlt
          have hx : nodes l[k] ≤ nodesL l := nodesL_mem l l[k] (List.getElem_mem _)
          have HM := Lib.hid (depL_mem l k hlt)
          have HR := Rc.mk hr hl
          go_wp2_with (go_at_call 87; (with_reducible refine (ih _ _ _ _ _ _ _ _ l[k].f4 (most - 1) _ ?g1 ?g2 ?g3 ?g4 ?g5).mono ?_); (case g5 => exact HR.up); (case g1 => rw [exV_eta]; omega); (case g2 => omega); (case g3 => omega); (case g4 => omega); rintro e w1 ⟨rfl, hb⟩; rw [exV_eta]; have hs1 := Step.of hb; clear hb)
          have hA := HA.out
          have hM := HM.out
          exact ⟨⟨k + 1, _, by omega, by go_num, rfl, by split <;> omega, by split <;> omega, Bel.out, by split <;> omega⟩, by simp [intOf]; omega⟩
        · go_wp2
          go_ret
          refine ⟨ret_int ?_, Bel.out⟩
          have h := HA.out
          rw [List.drop_eq_nil_of_le (by omega)] at h
          simp only [depL] at h
          omega
set_option maxRecDepth 20000 in
set_option maxHeartbeats 2000000 in
theorem rdepth_calls : ∀ (N : Nat) (op n a b : Int) (c nm : ByteArray) (A : Option Addr) (cp : Nat) (l : List Ex) (w : World), nodes (exV op n a b c nm l) ≤ N → N ≤ 1048576 → Rc k70 w A cp l →
    Calls Try.prog 78 #[.agg #[.int .i64 op, .int .i64 n, .int .i64 a, .int .i64 b, .string c, .string nm, .slice A l.length cp]] w fun e w' => e = .returned (.int .i64 (dep (exV op n a b c nm l) : Nat)) ∧ Below w.heap.size w w' := by
  intro N
  induction N with
  | zero => intro op n a b c nm A cp l w h; have := nodes_pos (exV op n a b c nm l); omega
  | succ N ih =>
    intro op n a b c nm A cp l w hn hN h
    simp only [nodes] at hn
    have hlen := nodesL_len l
    have hm := h.len
    have hu := Try.underlying70
    have hd0 : dep (exV op n a b c nm l) = 1 + depL l := by simp only [dep]
    rw [hd0]
    clear hd0
    go_enter Try.func78, Try.ntmps78
    go_wp2
    go_loopw [3, 4] (fun v i wr => ∃ (k acc : Nat), k ≤ l.length ∧ i = .int .i64 k ∧ v = .int .i64 acc ∧ acc ≤ 1048576 ∧ Below w.heap.size w wr ∧ Blk wr w.heap.size (.cells #[.int .i64 op, .int .i64 n, .int .i64 a, .int .i64 b, .string c, .string nm, .slice A l.length cp] 70) ∧ max acc (depL (l.drop k)) = depL l) (fun _ i wr => l.length - (intOf i).toNat)
    case atStart => exact ⟨0, 0, by omega, rfl, rfl, by omega, Bel.out, by infer_instance, by simp only [List.drop_zero]; omega⟩
    case round =>
      obtain ⟨k, acc, hk, rfl, rfl, ha2, hbw, hbk, hall⟩ := hrel
      have HB : Bel w wr := ⟨hbw⟩
      have HA := Lib.hid hall; clear hall hbw
      have t6 : wr.cell? ⟨w.heap.size, 6, none⟩ = _ := (blk_cell hbk.out 6).trans rfl
      by_cases hlt : k < l.length
      · obtain ⟨ad, B, cB, rfl, hi, x0, x1, x2, x3, x4, x5, x6, hl, hr⟩ := ex_at h.r HB k hlt
        have hx : nodes l[k] ≤ nodesL l := nodesL_mem l l[k] (List.getElem_mem _)
        have hdn : dep l[k] ≤ nodes l[k] := dep_nodes _ l[k] (Nat.le_refl _)
        have HM := Lib.hid (depL_mem l k hlt)
        have HR := Rc.mk hr hl
        go_wp2_with (go_at_call 78; (with_reducible refine (ih _ _ _ _ _ _ _ _ l[k].f4 _ ?g1 ?g2 ?g5).mono ?_); (case g5 => exact HR.up); (case g1 => rw [exV_eta]; omega); (case g2 => omega); rintro e w1 ⟨rfl, hb⟩; rw [exV_eta]; have hs1 := Step.of hb; clear hb)
        have hA := HA.out
        have hM := HM.out
        exact ⟨⟨k + 1, max acc (dep l[k]), by omega, by go_num, by congr 1; split <;> omega, by omega, Bel.out, by infer_instance, by omega⟩, by simp [intOf]; omega⟩
      · go_wp2
        go_ret
        refine ⟨ret_int ?_, Bel.out⟩
        have h := HA.out
        rw [List.drop_eq_nil_of_le (by omega)] at h
        simp only [depL] at h
        omega
end Go.Proofs.Ytjceeengnnjipaa.PAll
