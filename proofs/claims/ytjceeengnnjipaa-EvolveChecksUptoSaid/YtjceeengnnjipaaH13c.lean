/- Layer 13: the reference's Find, columns, key. -/
import Derived.Test.YtjceeengnnjipaaH13b
namespace Go.Proofs.Ytjceeengnnjipaa.PAll
open Go.RowKit Go.Proofs.Ytjceeengnnjipaa.Kit Go.Proofs.Ytjceeengnnjipaa.L13 Go.Proofs.YtjceeengnnjipaaW.PrintWords
set_option linter.unusedVariables false
set_option linter.unusedSimpArgs false
attribute [local go_sem] allocCell allocFrozen setFar setFrozen allocAny allocAdd
attribute [local go_sem ↓] Go.wp_at_zero Go.wp_at_succ

set_option maxRecDepth 20000 in
theorem exists_calls (a0 : ByteArray) (A1 : Option Addr) (n1 c1 : Nat) (A2 : Option Addr) (n2 c2 : Nat) (A3 : Option Addr) (n3 c3 : Nat) (A4 : Option Addr) (n4 c4 : Nat) (i : Int) (w : World) :
    Calls Try.prog 58 #[.agg #[.string a0, .slice A1 n1 c1, .slice A2 n2 c2, .slice A3 n3 c3, .slice A4 n4 c4], .int .i64 i] w fun e w' => e = .returned (.bool (decide (0 ≤ i) && decide (i < n1))) ∧ Below w.heap.size w w' := by
  have hu := Try.underlying27
  go_enter Try.func58, Try.ntmps58
  go_wp2
  all_goals
    go_ret
    exact ⟨ret_bool (by first | (simp_all; done) | (simp_all; omega)), Bel.out⟩
theorem find_hit {nm : ByteArray} {cols : List Cl} {k : Nat} (h : k < cols.length) (e : cols[k].f0.toList = nm.toList) : findFrom nm k (cols.drop k) = k := by rw [List.drop_eq_getElem_cons h, findFrom, if_pos e]
theorem find_go {nm : ByteArray} {cols : List Cl} {k : Nat} (h : k < cols.length) (e : ¬ cols[k].f0.toList = nm.toList) : findFrom nm k (cols.drop k) = findFrom nm (k + 1) (cols.drop (k + 1)) := by rw [List.drop_eq_getElem_cons h, findFrom, if_neg e]
set_option maxRecDepth 20000 in
set_option maxHeartbeats 2000000 in
theorem rfind_calls (tn : ByteArray) (A1 : Option Addr) (c1 : Nat) (cols : List Cl) (A2 : Option Addr) (c2 : Nat) (key : List Int) (A3 : Option Addr) (c3 : Nat) (fg : List Fg) (A4 : Option Addr) (c4 : Nat) (ch : List Ex) (nm : ByteArray) (w : World) (h : Tc w A1 c1 cols A2 c2 key A3 c3 fg A4 c4 ch) :
    Calls Try.prog 23 #[.agg #[.string tn, .slice A1 cols.length c1, .slice A2 key.length c2, .slice A3 fg.length c3, .slice A4 ch.length c4], .string nm] w fun e w' => e = .returned (.int .i64 (findIx cols nm)) ∧ Below w.heap.size w w' := by
  have hu := Try.underlying27
  have hu1 := Try.underlying29
  have hm1 := h.r1.2.1
  go_enter Try.func23, Try.ntmps23
  go_wp2
  go_loop [5] (fun i => ∃ (k : Nat), k ≤ cols.length ∧ i = .int .i64 k ∧ findFrom nm k (cols.drop k) = findIx cols nm) (fun i => cols.length - (intOf i).toNat)
  case atStart => exact ⟨0, by omega, rfl, rfl⟩
  case round =>
    obtain ⟨k, hk, rfl, hall⟩ := hrel
    have HA := Lib.hid hall; clear hall
    by_cases hlt : k < cols.length
    · obtain ⟨ad, e, hi, x0, x1, x2⟩ := col_at h.r1 (inferInstance : Bel w (w.alloc (.cells #[.string tn, .slice A1 cols.length c1, .slice A2 key.length c2, .slice A3 fg.length c3, .slice A4 ch.length c4] 27))) k hlt
      subst e
      go_wp2
      · go_ret
        exact ⟨ret_int (by rw [← HA.out, find_hit hlt (by simpa using (by assumption : (cols[k].f0.toList == nm.toList) = true))]), Bel.out⟩
      · refine ⟨⟨k + 1, by omega, by go_num, ?_⟩, by simp [intOf]; omega⟩
        rw [← HA.out, find_go hlt (by simpa using (by assumption : (cols[k].f0.toList == nm.toList) = false))]
    · go_wp2
      go_ret
      refine ⟨ret_int ?_, Bel.out⟩
      have h := HA.out
      rw [List.drop_eq_nil_of_le (by omega)] at h
      exact h
theorem cols_name {cols : List Cl} {k : Nat} (h : k < cols.length) (e : nameOk cols[k].f0 = false) : colsFrom cols k (cols.drop k) = 1 := by rw [List.drop_eq_getElem_cons h, colsFrom, if_pos e]
theorem cols_kind {cols : List Cl} {k : Nat} (h : k < cols.length) (e : nameOk cols[k].f0 = true) (e2 : kindOk cols[k].f1 = false) : colsFrom cols k (cols.drop k) = 7 := by rw [List.drop_eq_getElem_cons h, colsFrom, if_neg (by rw [e]; decide), if_pos e2]
theorem cols_met {cols : List Cl} {k : Nat} (h : k < cols.length) (e : nameOk cols[k].f0 = true) (e2 : kindOk cols[k].f1 = true) (e3 : findIx cols cols[k].f0 < k) : colsFrom cols k (cols.drop k) = 10 := by rw [List.drop_eq_getElem_cons h, colsFrom, if_neg (by rw [e]; decide), if_neg (by rw [e2]; decide), if_pos ((find_lt cols k h).1 e3)]
theorem cols_go {cols : List Cl} {k : Nat} (h : k < cols.length) (e : nameOk cols[k].f0 = true) (e2 : kindOk cols[k].f1 = true) (e3 : ¬ findIx cols cols[k].f0 < k) : colsFrom cols k (cols.drop k) = colsFrom cols (k + 1) (cols.drop (k + 1)) := by rw [List.drop_eq_getElem_cons h, colsFrom, if_neg (by rw [e]; decide), if_neg (by rw [e2]; decide), if_neg (fun g => e3 ((find_lt cols k h).2 g))]
theorem kind_no {k : Int} (h : k < 1 ∨ 3 < k) : kindOk k = false := by unfold kindOk; rcases h with h | h; (rw [decide_eq_false (by omega : ¬ 1 ≤ k)]; rfl); (rw [decide_eq_false (by omega : ¬ k ≤ 3), Bool.and_false])
theorem kind_yes {k : Int} (h : 1 ≤ k) (h2 : k ≤ 3) : kindOk k = true := by unfold kindOk; rw [decide_eq_true h, decide_eq_true h2]; rfl
set_option maxRecDepth 20000 in
set_option maxHeartbeats 2000000 in
theorem rcolumns_calls (tn : ByteArray) (A1 : Option Addr) (c1 : Nat) (cols : List Cl) (A2 : Option Addr) (c2 : Nat) (key : List Int) (A3 : Option Addr) (c3 : Nat) (fg : List Fg) (A4 : Option Addr) (c4 : Nat) (ch : List Ex) (w : World) (h : Tc w A1 c1 cols A2 c2 key A3 c3 fg A4 c4 ch) :
    Calls Try.prog 32 #[.agg #[.string tn, .slice A1 cols.length c1, .slice A2 key.length c2, .slice A3 fg.length c3, .slice A4 ch.length c4]] w fun e w' => e = .returned (.int .i64 (colsErr cols)) ∧ Below w.heap.size w w' := by
  have hu := Try.underlying27
  have hu1 := Try.underlying29
  have hm1 := h.r1.2.1
  go_enter Try.func32, Try.ntmps32
  go_wp2
  · go_ret
    exact ⟨ret_int (by unfold colsErr; first | (rw [if_pos (.inl (by omega))]; done) | (rw [if_pos (.inr (by omega))]; done)), Bel.out⟩
  · have he0 : colsErr cols = colsFrom cols 0 cols := by unfold colsErr; rw [if_neg (by omega)]
    have HE := Lib.hid he0; clear he0
    go_loopw [3] (fun i wr => ∃ (k : Nat), k ≤ cols.length ∧ i = .int .i64 k ∧ Below w.heap.size w wr ∧ Blk wr w.heap.size (.cells #[.string tn, .slice A1 cols.length c1, .slice A2 key.length c2, .slice A3 fg.length c3, .slice A4 ch.length c4] 27) ∧ colsFrom cols k (cols.drop k) = colsErr cols) (fun i wr => cols.length - (intOf i).toNat)
    case atStart => exact ⟨0, by omega, rfl, Bel.out, inferInstance, HE.out.symm⟩
    case round =>
      obtain ⟨k, hk, rfl, hbw, hbk, hall⟩ := hrel
      have hst : Bel w wr := ⟨hbw⟩
      have HA := Lib.hid hall; clear hall hbw
      obtain ⟨t0, t1, t2, t3, t4⟩ := blk5T hbk
      by_cases hlt : k < cols.length
      · obtain ⟨ad, e, hi, x0, x1, x2⟩ := col_at h.r1 hst k hlt
        subst e
        obtain ⟨fx, hfx⟩ : ∃ fx, findIx cols cols[k].f0 = fx := ⟨_, rfl⟩
        have HFX := Lib.hid hfx; clear hfx
        go_wp2_with (first
          | (go_at_call 24; (with_reducible refine (rname_calls _ _).mono ?_); rintro e w2 ⟨rfl, hb⟩; have hs2 := Step.of hb; clear hb; have hc2 := hs2.cell; have hf2 := hs2.frozen; have hd2 := hs2.add)
          | (go_at_call 23; (with_reducible refine (rfind_calls _ _ _ cols _ _ key _ _ fg _ _ ch _ _ ?g1).mono ?_); (case g1 => exact h.up); rintro e w3 ⟨rfl, hb⟩; rw [HFX.out]; have hs3 := Step.of hb; clear hb))
        · go_ret
          exact ⟨ret_int (by rw [← HA.out, cols_name hlt (by simpa using (by assumption : (!nameOk cols[k].f0) = true))]), Bel.out⟩
        all_goals have hnm : nameOk cols[k].f0 = true := by simpa using (by assumption : (!nameOk cols[k].f0) = false)
        · go_ret
          exact ⟨ret_int (by rw [← HA.out, cols_kind hlt hnm (kind_no (by assumption))]), Bel.out⟩
        · go_ret
          exact ⟨ret_int (by rw [← HA.out, cols_met hlt hnm (kind_yes (by omega) (by omega)) (by rw [HFX.out]; assumption)]), Bel.out⟩
        · refine ⟨⟨k + 1, by omega, by go_num, Bel.out, inferInstance, ?_⟩, by simp [intOf]; omega⟩
          rw [← HA.out, cols_go hlt hnm (kind_yes (by omega) (by omega)) (by rw [HFX.out]; omega)]
        · go_ret
          exact ⟨ret_int (by rw [← HA.out, cols_kind hlt hnm (kind_no (.inl (by assumption)))]), Bel.out⟩
      · go_wp2
        go_ret
        refine ⟨ret_int ?_, Bel.out⟩
        have h := HA.out
        rw [List.drop_eq_nil_of_le (by omega)] at h
        exact h
  · go_ret
    exact ⟨ret_int (by unfold colsErr; first | (rw [if_pos (.inl (by omega))]; done) | (rw [if_pos (.inr (by omega))]; done)), Bel.out⟩
end Go.Proofs.Ytjceeengnnjipaa.PAll
