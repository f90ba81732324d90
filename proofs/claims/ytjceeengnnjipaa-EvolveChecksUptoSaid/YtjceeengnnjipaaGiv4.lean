/- GIVEN BY HAND for the told texts: schema.checkColumns. -/
import Derived.Test.YtjceeengnnjipaaGiv2
import Derived.Test.YtjceeengnnjipaaMapKit
namespace Go.Proofs.Ytjceeengnnjipaa.PAll
open Go.RowKit Go.WideMaps Go.Proofs.Ytjceeengnnjipaa.Kit Go.Proofs.Ytjceeengnnjipaa.L13 Go.Proofs.YtjceeengnnjipaaW.PrintWords
set_option linter.unusedVariables false
attribute [local go_sem] allocCell allocFrozen setFar setFrozen allocAny allocAdd

def keyS (s : ByteArray) : Lit := .string s.data.toList
theorem keyS_of {s : ByteArray} (h : s.size ≤ maxLen) : keyOf Try.prog 9 (.string s) = some (keyS s) := keyOf_string_mk Try.underlying9 h
theorem zeroI (w : World) : (zeroValue 3).run Try.prog w = .ok (.int .i64 0) w := by kernel_rfl
theorem lawS : Maps.Keyed Try.prog 9 := Maps.string_keyed Try.underlying9
def cntS (xs : List Cl) (k : Nat) (l : Lit) : Nat := match l with | .string s => (xs.take k).countP fun x => x.f0.data.toList == s | _ => 0
theorem cntS_le (xs : List Cl) (k : Nat) (l : Lit) : cntS xs k l ≤ k := by
  unfold cntS
  split
  · exact Nat.le_trans List.countP_le_length (by rw [List.length_take]; omega)
  · omega
theorem cntS_zero (xs : List Cl) : cntS xs 0 = fun _ => 0 := by funext l; unfold cntS; split <;> simp
theorem kindOK_calls (k : Int) (w : World) : Calls Try.prog 62 #[.int .i64 k] w fun e w' => e = .returned (.bool (kindOk k)) ∧ Below w.heap.size w w' := by
  go_enter Try.func62, Try.ntmps62
  go_wp2
  all_goals
    go_ret
    refine ⟨ret_bool ?_, Bel.out⟩
    unfold kindOk
    first | (simp_all; done) | (simp_all; omega)
theorem cntS_same (xs : List Cl) (k : Nat) (h : k < xs.length) : cntS xs (k + 1) (keyS xs[k].f0) = cntS xs k (keyS xs[k].f0) + 1 := by
  simp only [cntS, keyS]
  rw [List.take_succ_eq_append_getElem h, List.countP_append]
  simp
theorem cntS_other (xs : List Cl) (k : Nat) (h : k < xs.length) (l : Lit) (hl : l ≠ keyS xs[k].f0) : cntS xs (k + 1) l = cntS xs k l := by
  unfold cntS
  split
  · rename_i s
    rw [List.take_succ_eq_append_getElem h, List.countP_append]
    have : (xs[k].f0.data.toList == s) = false := by
      rw [beq_eq_false_iff_ne]; intro e; exact hl (by rw [keyS, e])
    simp [this]
  · rfl
theorem cntS_any (xs : List Cl) (k : Nat) (h : k < xs.length) : decide (1 < (cntS xs (k + 1) (keyS xs[k].f0) : Int)) = (xs.take k).any (fun x => x.f0.toList == xs[k].f0.toList) := by
  rw [cntS_same xs k h]
  rw [Bool.eq_iff_iff, decide_eq_true_eq, List.any_eq_true]
  simp only [cntS, keyS]
  constructor
  · intro hh
    have h0 : 0 < (xs.take k).countP (fun x : Cl => x.f0.data.toList == xs[k].f0.data.toList) := by omega
    obtain ⟨x, hx, he⟩ := List.countP_pos_iff.1 h0
    exact ⟨x, hx, by rw [ByteArray.toList_eq, ByteArray.toList_eq]; exact he⟩
  · rintro ⟨x, hx, he⟩
    rw [ByteArray.toList_eq, ByteArray.toList_eq] at he
    have h0 : 0 < (xs.take k).countP (fun x : Cl => x.f0.data.toList == xs[k].f0.data.toList) := List.countP_pos_iff.2 ⟨x, hx, he⟩
    omega
set_option maxRecDepth 20000 in
set_option maxHeartbeats 2000000 in
theorem columns_calls (a0_0 : ByteArray) (A0_1 : Option Addr) (c0_1 : Nat) (xs : List Cl) (A0_2 : Option Addr) (n2 c0_2 : Nat) (A0_3 : Option Addr) (n3 c0_3 : Nat) (A0_4 : Option Addr) (n4 c0_4 : Nat) (w : World) (hr0_1 : Kd.C k29 w A0_1 xs.length xs) (hc0_1 : xs.length ≤ c0_1) (hs : ∀ c ∈ xs, c.f0.size ≤ 140737488355328) :
    Calls Try.prog 36 #[.agg #[.string a0_0, .slice A0_1 xs.length c0_1, .slice A0_2 n2 c0_2, .slice A0_3 n3 c0_3, .slice A0_4 n4 c0_4]] w fun e w' => e = .returned (.int .i64 (colsErr xs)) ∧ Below w.heap.size w w' := by
  have hm := hr0_1.2.1
  have HR := Lib.hid hr0_1; have HC := Lib.hid hc0_1; have HS := Lib.hid hs
  clear hr0_1 hc0_1 hs
  have hu := Try.underlying27
  have hu1 := Try.underlying29
  have hu2 := Try.underlying87
  have hmm := @run_makeMap Try.prog
  go_enter Try.func36, Try.ntmps36
  go_wp2
  · go_ret
    exact ⟨ret_int (by unfold colsErr; first | (rw [if_pos (.inl (by omega))]; done) | (rw [if_pos (.inr (by omega))]; done)), Bel.out⟩
  · have he0 : colsErr xs = colsFrom xs 0 xs := by unfold colsErr; rw [if_neg (by omega)]
    have HE := Lib.hid he0; clear he0
    go_loopw [20] (fun i wr => ∃ k : Nat, k ≤ xs.length ∧ i = .int .i64 k ∧ Below w.heap.size w wr ∧ Counts Try.prog 9 3 (w.heap.size + 1) k (cntS xs k) wr ∧ colsFrom xs k (xs.drop k) = colsErr xs) (fun i wr => xs.length - (intOf i).toNat)
    case atStart => exact ⟨0, by omega, rfl, Bel.out, by rw [cntS_zero]; exact Counts.madeAt (by simp), HE.out.symm⟩
    case round =>
      obtain ⟨k, hk, rfl, hbw, hcnt, hall⟩ := hrel
      have HB : Bel w wr := ⟨hbw⟩
      have HA := Lib.hid hall; clear hall hbw
      by_cases hlt : k < xs.length
      · obtain ⟨ad, e, x0, x1, x2⟩ := at_T29 HR.out (k : Int) (by omega) (by omega)
        subst e
        simp only [Int.toNat_natCast] at x0 x1 x2
        have he : rd_T29 xs (k : Int) = xs[k] := by simp [rd_T29, hlt]
        rw [he] at x0 x1 x2
        replace x0 := (HB.out.cell (World.block_lt_of_cell? w _ x0)).trans x0
        replace x1 := (HB.out.cell (World.block_lt_of_cell? w _ x1)).trans x1
        replace x2 := (HB.out.cell (World.block_lt_of_cell? w _ x2)).trans x2
        have hd : xs.drop k = xs[k] :: xs.drop (k + 1) := List.drop_eq_getElem_cons hlt
        have HD := Lib.hid hd; clear hd
        have hkey := keyS_of (s := xs[k].f0) (by have := HS.out xs[k] (List.getElem_mem _); unfold maxLen; omega)
        have HK := Lib.hid hkey; clear hkey
        have hle := cntS_le xs k (keyS xs[k].f0)
        have hup : wrap64 ((cntS xs k (keyS xs[k].f0) : Int) + 1) = ((cntS xs (k + 1) (keyS xs[k].f0) : Nat) : Int) := by rw [cntS_same xs k hlt]; unfold wrap64; omega
        have HU := Lib.hid hup; clear hup hle he
        go_wp2_with (first
          | (at_lookup; refine wpList_count _ rfl _ _ 87 rfl 9 3 lawS hu2 Try.underlying3 (zeroI _) _ _ _ rfl (by infer_instance) _ (keyS xs[k].f0) rfl HK.out trivial ?_)
          | (at_mapUpdate; refine wpList_countUp _ rfl _ _ _ 87 rfl 9 3 lawS hu2 Try.underlying3 _ _ _ rfl (by infer_instance) (by unfold maxLen; omega) _ (keyS xs[k].f0) (cntS xs (k + 1) (keyS xs[k].f0)) rfl (congrArg (Value.int .i64) HU.out) (by have := cntS_le xs (k + 1) (keyS xs[k].f0); omega) HK.out trivial (cntS xs (k + 1)) rfl (cntS_other xs k hlt) ?_; intro w1 hcnt1 hgrow1; have ht : Turn _ _ w1 := ⟨hgrow1⟩; clear hgrow1; have hc1 := ht.cell; have hf1 := ht.frozen)
          | (go_at_call 20; (with_reducible refine (name_calls _ _).mono ?_); rintro e w2 ⟨rfl, hb⟩; have hs := Step.of hb; clear hb; have hc2 := hs.cell; have hf2 := hs.frozen)
          | (go_at_call 62; (with_reducible refine (kindOK_calls _ _).mono ?_); rintro e w3 ⟨rfl, hb⟩; have hs3 := Step.of hb; clear hb; have hc3 := hs3.cell; have hf3 := hs3.frozen))
        · go_ret
          refine ⟨ret_int ?_, Bel.out⟩
          have h := HA.out
          rw [HD.out, colsFrom, if_pos (by simpa using (by assumption : (!nameOk xs[k].f0) = true))] at h
          exact h
        · go_ret
          refine ⟨ret_int ?_, Bel.out⟩
          have h := HA.out
          rw [HD.out, colsFrom, if_neg (by simpa using (by assumption : (!nameOk xs[k].f0) = false)), if_pos (by simpa using (by assumption : (!kindOk xs[k].f1) = true))] at h
          exact h
        · go_ret
          refine ⟨ret_int ?_, Bel.out⟩
          have h := HA.out
          rw [HD.out, colsFrom, if_neg (by simpa using (by assumption : (!nameOk xs[k].f0) = false)), if_neg (by simpa using (by assumption : (!kindOk xs[k].f1) = false)), if_pos (by rw [← cntS_any xs k hlt, decide_eq_true_eq]; assumption)] at h
          exact h
        · refine ⟨⟨k + 1, by omega, by go_num, Bel.out, by infer_instance, ?_⟩, by simp [intOf]; omega⟩
          have h := HA.out
          rw [HD.out, colsFrom, if_neg (by simpa using (by assumption : (!nameOk xs[k].f0) = false)), if_neg (by simpa using (by assumption : (!kindOk xs[k].f1) = false)), if_neg (by rw [← cntS_any xs k hlt, decide_eq_true_eq]; omega)] at h
          exact h
      · go_wp2
        go_ret
        refine ⟨ret_int ?_, Bel.out⟩
        have h := HA.out
        rw [List.drop_eq_nil_of_le (by omega)] at h
        exact h
  · go_ret
    exact ⟨ret_int (by unfold colsErr; first | (rw [if_pos (.inl (by omega))]; done) | (rw [if_pos (.inr (by omega))]; done)), Bel.out⟩
end Go.Proofs.Ytjceeengnnjipaa.PAll
