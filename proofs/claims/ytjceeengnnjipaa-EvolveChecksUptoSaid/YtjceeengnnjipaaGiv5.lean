/- GIVEN BY HAND for the told texts: schema.checkForeigns. -/
import Derived.Test.YtjceeengnnjipaaGiv4
namespace Go.Proofs.Ytjceeengnnjipaa.PAll
open Go.RowKit Go.WideMaps Go.Proofs.Ytjceeengnnjipaa.Kit Go.Proofs.Ytjceeengnnjipaa.L13 Go.Proofs.YtjceeengnnjipaaW.PrintWords
set_option linter.unusedVariables false
attribute [local go_sem] allocCell allocFrozen setFar setFrozen allocAny allocAdd

set_option maxRecDepth 20000 in
theorem has_calls (a0 : ByteArray) (A1 : Option Addr) (n1 c1 : Nat) (A2 : Option Addr) (n2 c2 : Nat) (A3 : Option Addr) (n3 c3 : Nat) (A4 : Option Addr) (n4 c4 : Nat) (i : Int) (w : World) :
    Calls Try.prog 63 #[.agg #[.string a0, .slice A1 n1 c1, .slice A2 n2 c2, .slice A3 n3 c3, .slice A4 n4 c4], .int .i64 i] w fun e w' => e = .returned (.bool (decide (0 ≤ i) && decide (i < n1))) ∧ Below w.heap.size w w' := by
  have hu := Try.underlying27
  go_enter Try.func63, Try.ntmps63
  go_wp2
  all_goals
    go_ret
    exact ⟨ret_bool (by first | (simp_all; done) | (simp_all; omega)), Bel.out⟩
def keyI (c : Int) : Lit := .int .i64 c
def cntI (xs : List Int) (k : Nat) (l : Lit) : Nat := match l with | .int .i64 c => (xs.take k).count c | _ => 0
theorem cntI_le (xs : List Int) (k : Nat) (l : Lit) : cntI xs k l ≤ k := by
  unfold cntI
  split
  · exact Nat.le_trans List.count_le_length (by rw [List.length_take]; omega)
  · omega
theorem cntI_zero (xs : List Int) : cntI xs 0 = fun _ => 0 := by funext l; unfold cntI; split <;> simp
theorem cntI_same (xs : List Int) (k : Nat) (h : k < xs.length) : cntI xs (k + 1) (keyI xs[k]) = cntI xs k (keyI xs[k]) + 1 := by
  simp only [cntI, keyI]
  rw [List.take_succ_eq_append_getElem h, List.count_append]
  simp
theorem cntI_other (xs : List Int) (k : Nat) (h : k < xs.length) (l : Lit) (hl : l ≠ keyI xs[k]) : cntI xs (k + 1) l = cntI xs k l := by
  unfold cntI
  split
  · rename_i c
    rw [List.take_succ_eq_append_getElem h, List.count_append]
    have : (xs[k] == c) = false := by
      rw [beq_eq_false_iff_ne]; intro e; exact hl (by rw [keyI, e])
    simp [List.count_cons, this]
  · rfl
theorem cntI_any (xs : List Int) (k : Nat) (h : k < xs.length) : (1 < (cntI xs (k + 1) (keyI xs[k]) : Int)) ↔ xs[k] ∈ xs.take k := by
  rw [cntI_same xs k h]
  simp only [cntI, keyI]
  rw [← List.count_pos_iff]
  omega
theorem keyI_of {c : Int} (h : -9223372036854775808 ≤ c ∧ c ≤ 9223372036854775807) : keyOf Try.prog 3 (.int .i64 c) = some (keyI c) := Maps.keyOf_int_mk Try.underlying3 (WalkArith.wf_i64 h)
theorem lawI : Maps.Keyed Try.prog 3 := Maps.int_keyed Try.underlying3
def okI (c : Int) : Prop := -9223372036854775808 ≤ c ∧ c ≤ 9223372036854775807
theorem fErr25 {n : Nat} {f : Fg} (hn : nameOk f.f1 = true) (h : fcolsFrom n f.f0 0 f.f0 = 25) : foreignErr n f = 25 := by
  unfold foreignErr
  rw [if_neg (by rw [hn]; decide), h]
  split <;> rfl
set_option maxRecDepth 20000 in
set_option maxHeartbeats 4000000 in
theorem foreigns_calls (a0_0 : ByteArray) (A0_1 : Option Addr) (n1 c0_1 : Nat) (A0_2 : Option Addr) (n2 c0_2 : Nat) (A0_3 : Option Addr) (c0_3 : Nat) (xs : List Fg) (A0_4 : Option Addr) (n4 c0_4 : Nat) (w : World) (hr0_3 : Kd.C k62 w A0_3 xs.length xs) (hc0_3 : xs.length ≤ c0_3) (hs : ∀ f ∈ xs, ∀ c ∈ f.f0, okI c) :
    Calls Try.prog 38 #[.agg #[.string a0_0, .slice A0_1 n1 c0_1, .slice A0_2 n2 c0_2, .slice A0_3 xs.length c0_3, .slice A0_4 n4 c0_4]] w fun e w' => e = .returned (.int .i64 (foreignsErr n1 xs)) ∧ Below w.heap.size w w' := by
  have hm := hr0_3.2.1
  have HR := Lib.hid hr0_3; have HC := Lib.hid hc0_3; have HS := Lib.hid hs
  clear hr0_3 hc0_3 hs
  have hu := Try.underlying27
  have hu1 := Try.underlying62
  have hu2 := Try.underlying49
  have hmm := @run_makeMap Try.prog
  go_enter Try.func38, Try.ntmps38
  go_wp2
  · go_ret
    exact ⟨ret_int (by unfold foreignsErr; rw [if_pos (by omega)]), Bel.out⟩
  · have he0 : foreignsErr n1 xs = foreignsFrom n1 xs := by unfold foreignsErr; rw [if_neg (by omega)]
    have HE := Lib.hid he0; clear he0
    go_loopw [15] (fun i wr => ∃ k : Nat, k ≤ xs.length ∧ i = .int .i64 k ∧ Below w.heap.size w wr ∧ Blk wr w.heap.size (.cells #[.string a0_0, .slice A0_1 n1 c0_1, .slice A0_2 n2 c0_2, .slice A0_3 xs.length c0_3, .slice A0_4 n4 c0_4] 27) ∧ foreignsFrom n1 (xs.drop k) = foreignsErr n1 xs) (fun i wr => xs.length - (intOf i).toNat)
    case atStart => exact ⟨0, by omega, rfl, Bel.out, by infer_instance, HE.out.symm⟩
    case round =>
      obtain ⟨wo, hwo⟩ : ∃ wo, wo = wr := ⟨_, rfl⟩
      subst hwo
      obtain ⟨k, hk, rfl, hbw, hbk, hall⟩ := hrel
      have HB : Bel w wo := ⟨hbw⟩
      have HA := Lib.hid hall; clear hall hbw
      by_cases hlt : k < xs.length
      · obtain ⟨ad, A0, c0, e, x0, x1, hl0, hr0⟩ := at_T62 HR.out (k : Int) (by omega) (by omega)
        subst e
        simp only [Int.toNat_natCast] at x0 x1
        have he : rd_T62 xs (k : Int) = xs[k] := by simp [rd_T62, hlt]
        rw [he] at x0 x1 hl0 hr0
        replace x0 := (HB.out.cell (World.block_lt_of_cell? w _ x0)).trans x0
        replace x1 := (HB.out.cell (World.block_lt_of_cell? w _ x1)).trans x1
        have hd : xs.drop k = xs[k] :: xs.drop (k + 1) := List.drop_eq_getElem_cons hlt
        have HD := Lib.hid hd; clear hd he
        have hm2 := hr0.2.1
        have HR0 := Lib.hid hr0; have HL0 := Lib.hid hl0; clear hr0 hl0
        obtain ⟨f, hf⟩ : ∃ f, f = xs[k] := ⟨_, rfl⟩
        have HF := Lib.hid (show ∀ c ∈ f.f0, okI c from hf ▸ HS.out xs[k] (List.getElem_mem _))
        rw [← hf] at x0 x1 HR0 HL0 HD hm2
        clear hf
        go_wp2_with (first
          | (go_at_call 20; (with_reducible refine (name_calls _ _).mono ?_); rintro e w2 ⟨rfl, hb⟩; have hs := Step.of hb; clear hb; have hc2 := hs.cell; have hf2 := hs.frozen))
        · go_ret
          refine ⟨ret_int ?_, Bel.out⟩
          have h := HA.out
          rw [HD.out, foreignsFrom, if_neg (by unfold foreignErr; rw [if_pos (by simpa using (by assumption : (!nameOk f.f1) = true))]; decide), foreignErr, if_pos (by simpa using (by assumption : (!nameOk f.f1) = true))] at h
          exact h
        · have hnm : nameOk f.f1 = true := by simpa using (by assumption : (!nameOk f.f1) = false)
          have HN := Lib.hid hnm; clear hnm
          rw [(by assumption : (!nameOk f.f1) = false)]
          have n1_ : NeB w.heap.size w2.heap.size := by infer_instance
          have n2_ : NeB wo.heap.size w2.heap.size := by infer_instance
          go_loopw [27] (fun i wq => ∃ j : Nat, j ≤ f.f0.length ∧ i = .int .i64 j ∧ Below w.heap.size w wq ∧ Blk wq w.heap.size (.cells #[.string a0_0, .slice A0_1 n1 c0_1, .slice A0_2 n2 c0_2, .slice (some ad) xs.length c0_3, .slice A0_4 n4 c0_4] 27) ∧ wq.cell? ⟨wo.heap.size, 0, none⟩ = some (.slice A0 f.f0.length c0) ∧ InHeap wq wo.heap.size ∧ Counts Try.prog 3 3 w2.heap.size j (cntI f.f0 j) wq ∧ fcolsFrom n1 f.f0 j (f.f0.drop j) = fcolsFrom n1 f.f0 0 f.f0) (fun i wq => f.f0.length - (intOf i).toNat)
          case atStart => exact ⟨0, by omega, rfl, Bel.out, by infer_instance, by first | (go_simp; done) | (go_simp; rfl), by infer_instance, by rw [cntI_zero]; exact Counts.made _, rfl⟩
          case round =>
            obtain ⟨j, hj, rfl, hbw2, hbk2, hx2, hi2, hcnt2, hall2⟩ := hrel
            have HB2 : Bel w wr := ⟨hbw2⟩
            have HA2 := Lib.hid hall2; clear hall2 hbw2
            by_cases hlt2 : j < f.f0.length
            · obtain ⟨ad2, e, hi3, y0⟩ := at_int HR0.out j hlt2
              subst e
              have he : f.f0.getD j 0 = f.f0[j] := by simp [hlt2]
              rw [he] at y0
              replace y0 := (HB2.out.cell (World.block_lt_of_cell? w _ y0)).trans y0
              have hd2 : f.f0.drop j = f.f0[j] :: f.f0.drop (j + 1) := List.drop_eq_getElem_cons hlt2
              have HD2 := Lib.hid hd2; clear hd2 he
              have HK := Lib.hid (keyI_of (c := f.f0[j]) (HF.out _ (List.getElem_mem _)))
              have hle := cntI_le f.f0 j (keyI f.f0[j])
              have hup : wrap64 ((cntI f.f0 j (keyI f.f0[j]) : Int) + 1) = ((cntI f.f0 (j + 1) (keyI f.f0[j]) : Nat) : Int) := by rw [cntI_same f.f0 j hlt2]; unfold wrap64; omega
              have HU := Lib.hid hup; clear hup hle
              have t0 : wr.cell? ⟨w.heap.size, 0, none⟩ = _ := (blk_cell hbk2.out 0).trans rfl
              have t1 : wr.cell? ⟨w.heap.size, 1, none⟩ = _ := (blk_cell hbk2.out 1).trans rfl
              have t2 : wr.cell? ⟨w.heap.size, 2, none⟩ = _ := (blk_cell hbk2.out 2).trans rfl
              have t3 : wr.cell? ⟨w.heap.size, 3, none⟩ = _ := (blk_cell hbk2.out 3).trans rfl
              have t4 : wr.cell? ⟨w.heap.size, 4, none⟩ = _ := (blk_cell hbk2.out 4).trans rfl
              go_wp2_with (first
                | (at_lookup; refine wpList_count _ rfl _ _ 49 rfl 3 3 lawI hu2 Try.underlying3 (zeroI _) _ _ _ rfl (by infer_instance) _ (keyI f.f0[j]) rfl HK.out trivial ?_)
                | (at_mapUpdate; refine wpList_countUp _ rfl _ _ _ 49 rfl 3 3 lawI hu2 Try.underlying3 _ _ _ rfl (by infer_instance) (by unfold maxLen; omega) _ (keyI f.f0[j]) (cntI f.f0 (j + 1) (keyI f.f0[j])) rfl (congrArg (Value.int .i64) HU.out) (by have := cntI_le f.f0 (j + 1) (keyI f.f0[j]); omega) HK.out trivial (cntI f.f0 (j + 1)) rfl (cntI_other f.f0 j hlt2) ?_; intro w1 hcnt1 hgrow1; have ht : Turn _ _ w1 := ⟨hgrow1⟩; clear hgrow1; have hc1 := ht.cell; have hf1 := ht.frozen)
                | (go_at_call 63; (with_reducible refine (has_calls _ _ _ _ _ _ _ _ _ _ _ _ _ _ _).mono ?_); rintro e w3 ⟨rfl, hb⟩; have hs3 := Step.of hb; clear hb; have hq : Counts Try.prog 3 3 w2.heap.size (j + 1) (cntI f.f0 (j + 1)) w3 := (by infer_instance); have hl3 := hq.run 49 lawI hu2 Try.underlying3 (zeroI _) HK.out trivial; have hc3 := hs3.cell; have hf3 := hs3.frozen))
              · go_ret
                refine ⟨ret_int ?_, Bel.out⟩
                have h2 := HA2.out
                rw [HD2.out, fcolsFrom, if_pos (.inr ((cntI_any f.f0 j hlt2).1 (by assumption)))] at h2
                have h := HA.out
                rw [HD.out, foreignsFrom, fErr25 HN.out h2.symm, if_neg (by decide)] at h
                exact h
              · go_roundw
                case rel =>
                  refine ⟨j + 1, by omega, by go_num, Bel.out, by infer_instance, by rw [hc3, hc1]; exact hx2, by infer_instance, by infer_instance, ?_⟩
                  have h2 := HA2.out
                  rw [HD2.out, fcolsFrom, if_neg (by
                    rintro (h | h)
                    · rw [decide_eq_true (by omega), decide_eq_true (by omega)] at h; cases h
                    · have := (cntI_any f.f0 j hlt2).2 h; omega)] at h2
                  exact h2
                case measure => simp [intOf]; omega
              · go_ret
                refine ⟨ret_int ?_, Bel.out⟩
                have h2 := HA2.out
                rw [HD2.out, fcolsFrom, if_pos (.inl (by rw [← Bool.decide_and]; exact decide_eq_false (by assumption)))] at h2
                have h := HA.out
                rw [HD.out, foreignsFrom, fErr25 HN.out h2.symm, if_neg (by decide)] at h
                exact h
            · have h0 : fcolsFrom n1 f.f0 0 f.f0 = 0 := by
                have h2 := HA2.out
                rw [List.drop_eq_nil_of_le (by omega)] at h2
                exact h2.symm
              have H0 := Lib.hid h0; clear h0
              go_wp2
              · go_ret
                refine ⟨ret_int ?_, Bel.out⟩
                have hz : f.f0.length = 0 := by have := (by assumption : ((f.f0.length : Int) == 0) = true); simp at this; rw [this]; rfl
                have h := HA.out
                have e : foreignErr n1 f = 25 := by unfold foreignErr; rw [if_neg (by rw [HN.out]; decide), if_pos hz]
                rw [HD.out, foreignsFrom, e, if_neg (by decide)] at h
                exact h
              · have hz : f.f0.length ≠ 0 := by have := (by assumption : ((f.f0.length : Int) == 0) = false); simp at this; intro e; exact this (List.eq_nil_of_length_eq_zero e)
                refine ⟨⟨k + 1, by omega, by go_num, Bel.out, by infer_instance, ?_⟩, by simp [intOf]; omega⟩
                have h := HA.out
                have e : foreignErr n1 f = 0 := by unfold foreignErr; rw [if_neg (by rw [HN.out]; decide), if_neg hz, H0.out]
                rw [HD.out, foreignsFrom, if_pos e] at h
                exact h
      · go_wp2
        go_ret
        refine ⟨ret_int ?_, Bel.out⟩
        have h := HA.out
        rw [List.drop_eq_nil_of_le (by omega)] at h
        exact h
end Go.Proofs.Ytjceeengnnjipaa.PAll
