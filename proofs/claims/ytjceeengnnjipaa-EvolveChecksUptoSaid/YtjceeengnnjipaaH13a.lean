/- Layer 13: kinds of columns, the key, the checks (the program's; the reference's kinds). -/
import Derived.Test.YtjceeengnnjipaaH11h
import Derived.Test.YtjceeengnnjipaaGiv5
namespace Go.Proofs.Ytjceeengnnjipaa.PAll
open Go.RowKit Go.Proofs.Ytjceeengnnjipaa.Kit Go.Proofs.Ytjceeengnnjipaa.L13 Go.Proofs.YtjceeengnnjipaaW.PrintWords
set_option linter.unusedVariables false
set_option linter.unusedSimpArgs false
attribute [local go_sem] allocCell allocFrozen setFar setFrozen allocAny allocAdd
attribute [local go_sem ↓] Go.wp_at_zero Go.wp_at_succ

theorem blk5T {w : World} {g : Nat} {a b c d e : Value} {t : TypeId} (k : Blk w g (.cells #[a, b, c, d, e] t (0, 0))) : w.cell? ⟨g, 0, none⟩ = some a ∧ w.cell? ⟨g, 1, none⟩ = some b ∧ w.cell? ⟨g, 2, none⟩ = some c ∧ w.cell? ⟨g, 3, none⟩ = some d ∧ w.cell? ⟨g, 4, none⟩ = some e :=
  ⟨(blk_cell k.out 0).trans rfl, (blk_cell k.out 1).trans rfl, (blk_cell k.out 2).trans rfl, (blk_cell k.out 3).trans rfl, (blk_cell k.out 4).trans rfl⟩
theorem add_z (a : Addr) : a.add 0 = a := by simp [Addr.add]
theorem add_s (a : Addr) (j : Nat) : a.add (j + 1) = ⟨a.block, a.off + (j + 1), none⟩ := by simp [Addr.add]
theorem map_take (cols : List Cl) (k : Nat) (h : k < cols.length) : (cols.take (k + 1)).map (·.f1) = (cols.take k).map (·.f1) ++ [cols[k].f1] := by
  rw [List.take_succ_eq_append_getElem h, List.map_append]; rfl
set_option maxRecDepth 20000 in
set_option maxHeartbeats 2000000 in
theorem kinds_calls (tn : ByteArray) (A1 : Option Addr) (c1 : Nat) (cols : List Cl) (A2 : Option Addr) (c2 : Nat) (key : List Int) (A3 : Option Addr) (c3 : Nat) (fg : List Fg) (A4 : Option Addr) (c4 : Nat) (ch : List Ex) (w : World) (h : Tc w A1 c1 cols A2 c2 key A3 c3 fg A4 c4 ch) (hl : cols.length < 17592186044416) :
    Calls Try.prog 65 #[.agg #[.string tn, .slice A1 cols.length c1, .slice A2 key.length c2, .slice A3 fg.length c3, .slice A4 ch.length c4]] w fun e w' => ∃ v, e = .returned v ∧ Kd.R (Kd.int .i64) 3 w' w.heap.size (fun _ => True) v (cols.map (·.f1)) ∧ Below w.heap.size w w' := by
  have hu := Try.underlying27
  have hu1 := Try.underlying29
  have hu2 := Try.underlying23
  go_enter Try.func65, Try.ntmps65
  go_wp2
  go_loopw [3, 9] (fun v i wr => ∃ (k : Nat), k ≤ cols.length ∧ i = .int .i64 k ∧ Below w.heap.size w wr ∧ Kd.R (Kd.int .i64) 3 wr w.heap.size (fun _ => True) v ((cols.take k).map (·.f1))) (fun _ i wr => cols.length - (intOf i).toNat)
  case atStart => exact ⟨0, by omega, rfl, Bel.out, Kd.R_nil _ _ _ _ _⟩
  case round =>
    obtain ⟨k, hk, rfl, hbw, hR⟩ := hrel
    have hst : Step w wr := ⟨hbw⟩
    have HR := Lib.hid hR; clear hR hbw
    by_cases hlt : k < cols.length
    · obtain ⟨ad, e, hi, x0, x1, x2⟩ := col_at h.r1 (inferInstance : Bel w wr) k hlt
      subst e
      obtain ⟨acc, ha⟩ : ∃ acc, (cols.take k).map (·.f1) = acc := ⟨_, rfl⟩
      have hal : acc.length = k := by rw [← ha]; simp; omega
      rw [ha] at HR
      have HL := Lib.hid hal; have HA := Lib.hid ha
      clear hal ha
      go_wp2_with (at_builtin; refine Kd.R_append (Kd.int .i64) (w0 := w) w.heap.size rfl (.tmp 13) (.tmp 16) 23 3 (.int .i64 0) 8 rfl hu2 info3 rfl (by decide) (by decide) _ acc cols[k].f1 [.int .i64 cols[k].f1] (fun _ => True) (fun _ => False) rfl ?cx rfl (fun _ h => h.elim) (fun _ _ => trivial) (Rdown HR.out) ?c1 ?c2 ?c3 ?_; (case cx => first | rfl | (simp; done) | (simp; rfl)); (case c1 => exact Bel.out); (case c2 => exact Below.size Bel.out); (case c3 => rw [HL.out]; omega); intro v4 w4 hR4 hb4 _ _; rw [← HA.out, ← map_take cols k hlt] at hR4; have HR4 := Lib.hid hR4; have hst4 : Step w w4 := ⟨hb4⟩; clear hR4 hb4)
      exact ⟨⟨k + 1, by omega, by go_num, Bel.out, HR4.out⟩, by simp [intOf]; omega⟩
    · go_wp2
      go_ret
      have hR := HR.out
      rw [List.take_of_length_le (by omega)] at hR
      exact ⟨_, rfl, hR, Bel.out⟩
set_option maxRecDepth 20000 in
set_option maxHeartbeats 2000000 in
theorem rkinds_calls (tn : ByteArray) (A1 : Option Addr) (c1 : Nat) (cols : List Cl) (A2 : Option Addr) (c2 : Nat) (key : List Int) (A3 : Option Addr) (c3 : Nat) (fg : List Fg) (A4 : Option Addr) (c4 : Nat) (ch : List Ex) (w : World) (h : Tc w A1 c1 cols A2 c2 key A3 c3 fg A4 c4 ch) (hl : cols.length < 17592186044416) :
    Calls Try.prog 61 #[.agg #[.string tn, .slice A1 cols.length c1, .slice A2 key.length c2, .slice A3 fg.length c3, .slice A4 ch.length c4]] w fun e w' => ∃ v, e = .returned v ∧ Kd.R (Kd.int .i64) 3 w' w.heap.size (fun _ => True) v (cols.map (·.f1)) ∧ Below w.heap.size w w' := by
  have hu := Try.underlying27
  have hu1 := Try.underlying29
  have hu2 := Try.underlying23
  go_enter Try.func61, Try.ntmps61
  go_wp2
  generalize hW0 : w.alloc (.cells #[.string tn, .slice A1 cols.length c1, .slice A2 key.length c2, .slice A3 fg.length c3, .slice A4 ch.length c4] 27) = W0
  have i0 : Bel w W0 := by subst hW0; infer_instance
  have i1 : Blk W0 w.heap.size (.cells #[.string tn, .slice A1 cols.length c1, .slice A2 key.length c2, .slice A3 fg.length c3, .slice A4 ch.length c4] 27) := by subst hW0; infer_instance
  have i2 : HSize W0 (w.heap.size + 1) := by subst hW0; infer_instance
  clear hW0
  go_loopw [3, 4] (fun v i wr => ∃ (k : Nat), k ≤ cols.length ∧ i = .int .i64 k ∧ Below W0.heap.size W0 wr ∧ Kd.R (Kd.int .i64) 3 wr W0.heap.size (fun _ => True) v ((cols.take k).map (·.f1))) (fun _ i wr => cols.length - (intOf i).toNat)
  case atStart => exact ⟨0, by omega, rfl, Bel.out, R_litA (d := Kd.int .i64) (e := 3) (okp := fun _ => False) (inner := []) (Reps.none _ _) i2.out (Nat.le_refl _) (by simp)⟩
  case round =>
    obtain ⟨k, hk, rfl, hbw, hR⟩ := hrel
    have hst : Step W0 wr := ⟨hbw⟩
    have HR := Lib.hid hR; clear hR hbw
    have hbk2 : Blk wr w.heap.size (.cells #[.string tn, .slice A1 cols.length c1, .slice A2 key.length c2, .slice A3 fg.length c3, .slice A4 ch.length c4] 27) := inferInstance
    obtain ⟨t0, t1, t2, t3, t4⟩ := blk5T hbk2
    by_cases hlt : k < cols.length
    · obtain ⟨ad, e, hi, x0, x1, x2⟩ := col_at h.r1 (inferInstance : Bel w wr) k hlt
      subst e
      obtain ⟨acc, ha⟩ : ∃ acc, (cols.take k).map (·.f1) = acc := ⟨_, rfl⟩
      have hal : acc.length = k := by rw [← ha]; simp; omega
      rw [ha] at HR
      have HL := Lib.hid hal; have HA := Lib.hid ha
      clear hal ha
      go_wp2_with (at_builtin; refine Kd.R_append (Kd.int .i64) (w0 := W0) W0.heap.size rfl (.tmp 13) (.tmp 20) 23 3 (.int .i64 0) 8 rfl hu2 info3 rfl (by decide) (by decide) _ acc cols[k].f1 [.int .i64 cols[k].f1] (fun _ => True) (fun _ => False) rfl ?cx rfl (fun _ h => h.elim) (fun _ _ => trivial) (Rdown HR.out) ?c1 ?c2 ?c3 ?_; (case cx => first | rfl | (simp; done) | (simp; rfl)); (case c1 => exact Bel.out); (case c2 => exact Below.size Bel.out); (case c3 => rw [HL.out]; omega); intro v4 w4 hR4 hb4 _ _; rw [← HA.out, ← map_take cols k hlt] at hR4; have HR4 := Lib.hid hR4; have hst4 : Step W0 w4 := ⟨hb4⟩; clear hR4 hb4)
      exact ⟨⟨k + 1, by omega, by go_num, Bel.out, HR4.out⟩, by simp [intOf]; omega⟩
    · go_wp2
      go_ret
      have hR := HR.out
      rw [List.take_of_length_le (by omega)] at hR
      exact ⟨_, rfl, Rdown hR, Bel.out⟩
theorem key_step (cols : List Cl) (key : List Int) (k : Nat) (h : k < key.length) : keyFrom cols key k (key.drop k) = if ¬ (0 ≤ key[k] ∧ key[k] < cols.length) ∨ (0 < k ∧ key[k] ≤ rd key ((k : Int) - 1)) then 25 else if (rd_T29 cols key[k]).f2 = true then 12 else keyFrom cols key (k + 1) (key.drop (k + 1)) := by
  rw [List.drop_eq_getElem_cons h, keyFrom]
theorem key_out {cols : List Cl} {key : List Int} {k : Nat} (h : k < key.length) (hn : ¬ (0 ≤ key[k] ∧ key[k] < cols.length)) : keyFrom cols key k (key.drop k) = 25 := by rw [key_step cols key k h, if_pos (.inl hn)]
theorem key_low {cols : List Cl} {key : List Int} {j : Nat} (h : j + 1 < key.length) (hn : key[j + 1] ≤ key[j]) : keyFrom cols key (j + 1) (key.drop (j + 1)) = 25 := by
  rw [key_step cols key (j + 1) h, if_pos (.inr ⟨by omega, by rw [show ((j + 1 : Nat) : Int) - 1 = (j : Int) by omega, rd_at (by omega)]; exact hn⟩)]
theorem key_in {cols : List Cl} {key : List Int} {k m : Nat} (h : k < key.length) (e : key[k] = m) (hm : m < cols.length) (hj : ∀ j, (hj : k = j + 1) → ¬ key[k] ≤ key[j]'(by omega)) : keyFrom cols key k (key.drop k) = if cols[m].f2 = true then 12 else keyFrom cols key (k + 1) (key.drop (k + 1)) := by
  rw [key_step cols key k h, if_neg, e, rdC_at hm]
  rintro (g | ⟨g, g2⟩)
  · exact g (by omega)
  · obtain ⟨j, rfl⟩ : ∃ j, k = j + 1 := ⟨k - 1, by omega⟩
    rw [show ((j + 1 : Nat) : Int) - 1 = (j : Int) by omega, rd_at (by omega)] at g2
    exact hj j rfl g2
set_option maxRecDepth 20000 in
set_option maxHeartbeats 4000000 in
theorem checkKey_calls (tn : ByteArray) (A1 : Option Addr) (c1 : Nat) (cols : List Cl) (A2 : Option Addr) (c2 : Nat) (key : List Int) (A3 : Option Addr) (c3 : Nat) (fg : List Fg) (A4 : Option Addr) (c4 : Nat) (ch : List Ex) (w : World) (h : Tc w A1 c1 cols A2 c2 key A3 c3 fg A4 c4 ch) :
    Calls Try.prog 37 #[.agg #[.string tn, .slice A1 cols.length c1, .slice A2 key.length c2, .slice A3 fg.length c3, .slice A4 ch.length c4]] w fun e w' => e = .returned (.int .i64 (keyErr cols key)) ∧ Below w.heap.size w w' := by
  have hu := Try.underlying27
  have hu1 := Try.underlying29
  have hm2 := h.r2.2.1
  have hm1 := h.r1.2.1
  go_enter Try.func37, Try.ntmps37
  go_wp2
  · go_ret
    exact ⟨ret_int (by unfold keyErr; rw [if_pos (by simpa using (by assumption : ((key.length : Int) == 0) = true))]), Bel.out⟩
  · have he0 : keyErr cols key = keyFrom cols key 0 key := by unfold keyErr; rw [if_neg (by simpa using (by assumption : ((key.length : Int) == 0) = false))]
    try rw [(by assumption : ((key.length : Int) == 0) = false)]
    have HE := Lib.hid he0; clear he0
    go_loopw [3, 4, 12] (fun u v i wr => ∃ (k : Nat), k ≤ key.length ∧ i = .int .i64 k ∧ Below w.heap.size w wr ∧ Blk wr w.heap.size (.cells #[.string tn, .slice A1 cols.length c1, .slice A2 key.length c2, .slice A3 fg.length c3, .slice A4 ch.length c4] 27) ∧ keyFrom cols key k (key.drop k) = keyErr cols key) (fun _ _ i wr => key.length - (intOf i).toNat)
    case atStart => exact ⟨0, by omega, rfl, Bel.out, inferInstance, HE.out.symm⟩
    case round =>
      obtain ⟨k, hk, rfl, hbw, hbk, hall⟩ := hrel
      have hst : Bel w wr := ⟨hbw⟩
      have HA := Lib.hid hall; clear hall hbw
      obtain ⟨t0, t1, t2, t3, t4⟩ := blk5T hbk
      by_cases hlt : k < key.length
      · obtain ⟨ad, e, hi, x0⟩ := int_at h.r2 hst k hlt
        subst e
        by_cases hin : 0 ≤ key[k] ∧ key[k] < cols.length
        · obtain ⟨m, hm⟩ : ∃ m : Nat, key[k] = m := ⟨key[k].toNat, by omega⟩
          rw [hm] at x0
          have hml : m < cols.length := by omega
          obtain ⟨ad1, e, hi1, y0, y1, y2⟩ := col_at h.r1 hst m hml
          subst e
          have hex : (decide ((0 : Int) ≤ m) && decide ((m : Int) < cols.length)) = true := by simp; omega
          have HM := Lib.hid hm; clear hm hin
          cases k with
          | zero =>
            have HK := Lib.hid (key_in hlt HM.out hml (fun j hj => by omega))
            rw [add_z] at x0
            go_wp2_with (go_at_call 63; (with_reducible refine (has_calls _ _ _ _ _ _ _ _ _ _ _ _ _ _ _).mono ?_); rintro e w2 ⟨rfl, hb⟩; rw [hex]; have hs2 := Step.of hb; clear hb; have hc2 := hs2.cell; have hd2 := hs2.add)
            · go_ret
              exact ⟨ret_int (by rw [← HA.out, HK.out, if_pos (by assumption)]), Bel.out⟩
            · exact ⟨⟨0 + 1, by omega, by go_num, Bel.out, inferInstance, by rw [← HA.out, HK.out, if_neg (by simp [*])]⟩, by simp [intOf]; omega⟩
          | succ j =>
            obtain ⟨ad2, e, hi2, z0⟩ := int_at h.r2 hst j (by omega)
            injection e with e
            subst e
            rw [add_s] at x0
            go_wp2_with (go_at_call 63; (with_reducible refine (has_calls _ _ _ _ _ _ _ _ _ _ _ _ _ _ _).mono ?_); rintro e w2 ⟨rfl, hb⟩; rw [hex]; have hs2 := Step.of hb; clear hb; have hc2 := hs2.cell; have hd2 := hs2.add)
            · go_ret
              exact ⟨ret_int (by rw [← HA.out, key_low hlt (by rw [HM.out]; assumption)]), Bel.out⟩
            all_goals
              have HK := Lib.hid (key_in hlt HM.out hml (fun i hi => by obtain rfl : i = j := by omega
                                                                        rw [HM.out]; omega))
            · go_ret
              exact ⟨ret_int (by rw [← HA.out, HK.out, if_pos (by assumption)]), Bel.out⟩
            · exact ⟨⟨j + 1 + 1, by omega, by go_num, Bel.out, inferInstance, by rw [← HA.out, HK.out, if_neg (by simp [*])]⟩, by simp [intOf]; omega⟩
        · have hex : (decide ((0 : Int) ≤ key[k]) && decide (key[k] < cols.length)) = false := by
            by_cases h0 : 0 ≤ key[k]
            · by_cases h1 : key[k] < cols.length
              · exact absurd ⟨h0, h1⟩ hin
              · simp [h1]
            · simp [h0]
          go_wp2_with (go_at_call 63; (with_reducible refine (has_calls _ _ _ _ _ _ _ _ _ _ _ _ _ _ _).mono ?_); rintro e w2 ⟨rfl, hb⟩; rw [hex]; have hs2 := Step.of hb; clear hb; have hc2 := hs2.cell; have hd2 := hs2.add)
          go_ret
          exact ⟨ret_int (by rw [← HA.out, key_out hlt hin]), Bel.out⟩
      · go_wp2
        go_ret
        refine ⟨ret_int ?_, Bel.out⟩
        have h := HA.out
        rw [List.drop_eq_nil_of_le (by omega)] at h
        exact h
end Go.Proofs.Ytjceeengnnjipaa.PAll
