/- Layer 13: the reference's constraints and Check. -/
import Derived.Test.YtjceeengnnjipaaH13e
namespace Go.Proofs.Ytjceeengnnjipaa.PAll
open Go.RowKit Go.Proofs.Ytjceeengnnjipaa.Kit Go.Proofs.Ytjceeengnnjipaa.L13 Go.Proofs.YtjceeengnnjipaaW.PrintWords
set_option linter.unusedVariables false
set_option linter.unusedSimpArgs false
attribute [local go_sem] allocCell allocFrozen setFar setFrozen allocAny allocAdd
attribute [local go_sem ↓] Go.wp_at_zero Go.wp_at_succ

theorem fgs_go {n : Nat} {fg : List Fg} {k : Nat} (h : k < fg.length) (e : foreignErr n fg[k] = 0) : foreignsFrom n (fg.drop k) = foreignsFrom n (fg.drop (k + 1)) := by rw [List.drop_eq_getElem_cons h, foreignsFrom, if_pos e]
theorem fgs_err {n : Nat} {fg : List Fg} {k : Nat} (h : k < fg.length) (e : ¬ foreignErr n fg[k] = 0) : foreignsFrom n (fg.drop k) = foreignErr n fg[k] := by rw [List.drop_eq_getElem_cons h, foreignsFrom, if_neg e]
theorem cons_bad {cols : List Cl} {fg : List Fg} {ch : List Ex} (h : ¬ foreignsErr cols.length fg = 0) : consErr cols fg ch = foreignsErr cols.length fg := by unfold consErr; rw [if_neg h]
theorem cons_ok {cols : List Cl} {fg : List Fg} {ch : List Ex} (h : foreignsErr cols.length fg = 0) : consErr cols fg ch = chksErr (cols.map (·.f1)) ch := by unfold consErr; rw [if_pos h]
set_option maxRecDepth 20000 in
set_option maxHeartbeats 8000000 in
theorem rcons_calls (tn : ByteArray) (A1 : Option Addr) (c1 : Nat) (cols : List Cl) (A2 : Option Addr) (c2 : Nat) (key : List Int) (A3 : Option Addr) (c3 : Nat) (fg : List Fg) (A4 : Option Addr) (c4 : Nat) (ch : List Ex) (w : World) (h : Tc w A1 c1 cols A2 c2 key A3 c3 fg A4 c4 ch) (hl : cols.length < 17592186044416) (hn : ∀ x ∈ ch, nodes x ≤ 1048576) :
    Calls Try.prog 34 #[.agg #[.string tn, .slice A1 cols.length c1, .slice A2 key.length c2, .slice A3 fg.length c3, .slice A4 ch.length c4]] w fun e w' => e = .returned (.int .i64 (consErr cols fg ch)) ∧ Below w.heap.size w w' := by
  have hu := Try.underlying27
  have hu1 := Try.underlying62
  have hu2 := Try.underlying70
  have hm3 := h.r3.2.1
  have hm4 := h.r4.2.1
  obtain ⟨ks, hks⟩ : ∃ ks, cols.map (·.f1) = ks := ⟨_, rfl⟩
  have HX : Hid (∀ W, Bel w W → Calls Try.prog 61 #[.agg #[.string tn, .slice A1 cols.length c1, .slice A2 key.length c2, .slice A3 fg.length c3, .slice A4 ch.length c4]] W fun e w' => ∃ v, e = .returned v ∧ Kd.R (Kd.int .i64) 3 w' W.heap.size (fun _ => True) v ks ∧ Below W.heap.size W w') := by
    intro W b
    rw [← hks]
    exact rkinds_calls tn A1 c1 cols A2 c2 key A3 c3 fg A4 c4 ch W h.up hl
  have HN := Lib.hid hn; clear hn
  have HB := Lib.hid (@cons_bad cols fg ch)
  have HO := Lib.hid (@cons_ok cols fg ch)
  rw [hks] at HO
  clear hks
  go_enter Try.func34, Try.ntmps34
  go_wp2
  · go_ret
    exact ⟨ret_int (by rw [HB.out (by unfold foreignsErr; rw [if_pos (by omega)]; decide)]; unfold foreignsErr; rw [if_pos (by omega)]), Bel.out⟩
  · have HE := Lib.hid (show foreignsErr cols.length fg = foreignsFrom cols.length fg by unfold foreignsErr; rw [if_neg (by omega)])
    try rw [show decide (4 < (fg.length : Int)) = false by simp; omega]
    go_loopw [3, 4] (fun i v wr => ∃ (k : Nat), k ≤ fg.length ∧ i = .int .i64 k ∧ Below w.heap.size w wr ∧ Blk wr w.heap.size (.cells #[.string tn, .slice A1 cols.length c1, .slice A2 key.length c2, .slice A3 fg.length c3, .slice A4 ch.length c4] 27) ∧ foreignsFrom cols.length (fg.drop k) = foreignsErr cols.length fg) (fun i _ wr => fg.length - (intOf i).toNat)
    case atStart => exact ⟨0, by omega, rfl, Bel.out, inferInstance, HE.out.symm⟩
    case round =>
      obtain ⟨wo, hwo⟩ : ∃ wo, wo = wr := ⟨_, rfl⟩
      subst hwo
      obtain ⟨k, hk, rfl, hbw, hbk, hall⟩ := hrel
      have hst : Bel w wo := ⟨hbw⟩
      have HA := Lib.hid hall; clear hall hbw
      obtain ⟨t0, t1, t2, t3, t4⟩ := blk5T hbk
      by_cases hlt : k < fg.length
      · obtain ⟨ad, B, cB, e, hi, x0, x1, hl2, hr⟩ := fg_at h.r3 hst k hlt
        subst e
        have hkl : (k : Int) < (fg.length : Int) := by omega
        have HRx := Rc.mk hr hl2
        obtain ⟨fe, hfe⟩ : ∃ fe, foreignErr cols.length fg[k] = fe := ⟨_, rfl⟩
        have HFE := Lib.hid hfe; clear hfe
        go_wp2_with fail
        refine wp_region_held_drew (S := (fun w' => Bel wo w' ∧ (∀ (b o : Nat) [InHeap wo b], w'.cell? ⟨b, o, none⟩ = wo.cell? ⟨b, o, none⟩) ∧ (∀ (a : Addr) (k : Nat) [InHeap wo a.block], w'.cell? (a.add k) = wo.cell? (a.add k)) ∧ (∀ (a : Addr) [InHeap wo a.block], w'.cell? a = wo.cell? a))) (by kernel_rfl) ?_ (fun hHeld => ?_)
        · exact keepC
        first | (refine takeN (i := 0) (N := (some 19)) (v := ?_) rfl rfl (by kernel_rfl) (by kernel_rfl) (by kernel_rfl) (fun _ _ _ h => h) (Or.inl ⟨by rfl, ?_⟩) (by assumption) ?_; rotate_left; focus ((intro w hSw; (try dsimp only at hSw); go_simp); (try with_reducible rfl))) | (refine takeN (i := 0) (N := (some 19)) (v := undef) rfl rfl (by kernel_rfl) (by kernel_rfl) (by kernel_rfl) (fun _ _ _ h => h) (Or.inr ⟨by rfl, rfl⟩) (by assumption) ?_)
        try simp only [Act.put, List.setIfInBounds_toArray, List.set_cons_zero, List.set_cons_succ]
        first | (refine takeN (i := 1) (N := (some 20)) (v := ?_) rfl rfl (by kernel_rfl) (by kernel_rfl) (by kernel_rfl) (fun _ _ _ h => h) (Or.inl ⟨by rfl, ?_⟩) (by assumption) ?_; rotate_left; focus ((intro w hSw; (try dsimp only at hSw); go_simp); (try with_reducible rfl))) | (refine takeN (i := 1) (N := (some 20)) (v := undef) rfl rfl (by kernel_rfl) (by kernel_rfl) (by kernel_rfl) (fun _ _ _ h => h) (Or.inr ⟨by rfl, rfl⟩) (by assumption) ?_)
        try simp only [Act.put, List.setIfInBounds_toArray, List.set_cons_zero, List.set_cons_succ]
        first | (refine takeN (i := 2) (N := (some 21)) (v := ?_) rfl rfl (by kernel_rfl) (by kernel_rfl) (by kernel_rfl) (fun _ _ _ h => h) (Or.inl ⟨by rfl, ?_⟩) (by assumption) ?_; rotate_left; focus ((intro w hSw; (try dsimp only at hSw); go_simp); (try with_reducible rfl))) | (refine takeN (i := 2) (N := (some 21)) (v := undef) rfl rfl (by kernel_rfl) (by kernel_rfl) (by kernel_rfl) (fun _ _ _ h => h) (Or.inr ⟨by rfl, rfl⟩) (by assumption) ?_)
        try simp only [Act.put, List.setIfInBounds_toArray, List.set_cons_zero, List.set_cons_succ]
        first | (refine takeN (i := 3) (N := (some 22)) (v := ?_) rfl rfl (by kernel_rfl) (by kernel_rfl) (by kernel_rfl) (fun _ _ _ h => h) (Or.inl ⟨by rfl, ?_⟩) (by assumption) ?_; rotate_left; focus ((intro w hSw; (try dsimp only at hSw); go_simp); (try with_reducible rfl))) | (refine takeN (i := 3) (N := (some 22)) (v := undef) rfl rfl (by kernel_rfl) (by kernel_rfl) (by kernel_rfl) (fun _ _ _ h => h) (Or.inr ⟨by rfl, rfl⟩) (by assumption) ?_)
        try simp only [Act.put, List.setIfInBounds_toArray, List.set_cons_zero, List.set_cons_succ]
        first | (refine takeN (i := 4) (N := (some 23)) (v := ?_) rfl rfl (by kernel_rfl) (by kernel_rfl) (by kernel_rfl) (fun _ _ _ h => h) (Or.inl ⟨by rfl, ?_⟩) (by assumption) ?_; rotate_left; focus ((intro w hSw; (try dsimp only at hSw); go_simp); (try with_reducible rfl))) | (refine takeN (i := 4) (N := (some 23)) (v := undef) rfl rfl (by kernel_rfl) (by kernel_rfl) (by kernel_rfl) (fun _ _ _ h => h) (Or.inr ⟨by rfl, rfl⟩) (by assumption) ?_)
        try simp only [Act.put, List.setIfInBounds_toArray, List.set_cons_zero, List.set_cons_succ]
        first | (refine takeN (i := 5) (N := (some 24)) (v := ?_) rfl rfl (by kernel_rfl) (by kernel_rfl) (by kernel_rfl) (fun _ _ _ h => h) (Or.inl ⟨by rfl, ?_⟩) (by assumption) ?_; rotate_left; focus ((intro w hSw; (try dsimp only at hSw); go_simp); (try with_reducible rfl))) | (refine takeN (i := 5) (N := (some 24)) (v := undef) rfl rfl (by kernel_rfl) (by kernel_rfl) (by kernel_rfl) (fun _ _ _ h => h) (Or.inr ⟨by rfl, rfl⟩) (by assumption) ?_)
        try simp only [Act.put, List.setIfInBounds_toArray, List.set_cons_zero, List.set_cons_succ]
        refine wpAnyH_ready (rs := [6]) (by kernel_rfl) (by simp) ?_
        refine AllReadyH.cons rfl (fun K hK => ?_) AllReadyH.nil
        go_simp
        (go_at_call 59; (with_reducible refine (rforeign_calls _ _ _ _ _ _ _ _ _ _ _ _ _ fg[k] _ _ _ ?g1).mono ?_); (case g1 => exact HRx.up); rintro e w2 ⟨rfl, hb⟩; rw [HFE.out]; have hs2 := Step.of hb; clear hb)
        refine hK.out _ _ ?_ (fun hHeld => ?_)
        · (try dsimp only); exact keepC
        try simp only [Act.put, List.setIfInBounds_toArray, List.set_cons_zero, List.set_cons_succ]
        first | (refine takeN (i := 7) (N := (some 4)) (v := ?_) rfl rfl (by kernel_rfl) (by kernel_rfl) (by kernel_rfl) (fun _ _ _ h => h) (Or.inl ⟨by rfl, ?_⟩) (by assumption) ?_; rotate_left; focus ((intro w hSw; (try dsimp only at hSw); go_simp); (try with_reducible rfl))) | (refine takeN (i := 7) (N := (some 4)) (v := undef) rfl rfl (by kernel_rfl) (by kernel_rfl) (by kernel_rfl) (fun _ _ _ h => h) (Or.inr ⟨by rfl, rfl⟩) (by assumption) ?_)
        try simp only [Act.put, List.setIfInBounds_toArray, List.set_cons_zero, List.set_cons_succ]
        refine wpAnyH_done (by kernel_rfl) ?_ _
        clear t0 t1 t2 t3 t4
        go_wp2
        · have hne : ¬ fe = 0 := by simpa using (by assumption : (fe != 0) = true)
          have hf : foreignsErr cols.length fg = fe := by rw [← HA.out, fgs_err hlt (by rw [HFE.out]; exact hne), HFE.out]
          go_ret
          exact ⟨ret_int (by rw [HB.out (by rw [hf]; exact hne), hf]), hst.out.trans (hHeld.1.out.mono hst.out.size)⟩
        · have hne : fe = 0 := by simpa using (by assumption : (fe != 0) = false)
          exact ⟨⟨k + 1, by omega, by go_num, hst.out.trans (hHeld.1.out.mono hst.out.size), ⟨(hHeld.1.out.block _ (blk_lt hbk.out)).trans hbk.out⟩, by rw [← HA.out, fgs_go hlt (by rw [HFE.out]; exact hne)]⟩, by simp [intOf]; omega⟩
      · have hf0 : foreignsErr cols.length fg = 0 := by
          have h := HA.out
          rw [List.drop_eq_nil_of_le (by omega)] at h
          exact h.symm
        have HC := Lib.hid (HO.out hf0); clear hf0
        go_wp2
        · go_ret
          exact ⟨ret_int (by rw [HC.out]; unfold chksErr; rw [if_pos (by omega)]), Bel.out⟩
        · have HE2 := Lib.hid (show chksErr ks ch = chksFrom ks ch by unfold chksErr; rw [if_neg (by omega)])
          try rw [show decide (4 < (ch.length : Int)) = false by simp; omega]
          go_loopw [5] (fun i wr => ∃ (k : Nat), k ≤ ch.length ∧ i = .int .i64 k ∧ Below w.heap.size w wr ∧ Blk wr w.heap.size (.cells #[.string tn, .slice A1 cols.length c1, .slice A2 key.length c2, .slice A3 fg.length c3, .slice A4 ch.length c4] 27) ∧ chksFrom ks (ch.drop k) = chksErr ks ch) (fun i wr => ch.length - (intOf i).toNat)
          case atStart => exact ⟨0, by omega, rfl, Bel.out, inferInstance, HE2.out.symm⟩
          case round =>
            obtain ⟨wo2, hwo2⟩ : ∃ wo, wo = wr := ⟨_, rfl⟩
            subst hwo2
            obtain ⟨j, hj, rfl, hbw2, hbk2, hall2⟩ := hrel
            have hst2 : Bel w wo2 := ⟨hbw2⟩
            have HA2 := Lib.hid hall2; clear hall2 hbw2 t0 t1 t2 t3 t4
            obtain ⟨t0, t1, t2, t3, t4⟩ := blk5T hbk2
            by_cases hlt2 : j < ch.length
            · obtain ⟨ad, B, cB, e, hi, x0, x1, x2, x3, x4, x5, x6, hl2, hr⟩ := ex_at h.r4 hst2 j hlt2
              subst e
              have hkl : (j : Int) < (ch.length : Int) := by omega
              have HRx := Rc.mk hr hl2
              have hnx := HN.out ch[j] (List.getElem_mem _)
              go_wp2_with fail
              refine wp_region_held_drew (S := (fun w' => Bel wo2 w' ∧ (∀ (b o : Nat) [InHeap wo2 b], w'.cell? ⟨b, o, none⟩ = wo2.cell? ⟨b, o, none⟩) ∧ (∀ (a : Addr) (k : Nat) [InHeap wo2 a.block], w'.cell? (a.add k) = wo2.cell? (a.add k)) ∧ (∀ (a : Addr) [InHeap wo2 a.block], w'.cell? a = wo2.cell? a))) (by kernel_rfl) ?_ (fun hHeld => ?_)
              · exact keepC
              first | (refine takeN (i := 0) (N := (some 41)) (v := ?_) rfl rfl (by kernel_rfl) (by kernel_rfl) (by kernel_rfl) (fun _ _ _ h => h) (Or.inl ⟨by rfl, ?_⟩) (by assumption) ?_; rotate_left; focus ((intro w hSw; (try dsimp only at hSw); go_simp); (try with_reducible rfl))) | (refine takeN (i := 0) (N := (some 41)) (v := undef) rfl rfl (by kernel_rfl) (by kernel_rfl) (by kernel_rfl) (fun _ _ _ h => h) (Or.inr ⟨by rfl, rfl⟩) (by assumption) ?_)
              try simp only [Act.put, List.setIfInBounds_toArray, List.set_cons_zero, List.set_cons_succ]
              first | (refine takeN (i := 1) (N := (some 42)) (v := ?_) rfl rfl (by kernel_rfl) (by kernel_rfl) (by kernel_rfl) (fun _ _ _ h => h) (Or.inl ⟨by rfl, ?_⟩) (by assumption) ?_; rotate_left; focus ((intro w hSw; (try dsimp only at hSw); go_simp); (try with_reducible rfl))) | (refine takeN (i := 1) (N := (some 42)) (v := undef) rfl rfl (by kernel_rfl) (by kernel_rfl) (by kernel_rfl) (fun _ _ _ h => h) (Or.inr ⟨by rfl, rfl⟩) (by assumption) ?_)
              try simp only [Act.put, List.setIfInBounds_toArray, List.set_cons_zero, List.set_cons_succ]
              first | (refine takeN (i := 2) (N := (some 43)) (v := ?_) rfl rfl (by kernel_rfl) (by kernel_rfl) (by kernel_rfl) (fun _ _ _ h => h) (Or.inl ⟨by rfl, ?_⟩) (by assumption) ?_; rotate_left; focus ((intro w hSw; (try dsimp only at hSw); go_simp); (try with_reducible rfl))) | (refine takeN (i := 2) (N := (some 43)) (v := undef) rfl rfl (by kernel_rfl) (by kernel_rfl) (by kernel_rfl) (fun _ _ _ h => h) (Or.inr ⟨by rfl, rfl⟩) (by assumption) ?_)
              try simp only [Act.put, List.setIfInBounds_toArray, List.set_cons_zero, List.set_cons_succ]
              first | (refine takeN (i := 3) (N := (some 44)) (v := ?_) rfl rfl (by kernel_rfl) (by kernel_rfl) (by kernel_rfl) (fun _ _ _ h => h) (Or.inl ⟨by rfl, ?_⟩) (by assumption) ?_; rotate_left; focus ((intro w hSw; (try dsimp only at hSw); go_simp); (try with_reducible rfl))) | (refine takeN (i := 3) (N := (some 44)) (v := undef) rfl rfl (by kernel_rfl) (by kernel_rfl) (by kernel_rfl) (fun _ _ _ h => h) (Or.inr ⟨by rfl, rfl⟩) (by assumption) ?_)
              try simp only [Act.put, List.setIfInBounds_toArray, List.set_cons_zero, List.set_cons_succ]
              first | (refine takeN (i := 4) (N := (some 45)) (v := ?_) rfl rfl (by kernel_rfl) (by kernel_rfl) (by kernel_rfl) (fun _ _ _ h => h) (Or.inl ⟨by rfl, ?_⟩) (by assumption) ?_; rotate_left; focus ((intro w hSw; (try dsimp only at hSw); go_simp); (try with_reducible rfl))) | (refine takeN (i := 4) (N := (some 45)) (v := undef) rfl rfl (by kernel_rfl) (by kernel_rfl) (by kernel_rfl) (fun _ _ _ h => h) (Or.inr ⟨by rfl, rfl⟩) (by assumption) ?_)
              try simp only [Act.put, List.setIfInBounds_toArray, List.set_cons_zero, List.set_cons_succ]
              first | (refine takeN (i := 5) (N := (some 46)) (v := ?_) rfl rfl (by kernel_rfl) (by kernel_rfl) (by kernel_rfl) (fun _ _ _ h => h) (Or.inl ⟨by rfl, ?_⟩) (by assumption) ?_; rotate_left; focus ((intro w hSw; (try dsimp only at hSw); go_simp); (try with_reducible rfl))) | (refine takeN (i := 5) (N := (some 46)) (v := undef) rfl rfl (by kernel_rfl) (by kernel_rfl) (by kernel_rfl) (fun _ _ _ h => h) (Or.inr ⟨by rfl, rfl⟩) (by assumption) ?_)
              try simp only [Act.put, List.setIfInBounds_toArray, List.set_cons_zero, List.set_cons_succ]
              refine wpAnyH_ready (rs := [6]) (by kernel_rfl) (by simp) ?_
              refine AllReadyH.cons rfl (fun K hK => ?_) AllReadyH.nil
              go_simp
              (go_at_call 61; with_reducible refine (HX.out _ (by infer_instance)).mono ?_; rintro e w4 ⟨v4, rfl, hR, hb⟩; have hs4 := Step.of hb; obtain ⟨A5, c5, rfl, hl5, hC5⟩ := Kd.R_reads hR; have HC5 := Lib.hid (Rc.mk hC5 hl5); clear hb hR hC5 hl5)
              refine hK.out _ _ ?_ (fun hHeld => ?_)
              · (try dsimp only); exact keepC
              try simp only [Act.put, List.setIfInBounds_toArray, List.set_cons_zero, List.set_cons_succ]
              refine wpAnyH_ready (rs := [7]) (by kernel_rfl) (by simp) ?_
              refine AllReadyH.cons rfl (fun K hK => ?_) AllReadyH.nil
              go_simp
              (go_at_call 60; with_reducible refine (rCheck_calls _ _ _ _ _ _ _ _ ch[j].f4 _ _ ks _ ?g1 ?g2 ?g3).mono ?_; (case g1 => rw [exV_eta]; exact hnx); (case g2 => exact HRx.up); (case g3 => exact HC5.out.up); rintro e w6 ⟨he, hb⟩; rw [exV_eta] at he; unfold KindErrD at he; subst he; have hs6 := Step.of hb; clear hb)
              refine hK.out _ _ ?_ (fun hHeld => ?_)
              · (try dsimp only); exact keepC
              try simp only [Act.put, List.setIfInBounds_toArray, List.set_cons_zero, List.set_cons_succ]
              first | (refine takeN (i := 8) (N := (some 40)) (v := ?_) rfl rfl (by kernel_rfl) (by kernel_rfl) (by kernel_rfl) (fun _ _ _ h => h) (Or.inl ⟨by rfl, ?_⟩) (by assumption) ?_; rotate_left; focus ((intro w hSw; (try dsimp only at hSw); go_simp); (try with_reducible rfl))) | (refine takeN (i := 8) (N := (some 40)) (v := undef) rfl rfl (by kernel_rfl) (by kernel_rfl) (by kernel_rfl) (fun _ _ _ h => h) (Or.inr ⟨by rfl, rfl⟩) (by assumption) ?_)
              try simp only [Act.put, List.setIfInBounds_toArray, List.set_cons_zero, List.set_cons_succ]
              first | (refine takeN (i := 9) (N := (some 49)) (v := ?_) rfl rfl (by kernel_rfl) (by kernel_rfl) (by kernel_rfl) (fun _ _ _ h => h) (Or.inl ⟨by rfl, ?_⟩) (by assumption) ?_; rotate_left; focus ((intro w hSw; (try dsimp only at hSw); go_simp); (try with_reducible rfl))) | (refine takeN (i := 9) (N := (some 49)) (v := undef) rfl rfl (by kernel_rfl) (by kernel_rfl) (by kernel_rfl) (fun _ _ _ h => h) (Or.inr ⟨by rfl, rfl⟩) (by assumption) ?_)
              try simp only [Act.put, List.setIfInBounds_toArray, List.set_cons_zero, List.set_cons_succ]
              first | (refine takeN (i := 10) (N := (some 50)) (v := ?_) rfl rfl (by kernel_rfl) (by kernel_rfl) (by kernel_rfl) (fun _ _ _ h => h) (Or.inl ⟨by rfl, ?_⟩) (by assumption) ?_; rotate_left; focus ((intro w hSw; (try dsimp only at hSw); go_simp); (try with_reducible rfl))) | (refine takeN (i := 10) (N := (some 50)) (v := undef) rfl rfl (by kernel_rfl) (by kernel_rfl) (by kernel_rfl) (fun _ _ _ h => h) (Or.inr ⟨by rfl, rfl⟩) (by assumption) ?_)
              try simp only [Act.put, List.setIfInBounds_toArray, List.set_cons_zero, List.set_cons_succ]
              first | (refine takeN (i := 11) (N := (some 6)) (v := ?_) rfl rfl (by kernel_rfl) (by kernel_rfl) (by kernel_rfl) (fun _ _ _ h => h) (Or.inl ⟨by rfl, ?_⟩) (by assumption) ?_; rotate_left; focus ((intro w hSw; (try dsimp only at hSw); go_simp); (try with_reducible rfl))) | (refine takeN (i := 11) (N := (some 6)) (v := undef) rfl rfl (by kernel_rfl) (by kernel_rfl) (by kernel_rfl) (fun _ _ _ h => h) (Or.inr ⟨by rfl, rfl⟩) (by assumption) ?_)
              try simp only [Act.put, List.setIfInBounds_toArray, List.set_cons_zero, List.set_cons_succ]
              first | (refine takeN (i := 12) (N := (some 7)) (v := ?_) rfl rfl (by kernel_rfl) (by kernel_rfl) (by kernel_rfl) (fun _ _ _ h => h) (Or.inl ⟨by rfl, ?_⟩) (by assumption) ?_; rotate_left; focus ((intro w hSw; (try dsimp only at hSw); go_simp); (try with_reducible rfl))) | (refine takeN (i := 12) (N := (some 7)) (v := undef) rfl rfl (by kernel_rfl) (by kernel_rfl) (by kernel_rfl) (fun _ _ _ h => h) (Or.inr ⟨by rfl, rfl⟩) (by assumption) ?_)
              try simp only [Act.put, List.setIfInBounds_toArray, List.set_cons_zero, List.set_cons_succ]
              refine wpAnyH_done (by kernel_rfl) ?_ _
              clear t0 t1 t2 t3 t4
              go_wp2
              · go_ret
                exact ⟨ret_int (by rw [HC.out, ← HA2.out, chks_err hlt2 (by simpa using (by assumption : ((chkD ks ch[j]).snd != 0) = true))]), hst2.out.trans (hHeld.1.out.mono hst2.out.size)⟩
              · refine ⟨⟨j + 1, by omega, by go_num, hst2.out.trans (hHeld.1.out.mono hst2.out.size), ⟨(hHeld.1.out.block _ (blk_lt hbk2.out)).trans hbk2.out⟩, ?_⟩, by simp [intOf]; omega⟩
                rw [← HA2.out, chks_go hlt2 (by simpa using (by assumption : ((chkD ks ch[j]).snd != 0) = false)) (.inl (by assumption))]
              · go_ret
                exact ⟨ret_int (by rw [HC.out, ← HA2.out, chks_kind hlt2 (by simpa using (by assumption : ((chkD ks ch[j]).snd != 0) = false)) (by simp_all)]), hst2.out.trans (hHeld.1.out.mono hst2.out.size)⟩
              · refine ⟨⟨j + 1, by omega, by go_num, hst2.out.trans (hHeld.1.out.mono hst2.out.size), ⟨(hHeld.1.out.block _ (blk_lt hbk2.out)).trans hbk2.out⟩, ?_⟩, by simp [intOf]; omega⟩
                rw [← HA2.out, chks_go hlt2 (by simpa using (by assumption : ((chkD ks ch[j]).snd != 0) = false)) (by simp_all)]
            · go_wp2
              go_ret
              refine ⟨ret_int ?_, Bel.out⟩
              have h := HA2.out
              rw [List.drop_eq_nil_of_le (by omega)] at h
              rw [HC.out, ← h]
              rfl
set_option maxRecDepth 20000 in
set_option maxHeartbeats 2000000 in
theorem rtbl_calls (tn : ByteArray) (A1 : Option Addr) (c1 : Nat) (cols : List Cl) (A2 : Option Addr) (c2 : Nat) (key : List Int) (A3 : Option Addr) (c3 : Nat) (fg : List Fg) (A4 : Option Addr) (c4 : Nat) (ch : List Ex) (w : World) (h : Tc w A1 c1 cols A2 c2 key A3 c3 fg A4 c4 ch) (hF : Fits cols key fg ch) :
    Calls Try.prog 12 #[.agg #[.string tn, .slice A1 cols.length c1, .slice A2 key.length c2, .slice A3 fg.length c3, .slice A4 ch.length c4]] w fun e w' => e = .returned (.int .i64 (tblErr tn cols key fg ch)) ∧ Below w.heap.size w w' := by
  have hu := Try.underlying27
  obtain ⟨ce, hce⟩ : ∃ ce, colsErr cols = ce := ⟨_, rfl⟩
  obtain ⟨ke, hke⟩ : ∃ ke, keyErr cols key = ke := ⟨_, rfl⟩
  obtain ⟨co, hco⟩ : ∃ co, consErr cols fg ch = co := ⟨_, rfl⟩
  have HD := Lib.hid (show tblErr tn cols key fg ch = if nameOk tn = false then 1 else if ce = 0 then (if ke = 0 then co else ke) else ce by unfold tblErr; rw [hce, hke, hco])
  have hl := hF.hcols
  have HCE := Lib.hid hce; have HKE := Lib.hid hke; have HCO := Lib.hid hco
  have HNN := Lib.hid hF.hnodes
  clear hce hke hco
  go_enter Try.func12, Try.ntmps12
  go_wp2_with (first
    | (go_at_call 24; (with_reducible refine (rname_calls _ _).mono ?_); rintro e w1 ⟨rfl, hb⟩; have hs1 := Step.of hb; clear hb; have hc1 := hs1.cell; have hf1 := hs1.frozen; have hd1 := hs1.add)
    | (go_at_call 32; (with_reducible refine (rcolumns_calls _ _ _ cols _ _ key _ _ fg _ _ ch _ ?g1).mono ?_); (case g1 => exact h.up); rintro e w2 ⟨rfl, hb⟩; rw [HCE.out]; have hs2 := Step.of hb; clear hb; have hc2 := hs2.cell)
    | (go_at_call 33; (with_reducible refine (rkey_calls _ _ _ cols _ _ key _ _ fg _ _ ch _ ?g1).mono ?_); (case g1 => exact h.up); rintro e w3 ⟨rfl, hb⟩; rw [HKE.out]; have hs3 := Step.of hb; clear hb; have hc3 := hs3.cell)
    | (go_at_call 34; (with_reducible refine (rcons_calls _ _ _ cols _ _ key _ _ fg _ _ ch _ ?g1 hl HNN.out).mono ?_); (case g1 => exact h.up); rintro e w4 ⟨rfl, hb⟩; rw [HCO.out]; have hs4 := Step.of hb; clear hb; have hc4 := hs4.cell))
  all_goals
    go_ret
    refine ⟨ret_int ?_, Bel.out⟩
    rw [HD.out]
    simp_all
end Go.Proofs.Ytjceeengnnjipaa.PAll
