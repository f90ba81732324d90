/- Layer 13: the checks of a definition (the program's). -/
import Derived.Test.YtjceeengnnjipaaH13a
namespace Go.Proofs.Ytjceeengnnjipaa.PAll
open Go.RowKit Go.Proofs.Ytjceeengnnjipaa.Kit Go.Proofs.Ytjceeengnnjipaa.L13 Go.Proofs.YtjceeengnnjipaaW.PrintWords
set_option linter.unusedVariables false
set_option linter.unusedSimpArgs false
attribute [local go_sem] allocCell allocFrozen setFar setFrozen allocAny allocAdd
attribute [local go_sem ↓] Go.wp_at_zero Go.wp_at_succ

theorem chks_go {kinds : List Int} {ch : List Ex} {k : Nat} (h : k < ch.length) (h0 : (chkD kinds ch[k]).2 = 0) (h1 : (chkD kinds ch[k]).1 = 3 ∨ (chkD kinds ch[k]).1 = 0) : chksFrom kinds (ch.drop k) = chksFrom kinds (ch.drop (k + 1)) := by
  rw [List.drop_eq_getElem_cons h, chksFrom, if_pos h0, if_pos h1]
theorem chks_kind {kinds : List Int} {ch : List Ex} {k : Nat} (h : k < ch.length) (h0 : (chkD kinds ch[k]).2 = 0) (h1 : ¬ ((chkD kinds ch[k]).1 = 3 ∨ (chkD kinds ch[k]).1 = 0)) : chksFrom kinds (ch.drop k) = 7 := by
  rw [List.drop_eq_getElem_cons h, chksFrom, if_pos h0, if_neg h1]
theorem chks_err {kinds : List Int} {ch : List Ex} {k : Nat} (h : k < ch.length) (h0 : ¬ (chkD kinds ch[k]).2 = 0) : chksFrom kinds (ch.drop k) = (chkD kinds ch[k]).2 := by
  rw [List.drop_eq_getElem_cons h, chksFrom, if_neg h0]
set_option maxRecDepth 20000 in
set_option maxHeartbeats 4000000 in
theorem checkChecks_calls (tn : ByteArray) (A1 : Option Addr) (c1 : Nat) (cols : List Cl) (A2 : Option Addr) (c2 : Nat) (key : List Int) (A3 : Option Addr) (c3 : Nat) (fg : List Fg) (A4 : Option Addr) (c4 : Nat) (ch : List Ex) (w : World) (h : Tc w A1 c1 cols A2 c2 key A3 c3 fg A4 c4 ch) (hl : cols.length < 17592186044416) (hn : ∀ x ∈ ch, nodes x ≤ 1048576) :
    Calls Try.prog 39 #[.agg #[.string tn, .slice A1 cols.length c1, .slice A2 key.length c2, .slice A3 fg.length c3, .slice A4 ch.length c4]] w fun e w' => e = .returned (.int .i64 (chksErr (cols.map (·.f1)) ch)) ∧ Below w.heap.size w w' := by
  have hu := Try.underlying27
  have hu1 := Try.underlying70
  have hm4 := h.r4.2.1
  obtain ⟨ks, hks⟩ : ∃ ks, cols.map (·.f1) = ks := ⟨_, rfl⟩
  have HX : Hid (∀ W, Bel w W → Calls Try.prog 65 #[.agg #[.string tn, .slice A1 cols.length c1, .slice A2 key.length c2, .slice A3 fg.length c3, .slice A4 ch.length c4]] W fun e w' => ∃ v, e = .returned v ∧ Kd.R (Kd.int .i64) 3 w' W.heap.size (fun _ => True) v ks ∧ Below W.heap.size W w') := by
    intro W b
    rw [← hks]
    exact kinds_calls tn A1 c1 cols A2 c2 key A3 c3 fg A4 c4 ch W h.up hl
  have HN := Lib.hid hn; clear hn
  rw [hks]
  clear hks
  go_enter Try.func39, Try.ntmps39
  go_wp2
  · go_ret
    exact ⟨ret_int (by unfold chksErr; rw [if_pos (by omega)]), Bel.out⟩
  · have he0 : chksErr ks ch = chksFrom ks ch := by unfold chksErr; rw [if_neg (by omega)]
    have HE := Lib.hid he0; clear he0
    go_loopw [14] (fun i wr => ∃ (k : Nat), k ≤ ch.length ∧ i = .int .i64 k ∧ Below w.heap.size w wr ∧ Blk wr w.heap.size (.cells #[.string tn, .slice A1 cols.length c1, .slice A2 key.length c2, .slice A3 fg.length c3, .slice A4 ch.length c4] 27) ∧ chksFrom ks (ch.drop k) = chksErr ks ch) (fun i wr => ch.length - (intOf i).toNat)
    case atStart => exact ⟨0, by omega, rfl, Bel.out, inferInstance, HE.out.symm⟩
    case round =>
      obtain ⟨k, hk, rfl, hbw, hbk, hall⟩ := hrel
      have hst : Bel w wr := ⟨hbw⟩
      have HA := Lib.hid hall; clear hall hbw
      by_cases hlt : k < ch.length
      · obtain ⟨ad, B, cB, e, hi, x0, x1, x2, x3, x4, x5, x6, hl2, hr⟩ := ex_at h.r4 hst k hlt
        subst e
        have HRx := Rc.mk hr hl2
        have hnx := HN.out ch[k] (List.getElem_mem _)
        go_wp2_with fail
        generalize hW : wr.alloc (.cells #[.int .i64 ch[k].f0, .int .i64 ch[k].f1, .int .i64 ch[k].f2.f0, .int .i64 ch[k].f2.f1, .string ch[k].f2.f2, .string ch[k].f3, .slice B ch[k].f4.length cB] 70) = W3
        have i0 : Bel w W3 := by subst hW; infer_instance
        have i1 : Blk W3 w.heap.size (.cells #[.string tn, .slice A1 cols.length c1, .slice A2 key.length c2, .slice A3 fg.length c3, .slice (some ad) ch.length c4] 27) := by subst hW; infer_instance
        have i2 : Blk W3 wr.heap.size (.cells #[.int .i64 ch[k].f0, .int .i64 ch[k].f1, .int .i64 ch[k].f2.f0, .int .i64 ch[k].f2.f1, .string ch[k].f2.f2, .string ch[k].f3, .slice B ch[k].f4.length cB] 70) := by subst hW; infer_instance
        clear hW
        obtain ⟨t0, t1, t2, t3, t4⟩ := blk5T i1
        obtain ⟨u0, u1, u2, u3, u4, u5, u6⟩ := blk7 i2
        go_region_held3 (fun w' => Bel W3 w' ∧ ∀ (b o : Nat) [InHeap W3 b], w'.cell? ⟨b, o, none⟩ = W3.cell? ⟨b, o, none⟩) (exact keepB)
          (first
          | (go_at_call 65; with_reducible refine (HX.out _ (by infer_instance)).mono ?_; rintro e w4 ⟨v4, rfl, hR, hb⟩; have hs4 := Step.of hb; obtain ⟨A5, c5, rfl, hl5, hC5⟩ := Kd.R_reads hR; have HC5 := Lib.hid (Rc.mk hC5 hl5); clear hb hR hC5 hl5)
          | (go_at_call 64; with_reducible refine (Check_calls _ _ _ _ _ _ _ _ ch[k].f4 _ _ ks _ ?g1 ?g2 ?g3).mono ?_; (case g1 => rw [exV_eta]; exact hnx); (case g2 => exact HRx.up); (case g3 => exact HC5.out.up); rintro e w6 ⟨he, hb⟩; rw [exV_eta] at he; unfold KindErrD at he; subst he; have hs6 := Step.of hb; clear hb))
        rename_i hH
        have hB6 : Bel w w6 := ⟨i0.out.trans (hH.1.out.mono i0.out.size)⟩
        have hbk6 : Blk w6 w.heap.size (.cells #[.string tn, .slice A1 cols.length c1, .slice A2 key.length c2, .slice A3 fg.length c3, .slice (some ad) ch.length c4] 27) := ⟨(hH.1.out.block _ (blk_lt i1.out)).trans i1.out⟩
        clear t0 t1 t2 t3 t4 u0 u1 u2 u3 u4 u5 u6 hH i0 i1 i2
        go_wp2
        · go_ret
          exact ⟨ret_int (by rw [← HA.out, chks_err hlt (by simpa using (by assumption : ((chkD ks ch[k]).snd != 0) = true))]), Bel.out⟩
        · refine ⟨⟨k + 1, by omega, by go_num, Bel.out, hbk6, ?_⟩, by simp [intOf]; omega⟩
          rw [← HA.out, chks_go hlt (by simpa using (by assumption : ((chkD ks ch[k]).snd != 0) = false)) (.inl (by assumption))]
        · go_ret
          exact ⟨ret_int (by rw [← HA.out, chks_kind hlt (by simpa using (by assumption : ((chkD ks ch[k]).snd != 0) = false)) (by simp_all)]), Bel.out⟩
        · refine ⟨⟨k + 1, by omega, by go_num, Bel.out, hbk6, ?_⟩, by simp [intOf]; omega⟩
          rw [← HA.out, chks_go hlt (by simpa using (by assumption : ((chkD ks ch[k]).snd != 0) = false)) (by simp_all)]
      · go_wp2
        go_ret
        refine ⟨ret_int ?_, Bel.out⟩
        have h := HA.out
        rw [List.drop_eq_nil_of_le (by omega)] at h
        exact h
end Go.Proofs.Ytjceeengnnjipaa.PAll
