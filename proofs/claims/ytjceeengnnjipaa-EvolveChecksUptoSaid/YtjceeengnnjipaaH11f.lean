/- The check of an expression: the reference's; both checks of an expression that may be too deep. -/
import Derived.Test.YtjceeengnnjipaaH11e
namespace Go.Proofs.Ytjceeengnnjipaa.PAll
open Go.RowKit Go.Proofs.Ytjceeengnnjipaa.Kit Go.Proofs.Ytjceeengnnjipaa.L13 Go.Proofs.YtjceeengnnjipaaW.PrintWords
set_option linter.unusedVariables false
set_option linter.unusedSimpArgs false
attribute [local go_sem] allocCell allocFrozen setFar setFrozen allocAny allocAdd

set_option maxRecDepth 20000 in
theorem rresult_col (m : Nat) (a b : Int) (c nm : ByteArray) (A0 : Option Addr) (len cp0 : Nat) (A : Option Addr) (n1 cp : Nat) (B : Option Addr) (cq : Nat) (kinds : List Int) (w : World) (hk : Rc (Kd.int .i64) w B cq kinds) (h : m < kinds.length) :
    Calls Try.prog 86 #[.agg #[.int .i64 2, .int .i64 m, .int .i64 a, .int .i64 b, .string c, .string nm, .slice A0 len cp0], .slice A n1 cp, .slice B kinds.length cq] w fun e w' => e = .returned (.tuple #[.int .i64 kinds[m], .bool true]) ∧ Below w.heap.size w w' := by
  have hu := Try.underlying70
  have hm := hk.len
  obtain ⟨ad, rfl, hi, x0⟩ := int_at hk.r (belRefl w) m h
  go_enter Try.func86, Try.ntmps86
  go_wp2
  go_ret2
  exact ⟨rfl, Bel.out⟩
set_option maxRecDepth 20000 in
set_option maxHeartbeats 4000000 in
theorem rcheck_col (n a b : Int) (c nm : ByteArray) (A : Option Addr) (cp : Nat) (l : List Ex) (B : Option Addr) (cq : Nat) (kinds : List Int) (w : World) (hl : l.length < 1099511627776) (hk : Rc (Kd.int .i64) w B cq kinds) :
    Calls Try.prog 79 #[.agg #[.int .i64 2, .int .i64 n, .int .i64 a, .int .i64 b, .string c, .string nm, .slice A l.length cp], .slice B kinds.length cq] w fun e w' => e = KindErr kinds (exV 2 n a b c nm l) ∧ Below w.heap.size w w' := by
  have hu := Try.underlying70
  have hkn : (cnts 2 l.length).2 = true := rfl
  have hm := hk.len
  have HC := Lib.hid (chk_mk kinds 2 n ⟨a, b, c⟩ nm l)
  have hrc : arity 2 = (0, 0) := rfl
  obtain ⟨f, hf⟩ : ∃ f, formedOk 2 n ⟨a, b, c⟩ nm l.length = f := ⟨_, rfl⟩
  have HF := Lib.hid hf; clear hf
  by_cases hin : 0 ≤ n ∧ n < kinds.length
  · obtain ⟨h0, h1⟩ := hin
    obtain ⟨m, rfl⟩ : ∃ m : Nat, n = m := ⟨n.toNat, by omega⟩
    go_enter Try.func79, Try.ntmps79
    go_wp2_with (first
      | (go_at_call 84; (with_reducible refine (arity_calls _ _).mono ?_); rintro e w1 ⟨rfl, hb⟩; rw [hrc]; have hs1 := Step.of hb; clear hb; have hc1 := hs1.cell; have hd1 := hs1.add)
      | (go_at_call 85; (with_reducible refine (rformed_calls _ _ _ _ _ _ _ _ _ _ hl).mono ?_); rintro e w2 ⟨rfl, hb⟩; rw [HF.out]; have hs2 := Step.of hb; clear hb; have hc2 := hs2.cell; have hd2 := hs2.add))
    · go_ret2
      exact ⟨ke (p := 0) (q := 8) (by rw [HC.out, if_neg (by rw [hkn]; decide), if_pos (by rw [HF.out]; simpa using (by assumption : (!f) = true))]), Bel.out⟩
    · have HB0 : Bel w w2 := inferInstance
      have hbk : Blk w2 w.heap.size (.cells #[.int .i64 2, .int .i64 m, .int .i64 a, .int .i64 b, .string c, .string nm, .slice A l.length cp] 70) := inferInstance
      have hfm : formedOk 2 m ⟨a, b, c⟩ nm l.length = true := by rw [HF.out]; simpa using (by assumption : (!f) = false)
      have hl0 : l.length = 0 := by have := formed_cnts hfm; simpa [cnts] using this
      have HL := Lib.hid hl0
      have HE := Lib.hid (show chk kinds (exV 2 m a b c nm l) = (kinds[m], 0) by
        rw [HC.out, if_neg (by rw [hkn]; decide), if_neg (by rw [HF.out]; simpa using (by assumption : (!f) = false)), if_pos (by first | rfl | trivial), if_neg (by omega), rd_at (by omega)])
      rw [hl0] at hbk ⊢
      clear hfm hl0
      clear hc1 hd1 hc2 hd2 hs1 hs2
      go_loopw [8, 9] (fun v i wr => i = .int .i64 0 ∧ Below w2.heap.size w2 wr ∧ ∃ A c, v = .slice A 0 c) (fun _ i wr => 0)
      case atStart => exact ⟨rfl, Bel.out, _, _, rfl⟩
      case round =>
        obtain ⟨rfl, hbw, A2, c2, rfl⟩ := hrel
        have hst : Step w2 wr := ⟨hbw⟩
        clear hbw
        have hbk2 : Blk wr w.heap.size (.cells #[.int .i64 2, .int .i64 m, .int .i64 a, .int .i64 b, .string c, .string nm, .slice A 0 cp] 70) := inferInstance
        obtain ⟨t0, t1, t2, t3, t4, t5, t6⟩ := blk7 hbk2
        go_wp2_with (go_at_call 86; (with_reducible refine (rresult_col m _ _ _ _ _ _ _ _ _ _ _ _ kinds _ ?g1 ?g2).mono ?_); (case g1 => exact hk.up); (case g2 => omega); rintro e w3 ⟨rfl, hb⟩; have hs3 := Step.of hb; clear hb)
        go_ret2
        exact ⟨ke (p := kinds[m]) (q := 0) HE.out, Bel.out⟩
  · go_enter Try.func79, Try.ntmps79
    go_wp2_with (first
      | (go_at_call 84; (with_reducible refine (arity_calls _ _).mono ?_); rintro e w1 ⟨rfl, hb⟩; rw [hrc]; have hs1 := Step.of hb; clear hb; have hc1 := hs1.cell; have hd1 := hs1.add)
      | (go_at_call 85; (with_reducible refine (rformed_calls _ _ _ _ _ _ _ _ _ _ hl).mono ?_); rintro e w2 ⟨rfl, hb⟩; rw [HF.out]; have hs2 := Step.of hb; clear hb; have hc2 := hs2.cell; have hd2 := hs2.add))
    · go_ret2
      exact ⟨ke (p := 0) (q := 8) (by rw [HC.out, if_neg (by rw [hkn]; decide), if_pos (by rw [HF.out]; simpa using (by assumption : (!f) = true))]), Bel.out⟩
    all_goals
      go_ret2
      refine ⟨ke (p := 0) (q := 13) ?_, Bel.out⟩
      rw [HC.out, if_neg (by rw [hkn]; decide), if_neg (by rw [HF.out]; simpa using (by assumption : (!f) = false)), if_pos (by first | rfl | trivial), if_pos (by omega)]
set_option maxRecDepth 20000 in
set_option maxHeartbeats 4000000 in
theorem rcheck_calls : ∀ (N : Nat) (op n a b : Int) (c nm : ByteArray) (A : Option Addr) (cp : Nat) (l : List Ex) (B : Option Addr) (cq : Nat) (kinds : List Int) (w : World), nodes (exV op n a b c nm l) ≤ N → N ≤ 1048576 → Rc k70 w A cp l → Rc (Kd.int .i64) w B cq kinds →
    Calls Try.prog 79 #[.agg #[.int .i64 op, .int .i64 n, .int .i64 a, .int .i64 b, .string c, .string nm, .slice A l.length cp], .slice B kinds.length cq] w fun e w' => e = KindErr kinds (exV op n a b c nm l) ∧ Below w.heap.size w w' := by
  intro N
  induction N with
  | zero => intro op n a b c nm A cp l B cq kinds w h; have := nodes_pos (exV op n a b c nm l); omega
  | succ N ih =>
    intro op n a b c nm A cp l B cq kinds w hn hN h hk
    by_cases h2 : op = 2
    · subst h2; exact rcheck_col n a b c nm A cp l B cq kinds w (by simp only [nodes] at hn; have := nodesL_len l; omega) hk
    simp only [nodes] at hn
    have hlen := nodesL_len l
    have hl := h.len
    have hm := hk.len
    have hu := Try.underlying70
    have hu2 := Try.underlying23
    have h2b : (op == 2) = false := beq_eq_false_iff_ne.2 h2
    obtain ⟨kn, hkn⟩ : ∃ kn, (cnts op l.length).2 = kn := ⟨_, rfl⟩
    obtain ⟨f, hf⟩ : ∃ f, formedOk op n ⟨a, b, c⟩ nm l.length = f := ⟨_, rfl⟩
    have hac := (arity_cnts op l.length (by omega)).2
    rw [hkn] at hac
    obtain ⟨ar, har⟩ : ∃ ar, arity op = ar := ⟨_, rfl⟩
    rw [har] at hac
    have HAC := Lib.hid hac; clear hac
    have HAR := Lib.hid har; clear har
    have HK := Lib.hid hkn
    have HF := Lib.hid hf
    have HC := Lib.hid (chk_mk kinds op n ⟨a, b, c⟩ nm l)
    have HD := Lib.hid (chk_fin kinds op n ⟨a, b, c⟩ nm l)
    clear hkn hf
    have H2 := Lib.hid h2; clear h2
    go_enter Try.func79, Try.ntmps79
    go_wp2_with (first
      | (go_at_call 84; (with_reducible refine (arity_calls _ _).mono ?_); rintro e w1 ⟨rfl, hb⟩; rw [HAR.out]; have hs1 := Step.of hb; clear hb; have hc1 := hs1.cell; have hd1 := hs1.add)
      | (go_at_call 85; (with_reducible refine (rformed_calls _ _ _ _ _ _ _ _ _ _ (by omega)).mono ?_); rintro e w2 ⟨rfl, hb⟩; rw [HF.out]; have hs2 := Step.of hb; clear hb; have hc2 := hs2.cell; have hd2 := hs2.add))
    · go_ret2
      exact ⟨ke (p := 0) (q := 7) (by rw [HC.out, if_pos (by rw [HK.out, HAC.out]; simpa using (by assumption : ar.1 < 0))]), Bel.out⟩
    · go_ret2
      exact ⟨ke (p := 0) (q := 8) (by rw [HC.out, if_neg (by rw [HK.out, HAC.out]; simpa using (by assumption : 0 ≤ ar.1)), if_pos (by rw [HF.out]; simpa using (by assumption : (!f) = true))]), Bel.out⟩
    have HB0 : Bel w w2 := inferInstance
    have hbk : Blk w2 w.heap.size (.cells #[.int .i64 op, .int .i64 n, .int .i64 a, .int .i64 b, .string c, .string nm, .slice A l.length cp] 70) := inferInstance
    have HE := Lib.hid (HD.out (by rw [HK.out, HAC.out]; simpa using (by assumption : 0 ≤ ar.1)) (by rw [HF.out]; simpa using (by assumption : (!f) = false)) H2.out)
    have HP := Lib.hid (show (cnts op l.length).1 = true from formed_cnts (by rw [HF.out]; simpa using (by assumption : (!f) = false)))
    have HN := Lib.hid (show (cnts op l.length).2 = true from (by rw [HK.out, HAC.out]; simpa using (by assumption : 0 ≤ ar.1)))
    clear hc1 hd1 hc2 hd2 hs1 hs2
    rw [(by assumption : (!f) = false)]
    go_loopw [8, 9] (fun v i wr => ∃ (k : Nat) (acc : List Int), k ≤ l.length ∧ i = .int .i64 k ∧ acc.length = k ∧ Below w2.heap.size w2 wr ∧ Kd.R (Kd.int .i64) 3 wr w2.heap.size (fun _ => True) v acc ∧ fin op a acc (chkL kinds (l.drop k)) = chk kinds (exV op n a b c nm l)) (fun _ i wr => l.length - (intOf i).toNat)
    case atStart => exact ⟨0, [], by omega, rfl, rfl, Bel.out, by first | exact Kd.R_nil _ _ _ _ _ | exact R_litA (d := Kd.int .i64) (e := 3) (okp := fun _ => False) (inner := []) (Reps.none _ _) HSize.out (Nat.le_refl _) (by simp), HE.out.symm⟩
    case round =>
      obtain ⟨k, acc, hk2, rfl, hacc, hbw, hR, hall⟩ := hrel
      have hst : Step w2 wr := ⟨hbw⟩
      have HA := Lib.hid hall; have HR := Lib.hid hR; have HL := Lib.hid hacc; clear hall hbw hR hacc
      have hbk2 : Blk wr w.heap.size (.cells #[.int .i64 op, .int .i64 n, .int .i64 a, .int .i64 b, .string c, .string nm, .slice A l.length cp] 70) := inferInstance
      obtain ⟨t0, t1, t2, t3, t4, t5, t6⟩ := blk7 hbk2
      by_cases hlt : k < l.length
      · obtain ⟨ad, B2, cB, rfl, hi, x0, x1, x2, x3, x4, x5, x6, hl2, hr⟩ := ex_at h.r (inferInstance : Bel w wr) k hlt
        have hx : nodes l[k] ≤ nodesL l := nodesL_mem l l[k] (List.getElem_mem _)
        have hd : l.drop k = l[k] :: l.drop (k + 1) := List.drop_eq_getElem_cons hlt
        have HDr := Lib.hid hd; clear hd
        have HR2 := Rc.mk hr hl2
        go_wp2_with (first
          | (go_at_call 79; (with_reducible refine (ih _ _ _ _ _ _ _ _ l[k].f4 _ _ kinds _ ?g1 ?g2 ?g3 ?g4).mono ?_); (case g1 => rw [exV_eta]; omega); (case g2 => omega); (case g3 => exact HR2.up); (case g4 => exact hk.up); rintro e w3 ⟨he, hb⟩; rw [exV_eta] at he; unfold KindErr at he; subst he; have hs3 := Step.of hb; clear hb; have hc3 := hs3.cell; have hd3 := hs3.add)
          | (at_builtin; refine Kd.R_append (Kd.int .i64) (w0 := w2) w2.heap.size rfl (.tmp 61) (.tmp 63) 23 3 (.int .i64 0) 8 rfl hu2 info3 rfl (by decide) (by decide) _ acc (chk kinds l[k]).1 [.int .i64 (chk kinds l[k]).1] (fun _ => True) (fun _ => False) rfl rfl rfl (fun _ h => h.elim) (fun _ _ => trivial) (Rdown HR.out) ?c1 ?c2 ?c3 ?_; (case c1 => exact Bel.out); (case c2 => exact Below.size Bel.out); (case c3 => rw [HL.out]; omega); intro v1 w4 hR4 hb4 _ _; have HR4 := Lib.hid hR4; have HB4 := Lib.hid hb4; clear hR4 hb4))
        · go_ret2
          exact ⟨ke (p := 0) (q := (chk kinds l[k]).2) (by rw [← HA.out, HDr.out, fin_bad kinds op a acc _ _ (by simpa using (by assumption : ((chk kinds l[k]).snd != 0) = true))]), Bel.out⟩
        · have hne : (chk kinds l[k]).2 = 0 := by simpa using (by assumption : ((chk kinds l[k]).snd != 0) = false)
          exact ⟨⟨k + 1, acc ++ [(chk kinds l[k]).1], by omega, by go_num, by simp [HL.out], HB4.out, HR4.out, by rw [← HA.out, HDr.out, fin_step kinds op a acc _ _ hne]⟩, by simp [intOf]; omega⟩
      · obtain rfl : k = l.length := by omega
        obtain ⟨A2, c2, rfl, hl2, hC2⟩ := Kd.R_reads HR.out
        have HQ := Lib.hid (Rc.mk hC2 hl2); clear hl2 hC2
        go_wp2_with (go_at_call 86; (with_reducible refine (rresult_calls _ _ _ _ _ _ _ _ _ _ _ acc _ _ _ _ ?g1 ?g3 ?g4 H2.out).mono ?_); (case g1 => exact HQ.out.up); (case g3 => rw [HL.out]; exact HP.out); (case g4 => rw [HL.out]; exact HN.out); rintro e w3 ⟨rfl, hb⟩; have hs3 := Step.of hb; clear hb)
        all_goals
          go_ret2
          have hA := HA.out
          rw [List.drop_eq_nil_of_le (Nat.le_refl _), chkL, fin_all] at hA
        · exact ⟨ke (p := 0) (q := 7) (by rw [← hA, if_neg (by simpa using (by assumption : (!(resK op a acc).snd) = true))]), Bel.out⟩
        · exact ⟨ke (p := (resK op a acc).1) (q := 0) (by rw [← hA, if_pos (by simpa using (by assumption : (!(resK op a acc).snd) = false))]), Bel.out⟩
end Go.Proofs.Ytjceeengnnjipaa.PAll
