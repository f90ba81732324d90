/- Depth, Check (both), and the reference's insert. -/
import Derived.Test.YtjceeengnnjipaaH11f
namespace Go.Proofs.Ytjceeengnnjipaa.PAll
open Go.RowKit Go.Proofs.Ytjceeengnnjipaa.Kit Go.Proofs.Ytjceeengnnjipaa.L13 Go.Proofs.YtjceeengnnjipaaW.PrintWords
set_option linter.unusedVariables false
set_option linter.unusedSimpArgs false
attribute [local go_sem] allocCell allocFrozen setFar setFrozen allocAny allocAdd

set_option maxRecDepth 20000 in
theorem Depth_calls (op n a b : Int) (c nm : ByteArray) (A : Option Addr) (cp : Nat) (l : List Ex) (w : World) (hn : nodes (exV op n a b c nm l) ≤ 1048576) (h : Rc k70 w A cp l) :
    Calls Try.prog 80 #[.agg #[.int .i64 op, .int .i64 n, .int .i64 a, .int .i64 b, .string c, .string nm, .slice A l.length cp]] w fun e w' => e = .returned (.int .i64 (min (dep (exV op n a b c nm l) : Int) 25)) ∧ Below w.heap.size w w' := by
  have hu := Try.underlying70
  go_enter Try.func80, Try.ntmps80
  go_wp2_with (go_at_call 87; (with_reducible refine (depth_calls _ _ _ _ _ _ _ _ _ l 25 _ hn (Nat.le_refl _) (by decide) (by decide) ?g1).mono ?_); (case g1 => exact h.up); rintro e w1 ⟨rfl, hb⟩; have hs1 := Step.of hb; clear hb)
  go_ret
  exact ⟨rfl, Bel.out⟩
def KindErrD (kinds : List Int) (x : Ex) : Ending := .returned (.tuple #[.int .i64 (chkD kinds x).1, .int .i64 (chkD kinds x).2])
set_option maxRecDepth 20000 in
theorem Check_calls (op n a b : Int) (c nm : ByteArray) (A : Option Addr) (cp : Nat) (l : List Ex) (B : Option Addr) (cq : Nat) (kinds : List Int) (w : World) (hn : nodes (exV op n a b c nm l) ≤ 1048576) (h : Rc k70 w A cp l) (hk : Rc (Kd.int .i64) w B cq kinds) :
    Calls Try.prog 64 #[.agg #[.int .i64 op, .int .i64 n, .int .i64 a, .int .i64 b, .string c, .string nm, .slice A l.length cp], .slice B kinds.length cq] w fun e w' => e = KindErrD kinds (exV op n a b c nm l) ∧ Below w.heap.size w w' := by
  have hu := Try.underlying70
  go_enter Try.func64, Try.ntmps64
  go_wp2_with (first
    | (go_at_call 80; (with_reducible refine (Depth_calls _ _ _ _ _ _ _ _ l _ hn ?g1).mono ?_); (case g1 => exact h.up); rintro e w1 ⟨rfl, hb⟩; have hs1 := Step.of hb; clear hb; have hc1 := hs1.cell; have hd1 := hs1.add)
    | (go_at_call 81; (with_reducible refine (check_calls _ _ _ _ _ _ _ _ _ l _ _ kinds _ hn (Nat.le_refl _) ?g1 ?g2).mono ?_); (case g1 => exact h.up); (case g2 => exact hk.up); rintro e w2 ⟨he, hb⟩; unfold KindErr at he; subst he; have hs2 := Step.of hb; clear hb))
  all_goals
    go_ret2
    refine ⟨?_, Bel.out⟩
    unfold KindErrD chkD
  · rw [if_pos (by omega)]; rfl
  · rw [if_neg (by omega)]; rfl
set_option maxRecDepth 20000 in
theorem rCheck_calls (op n a b : Int) (c nm : ByteArray) (A : Option Addr) (cp : Nat) (l : List Ex) (B : Option Addr) (cq : Nat) (kinds : List Int) (w : World) (hn : nodes (exV op n a b c nm l) ≤ 1048576) (h : Rc k70 w A cp l) (hk : Rc (Kd.int .i64) w B cq kinds) :
    Calls Try.prog 60 #[.agg #[.int .i64 op, .int .i64 n, .int .i64 a, .int .i64 b, .string c, .string nm, .slice A l.length cp], .slice B kinds.length cq] w fun e w' => e = KindErrD kinds (exV op n a b c nm l) ∧ Below w.heap.size w w' := by
  have hu := Try.underlying70
  have hdn := dep_nodes _ (exV op n a b c nm l) (Nat.le_refl _)
  go_enter Try.func60, Try.ntmps60
  go_wp2_with (first
    | (go_at_call 78; (with_reducible refine (rdepth_calls _ _ _ _ _ _ _ _ _ l _ hn (Nat.le_refl _) ?g1).mono ?_); (case g1 => exact h.up); rintro e w1 ⟨rfl, hb⟩; have hs1 := Step.of hb; clear hb; have hc1 := hs1.cell; have hd1 := hs1.add)
    | (go_at_call 79; (with_reducible refine (rcheck_calls _ _ _ _ _ _ _ _ _ l _ _ kinds _ hn (Nat.le_refl _) ?g1 ?g2).mono ?_); (case g1 => exact h.up); (case g2 => exact hk.up); rintro e w2 ⟨he, hb⟩; unfold KindErr at he; subst he; have hs2 := Step.of hb; clear hb))
  all_goals
    go_ret2
    refine ⟨?_, Bel.out⟩
    unfold KindErrD chkD
  · rw [if_pos (by omega)]; rfl
  · rw [if_neg (by omega)]; rfl
def Ins1 (l acc : List Int) (k : Nat) : Prop := ∀ x, (x ∈ acc ∨ x ∈ l.drop k) ↔ x ∈ l
def Ins2 (l acc : List Int) (c : Int) (k : Nat) : Prop := c ∈ acc ∧ ∀ x, (x ∈ acc ∨ x ∈ l.drop k) ↔ (x = c ∨ x ∈ l)
def InsOk (l r : List Int) (c : Int) : Prop := ∀ x, x ∈ r ↔ (x = c ∨ x ∈ l)
theorem Ins1.step {l acc : List Int} {k : Nat} (h : Ins1 l acc k) (hk : k < l.length) : Ins1 l (acc ++ [l[k]]) (k + 1) := fun x => by
  rw [← h x, List.drop_eq_getElem_cons hk, List.mem_append, List.mem_singleton, List.mem_cons, or_assoc]
theorem Ins1.turn {l acc : List Int} {k : Nat} (c : Int) (h : Ins1 l acc k) : Ins2 l (acc ++ [c]) c k := ⟨by simp, fun x => by
  rw [← h x, List.mem_append, List.mem_singleton]; exact ⟨fun h => h.elim (fun h => h.elim (fun h => .inr (.inl h)) .inl) (fun h => .inr (.inr h)), fun h => h.elim (fun h => .inl (.inr h)) (fun h => h.elim (fun h => .inl (.inl h)) .inr)⟩⟩
theorem Ins2.step {l acc : List Int} {c : Int} {k : Nat} (h : Ins2 l acc c k) (hk : k < l.length) : Ins2 l (acc ++ [l[k]]) c (k + 1) := ⟨List.mem_append_left _ h.1, fun x => by
  rw [← h.2 x, List.drop_eq_getElem_cons hk, List.mem_append, List.mem_singleton, List.mem_cons, or_assoc]⟩
theorem Ins2.pass {l acc : List Int} {c : Int} {k : Nat} (h : Ins2 l acc c k) (hk : k < l.length) (e : l[k] = c) : Ins2 l acc c (k + 1) := ⟨h.1, fun x => by
  rw [← h.2 x, List.drop_eq_getElem_cons hk, List.mem_cons, e]
  exact ⟨fun h => h.elim .inl (fun h => .inr (.inr h)), fun g => g.elim .inl (fun g => g.elim (fun g => .inl (g ▸ h.1)) .inr)⟩⟩
theorem Ins2.done {l acc : List Int} {c : Int} {k : Nat} (h : Ins2 l acc c k) (hk : l.length ≤ k) : InsOk l acc c := fun x => by
  rw [← h.2 x, List.drop_eq_nil_of_le hk]; simp
set_option maxRecDepth 20000 in
set_option maxHeartbeats 4000000 in
theorem insert_calls (A : Option Addr) (cp : Nat) (l : List Int) (c : Int) (w : World) (h : Rc (Kd.int .i64) w A cp l) (hl : l.length ≤ 1048576) :
    Calls Try.prog 72 #[.slice A l.length cp, .int .i64 c] w fun e w' => ∃ v r, e = .returned v ∧ Kd.R (Kd.int .i64) 3 w' w.heap.size (fun _ => True) v r ∧ InsOk l r c ∧ r.length ≤ l.length + 1 ∧ Below w.heap.size w w' := by
  have hu2 := Try.underlying23
  go_enter Try.func72, Try.ntmps72
  go_wp2
  go_loopw [5, 6] (fun v i wr => ∃ (k : Nat) (acc : List Int), k ≤ l.length ∧ i = .int .i64 k ∧ acc.length ≤ k ∧ Below w.heap.size w wr ∧ Kd.R (Kd.int .i64) 3 wr w.heap.size (fun _ => True) v acc ∧ Ins1 l acc k) (fun _ i wr => l.length - (intOf i).toNat)
  case atStart => exact ⟨0, [], by omega, rfl, by simp, Bel.out, R_litA (d := Kd.int .i64) (e := 3) (okp := fun _ => False) (inner := []) (Reps.none _ _) HSize.out (Nat.le_refl _) (by simp), fun x => by simp⟩
  case round =>
    obtain ⟨wo, hwo⟩ : ∃ wo, wo = wr := ⟨_, rfl⟩
    subst hwo
    obtain ⟨k, acc, hk, rfl, hacc, hbw, hR, hI⟩ := hrel
    have hst : Step w wo := ⟨hbw⟩
    have HR := Lib.hid hR; have HI := Lib.hid hI; clear hR hI hbw
    by_cases hlt : k < l.length
    · obtain ⟨ad, rfl, hi, x0⟩ := int_at h.r (inferInstance : Bel w wo) k hlt
      go_wp2_with (first
        | (at_builtin; refine Kd.R_append (Kd.int .i64) (w0 := w) (w).heap.size rfl (.tmp 20) (.tmp 25) 23 3 (.int .i64 0) 8 rfl hu2 info3 rfl (by decide) (by decide) _ (acc) (l[k]) [.int .i64 (l[k])] (fun _ => True) (fun _ => False) rfl rfl rfl (fun _ h => h.elim) (fun _ _ => trivial) (Rdown HR.out) ?c1 ?c2 ?c3 ?_; (case c1 => exact Bel.out); (case c2 => exact Below.size Bel.out); (case c3 => omega); intro v4 w4 hR4 hb4 _ _; have HR4 := Lib.hid hR4; have hst4 : Step (w) w4 := ⟨hb4⟩; clear hR4 hb4)
        | (at_builtin; refine Kd.R_append (Kd.int .i64) (w0 := w) (w).heap.size rfl (.tmp 29) (.tmp 31) 23 3 (.int .i64 0) 8 rfl hu2 info3 rfl (by decide) (by decide) _ (acc) (c) [.int .i64 (c)] (fun _ => True) (fun _ => False) rfl rfl rfl (fun _ h => h.elim) (fun _ _ => trivial) (Rdown HR.out) ?c1 ?c2 ?c3 ?_; (case c1 => exact Bel.out); (case c2 => exact Below.size Bel.out); (case c3 => omega); intro v5 w5 hR5 hb5 _ _; have HR5 := Lib.hid hR5; have hst5 : Step (w) w5 := ⟨hb5⟩; clear hR5 hb5))
      · refine ⟨⟨k + 1, acc ++ [l[k]], by omega, by go_num, by simp; omega, Bel.out, HR4.out, HI.out.step hlt⟩, by simp [intOf]; omega⟩
      · go_loopw [5, 6] (fun v i wr => ∃ (j : Nat) (acc2 : List Int), j ≤ l.length ∧ i = .int .i64 j ∧ acc2.length ≤ j + 1 ∧ Below w.heap.size w wr ∧ Kd.R (Kd.int .i64) 3 wr w.heap.size (fun _ => True) v acc2 ∧ Ins2 l acc2 c j) (fun _ i wr => l.length - (intOf i).toNat)
        case atStart => exact ⟨k, acc ++ [c], by omega, rfl, by simp; omega, Bel.out, HR5.out, HI.out.turn c⟩
        case round =>
          obtain ⟨j, acc2, hj, rfl, hacc2, hbw2, hR2, hI2⟩ := hrel
          have hst2 : Step w wr := ⟨hbw2⟩
          have HR2 := Lib.hid hR2; have HI2 := Lib.hid hI2; clear hR2 hI2 hbw2
          by_cases hlt2 : j < l.length
          · obtain ⟨ad2, e2, hi2, y0⟩ := int_at h.r (inferInstance : Bel w wr) j hlt2
            first | subst e2 | (injection e2 with e2; subst e2)
            go_wp2_with (at_builtin; refine Kd.R_append (Kd.int .i64) (w0 := w) (w).heap.size rfl (.tmp 43) (.tmp 48) 23 3 (.int .i64 0) 8 rfl hu2 info3 rfl (by decide) (by decide) _ (acc2) (l[j]) [.int .i64 (l[j])] (fun _ => True) (fun _ => False) rfl rfl rfl (fun _ h => h.elim) (fun _ _ => trivial) (Rdown HR2.out) ?c1 ?c2 ?c3 ?_; (case c1 => exact Bel.out); (case c2 => exact Below.size Bel.out); (case c3 => omega); intro v6 w6 hR6 hb6 _ _; have HR6 := Lib.hid hR6; have hst6 : Step (w) w6 := ⟨hb6⟩; clear hR6 hb6)
            · exact ⟨⟨j + 1, acc2 ++ [l[j]], by omega, by go_num, by simp; omega, Bel.out, HR6.out, HI2.out.step hlt2⟩, by simp [intOf]; omega⟩
            · have he : l[j] = c := by simpa using (by assumption : (l[j] != c) = false)
              exact ⟨⟨j + 1, acc2, by omega, by go_num, by omega, Bel.out, HR2.out, HI2.out.pass hlt2 he⟩, by simp [intOf]; omega⟩
          · go_wp2
            go_ret
            exact ⟨_, acc2, rfl, HR2.out, HI2.out.done (by omega), by omega, Bel.out⟩
    · go_wp2_with (at_builtin; refine Kd.R_append (Kd.int .i64) (w0 := w) (w).heap.size rfl (.tmp 29) (.tmp 31) 23 3 (.int .i64 0) 8 rfl hu2 info3 rfl (by decide) (by decide) _ (acc) (c) [.int .i64 (c)] (fun _ => True) (fun _ => False) rfl rfl rfl (fun _ h => h.elim) (fun _ _ => trivial) (Rdown HR.out) ?c1 ?c2 ?c3 ?_; (case c1 => exact Bel.out); (case c2 => exact Below.size Bel.out); (case c3 => omega); intro v5 w5 hR5 hb5 _ _; have HR5 := Lib.hid hR5; have hst5 : Step (w) w5 := ⟨hb5⟩; clear hR5 hb5)
      · go_loopw [5, 6] (fun v i wr => ∃ (j : Nat) (acc2 : List Int), j ≤ l.length ∧ i = .int .i64 j ∧ acc2.length ≤ j + 1 ∧ Below w.heap.size w wr ∧ Kd.R (Kd.int .i64) 3 wr w.heap.size (fun _ => True) v acc2 ∧ Ins2 l acc2 c j) (fun _ i wr => l.length - (intOf i).toNat)
        case atStart => exact ⟨k, acc ++ [c], by omega, rfl, by simp; omega, Bel.out, HR5.out, HI.out.turn c⟩
        case round =>
          obtain ⟨j, acc2, hj, rfl, hacc2, hbw2, hR2, hI2⟩ := hrel
          have hst2 : Step w wr := ⟨hbw2⟩
          have HR2 := Lib.hid hR2; have HI2 := Lib.hid hI2; clear hR2 hI2 hbw2
          by_cases hlt2 : j < l.length
          · obtain ⟨ad2, e2, hi2, y0⟩ := int_at h.r (inferInstance : Bel w wr) j hlt2
            first | subst e2 | (injection e2 with e2; subst e2)
            go_wp2_with (at_builtin; refine Kd.R_append (Kd.int .i64) (w0 := w) (w).heap.size rfl (.tmp 43) (.tmp 48) 23 3 (.int .i64 0) 8 rfl hu2 info3 rfl (by decide) (by decide) _ (acc2) (l[j]) [.int .i64 (l[j])] (fun _ => True) (fun _ => False) rfl rfl rfl (fun _ h => h.elim) (fun _ _ => trivial) (Rdown HR2.out) ?c1 ?c2 ?c3 ?_; (case c1 => exact Bel.out); (case c2 => exact Below.size Bel.out); (case c3 => omega); intro v6 w6 hR6 hb6 _ _; have HR6 := Lib.hid hR6; have hst6 : Step (w) w6 := ⟨hb6⟩; clear hR6 hb6)
            · exact ⟨⟨j + 1, acc2 ++ [l[j]], by omega, by go_num, by simp; omega, Bel.out, HR6.out, HI2.out.step hlt2⟩, by simp [intOf]; omega⟩
            · have he : l[j] = c := by simpa using (by assumption : (l[j] != c) = false)
              exact ⟨⟨j + 1, acc2, by omega, by go_num, by omega, Bel.out, HR2.out, HI2.out.pass hlt2 he⟩, by simp [intOf]; omega⟩
          · go_wp2
            go_ret
            exact ⟨_, acc2, rfl, HR2.out, HI2.out.done (by omega), by omega, Bel.out⟩
end Go.Proofs.Ytjceeengnnjipaa.PAll
