/- The reference's list of the columns of an expression. -/
import Derived.Test.YtjceeengnnjipaaH11g
namespace Go.Proofs.Ytjceeengnnjipaa.PAll
open Go.RowKit Go.Proofs.Ytjceeengnnjipaa.Kit Go.Proofs.Ytjceeengnnjipaa.L13 Go.Proofs.YtjceeengnnjipaaW.PrintWords
set_option linter.unusedVariables false
set_option linter.unusedSimpArgs false
attribute [local go_sem] allocCell allocFrozen setFar setFrozen allocAny allocAdd

/-- What has been collected before the k-th argument. -/
def Cols (e : Ex) (l : List Ex) (acc : List Int) (k : Nat) : Prop := ∀ x, (x ∈ acc ∨ x ∈ occL (l.drop k)) ↔ x ∈ occ e
def ColsIn (e : Ex) (l : List Ex) (ls acc : List Int) (k j : Nat) : Prop := ∀ x, (x ∈ acc ∨ x ∈ ls.drop j ∨ x ∈ occL (l.drop (k + 1))) ↔ x ∈ occ e
def SameMem (r : List Int) (e : Ex) : Prop := ∀ x, x ∈ r ↔ x ∈ occ e
theorem Cols.start (op n : Int) (v : Vl) (nm : ByteArray) (l : List Ex) (h : ¬ op = 2) : Cols ⟨op, n, v, nm, l⟩ l [] 0 := fun x => by simp only [occ, if_neg h, List.drop_zero]; simp
theorem Cols.start2 (n : Int) (v : Vl) (nm : ByteArray) (l : List Ex) : Cols ⟨2, n, v, nm, l⟩ l ([] ++ [n]) 0 := fun x => by simp [occ]
theorem Cols.enter {e : Ex} {l : List Ex} {acc ls : List Int} {k : Nat} (h : Cols e l acc k) (hk : k < l.length) (hs : SameMem ls l[k]) : ColsIn e l ls acc k 0 := fun x => by
  rw [← h x, List.drop_zero, hs x, List.drop_eq_getElem_cons hk]
  simp only [occL, List.mem_append]
theorem ColsIn.step {e : Ex} {l : List Ex} {acc ls r : List Int} {k j : Nat} (h : ColsIn e l ls acc k j) (hj : j < ls.length) (hr : InsOk acc r ls[j]) : ColsIn e l ls r k (j + 1) := fun x => by
  rw [← h x, hr x, List.drop_eq_getElem_cons hj, List.mem_cons]
  exact ⟨fun g => by rcases g with (g | g) | g | g <;> simp [g], fun g => by rcases g with g | (g | g) | g <;> simp [g]⟩
theorem ColsIn.leave {e : Ex} {l : List Ex} {acc ls : List Int} {k j : Nat} (h : ColsIn e l ls acc k j) (hj : ls.length ≤ j) : Cols e l acc (k + 1) := fun x => by
  rw [← h x, List.drop_eq_nil_of_le hj]; simp
theorem Cols.done {e : Ex} {l : List Ex} {acc : List Int} {k : Nat} (h : Cols e l acc k) (hk : l.length ≤ k) : SameMem acc e := fun x => by
  rw [← h x, List.drop_eq_nil_of_le hk]; simp [occL]
theorem nodesL_at (l : List Ex) (k : Nat) (h : k < l.length) : nodesL (l.drop k) = nodes l[k] + nodesL (l.drop (k + 1)) := by rw [List.drop_eq_getElem_cons h, nodesL]
set_option maxRecDepth 20000 in
set_option maxHeartbeats 4000000 in
theorem rcols_calls : ∀ (N : Nat) (op n a b : Int) (c nm : ByteArray) (A : Option Addr) (cp : Nat) (l : List Ex) (w : World), nodes (exV op n a b c nm l) ≤ N → N ≤ 1048576 → Rc k70 w A cp l →
    Calls Try.prog 50 #[.agg #[.int .i64 op, .int .i64 n, .int .i64 a, .int .i64 b, .string c, .string nm, .slice A l.length cp]] w fun e w' => ∃ v r, e = .returned v ∧ Kd.R (Kd.int .i64) 3 w' w.heap.size (fun _ => True) v r ∧ SameMem r (exV op n a b c nm l) ∧ r.length ≤ nodes (exV op n a b c nm l) ∧ Below w.heap.size w w' := by
  intro N
  induction N with
  | zero => intro op n a b c nm A cp l w h; have := nodes_pos (exV op n a b c nm l); omega
  | succ N ih =>
    intro op n a b c nm A cp l w hn hN h
    have hnd : nodes (exV op n a b c nm l) = 1 + nodesL l := by simp only [nodes]
    obtain ⟨T, hT⟩ : ∃ T, T = nodes (exV op n a b c nm l) := ⟨_, rfl⟩
    rw [← hT] at hn hnd ⊢
    have hlen := nodesL_len l
    have hl := h.len
    have hu := Try.underlying70
    have hu2 := Try.underlying23
    have HE2 : op = 2 → Cols (exV op n a b c nm l) l ([] ++ [n]) 0 := by intro e; subst e; exact Cols.start2 _ _ _ _
    have HE1 : ¬ op = 2 → Cols (exV op n a b c nm l) l [] 0 := Cols.start op n ⟨a, b, c⟩ nm l
    obtain ⟨E, hE⟩ : ∃ E, E = exV op n a b c nm l := ⟨_, rfl⟩
    rw [← hE] at HE1 HE2 ⊢
    have HE1' := Lib.hid HE1; have HE2' := Lib.hid HE2
    clear HE1 HE2 hE hT
    have HR0 : ∀ o, Kd.R (Kd.int .i64) 3 ((w.alloc o).alloc (.cells #[] 3)) w.heap.size (fun _ => True) (.slice (some ⟨w.heap.size + 1, 0, none⟩) 0 0) [] := fun o => R_litA (d := Kd.int .i64) (e := 3) (okp := fun _ => False) (inner := []) (Reps.none _ _) HSize.out (by simp) (by simp)
    go_enter Try.func50, Try.ntmps50
    go_wp2_with (at_builtin; refine Kd.R_append (Kd.int .i64) (w0 := w) w.heap.size rfl (.tmp 11) (.tmp 14) 23 3 (.int .i64 0) 8 rfl hu2 info3 rfl (by decide) (by decide) (.slice (some ⟨w.heap.size + 1, 0, none⟩) 0 0) [] n [.int .i64 n] (fun _ => True) (fun _ => False) rfl ?cx rfl (fun _ h => h.elim) (fun _ _ => trivial) (HR0 _) ?c1 ?c2 ?c3 ?_; (case cx => go_loud (first | rfl | (simp; done) | (simp; rfl) | (go_simp; done) | (go_simp; rfl))); (case c1 => exact Bel.out); (case c2 => exact Below.size Bel.out); (case c3 => simp); intro v4 w4 hR4 hb4 hg4 _; have HR4 := Lib.hid hR4; have hbk4 : Blk w4 w.heap.size (.cells #[.int .i64 op, .int .i64 n, .int .i64 a, .int .i64 b, .string c, .string nm, .slice A l.length cp] 70) := ⟨blk_grown Blk.out hg4 (by simp [Value.ownBlock])⟩; have hst4 : Bel w w4 := ⟨hb4⟩; clear hR4 hb4 hg4)
    · have HE := Lib.hid (HE2'.out (by simpa using (by assumption : (op == 2) = true)))
      try rw [(by assumption : (op == 2) = true)]
      go_loopw [3, 4] (fun v i wr => ∃ (k : Nat) (acc : List Int), k ≤ l.length ∧ i = .int .i64 k ∧ acc.length + nodesL (l.drop k) ≤ T ∧ Below w.heap.size w wr ∧ Blk wr w.heap.size (.cells #[.int .i64 op, .int .i64 n, .int .i64 a, .int .i64 b, .string c, .string nm, .slice A l.length cp] 70) ∧ Kd.R (Kd.int .i64) 3 wr w.heap.size (fun _ => True) v acc ∧ Cols E l acc k) (fun _ i wr => l.length - (intOf i).toNat)
      case atStart => exact ⟨0, [] ++ [n], by omega, rfl, by simp; omega, Bel.out, inferInstance, HR4.out, HE.out⟩
      case round =>
        obtain ⟨wo, hwo⟩ : ∃ wo, wo = wr := ⟨_, rfl⟩
        subst hwo
        obtain ⟨k, acc, hk, rfl, hacc, hbw, hbk, hR, hI⟩ := hrel
        have hst : Bel w wo := ⟨hbw⟩
        have HR := Lib.hid hR; have HI := Lib.hid hI; clear hR hI hbw
        obtain ⟨t0, t1, t2, t3, t4, t5, t6⟩ := blk7 hbk
        by_cases hlt : k < l.length
        · obtain ⟨ad, B2, cB, rfl, hi, x0, x1, x2, x3, x4, x5, x6, hl2, hr⟩ := ex_at h.r (inferInstance : Bel w wo) k hlt
          have hx : nodes l[k] ≤ nodesL l := nodesL_mem l l[k] (List.getElem_mem _)
          have hat := nodesL_at l k hlt
          have HR2 := Rc.mk hr hl2
          clear t0 t1 t2 t3 t4 t5
          go_wp2_with (go_at_call 50; (with_reducible refine (ih _ _ _ _ _ _ _ _ l[k].f4 _ ?g1 ?g2 ?g3).mono ?_); (case g1 => rw [exV_eta]; omega); (case g2 => omega); (case g3 => exact HR2.up); rintro e w3 ⟨v3, ls, rfl, hR3, hS3, hL3, hb⟩; rw [exV_eta] at hS3 hL3; have hs3 := Step.of hb; obtain ⟨A3, c3, rfl, hl3, hC3⟩ := Kd.R_reads hR3; have HC3 := Lib.hid (Rc.mk hC3 hl3); have HI3 := Lib.hid (HI.out.enter hlt hS3); clear hb hR3 hS3 hC3 hl3)
          have hm3 := HC3.out.len
          have hbk3 : Blk w3 w.heap.size (.cells #[.int .i64 op, .int .i64 n, .int .i64 a, .int .i64 b, .string c, .string nm, .slice (some ad) l.length cp] 70) := inferInstance
          have hB3 : Bel w w3 := inferInstance
          have HR3 := Lib.hid (show Kd.R (Kd.int .i64) 3 w3 w.heap.size (fun _ => True) _ acc from Rdown HR.out)
          go_loopw [3, 6] (fun v j wr => ∃ (m : Nat) (acc2 : List Int), m ≤ ls.length ∧ j = .int .i64 m ∧ acc2.length + (ls.length - m) + nodesL (l.drop (k + 1)) ≤ T ∧ Below w3.heap.size w3 wr ∧ Kd.R (Kd.int .i64) 3 wr w.heap.size (fun _ => True) v acc2 ∧ ColsIn E l ls acc2 k m) (fun _ j wr => ls.length - (intOf j).toNat)
          case atStart => exact ⟨0, acc, by omega, rfl, by omega, Bel.out, HR3.out, HI3.out⟩
          case round =>
            obtain ⟨m, acc2, hm, rfl, hacc2, hbw2, hR2, hI2⟩ := hrel
            have hst2 : Step w3 wr := ⟨hbw2⟩
            obtain ⟨A2, c2, rfl, hl2', hC2⟩ := Kd.R_reads hR2
            have HR2' := Lib.hid hR2; have HI2 := Lib.hid hI2; have HC2 := Lib.hid (Rc.mk hC2 hl2'); clear hR2 hI2 hbw2 hC2 hl2'
            by_cases hlt2 : m < ls.length
            · obtain ⟨ad3, rfl, hi3, y0⟩ := int_at HC3.out.r (inferInstance : Bel w3 wr) m hlt2
              go_wp2_with (go_at_call 72; (with_reducible refine (insert_calls _ _ acc2 _ _ HC2.out (by omega)).mono ?_); rintro e w4 ⟨v4, r, rfl, hR4, hO4, hL4, hb⟩; have hs4 := Step.of hb; have HR4 := Lib.hid (show Kd.R (Kd.int .i64) 3 w4 w.heap.size (fun _ => True) v4 r from Rdown hR4); have HO4 := Lib.hid hO4; clear hb hR4 hO4)
              exact ⟨⟨m + 1, r, by omega, by go_num, by omega, Bel.out, HR4.out, HI2.out.step hlt2 HO4.out⟩, by simp [intOf]; omega⟩
            · go_wp2
              exact ⟨⟨k + 1, acc2, by omega, by go_num, by omega, Bel.out, inferInstance, HR2'.out, HI2.out.leave (by omega)⟩, by simp [intOf]; omega⟩
        · go_wp2
          go_ret
          exact ⟨_, acc, rfl, HR.out, HI.out.done (by omega), by omega, Bel.out⟩
    · have HE := Lib.hid (HE1'.out (by simpa using (by assumption : (op == 2) = false)))
      rw [(by assumption : (op == 2) = false)]
      go_loopw [3, 4] (fun v i wr => ∃ (k : Nat) (acc : List Int), k ≤ l.length ∧ i = .int .i64 k ∧ acc.length + nodesL (l.drop k) ≤ T ∧ Below w.heap.size w wr ∧ Blk wr w.heap.size (.cells #[.int .i64 op, .int .i64 n, .int .i64 a, .int .i64 b, .string c, .string nm, .slice A l.length cp] 70) ∧ Kd.R (Kd.int .i64) 3 wr w.heap.size (fun _ => True) v acc ∧ Cols E l acc k) (fun _ i wr => l.length - (intOf i).toNat)
      case atStart => exact ⟨0, [], by omega, rfl, by simp; omega, Bel.out, inferInstance, HR0 _, HE.out⟩
      case round =>
        obtain ⟨wo, hwo⟩ : ∃ wo, wo = wr := ⟨_, rfl⟩
        subst hwo
        obtain ⟨k, acc, hk, rfl, hacc, hbw, hbk, hR, hI⟩ := hrel
        have hst : Bel w wo := ⟨hbw⟩
        have HR := Lib.hid hR; have HI := Lib.hid hI; clear hR hI hbw
        obtain ⟨t0, t1, t2, t3, t4, t5, t6⟩ := blk7 hbk
        by_cases hlt : k < l.length
        · obtain ⟨ad, B2, cB, rfl, hi, x0, x1, x2, x3, x4, x5, x6, hl2, hr⟩ := ex_at h.r (inferInstance : Bel w wo) k hlt
          have hx : nodes l[k] ≤ nodesL l := nodesL_mem l l[k] (List.getElem_mem _)
          have hat := nodesL_at l k hlt
          have HR2 := Rc.mk hr hl2
          clear t0 t1 t2 t3 t4 t5
          go_wp2_with (go_at_call 50; (with_reducible refine (ih _ _ _ _ _ _ _ _ l[k].f4 _ ?g1 ?g2 ?g3).mono ?_); (case g1 => rw [exV_eta]; omega); (case g2 => omega); (case g3 => exact HR2.up); rintro e w3 ⟨v3, ls, rfl, hR3, hS3, hL3, hb⟩; rw [exV_eta] at hS3 hL3; have hs3 := Step.of hb; obtain ⟨A3, c3, rfl, hl3, hC3⟩ := Kd.R_reads hR3; have HC3 := Lib.hid (Rc.mk hC3 hl3); have HI3 := Lib.hid (HI.out.enter hlt hS3); clear hb hR3 hS3 hC3 hl3)
          have hm3 := HC3.out.len
          have hbk3 : Blk w3 w.heap.size (.cells #[.int .i64 op, .int .i64 n, .int .i64 a, .int .i64 b, .string c, .string nm, .slice (some ad) l.length cp] 70) := inferInstance
          have hB3 : Bel w w3 := inferInstance
          have HR3 := Lib.hid (show Kd.R (Kd.int .i64) 3 w3 w.heap.size (fun _ => True) _ acc from Rdown HR.out)
          go_loopw [3, 6] (fun v j wr => ∃ (m : Nat) (acc2 : List Int), m ≤ ls.length ∧ j = .int .i64 m ∧ acc2.length + (ls.length - m) + nodesL (l.drop (k + 1)) ≤ T ∧ Below w3.heap.size w3 wr ∧ Kd.R (Kd.int .i64) 3 wr w.heap.size (fun _ => True) v acc2 ∧ ColsIn E l ls acc2 k m) (fun _ j wr => ls.length - (intOf j).toNat)
          case atStart => exact ⟨0, acc, by omega, rfl, by omega, Bel.out, HR3.out, HI3.out⟩
          case round =>
            obtain ⟨m, acc2, hm, rfl, hacc2, hbw2, hR2, hI2⟩ := hrel
            have hst2 : Step w3 wr := ⟨hbw2⟩
            obtain ⟨A2, c2, rfl, hl2', hC2⟩ := Kd.R_reads hR2
            have HR2' := Lib.hid hR2; have HI2 := Lib.hid hI2; have HC2 := Lib.hid (Rc.mk hC2 hl2'); clear hR2 hI2 hbw2 hC2 hl2'
            by_cases hlt2 : m < ls.length
            · obtain ⟨ad3, rfl, hi3, y0⟩ := int_at HC3.out.r (inferInstance : Bel w3 wr) m hlt2
              go_wp2_with (go_at_call 72; (with_reducible refine (insert_calls _ _ acc2 _ _ HC2.out (by omega)).mono ?_); rintro e w4 ⟨v4, r, rfl, hR4, hO4, hL4, hb⟩; have hs4 := Step.of hb; have HR4 := Lib.hid (show Kd.R (Kd.int .i64) 3 w4 w.heap.size (fun _ => True) v4 r from Rdown hR4); have HO4 := Lib.hid hO4; clear hb hR4 hO4)
              exact ⟨⟨m + 1, r, by omega, by go_num, by omega, Bel.out, HR4.out, HI2.out.step hlt2 HO4.out⟩, by simp [intOf]; omega⟩
            · go_wp2
              exact ⟨⟨k + 1, acc2, by omega, by go_num, by omega, Bel.out, inferInstance, HR2'.out, HI2.out.leave (by omega)⟩, by simp [intOf]; omega⟩
        · go_wp2
          go_ret
          exact ⟨_, acc, rfl, HR.out, HI.out.done (by omega), by omega, Bel.out⟩
end Go.Proofs.Ytjceeengnnjipaa.PAll
