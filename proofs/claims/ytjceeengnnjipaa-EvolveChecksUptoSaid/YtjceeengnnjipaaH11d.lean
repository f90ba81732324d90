/- The kind of an expression whose arguments have these kinds: the program's, the reference's. -/
import Derived.Test.YtjceeengnnjipaaH11c
namespace Go.Proofs.Ytjceeengnnjipaa.PAll
open Go.RowKit Go.Proofs.Ytjceeengnnjipaa.Kit Go.Proofs.Ytjceeengnnjipaa.L13 Go.Proofs.YtjceeengnnjipaaW.PrintWords
set_option linter.unusedVariables false
set_option linter.unusedSimpArgs false
attribute [local go_sem] allocCell allocFrozen setFar setFrozen allocAny allocAdd

theorem known_of {op n : Int} (h : (cnts op n).2 = true) : 1 ≤ op ∧ op ≤ 24 ∧ op ≠ 3 := by
  unfold cnts at h
  rcases op_cases op with e | e | e | e | e | e | e | e | e | e | e | e | e | e | e | e | e | e | e | e | e | e | e | e <;> first | (subst e; decide) | skip
  rw [if_neg (by omega), if_neg (by omega), if_neg (by omega), if_neg (by omega), if_neg (by omega), if_neg (by omega), if_neg (by omega)] at h
  cases h
theorem resK_else {op vk : Int} {l : List Int} (h : ¬ (op = 1 ∨ (op = 4 ∨ op = 5 ∨ op = 6) ∨ (7 ≤ op ∧ op ≤ 12) ∨ op = 19 ∨ op = 20 ∨ op = 21 ∨ op = 22 ∨ op = 23 ∨ op = 24)) : resK op vk l = (1, fit l 1) := by
  unfold resK
  rw [if_neg (fun e => h (.inl e)), if_neg (fun e => h (.inr (.inl e))), if_neg (fun e => h (.inr (.inr (.inl e)))), if_neg (fun e => h (.inr (.inr (.inr (.inl e))))), if_neg (fun e => h (.inr (.inr (.inr (.inr (.inl e)))))), if_neg (fun e => h (.inr (.inr (.inr (.inr (.inr (.inl e))))))), if_neg (fun e => h (.inr (.inr (.inr (.inr (.inr (.inr (.inl e)))))))), if_neg (fun e => h (.inr (.inr (.inr (.inr (.inr (.inr (.inr (.inl e))))))))), if_neg (fun e => h (.inr (.inr (.inr (.inr (.inr (.inr (.inr (.inr e)))))))))]
set_option maxRecDepth 20000 in
set_option maxHeartbeats 4000000 in
theorem result_most (op n a b : Int) (c nm : ByteArray) (A0 : Option Addr) (len cp0 : Nat) (A : Option Addr) (cp : Nat) (l : List Int) (w : World) (h : Rc (Kd.int .i64) w A cp l) (hl : l.length < 1099511627776) (h22 : (op == 22) = false) :
    Calls Try.prog 90 #[.agg #[.int .i64 op, .int .i64 n, .int .i64 a, .int .i64 b, .string c, .string nm, .slice A0 len cp0], .slice A l.length cp] w fun e w' => e = .returned (.tuple #[.int .i64 (resK op a l).1, .bool (resK op a l).2]) ∧ Below w.heap.size w w' := by
  have hu := Try.underlying70
  have hu1 := Try.underlying31
  have HL := Lib.hid hl; clear hl
  go_enter Try.func90, Try.ntmps90
  go_wp2_with (first
    | (go_at_call 104; (with_reducible refine (all_calls _ _ l _ _ ?g1 HL.out ?g2).mono ?_); (case g1 => exact h.up); (case g2 => decide); rintro e w1 ⟨rfl, hb⟩; have hs1 := Step.of hb; clear hb)
    | (go_at_call 105; (with_reducible refine (unite_calls _ _ l _ ?g1).mono ?_); (case g1 => exact h.up); rintro e w1 ⟨rfl, hb⟩; have hs1 := Step.of hb; clear hb))
  all_goals
    go_ret2
    refine ⟨ret_eq ?_, Bel.out⟩
    first | (simp_all [resK]; done) | (rw [resK_else (by simp only [beq_eq_false_iff_ne, ne_eq] at *; omega)]; rfl)
set_option maxRecDepth 20000 in
set_option maxHeartbeats 4000000 in
theorem rresult_most (op n a b : Int) (c nm : ByteArray) (A0 : Option Addr) (len cp0 : Nat) (A : Option Addr) (cp : Nat) (l : List Int) (A2 : Option Addr) (n2 cp2 : Nat) (w : World) (h : Rc (Kd.int .i64) w A cp l) (h22 : (op == 22) = false) (h2 : (op == 2) = false) (hk : 1 ≤ op ∧ op ≤ 24 ∧ op ≠ 3) :
    Calls Try.prog 86 #[.agg #[.int .i64 op, .int .i64 n, .int .i64 a, .int .i64 b, .string c, .string nm, .slice A0 len cp0], .slice A l.length cp, .slice A2 n2 cp2] w fun e w' => e = .returned (.tuple #[.int .i64 (resK op a l).1, .bool (resK op a l).2]) ∧ Below w.heap.size w w' := by
  have hu := Try.underlying70
  have hu1 := Try.underlying31
  have HK := Lib.hid hk; clear hk
  go_enter Try.func86, Try.ntmps86
  go_wp2_with (first
    | (go_at_call 102; (with_reducible refine (rall_calls _ _ l _ _ ?g1).mono ?_); (case g1 => exact h.up); rintro e w1 ⟨rfl, hb⟩; have hs1 := Step.of hb; clear hb)
    | (go_at_call 103; (with_reducible refine (join_calls _ _ l _ ?g1).mono ?_); (case g1 => exact h.up); rintro e w1 ⟨rfl, hb⟩; have hs1 := Step.of hb; clear hb))
  all_goals
    go_ret2
    refine ⟨ret_eq ?_, Bel.out⟩
    first | (simp_all [resK]; done) | (obtain rfl : op = 24 := (by have hk := HK.out; simp only [beq_eq_false_iff_ne, ne_eq] at *; omega)
                                       rfl)
theorem tail3 {w : World} {ad : Addr} {cp : Nat} {x y z : Int} (h : Rc (Kd.int .i64) w (some ad) cp [x, y, z]) : Rc (Kd.int .i64) w (some ⟨ad.block, ad.off + 1, none⟩) (cp - 1) [y, z] ∧ Rc (Kd.int .i64) w (some ad) cp [x] := by
  have hc : 3 ≤ cp := h.h
  have h1 := Kd.C_drop (m := 1) (c := cp) h.r (by simp) h.h
  rw [if_neg (by omega)] at h1
  exact ⟨⟨h1, by simp; omega⟩, ⟨Kd.C_take (m := 1) h.r (by simp), by simp; omega⟩⟩
set_option maxRecDepth 20000 in
set_option maxHeartbeats 4000000 in
theorem result_if (n a b : Int) (c nm : ByteArray) (A0 : Option Addr) (len cp0 : Nat) (ad : Addr) (cp : Nat) (x y z : Int) (w : World) (h : Rc (Kd.int .i64) w (some ad) cp [x, y, z]) :
    Calls Try.prog 90 #[.agg #[.int .i64 22, .int .i64 n, .int .i64 a, .int .i64 b, .string c, .string nm, .slice A0 len cp0], .slice (some ad) 3 cp] w fun e w' => e = .returned (.tuple #[.int .i64 (resK 22 a [x, y, z]).1, .bool (resK 22 a [x, y, z]).2]) ∧ Below w.heap.size w w' := by
  have hu := Try.underlying70
  have hu1 := Try.underlying31
  have hu2 := Try.underlying23
  have hc : 3 ≤ cp := h.h
  obtain ⟨r1, r2⟩ := tail3 h
  have Q1 : Hid (∀ W, Bel w W → Calls Try.prog 105 #[.slice (some ⟨ad.block, ad.off + 1, none⟩) 2 (cp - 1)] W fun e w' => e = .returned (.tuple #[.int .i64 (uni 0 [y, z]).1, .bool (uni 0 [y, z]).2]) ∧ Below W.heap.size W w') := by
    intro W b
    exact unite_calls _ _ [y, z] _ r1.up
  have Q2 : Hid (∀ W, Bel w W → Calls Try.prog 104 #[.slice (some ad) 1 cp, .int .i64 3] W fun e w' => e = .returned (.bool (fit [x] 3)) ∧ Below W.heap.size W w') := by
    intro W b
    exact all_calls _ _ [x] _ _ r2.up (by simp) (by decide)
  have hres : resK 22 a [x, y, z] = ((uni 0 [y, z]).1, (uni 0 [y, z]).2 && fit [x] 3) := rfl
  rw [hres]
  clear hres h r1 r2
  cases u2b : (uni 0 [y, z]).2
  all_goals
    have U2 := Lib.hid u2b; clear u2b
    go_enter Try.func90, Try.ntmps90
    go_wp2_with (first
    | (go_at_call 105; (with_reducible refine (Q1.out _ (by infer_instance)).mono ?_); rintro e w1 ⟨rfl, hb⟩; rw [U2.out]; have hs1 := Step.of hb; clear hb)
    | (go_at_call 104; (with_reducible refine (Q2.out _ (by infer_instance)).mono ?_); rintro e w2 ⟨rfl, hb⟩; have hs2 := Step.of hb; clear hb))
    go_ret2
    refine ⟨ret_eq ?_, Bel.out⟩
    simp_all
set_option maxRecDepth 20000 in
set_option maxHeartbeats 4000000 in
theorem rresult_if (n a b : Int) (c nm : ByteArray) (A0 : Option Addr) (len cp0 : Nat) (ad : Addr) (cp : Nat) (x y z : Int) (A2 : Option Addr) (n2 cp2 : Nat) (w : World) (h : Rc (Kd.int .i64) w (some ad) cp [x, y, z]) :
    Calls Try.prog 86 #[.agg #[.int .i64 22, .int .i64 n, .int .i64 a, .int .i64 b, .string c, .string nm, .slice A0 len cp0], .slice (some ad) 3 cp, .slice A2 n2 cp2] w fun e w' => e = .returned (.tuple #[.int .i64 (resK 22 a [x, y, z]).1, .bool (resK 22 a [x, y, z]).2]) ∧ Below w.heap.size w w' := by
  have hu := Try.underlying70
  have hu1 := Try.underlying31
  have hu2 := Try.underlying23
  have hc : 3 ≤ cp := h.h
  obtain ⟨r1, r2⟩ := tail3 h
  have Q1 : Hid (∀ W, Bel w W → Calls Try.prog 103 #[.slice (some ⟨ad.block, ad.off + 1, none⟩) 2 (cp - 1)] W fun e w' => e = .returned (.tuple #[.int .i64 (uni 0 [y, z]).1, .bool (uni 0 [y, z]).2]) ∧ Below W.heap.size W w') := by
    intro W b
    exact join_calls _ _ [y, z] _ r1.up
  have Q2 : Hid (∀ W, Bel w W → Calls Try.prog 102 #[.slice (some ad) 1 cp, .int .i64 3] W fun e w' => e = .returned (.bool (fit [x] 3)) ∧ Below W.heap.size W w') := by
    intro W b
    exact rall_calls _ _ [x] _ _ r2.up
  have hres : resK 22 a [x, y, z] = ((uni 0 [y, z]).1, (uni 0 [y, z]).2 && fit [x] 3) := rfl
  rw [hres]
  clear hres h r1 r2
  cases u2b : (uni 0 [y, z]).2
  all_goals
    have U2 := Lib.hid u2b; clear u2b
    go_enter Try.func86, Try.ntmps86
    go_wp2_with (first
    | (go_at_call 103; (with_reducible refine (Q1.out _ (by infer_instance)).mono ?_); rintro e w1 ⟨rfl, hb⟩; rw [U2.out]; have hs1 := Step.of hb; clear hb)
    | (go_at_call 102; (with_reducible refine (Q2.out _ (by infer_instance)).mono ?_); rintro e w2 ⟨rfl, hb⟩; have hs2 := Step.of hb; clear hb))
    go_ret2
    refine ⟨ret_eq ?_, Bel.out⟩
    simp_all
theorem three {l : List Int} (h : (cnts 22 l.length).1 = true) : ∃ x y z, l = [x, y, z] := by
  have h3 : l.length = 3 := by simp [cnts] at h; omega
  match l, h3 with
  | [x, y, z], _ => exact ⟨x, y, z, rfl⟩
theorem result_calls (op n a b : Int) (c nm : ByteArray) (A0 : Option Addr) (len cp0 : Nat) (A : Option Addr) (cp : Nat) (l : List Int) (w : World) (h : Rc (Kd.int .i64) w A cp l) (hl : l.length < 1099511627776) (hop : (cnts op l.length).1 = true) :
    Calls Try.prog 90 #[.agg #[.int .i64 op, .int .i64 n, .int .i64 a, .int .i64 b, .string c, .string nm, .slice A0 len cp0], .slice A l.length cp] w fun e w' => e = .returned (.tuple #[.int .i64 (resK op a l).1, .bool (resK op a l).2]) ∧ Below w.heap.size w w' := by
  by_cases e : op = 22
  · subst e
    obtain ⟨x, y, z, rfl⟩ := three hop
    obtain ⟨ad, rfl, _⟩ := int_at h.r (belRefl w) 0 (by simp)
    exact result_if n a b c nm A0 len cp0 ad cp x y z w h
  · exact result_most op n a b c nm A0 len cp0 A cp l w h hl (beq_eq_false_iff_ne.2 e)
theorem rresult_calls (op n a b : Int) (c nm : ByteArray) (A0 : Option Addr) (len cp0 : Nat) (A : Option Addr) (cp : Nat) (l : List Int) (A2 : Option Addr) (n2 cp2 : Nat) (w : World) (h : Rc (Kd.int .i64) w A cp l) (hop : (cnts op l.length).1 = true) (hk : (cnts op l.length).2 = true) (h2 : ¬ op = 2) :
    Calls Try.prog 86 #[.agg #[.int .i64 op, .int .i64 n, .int .i64 a, .int .i64 b, .string c, .string nm, .slice A0 len cp0], .slice A l.length cp, .slice A2 n2 cp2] w fun e w' => e = .returned (.tuple #[.int .i64 (resK op a l).1, .bool (resK op a l).2]) ∧ Below w.heap.size w w' := by
  by_cases e : op = 22
  · subst e
    obtain ⟨x, y, z, rfl⟩ := three hop
    obtain ⟨ad, rfl, _⟩ := int_at h.r (belRefl w) 0 (by simp)
    exact rresult_if n a b c nm A0 len cp0 ad cp x y z A2 n2 cp2 w h
  · exact rresult_most op n a b c nm A0 len cp0 A cp l A2 n2 cp2 w h (beq_eq_false_iff_ne.2 e) (beq_eq_false_iff_ne.2 h2) (known_of hk)
end Go.Proofs.Ytjceeengnnjipaa.PAll
