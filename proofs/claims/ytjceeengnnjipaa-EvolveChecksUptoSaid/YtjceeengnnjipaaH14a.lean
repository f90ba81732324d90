/- Layer 14: checkAdd; the reference's plain, add, has. -/
import Derived.Test.YtjceeengnnjipaaH13f
namespace Go.Proofs.Ytjceeengnnjipaa.PAll
open Go.RowKit Go.Proofs.Ytjceeengnnjipaa.Kit Go.Proofs.Ytjceeengnnjipaa.L13 Go.Proofs.YtjceeengnnjipaaW.PrintWords
set_option linter.unusedVariables false
set_option linter.unusedSimpArgs false
attribute [local go_sem] allocCell allocFrozen setFar setFrozen allocAny allocAdd
attribute [local go_sem ↓] Go.wp_at_zero Go.wp_at_succ

set_option maxRecDepth 20000 in
set_option maxHeartbeats 4000000 in
theorem cadd_calls (tn : ByteArray) (A1 : Option Addr) (c1 : Nat) (cols : List Cl) (A2 : Option Addr) (c2 : Nat) (key : List Int) (A3 : Option Addr) (c3 : Nat) (fg : List Fg) (A4 : Option Addr) (c4 : Nat) (ch : List Ex) (k : Int) (nm nt cn : ByteArray) (ck : Int) (cb : Bool) (dk dn : Int) (dt : ByteArray) (w : World) (h : Tc w A1 c1 cols A2 c2 key A3 c3 fg A4 c4 ch) :
    Calls Try.prog 17 #[.agg #[.string tn, .slice A1 cols.length c1, .slice A2 key.length c2, .slice A3 fg.length c3, .slice A4 ch.length c4], .agg #[.int .i64 k, .string nm, .string nt, .string cn, .int .i64 ck, .bool cb, .int .i64 dk, .int .i64 dn, .string dt]] w fun e w' => e = .returned (.int .i64 (addErr cols cn ck cb dk dn dt)) ∧ Below w.heap.size w w' := by
  have hu := Try.underlying27
  have hu1 := Try.underlying33
  have hu2 := Try.underlying29
  have hu3 := Try.underlying31
  have hm1 := h.r1.2.1
  obtain ⟨fx, hfx⟩ : ∃ fx, findIx cols cn = fx := ⟨_, rfl⟩
  obtain ⟨vo, hvo⟩ : ∃ vo, L07.valOk ⟨dk, dn, dt⟩ = vo := ⟨_, rfl⟩
  obtain ⟨no, hno⟩ : ∃ no, nameOk cn = no := ⟨_, rfl⟩
  have HR := Lib.hid (show addErr cols cn ck cb dk dn dt = if (cols.length : Int) ≥ 12 then 13 else if no = false then 1 else if kindOk ck = false then 7 else if fx ≥ 0 then 10 else if vo = false then 8 else if dk = 0 then (if cb = true then 0 else 12) else if dk = ck then 0 else 7 by unfold addErr; rw [hfx, hvo, hno])
  have HFX := Lib.hid hfx; have HVO := Lib.hid hvo; have HNO := Lib.hid hno
  clear hfx hvo hno
  go_enter Try.func17, Try.ntmps17
  go_wp2_with (first
    | (go_at_call 20; (with_reducible refine (name_calls _ _).mono ?_); rintro e w1 ⟨rfl, hb⟩; rw [HNO.out]; have hs1 := Step.of hb; clear hb; have hc1 := hs1.cell; have hf1 := hs1.frozen)
    | (go_at_call 18; (with_reducible refine (schema_Find.calls _ _ _ cols _ _ key _ _ fg _ _ ch _ _ _ ?g1 h.h1 ?g2 h.h2 ?g3 h.h3 ?g4 h.h4 rfl).mono ?_); (case g1 => exact up h.r1); (case g2 => exact up h.r2); (case g3 => exact up h.r3); (case g4 => exact up h.r4); rintro e w2 ⟨rfl, hb⟩; rw [HFX.out]; have hs2 := Step.of hb; clear hb; have hc2 := hs2.cell; have hf2 := hs2.frozen)
    | (go_at_call 40; (with_reducible refine (L07.valid_calls _ _ _ _).mono ?_); rintro e w3 ⟨rfl, hb⟩; rw [HVO.out]; have hs3 := Step.of hb; clear hb; have hc3 := hs3.cell; have hf3 := hs3.frozen))
  all_goals
    go_ret
    refine ⟨ret_int ?_, Bel.out⟩
    rw [HR.out]
    first
      | (simp_all; done)
      | (simp_all [kind_no]; done)
      | (rw [if_neg (by omega), if_neg (by simp_all), if_pos (kind_no (by omega))]; done)
      | (have hk := kind_yes (k := ck) (by omega) (by omega); simp_all; done)
      | (have hk := kind_yes (k := ck) (by omega) (by omega); simp_all; omega)
set_option maxRecDepth 20000 in
set_option maxHeartbeats 4000000 in
theorem radd_calls (tn : ByteArray) (A1 : Option Addr) (c1 : Nat) (cols : List Cl) (A2 : Option Addr) (c2 : Nat) (key : List Int) (A3 : Option Addr) (c3 : Nat) (fg : List Fg) (A4 : Option Addr) (c4 : Nat) (ch : List Ex) (k : Int) (nm nt cn : ByteArray) (ck : Int) (cb : Bool) (dk dn : Int) (dt : ByteArray) (w : World) (h : Tc w A1 c1 cols A2 c2 key A3 c3 fg A4 c4 ch) :
    Calls Try.prog 22 #[.agg #[.string tn, .slice A1 cols.length c1, .slice A2 key.length c2, .slice A3 fg.length c3, .slice A4 ch.length c4], .agg #[.int .i64 k, .string nm, .string nt, .string cn, .int .i64 ck, .bool cb, .int .i64 dk, .int .i64 dn, .string dt]] w fun e w' => e = .returned (.int .i64 (addErr cols cn ck cb dk dn dt)) ∧ Below w.heap.size w w' := by
  have hu := Try.underlying27
  have hu1 := Try.underlying33
  have hu2 := Try.underlying29
  have hu3 := Try.underlying31
  have hm1 := h.r1.2.1
  obtain ⟨fx, hfx⟩ : ∃ fx, findIx cols cn = fx := ⟨_, rfl⟩
  obtain ⟨vo, hvo⟩ : ∃ vo, L07.valOk ⟨dk, dn, dt⟩ = vo := ⟨_, rfl⟩
  obtain ⟨no, hno⟩ : ∃ no, nameOk cn = no := ⟨_, rfl⟩
  have HR := Lib.hid (show addErr cols cn ck cb dk dn dt = if (cols.length : Int) ≥ 12 then 13 else if no = false then 1 else if kindOk ck = false then 7 else if fx ≥ 0 then 10 else if vo = false then 8 else if dk = 0 then (if cb = true then 0 else 12) else if dk = ck then 0 else 7 by unfold addErr; rw [hfx, hvo, hno])
  have HFX := Lib.hid hfx; have HVO := Lib.hid hvo; have HNO := Lib.hid hno
  clear hfx hvo hno
  go_enter Try.func22, Try.ntmps22
  go_wp2_with (first
    | (go_at_call 24; (with_reducible refine (rname_calls _ _).mono ?_); rintro e w1 ⟨rfl, hb⟩; rw [HNO.out]; have hs1 := Step.of hb; clear hb; have hc1 := hs1.cell; have hf1 := hs1.frozen)
    | (go_at_call 23; (with_reducible refine (rfind_calls _ _ _ cols _ _ key _ _ fg _ _ ch _ _ ?g1).mono ?_); (case g1 => exact h.up); rintro e w2 ⟨rfl, hb⟩; rw [HFX.out]; have hs2 := Step.of hb; clear hb; have hc2 := hs2.cell; have hf2 := hs2.frozen)
    | (go_at_call 46; (with_reducible refine (L07.rvalid_calls _ _ _ _).mono ?_); rintro e w3 ⟨rfl, hb⟩; rw [HVO.out]; have hs3 := Step.of hb; clear hb; have hc3 := hs3.cell; have hf3 := hs3.frozen))
  all_goals
    go_ret
    refine ⟨ret_int ?_, Bel.out⟩
    rw [HR.out]
    first
      | (simp_all; done)
      | (simp_all [kind_no]; done)
      | (rw [if_neg (by omega), if_neg (by simp_all), if_pos (kind_no (by omega))]; done)
      | (have hk := kind_yes (k := ck) (by omega) (by omega); simp_all; done)
      | (have hk := kind_yes (k := ck) (by omega) (by omega); simp_all; omega)
def hasB (l : List Int) (n : Int) : Bool := l.contains n
set_option maxRecDepth 20000 in
theorem has14_calls (A : Option Addr) (cp : Nat) (l : List Int) (n : Int) (w : World) (h : Rc (Kd.int .i64) w A cp l) :
    Calls Try.prog 49 #[.slice A l.length cp, .int .i64 n] w fun e w' => e = .returned (.bool (hasB l n)) ∧ Below w.heap.size w w' := by
  have hm := h.len
  go_enter Try.func49, Try.ntmps49
  go_wp2
  go_loop [5] (fun i => ∃ (k : Nat), k ≤ l.length ∧ i = .int .i64 k ∧ hasB (l.drop k) n = hasB l n) (fun i => l.length - (intOf i).toNat)
  case atStart => exact ⟨0, by omega, rfl, rfl⟩
  case round =>
    obtain ⟨k, hk, rfl, hall⟩ := hrel
    have HA := Lib.hid hall; clear hall
    by_cases hlt : k < l.length
    · obtain ⟨ad, rfl, hi, x0⟩ := int_at h.r (belRefl w) k hlt
      have hd : l.drop k = l[k] :: l.drop (k + 1) := List.drop_eq_getElem_cons hlt
      have HD := Lib.hid hd; clear hd
      go_wp2
      · go_ret
        have he : l[k] = n := by simpa using (by assumption : (l[k] == n) = true)
        exact ⟨ret_bool (by rw [← HA.out, HD.out, hasB, List.contains_cons, he]; simp), Bel.out⟩
      · have he : (n == l[k]) = false := by
          have h := (by assumption : (l[k] == n) = false)
          rw [beq_eq_false_iff_ne] at h ⊢
          exact fun e => h e.symm
        exact ⟨⟨k + 1, by omega, by go_num, by rw [← HA.out, HD.out, hasB, hasB, List.contains_cons, he, Bool.false_or]⟩, by simp [intOf]; omega⟩
    · go_wp2
      go_ret
      exact ⟨ret_bool (by rw [← HA.out, List.drop_eq_nil_of_le (by omega)]; rfl), Bel.out⟩
end Go.Proofs.Ytjceeengnnjipaa.PAll
