/- GIVEN BY HAND for the told texts: schema.Find. -/
import Derived.Test.YtjceeengnnjipaaSpec
import Derived.Test.YtjceeengnnjipaaKdg
import Derived.LoopTactic
namespace Go.Proofs.Ytjceeengnnjipaa.PAll
open Go.RowKit Go.Proofs.Ytjceeengnnjipaa.Kit Go.Proofs.Ytjceeengnnjipaa.L13 Go.Proofs.YtjceeengnnjipaaW.PrintWords
set_option linter.unusedVariables false
attribute [local go_sem] allocCell allocFrozen setFar setFrozen allocAny allocAdd

theorem find1_calls (a : ByteArray) (k : Int) (b : Bool) (p : Nat) (nm : ByteArray) (w : World) (hp : w.cell? ⟨p, 0, none⟩ = some (.string nm)) :
    Calls Try.prog 42 #[.agg #[.string a, .int .i64 k, .bool b], .pointer (some ⟨p, 0, none⟩)] w fun e w' => e = .returned (.bool (a.toList == nm.toList)) ∧ Below w.heap.size w w' := by
  have hi : InHeap w p := InHeap.ofCell hp
  have hu := Try.underlying29
  go_enter Try.func42, Try.ntmps42
  go_wp2
  go_ret
  exact ⟨rfl, Bel.out⟩
set_option maxRecDepth 20000 in
set_option maxHeartbeats 1000000 in
theorem index_calls (A0 : Option Addr) (c0 : Nat) (xs : List Cl) (p : Nat) (nm : ByteArray) (w : World) (hr0 : Kd.C k29 w A0 xs.length xs) (hc0 : xs.length ≤ c0) (hp : w.cell? ⟨p, 0, none⟩ = some (.string nm)) :
    Calls Try.prog 41 #[.slice A0 xs.length c0, .func (.func 42) #[] #[.pointer (some ⟨p, 0, none⟩)]] w fun e w' => e = .returned (.int .i64 (findIx xs nm)) ∧ Below w.heap.size w w' := by
  have hi : InHeap w p := InHeap.ofCell hp
  have hm := hr0.2.1
  have hu := Try.underlying22
  go_enter Try.func41, Try.ntmps41
  go_wp2
  go_loopw [8] (fun i wr => ∃ k : Nat, k ≤ xs.length ∧ i = .int .i64 k ∧ Below w.heap.size w wr ∧ findFrom nm k (xs.drop k) = findIx xs nm) (fun i wr => xs.length - (intOf i).toNat)
  case atStart => exact ⟨0, by omega, rfl, Below.refl _ _, rfl⟩
  case round =>
    obtain ⟨k, hk, rfl, hbw, hall⟩ := hrel
    have HB : Bel w wr := ⟨hbw⟩
    have HA := Lib.hid hall; clear hall hbw
    by_cases hlt : k < xs.length
    · obtain ⟨ad, e, x0, x1, x2⟩ := at_T29 hr0 (k : Int) (by omega) (by omega)
      subst e
      simp only [Int.toNat_natCast] at x0 x1 x2
      have he : rd_T29 xs (k : Int) = xs[k] := by simp [rd_T29, hlt]
      rw [he] at x0 x1 x2
      replace x0 := (HB.out.cell (World.block_lt_of_cell? w _ x0)).trans x0
      replace x1 := (HB.out.cell (World.block_lt_of_cell? w _ x1)).trans x1
      replace x2 := (HB.out.cell (World.block_lt_of_cell? w _ x2)).trans x2
      have hp1 : wr.cell? ⟨p, 0, none⟩ = some (.string nm) := (HB.out.cell (World.block_lt_of_cell? w _ hp)).trans hp
      have hd : xs.drop k = xs[k] :: xs.drop (k + 1) := List.drop_eq_getElem_cons hlt
      have HD := Lib.hid hd; clear hd
      go_wp2_with (go_at_call 42; (with_reducible refine (find1_calls _ _ _ p nm _ (by assumption)).mono ?_); rintro e w1 ⟨rfl, hb⟩; have hs := Step.of hb; clear hb)
      · go_ret
        refine ⟨ret_int ?_, Bel.out⟩
        have h := HA.out
        rw [HD.out, findFrom, if_pos (by simpa using (by assumption : (xs[k].f0.toList == nm.toList) = true))] at h
        exact h
      · refine ⟨⟨k + 1, by omega, by go_num, Bel.out, ?_⟩, by simp [intOf]; omega⟩
        have h := HA.out
        rw [HD.out, findFrom, if_neg (by simpa using (by assumption : (xs[k].f0.toList == nm.toList) = false))] at h
        exact h
    · go_wp2
      go_ret
      refine ⟨ret_int ?_, Bel.out⟩
      have h := HA.out
      rw [List.drop_eq_nil_of_le (by omega)] at h
      exact h
def schema_Find.f (a0_0 : ByteArray) (l0_1 : List Cl) (l0_2 : List Int) (l0_3 : List Fg) (l0_4 : List Ex) (a1 : ByteArray) : Option Int := some (findIx l0_1 a1)
set_option maxRecDepth 20000 in
theorem schema_Find.calls (a0_0 : ByteArray) (A0_1 : Option Addr) (c0_1 : Nat) (l0_1 : List Cl) (A0_2 : Option Addr) (c0_2 : Nat) (l0_2 : List Int) (A0_3 : Option Addr) (c0_3 : Nat) (l0_3 : List Fg) (A0_4 : Option Addr) (c0_4 : Nat) (l0_4 : List Ex) (a1 : ByteArray) (r : Int) (w : World) (hr0_1 : Kd.C k29 w A0_1 l0_1.length l0_1) (hc0_1 : l0_1.length ≤ c0_1) (hr0_2 : Kd.C (Kd.int .i64) w A0_2 l0_2.length l0_2) (hc0_2 : l0_2.length ≤ c0_2) (hr0_3 : Kd.C k62 w A0_3 l0_3.length l0_3) (hc0_3 : l0_3.length ≤ c0_3) (hr0_4 : Kd.C k70 w A0_4 l0_4.length l0_4) (hc0_4 : l0_4.length ≤ c0_4) (h : schema_Find.f a0_0 l0_1 l0_2 l0_3 l0_4 a1 = some r) :
    Calls Try.prog 18 #[.agg #[.string a0_0, .slice A0_1 l0_1.length c0_1, .slice A0_2 l0_2.length c0_2, .slice A0_3 l0_3.length c0_3, .slice A0_4 l0_4.length c0_4], .string a1] w fun e w' => e = .returned (.int .i64 r) ∧ Below w.heap.size w w' := by
  cases h
  have HR := Lib.hid hr0_1; have HC := Lib.hid hc0_1
  clear hr0_1 hc0_1 hr0_2 hc0_2 hr0_3 hc0_3 hr0_4 hc0_4
  have hu := Try.underlying27
  have hmf : ∀ (fn : Fn) (first cap : Array Value) (w : World), (Instr.makeFunc fn first cap).run Try.prog w = .ok (.func fn first cap) w := fun _ _ _ _ => rfl
  go_enter Try.func18, Try.ntmps18
  go_wp2_with (go_at_call 41; (with_reducible refine (index_calls _ _ _ _ a1 _ ?g1 HC.out ?g2).mono ?_); (case g1 => exact up HR.out); (case g2 => first | (go_simp; done) | (go_simp; rfl)); rintro e w1 ⟨rfl, hb⟩; have hs := Step.of hb; clear hb)
  go_ret
  exact ⟨rfl, Bel.out⟩
end Go.Proofs.Ytjceeengnnjipaa.PAll
