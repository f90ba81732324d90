/- LAYER 13: the reference's names. -/
import Derived.Test.YtjceeengnnjipaaL13c
import Derived.Test.YtjceeengnnjipaaKdg
namespace Go.Proofs.Ytjceeengnnjipaa.L13
open Go.RowKit Go.Proofs.Ytjceeengnnjipaa.Kit Go.Proofs.Ytjceeengnnjipaa.L07 Go.Proofs.YtjceeengnnjipaaW.PrintWords
set_option linter.unusedVariables false
attribute [local go_sem] allocCell allocFrozen setFar setFrozen allocAny allocAdd

def wordsB : List ByteArray := words.map fun l => ⟨l.toArray⟩
set_option maxRecDepth 100000 in
theorem words_cells : (encs Value.string wordsB).toArray = #[.string ⟨#[97, 100, 100]⟩, .string ⟨#[97, 102, 116, 101, 114]⟩, .string ⟨#[97, 108, 108]⟩, .string ⟨#[97, 108, 116, 101, 114]⟩, .string ⟨#[97, 110, 100]⟩, .string ⟨#[97, 115]⟩, .string ⟨#[98, 101, 102, 111, 114, 101]⟩, .string ⟨#[98, 101, 103, 105, 110]⟩, .string ⟨#[98, 101, 116, 119, 101, 101, 110]⟩, .string ⟨#[98, 111, 111, 108]⟩, .string ⟨#[98, 121]⟩, .string ⟨#[99, 104, 101, 99, 107]⟩, .string ⟨#[99, 111, 97, 108, 101, 115, 99, 101]⟩, .string ⟨#[99, 111, 109, 109, 105, 116]⟩, .string ⟨#[99, 111, 110, 116, 97, 105, 110, 115]⟩, .string ⟨#[99, 111, 117, 110, 116]⟩, .string ⟨#[99, 114, 101, 97, 116, 101]⟩, .string ⟨#[100, 101, 102, 97, 117, 108, 116]⟩, .string ⟨#[100, 101, 108, 101, 116, 101]⟩, .string ⟨#[100, 101, 115, 99]⟩, .string ⟨#[100, 105, 115, 116, 105, 110, 99, 116]⟩, .string ⟨#[100, 114, 111, 112]⟩, .string ⟨#[100, 117, 114, 105, 110, 103]⟩, .string ⟨#[101, 113, 117, 97, 108, 115]⟩, .string ⟨#[101, 120, 99, 101, 112, 116]⟩, .string ⟨#[102, 97, 108, 115, 101]⟩, .string ⟨#[102, 105, 110, 105, 115, 104, 101, 100, 98, 121]⟩, .string ⟨#[102, 105, 110, 105, 115, 104, 101, 115]⟩, .string ⟨#[102, 111, 114, 101, 105, 103, 110]⟩, .string ⟨#[102, 111, 114, 101, 118, 101, 114]⟩, .string ⟨#[102, 114, 111, 109]⟩, .string ⟨#[103, 114, 111, 117, 112]⟩, .string ⟨#[104, 111, 108, 100]⟩, .string ⟨#[105, 102]⟩, .string ⟨#[105, 110, 115, 101, 114, 116]⟩, .string ⟨#[105, 110, 116]⟩, .string ⟨#[105, 110, 116, 101, 114, 115, 101, 99, 116]⟩, .string ⟨#[105, 110, 116, 111]⟩, .string ⟨#[105, 115]⟩, .string ⟨#[106, 111, 105, 110]⟩, .string ⟨#[107, 101, 121]⟩, .string ⟨#[108, 101, 102, 116]⟩, .string ⟨#[108, 101, 110, 103, 116, 104]⟩, .string ⟨#[108, 105, 109, 105, 116]⟩, .string ⟨#[109, 97, 120]⟩, .string ⟨#[109, 101, 101, 116, 115]⟩, .string ⟨#[109, 101, 116, 98, 121]⟩, .string ⟨#[109, 105, 110]⟩, .string ⟨#[110, 111, 110, 115, 101, 113, 117, 101, 110, 99, 101, 100]⟩, .string ⟨#[110, 111, 116]⟩, .string ⟨#[110, 111, 119]⟩, .string ⟨#[110, 117, 108, 108]⟩, .string ⟨#[111, 102]⟩, .string ⟨#[111, 110]⟩, .string ⟨#[111, 114]⟩, .string ⟨#[111, 114, 100, 101, 114]⟩, .string ⟨#[111, 118, 101, 114, 108, 97, 112, 112, 101, 100, 98, 121]⟩, .string ⟨#[111, 118, 101, 114, 108, 97, 112, 115]⟩, .string ⟨#[112, 114, 105, 109, 97, 114, 121]⟩, .string ⟨#[112, 114, 117, 110, 101]⟩, .string ⟨#[114, 101, 102, 101, 114, 101, 110, 99, 101, 115]⟩, .string ⟨#[114, 101, 108, 101, 97, 115, 101]⟩, .string ⟨#[114, 101, 110, 97, 109, 101]⟩, .string ⟨#[114, 101, 116, 97, 105, 110]⟩, .string ⟨#[114, 111, 108, 108, 98, 97, 99, 107]⟩, .string ⟨#[115, 101, 108, 101, 99, 116]⟩, .string ⟨#[115, 101, 113, 117, 101, 110, 99, 101, 100]⟩, .string ⟨#[115, 101, 116]⟩, .string ⟨#[115, 116, 97, 114, 116, 101, 100, 98, 121]⟩, .string ⟨#[115, 116, 97, 114, 116, 115]⟩, .string ⟨#[115, 117, 109]⟩, .string ⟨#[115, 121, 115, 116, 101, 109]⟩, .string ⟨#[115, 121, 115, 116, 101, 109, 102, 114, 111, 109]⟩, .string ⟨#[115, 121, 115, 116, 101, 109, 116, 111]⟩, .string ⟨#[116, 97, 98, 108, 101]⟩, .string ⟨#[116, 101, 120, 116]⟩, .string ⟨#[116, 111]⟩, .string ⟨#[116, 114, 117, 101]⟩, .string ⟨#[116, 120]⟩, .string ⟨#[117, 110, 100, 101, 114]⟩, .string ⟨#[117, 110, 105, 111, 110]⟩, .string ⟨#[117, 112, 100, 97, 116, 101]⟩, .string ⟨#[118, 97, 108, 105, 100]⟩, .string ⟨#[118, 97, 108, 105, 100, 102, 114, 111, 109]⟩, .string ⟨#[118, 97, 108, 105, 100, 116, 111]⟩, .string ⟨#[118, 97, 108, 117, 101, 115]⟩, .string ⟨#[119, 104, 101, 114, 101]⟩] := by rfl
set_option maxRecDepth 100000 in
theorem words_len : wordsB.length = 87 := by rfl
set_option maxHeartbeats 2000000 in
set_option maxRecDepth 100000 in
theorem rwords_calls (w : World) :
    Calls Try.prog 48 #[] w fun e w' => ∃ v, e = .returned v ∧ Kd.string.R 9 w' w.heap.size (fun _ => True) v wordsB ∧ Below w.heap.size w w' := by
  go_enter Try.func48, Try.ntmps48
  go_wp2
  go_ret
  refine ⟨_, rfl, ?_, Bel.out⟩
  rw [← words_cells]
  have hq := fun (W : World) (base g : Nat) (hg : W.heap.size = g) (hb : base ≤ W.heap.size) => R_litA (d := Kd.string) (e := 9) (W := W) (base := base) (g := g) (okp := fun _ => False) (Kd.reps_scalar (enc := Value.string) wordsB) hg hb (by rw [words_len]; decide)
  rw [words_len] at hq
  exact hq _ _ _ HSize.out (Nat.le_refl _)
set_option maxRecDepth 20000 in
set_option maxHeartbeats 1000000 in
theorem in_calls (A0 : Option Addr) (c0 : Nat) (xs : List ByteArray) (s : ByteArray) (w : World) (hr0 : Kd.C Kd.string w A0 xs.length xs) (hc0 : xs.length ≤ c0) :
    Calls Try.prog 47 #[.slice A0 xs.length c0, .string s] w fun e w' => e = .returned (.bool (xs.any fun x => x.toList == s.toList)) ∧ Below w.heap.size w w' := by
  have hu := Try.underlying73
  have hm := hr0.2.1
  go_enter Try.func47, Try.ntmps47
  go_wp2
  go_loop [5] (fun i => ∃ k : Nat, k ≤ xs.length ∧ i = .int .i64 k ∧ (xs.take k).any (fun x => x.toList == s.toList) = false) (fun i => xs.length - (intOf i).toNat)
  case atStart => exact ⟨0, by omega, rfl, rfl⟩
  case round =>
    obtain ⟨k, hk, rfl, ht⟩ := hrel
    have HT := Lib.hid ht; clear ht
    by_cases hlt : k < xs.length
    · obtain ⟨ad, rfl, hi, h0⟩ := at_string hr0 k hlt
      have he : xs.getD k ⟨#[]⟩ = xs[k] := by simp [hlt]
      rw [he] at h0
      go_wp2
      · go_ret
        exact ⟨ret_bool (List.any_eq_true.2 ⟨xs[k], List.getElem_mem _, by assumption⟩).symm, Bel.out⟩
      · refine ⟨⟨k + 1, by omega, by go_num, ?_⟩, by simp [intOf]; omega⟩
        rw [List.take_succ_eq_append_getElem hlt, List.any_append, HT.out]
        simpa using (by assumption : (xs[k].toList == s.toList) = false)
    · go_wp2
      go_ret
      exact ⟨ret_bool (by have := HT.out; rw [List.take_of_length_le (by omega)] at this; exact this.symm), Bel.out⟩
end Go.Proofs.Ytjceeengnnjipaa.L13
