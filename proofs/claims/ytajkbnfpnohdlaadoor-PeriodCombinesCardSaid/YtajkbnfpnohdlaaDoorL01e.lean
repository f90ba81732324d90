/- LAYER 1: numbers in texts. -/
import Derived.Test.YtajkbnfpnohdlaaDoorL01a
import Derived.LoopTactic
import Derived.WalkSpells
import Derived.Lib.ItoaNum
import Derived.Lib.ItoaMem
import Derived.Lib.ItoaLen
namespace Go.Proofs.YtajkbnfpnohdlaaDoor.L01
open Go.RowKit Go.Proofs.YtajkbnfpnohdlaaDoor.Kit Go.Lib
set_option linter.unusedVariables false

theorem digit_data : ∀ i : Fin 10, ((⟨#[48, 49, 50, 51, 52, 53, 54, 55, 56, 57]⟩ : ByteArray).extract i.val (i.val + 1)).data.toList = [UInt8.ofNat (48 + i.val)] := by decide +kernel
theorem digit_piece {u : Nat} (h : u < 10) : ((⟨#[48, 49, 50, 51, 52, 53, 54, 55, 56, 57]⟩ : ByteArray).extract u (u + 1)).data.toList = decDigits u := by
  rw [decDigits_one h]; exact digit_data ⟨u, h⟩
theorem append_toList (a b : ByteArray) : (a ++ b).data.toList = a.data.toList ++ b.data.toList := by
  simp [ByteArray.data_append]
def num (n : Int) : ByteArray := ⟨(decDigits n.toNat).toArray⟩
theorem ret_str' {a b : ByteArray} (h : a.data.toList = b.data.toList) : Ending.returned (.string a) = .returned (.string b) := by
  have : a = b := by cases a with | mk a => cases b with | mk b => simp at h; rw [h]
  rw [this]
set_option maxHeartbeats 1000000 in
theorem rnumber_calls (n : Int) (h0 : 0 ≤ n) (h1 : n ≤ 9223372036854775807) (w : World) :
    Calls Tryd.prog 38 #[.int .i64 n] w fun e w' => e = .returned (.string (num n)) ∧ Below w.heap.size w w' := by
  go_enter Tryd.func38, Tryd.ntmps38
  go_wp2
  go_loop [0, 3] (fun i s => ∃ (u : Nat) (t : ByteArray), (u : Int) ≤ n ∧ i = .int .i64 u ∧ s = .string t ∧ decDigits u ++ t.data.toList = decDigits n.toNat) (fun i _ => (intOf i).toNat)
  case atStart => exact ⟨n.toNat, ⟨#[]⟩, by omega, by rw [Int.toNat_of_nonneg h0], rfl, by simp⟩
  case round =>
    obtain ⟨u, t, hu, rfl, rfl, ht⟩ := hrel
    have hts : t.size ≤ 21 := by
      have h2 := congrArg List.length ht
      have h3 := itoa_length_le n (by omega) (by omega)
      rw [show itoa n = decDigits n.toNat by unfold itoa; rw [if_neg (by omega)]] at h3
      simp at h2
      have : t.data.size = t.size := rfl
      omega
    have HT := Lib.hid ht; clear ht
    by_cases hlt : 9 < u
    · go_wp2
      refine ⟨⟨u / 10, _, by omega, by simp, rfl, ?_⟩, by simp [intOf]; omega⟩
      rw [append_toList, digit_piece (Nat.mod_lt _ (by omega)), ← List.append_assoc, ← HT.out]
      conv => rhs; rw [decDigits, dif_neg (by omega)]
      rw [decDigits_one (Nat.mod_lt _ (by omega))]
    · go_wp2
      go_ret
      exact ⟨ret_str' (by simp only [num]; rw [append_toList, digit_piece (by omega)]; exact HT.out), Bel.out⟩
end Go.Proofs.YtajkbnfpnohdlaaDoor.L01
