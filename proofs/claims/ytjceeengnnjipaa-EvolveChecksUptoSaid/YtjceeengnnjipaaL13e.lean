/- LAYER 13: the reference's names: the walk. -/
import Derived.Test.YtjceeengnnjipaaL13d
namespace Go.Proofs.Ytjceeengnnjipaa.L13
open Go.RowKit Go.Proofs.Ytjceeengnnjipaa.Kit Go.Proofs.Ytjceeengnnjipaa.L07 Go.Proofs.YtjceeengnnjipaaW.PrintWords
set_option linter.unusedVariables false
attribute [local go_sem] allocCell allocFrozen setFar setFrozen allocAny allocAdd

theorem isWord_any (s : ByteArray) : (wordsB.any fun x => x.toList == s.toList) = isWord s := by
  unfold isWord wordsB
  rw [List.any_map]
  congr 1
  funext l
  show ((ByteArray.mk l.toArray).toList == s.toList) = (s.toList == l)
  rw [ByteArray.toList_mk]
  exact BEq.comm
theorem nameOk_size {s : ByteArray} (h : s.size = 0 ∨ 24 < s.size) : nameOk s = false := by
  unfold nameOk
  rw [decide_eq_false (by rintro ⟨_, _, _⟩; omega)]
  rfl
theorem in_words (v : Value) (s : ByteArray) (w : World) (b : Nat) (hR : Hid (Kd.string.R 9 w b (fun _ => True) v wordsB)) :
    Calls Try.prog 47 #[v, .string s] w fun e w' => e = .returned (.bool (isWord s)) ∧ Below w.heap.size w w' := by
  obtain ⟨A, c, rfl, hl, hC⟩ := Kd.R_reads hR.out
  rw [← isWord_any]
  exact in_calls A c wordsB s w hC hl
set_option maxRecDepth 20000 in
set_option maxHeartbeats 2000000 in
theorem rname_calls (s : ByteArray) (w : World) :
    Calls Try.prog 24 #[.string s] w fun e w' => e = .returned (.bool (nameOk s)) ∧ Below w.heap.size w w' := by
  have hsz : s.toList = [] ↔ s.size = 0 := by
    rw [ByteArray.toList_eq]; constructor
    · intro h; have := congrArg List.length h; simpa using this
    · intro h; exact List.eq_nil_of_length_eq_zero (by simpa using h)
  have hse : s.toList.isEmpty = true ↔ s.size = 0 := by rw [List.isEmpty_iff, hsz]
  by_cases hz : s.size = 0
  · obtain rfl := ba_empty.2 hz
    go_enter Try.func24, Try.ntmps24
    go_wp2
    go_ret
    exact ⟨ret_bool (nameOk_size (.inl rfl)).symm, Bel.out⟩
  have hp : 0 < s.size := by omega
  have HE := Lib.hid hse; have HN := Lib.hid hsz
  clear hse hsz
  go_enter Try.func24, Try.ntmps24
  go_wp2
  · exact absurd (HN.out.1 (by assumption)) hz
  · go_ret
    refine ⟨ret_bool (name_bad hp ?_).symm, Bel.out⟩
    have h := (by assumption : (s.toList.isEmpty = true ∨ 24 < (s.size : Int)) ∨ ((s[0]'hp).toNat : Int) ≤ 57)
    rw [HE.out] at h
    simp [nameC]
    omega
  · have h := (by assumption : (s.toList.isEmpty = false ∧ (s.size : Int) ≤ 24) ∧ 57 < ((s[0]'hp).toNat : Int))
    have HZ := Lib.hid (show ¬ (48 ≤ (s[0]'hp).toNat ∧ (s[0]'hp).toNat ≤ 57) by omega)
    have HS := Lib.hid (show s.size ≤ 24 by omega)
    go_loop [3] (fun i => ∃ k : Nat, k ≤ s.size ∧ i = .int .i64 k ∧ letters s k) (fun i => s.size - (intOf i).toNat)
    case atStart => exact ⟨0, by omega, rfl, fun _ _ h => by omega⟩
    case round =>
      obtain ⟨k, hk, rfl, hall⟩ := hrel
      have HA := Lib.hid hall; clear hall
      have hs24 := HS.out
      by_cases hlt : k < s.size
      · have hq : k = 0 → ¬ (48 ≤ s[k].toNat ∧ s[k].toNat ≤ 57) := by
          intro e; subst e; exact HZ.out
        have HQ := Lib.hid hq; clear hq
        go_wp2
        all_goals first
          | (refine ⟨⟨k + 1, by omega, by go_num, letters_succ HA.out hlt ?_⟩, by simp [intOf]; omega⟩
             have hq := HQ.out
             simp [nameC]
             first | omega | (simp_all; done) | (simp_all; omega))
          | (go_ret
             refine ⟨ret_bool (name_bad hlt ?_).symm, Bel.out⟩
             simp [nameC]
             first | omega | (simp_all; done) | (simp_all; omega))
      · have hl : letters s s.size := by have : k = s.size := by omega
                                         exact this ▸ HA.out
        have HL := Lib.hid hl
        have HP := Lib.hid hp
        go_wp2_with (first
          | (go_at_call 48; (with_reducible refine (rwords_calls _).mono ?_); rintro e w1 ⟨v, rfl, hR, hb⟩; have HR := Lib.hid hR; clear hR; have hs := Step.of hb; clear hb)
          | (go_at_call 47; (with_reducible refine (in_words _ _ _ _ HR).mono ?_); rintro e w1 ⟨rfl, hb⟩; have hs := Step.of hb; clear hb))
        go_ret
        refine ⟨ret_bool ?_, Bel.out⟩
        unfold nameOk
        rw [decide_eq_true ⟨HP.out, HS.out, HL.out⟩]
        rfl
  · have h := (by assumption : s.toList.isEmpty = true ∨ 24 < (s.size : Int))
    rw [HE.out] at h
    exact absurd h (by omega)
  · have h := (by assumption : ((s[0]'hp).toNat : Int) < 48)
    have HZ := Lib.hid (show ¬ (48 ≤ (s[0]'hp).toNat ∧ (s[0]'hp).toNat ≤ 57) by omega)
    have HS := Lib.hid (show s.size ≤ 24 by omega)
    go_loop [3] (fun i => ∃ k : Nat, k ≤ s.size ∧ i = .int .i64 k ∧ letters s k) (fun i => s.size - (intOf i).toNat)
    case atStart => exact ⟨0, by omega, rfl, fun _ _ h => by omega⟩
    case round =>
      obtain ⟨k, hk, rfl, hall⟩ := hrel
      have HA := Lib.hid hall; clear hall
      have hs24 := HS.out
      by_cases hlt : k < s.size
      · have hq : k = 0 → ¬ (48 ≤ s[k].toNat ∧ s[k].toNat ≤ 57) := by
          intro e; subst e; exact HZ.out
        have HQ := Lib.hid hq; clear hq
        go_wp2
        all_goals first
          | (refine ⟨⟨k + 1, by omega, by go_num, letters_succ HA.out hlt ?_⟩, by simp [intOf]; omega⟩
             have hq := HQ.out
             simp [nameC]
             first | omega | (simp_all; done) | (simp_all; omega))
          | (go_ret
             refine ⟨ret_bool (name_bad hlt ?_).symm, Bel.out⟩
             simp [nameC]
             first | omega | (simp_all; done) | (simp_all; omega))
      · have hl : letters s s.size := by have : k = s.size := by omega
                                         exact this ▸ HA.out
        have HL := Lib.hid hl
        have HP := Lib.hid hp
        go_wp2_with (first
          | (go_at_call 48; (with_reducible refine (rwords_calls _).mono ?_); rintro e w1 ⟨v, rfl, hR, hb⟩; have HR := Lib.hid hR; clear hR; have hs := Step.of hb; clear hb)
          | (go_at_call 47; (with_reducible refine (in_words _ _ _ _ HR).mono ?_); rintro e w1 ⟨rfl, hb⟩; have hs := Step.of hb; clear hb))
        go_ret
        refine ⟨ret_bool ?_, Bel.out⟩
        unfold nameOk
        rw [decide_eq_true ⟨HP.out, HS.out, HL.out⟩]
        rfl
  · go_ret
    exact ⟨ret_bool (nameOk_size (.inr (by omega))).symm, Bel.out⟩
end Go.Proofs.Ytjceeengnnjipaa.L13
