/- LAYER 13: whether a string is a name. -/
import Derived.Test.YtjceeengnnjipaaL13a
import Derived.Test.YtjceeengnnjipaaL13b
import Derived.LoopTactic
import Derived.Lib.OthersKept
namespace Go.Proofs.Ytjceeengnnjipaa.L13
open Go.RowKit Go.Proofs.Ytjceeengnnjipaa.Kit Go.Proofs.Ytjceeengnnjipaa.L07
set_option linter.unusedVariables false

instance (s : ByteArray) (n : Nat) : Decidable (letters s n) := by unfold letters; infer_instance
def nameOk (s : ByteArray) : Bool := decide (1 ≤ s.size ∧ s.size ≤ 24 ∧ letters s s.size) && !isWord s
def itPos (b : Nat) (w : World) : Nat := match w.heap[b]? with | some (.stringIter _ p) => p | _ => 0
theorem itPos_of {b : Nat} {w : World} {s : ByteArray} {k : Nat} (h : w.heap[b]? = some (.stringIter s k)) : itPos b w = k := by simp [itPos, h]
theorem itPos_iter (w : World) (s : ByteArray) (k : Nat) : itPos w.heap.size (w.iter s k) = k := by simp [itPos, World.iter_heap]
theorem letters_succ {s : ByteArray} {k : Nat} (h : letters s k) (hk : k < s.size) (hc : nameC k s[k] = true) : letters s (k + 1) := by
  intro i hi hik
  rcases Nat.lt_or_ge i k with h1 | h1
  · exact h i hi h1
  · obtain rfl : i = k := by omega
    exact hc
theorem name_bad {s : ByteArray} {k : Nat} (hk : k < s.size) (hc : nameC k s[k] = false) : nameOk s = false := by
  unfold nameOk
  rw [decide_eq_false (by rintro ⟨_, _, h⟩; have := h k hk hk; rw [hc] at this; cases this)]
  rfl
set_option maxRecDepth 20000 in
set_option maxHeartbeats 2000000 in
theorem name_calls (s : ByteArray) (w : World) :
    Calls Try.prog 20 #[.string s] w fun e w' => e = .returned (.bool (nameOk s)) ∧ Below w.heap.size w w' := by
  have hu := Try.underlying9
  go_enter Try.func20, Try.ntmps20
  go_wp2
  go_loopw [3] (fun _ wr => ∃ k : Nat, k ≤ s.size ∧ wr.heap[w.heap.size]? = some (.stringIter s k) ∧ Below w.heap.size w wr ∧ letters s k) (fun _ wr => s.size - itPos w.heap.size wr)
  case atStart => exact ⟨0, by omega, World.iter_heap w s 0, (Below.refl _ _).alloc (Nat.le_refl _) _, fun _ _ h => by omega⟩
  case round =>
    obtain ⟨k, hk, hit, hbw, hall⟩ := hrel
    have HA := Lib.hid hall; clear hall
    have hp0 := itPos_of hit
    by_cases hlt : k < s.size
    · by_cases ha : s[k].toNat < 128
      · have hnx : ∀ ty, (Instr.next (.pointer (some ⟨w.heap.size, 0, none⟩)) true ty).run Try.prog wr = _ := fun ty => Lib.run_next_ascii_at wr w.heap.size s k ty hit hlt ha
        have hit2 := Lib.iterAt_heap wr w.heap.size s k (k + 1) hit
        have hbw2 := Lib.below_iterAt hbw (k := w.heap.size) (Nat.le_refl _) s (k + 1)
        obtain ⟨W1, hW1⟩ : ∃ W1, W1 = wr.iterAt w.heap.size s (k + 1) := ⟨_, rfl⟩
        rw [← hW1] at hnx hit2 hbw2
        have hp1 := itPos_of hit2
        have HI := Lib.hid hit2; have HB := Lib.hid hbw2; have HP := Lib.hid hp0; have HQ := Lib.hid hp1
        clear hW1 hit hbw hit2 hbw2 hp0 hp1
        go_wp2
        all_goals first
          | (refine ⟨⟨k + 1, by omega, HI.out, HB.out, letters_succ HA.out hlt ?_⟩, by rw [HP.out, HQ.out]; omega⟩
             simp [nameC]
             first | omega | (simp_all; done) | (simp_all; omega))
          | (go_ret
             refine ⟨ret_bool (name_bad hlt ?_).symm, HB.out⟩
             simp [nameC]
             first | omega | (simp_all; done) | (simp_all; omega))
      · have hd := decode_big s k hlt (by omega)
        have hnx : ∀ ty, (Instr.next (.pointer (some ⟨w.heap.size, 0, none⟩)) true ty).run Try.prog wr = _ := fun ty => Lib.run_next_any_at wr w.heap.size s k ty hit hlt
        have hbw2 := Lib.below_iterAt hbw (k := w.heap.size) (Nat.le_refl _) s (k + (Utf8.decode s k).2)
        obtain ⟨W1, hW1⟩ : ∃ W1, W1 = wr.iterAt w.heap.size s (k + (Utf8.decode s k).2) := ⟨_, rfl⟩
        rw [← hW1] at hnx hbw2
        obtain ⟨r, hr⟩ : ∃ r, (Utf8.decode s k).1 = r := ⟨_, rfl⟩
        rw [hr] at hd hnx
        have HB := Lib.hid hbw2
        clear hW1 hit hbw hbw2 hp0 hr
        go_wp2
        all_goals
          first
            | (go_ret
               refine ⟨ret_bool (name_bad hlt ?_).symm, HB.out⟩
               simp [nameC]
               first | omega | (simp_all; done) | (simp_all; omega))
            | (exfalso
               have q := (by assumption : (97 ≤ (r : Int) ∧ (r : Int) ≤ 122 ∨ ((r : Int) != 95) = false))
               rcases q with q | q
               · omega
               · simp at q; omega)
    · have hnx : ∀ ty, (Instr.next (.pointer (some ⟨w.heap.size, 0, none⟩)) true ty).run Try.prog wr = _ := fun ty => Lib.run_next_end_at wr w.heap.size s k ty hit hlt
      have HB : Bel w wr := ⟨hbw⟩
      have hl : letters s s.size := by have : k = s.size := by omega
                                       exact this ▸ HA.out
      have HL := Lib.hid hl
      clear hit hbw hp0 hl
      go_wp2_with (go_at_call 45; (with_reducible refine (reserved_calls _ _).mono ?_); rintro e w1 ⟨rfl, hb⟩; have hs := Step.of hb; clear hb; have hc := hs.cell; have hf := hs.frozen)
      all_goals
        go_ret
        refine ⟨ret_bool ?_, Bel.out⟩
        unfold nameOk
        first
          | (rw [decide_eq_true ⟨by omega, by omega, HL.out⟩]; rfl)
          | (rw [decide_eq_false (by rintro ⟨_, _, _⟩; omega)]; rfl)
end Go.Proofs.Ytjceeengnnjipaa.L13
