/- LAYER 1: the reference's digits. -/
import Derived.Test.YtajkbnfpnohdlaaDoorL01f
namespace Go.Proofs.YtajkbnfpnohdlaaDoor.L01
open Go.RowKit Go.Proofs.YtajkbnfpnohdlaaDoor.Kit
set_option linter.unusedVariables false

theorem capv_bd0R (l : List UInt8) (h : l.reverse.all isDig = true) : 0 ≤ capv 1099511627776 l.reverse ∧ capv 1099511627776 l.reverse ≤ 1099511627776 := by
  induction l with
  | nil => simp [capv]
  | cons c l ih =>
    rw [List.reverse_cons] at h ⊢
    rw [List.all_append, Bool.and_eq_true] at h
    have := ih h.1
    have h2 := h.2
    simp [isDig, UInt8.le_iff_toNat_le] at h2
    rw [capv_snoc]
    omega
theorem capv_bd0 (l : List UInt8) (h : l.all isDig = true) : 0 ≤ capv 1099511627776 l ∧ capv 1099511627776 l ≤ 1099511627776 := by
  have := capv_bd0R l.reverse (by simpa using h)
  simpa using this
/-- The digits at a place. -/
def run (l : List UInt8) (at_ : Nat) : List UInt8 := (l.drop at_).takeWhile isDig
def runOk (l : List UInt8) (at_ : Nat) : Bool := numOk (run l at_)
def runN (l : List UInt8) (at_ : Nat) : Int := if runOk l at_ then capv 1099511627776 (run l at_) else 0
def runI (l : List UInt8) (at_ : Nat) : Int := if runOk l at_ then ((at_ + (run l at_).length : Nat) : Int) else -1
theorem run_stop {l : List UInt8} {a k : Nat} (h1 : a ≤ k) (h2 : k ≤ l.length) (hall : ((l.take k).drop a).all isDig = true) (hst : ∀ h : k < l.length, ¬ isDig l[k] = true) : run l a = (l.take k).drop a := by
  have e : l.drop a = (l.take k).drop a ++ l.drop k := by
    conv => lhs; rw [← List.take_append_drop k l, List.drop_append_of_le_length (by rw [List.length_take]; omega)]
  unfold run
  rw [e]
  rw [List.takeWhile_append_of_pos (by simpa [List.all_eq_true] using hall)]
  have : (l.drop k).takeWhile isDig = [] := by
    rcases Nat.lt_or_ge k l.length with h | h
    · rw [List.drop_eq_getElem_cons h, List.takeWhile_cons_of_neg (hst h)]
    · rw [List.drop_of_length_le h]; rfl
  rw [this, List.append_nil]
theorem run_len {l : List UInt8} {a k : Nat} (h1 : a ≤ k) (h2 : k ≤ l.length) : ((l.take k).drop a).length = k - a := by simp; omega
theorem run_head {l : List UInt8} {a k : Nat} (h1 : a < k) (h2 : k ≤ l.length) : ((l.take k).drop a).head? = some (l[a]'(by omega)) := by
  rw [List.head?_drop, List.getElem?_take_of_lt h1, List.getElem?_eq_getElem (by omega)]
theorem run_bad {l : List UInt8} {a k : Nat} (h1 : a ≤ k) (h2 : k ≤ l.length) (h : k = a ∨ ∃ h : a < l.length, l[a] = 48 ∧ a + 1 < k) : numOk ((l.take k).drop a) = false := by
  rcases h with rfl | ⟨h, h3, h4⟩
  · rw [List.drop_take_self]; rfl
  · rw [numOk, run_head (by omega) h2, h3, run_len h1 h2, decide_eq_true (by omega)]
    simp
theorem run_good {l : List UInt8} {a k : Nat} (h1 : a < k) (h2 : k ≤ l.length) (hall : ((l.take k).drop a).all isDig = true) (h : l[a]'(by omega) ≠ 48 ∨ k ≤ a + 1) : numOk ((l.take k).drop a) = true := by
  rw [numOk, run_head h1 h2, run_len (by omega) h2, hall]
  have : ((l.take k).drop a).isEmpty = false := by
    rw [← Bool.not_eq_true, List.isEmpty_iff]
    intro e
    have := congrArg List.length e
    rw [run_len (by omega) h2] at this
    simp at this
    omega
  rw [this]
  rcases h with h | h
  · simp [h]
  · rw [decide_eq_false (by omega)]; simp
theorem u8_48 {c : UInt8} (h : (c.toNat : Int) = 48) : c = 48 := by
  have h00 : c.toNat = 48 := by exact_mod_cast h
  exact UInt8.toNat_inj.1 (by rw [h00]; rfl)
theorem u8_n48 {c : UInt8} (h : ¬ (c.toNat : Int) = 48) : c ≠ 48 := by rintro rfl; exact h rfl
set_option maxHeartbeats 1000000 in
theorem digits_calls (s : ByteArray) (at_ : Nat) (hs : s.size ≤ 4294967280) (hat : at_ ≤ s.size) (w : World) :
    Calls Tryd.prog 39 #[.string s, .int .i64 at_] w fun e w' => e = .returned (.tuple #[.int .i64 (runN s.data.toList at_), .int .i64 (runI s.data.toList at_)]) ∧ Below w.heap.size w w' := by
  go_enter Tryd.func39, Tryd.ntmps39
  go_wp2
  go_loop [7, 6] (fun i n => ∃ k : Nat, at_ ≤ k ∧ k ≤ s.size ∧ i = .int .i64 k ∧ n = .int .i64 (capv 1099511627776 ((s.data.toList.take k).drop at_)) ∧ ((s.data.toList.take k).drop at_).all isDig = true) (fun i _ => s.size - (intOf i).toNat)
  case atStart => exact ⟨at_, by omega, hat, rfl, by rw [List.drop_take_self]; rfl, by rw [List.drop_take_self]; rfl⟩
  case round =>
    obtain ⟨k, hk1, hk, rfl, rfl, hall⟩ := hrel
    have hb := capv_bd0 _ hall
    have HA := Lib.hid hall; clear hall
    have hsz : s.data.toList.length = s.size := by simp
    by_cases hlt : k < s.size
    · go_wp2
      all_goals first
        | (have hd : isDig s[k] = true := by simp [isDig, UInt8.le_iff_toNat_le]; omega
           have ex : (s.data.toList.take (k + 1)).drop at_ = (s.data.toList.take k).drop at_ ++ [s[k]] := by
             rw [take_snoc s k hlt, List.drop_append_of_le_length (by rw [List.length_take]; omega)]
           refine ⟨⟨k + 1, by omega, by omega, by go_num, ?_, ?_⟩, by simp [intOf]; omega⟩
           · rw [ex, capv_snoc]; congr 1; (try split) <;> omega
           · rw [ex, List.all_append, HA.out]; simp [hd])
        | (go_ret2
           have hd : ¬ isDig s[k] = true := by simp [isDig, UInt8.le_iff_toNat_le]; omega
           have hr := run_stop hk1 (by omega) HA.out (fun _ => hd)
           first
             | (have hn := run_bad (l := s.data.toList) hk1 (by omega) (by first | exact .inl (by omega) | exact .inr ⟨by omega, u8_48 (by assumption), by have hq := (by assumption : (((k : Int) == (at_ : Int)) = true ∨ (at_ : Int) + 1 < (k : Int))); simp at hq; omega⟩)
                exact ⟨ret_two (by simp [runN, runOk, hr, hn]) (by simp [runI, runOk, hr, hn]), Bel.out⟩)
             | (have hn := run_good (l := s.data.toList) (a := at_) (k := k) (by omega) (by omega) HA.out (by first | exact .inl (u8_n48 (by assumption)) | exact .inr (by omega))
                exact ⟨ret_two (by simp [runN, runOk, hr, hn]) (by simp only [runI, runOk, hr, hn, run_len hk1 (show k ≤ s.data.toList.length by omega)]; simp; omega), Bel.out⟩))
    · go_wp2
      all_goals
        go_ret2
        have hr := run_stop hk1 (by omega) HA.out (fun h => by omega)
        first
          | (have hn := run_bad (l := s.data.toList) hk1 (by omega) (by first | exact .inl (by omega) | exact .inr ⟨by omega, u8_48 (by assumption), by have hq := (by assumption : (((k : Int) == (at_ : Int)) = true ∨ (at_ : Int) + 1 < (k : Int))); simp at hq; omega⟩)
             exact ⟨ret_two (by simp [runN, runOk, hr, hn]) (by simp [runI, runOk, hr, hn]), Bel.out⟩)
          | (have hn := run_good (l := s.data.toList) (a := at_) (k := k) (by omega) (by omega) HA.out (by first | exact .inl (u8_n48 (by assumption)) | exact .inr (by omega))
             exact ⟨ret_two (by simp [runN, runOk, hr, hn]) (by simp only [runI, runOk, hr, hn, run_len hk1 (show k ≤ s.data.toList.length by omega)]; simp; omega), Bel.out⟩)
end Go.Proofs.YtajkbnfpnohdlaaDoor.L01
