/- LAYER 1: digits read. -/
import Derived.Test.YtajkbnfpnohdlaaDoorL01a
import Derived.LoopTactic
import Derived.WalkSpells
namespace Go.Proofs.YtajkbnfpnohdlaaDoor.L01
open Go.RowKit Go.Proofs.YtajkbnfpnohdlaaDoor.Kit
set_option linter.unusedVariables false

def isDig (c : UInt8) : Bool := 48 ≤ c && c ≤ 57
/-- The value of digits, never above a cap. -/
def capv (cap : Int) (l : List UInt8) : Int := l.foldl (fun n c => min (10 * n + ((c.toNat : Int) - 48)) cap) 0
theorem capv_snoc (cap : Int) (l : List UInt8) (c : UInt8) : capv cap (l ++ [c]) = min (10 * capv cap l + ((c.toNat : Int) - 48)) cap := by simp [capv]
def numOk (l : List UInt8) : Bool := !l.isEmpty && !(l.head? == some 48 && decide (1 < l.length)) && l.all isDig
theorem take_snoc (s : ByteArray) (k : Nat) (h : k < s.size) : s.data.toList.take (k + 1) = s.data.toList.take k ++ [s[k]] := by
  rw [List.take_succ_eq_append_getElem (by simpa using h)]; rfl
theorem capv_bdR (l : List UInt8) (h : l.reverse.all isDig = true) : 0 ≤ capv 1099511627777 l.reverse ∧ capv 1099511627777 l.reverse ≤ 1099511627777 := by
  induction l with
  | nil => simp [capv]
  | cons c l ih =>
    rw [List.reverse_cons] at h ⊢
    rw [List.all_append, Bool.and_eq_true] at h
    have := ih h.1
    have h2 := h.2
    simp [isDig, UInt8.le_iff_toNat_le] at h2
    rw [capv_snoc]
    omega
theorem capv_bd (l : List UInt8) (h : l.all isDig = true) : 0 ≤ capv 1099511627777 l ∧ capv 1099511627777 l ≤ 1099511627777 := by
  have := capv_bdR l.reverse (by simpa using h)
  simpa using this
def numV (l : List UInt8) : Int := if numOk l then capv 1099511627777 l else 0
theorem numOk_false {s : ByteArray} (k : Nat) (hk : k < s.size) (h : ¬ isDig s[k] = true) : numOk s.data.toList = false := by
  have : s.data.toList.all isDig = false := by
    rw [← Bool.not_eq_true, List.all_eq_true]
    intro h2
    exact h (h2 _ (by show s.data[k] ∈ _; exact Array.getElem_mem_toList _))
  simp [numOk, this]
theorem ne_nil {s : ByteArray} (h : 0 < s.size) : s.data.toList ≠ [] := by
  intro e
  have h9 := congrArg List.length e
  have : s.data.toList.length = s.size := by simp
  simp only [List.length_nil] at h9
  omega
theorem head_some {s : ByteArray} (h : 0 < s.size) : s.data.toList.head? = some s[0] := by
  rw [List.head?_eq_getElem?, List.getElem?_eq_getElem (by simpa using h)]; rfl
theorem numOk_zero {s : ByteArray} (h : 1 < s.size) (h0 : (s[0].toNat : Int) = 48) : numOk s.data.toList = false := by
  have h00 : s[0].toNat = 48 := by exact_mod_cast h0
  have h1 : s[0] = 48 := UInt8.toNat_inj.1 (by rw [h00]; rfl)
  have h2 : 1 < s.data.toList.length := by simpa using h
  have h3 : (s.data.toList.head? == some 48 && decide (1 < s.data.toList.length)) = true := by
    rw [head_some (show 0 < s.size by omega), h1, decide_eq_true h2]; rfl
  rw [numOk, h3]
  simp
theorem numOk_true {s : ByteArray} (h : 0 < s.size) (h0 : ¬ ((s[0].toNat : Int) = 48) ∨ (s.size : Int) ≤ 1) (h2 : s.data.toList.all isDig = true) : numOk s.data.toList = true := by
  have h3 := ne_nil h
  have h4 : s.data.toList.length = s.size := by simp
  have h5 : (s.data.toList.head? == some 48 && decide (1 < s.data.toList.length)) = false := by
    rw [head_some h, h4]
    rcases h0 with h0 | h0
    · have : s[0] ≠ 48 := by intro e; rw [e] at h0; exact h0 rfl
      simp [this]
    · simp; intro; omega
  rw [numOk, h5, h2]
  simpa using h3
theorem ret_two {a b : Value} {a' b' : Value} (h : a = a') (h' : b = b') : Ending.returned (.tuple #[a, b]) = .returned (.tuple #[a', b']) := by rw [h, h']
set_option maxHeartbeats 1000000 in
theorem number_calls (s : ByteArray) (hs : s.size ≤ 4294967280) (w : World) :
    Calls Tryd.prog 37 #[.string s] w fun e w' => e = .returned (.tuple #[.int .i64 (numV s.data.toList), .bool (numOk s.data.toList)]) ∧ Below w.heap.size w w' := by
  by_cases he : s.size = 0
  · obtain rfl : s = ⟨#[]⟩ := by cases s with | mk a => simp [ByteArray.size] at he; rw [he]
    go_enter Tryd.func37, Tryd.ntmps37
    go_wp2
    go_ret2
    exact ⟨ret_two rfl rfl, Bel.out⟩
  have he1 : 0 < s.size := by omega
  have he2 : s.toList = [] → False := by rw [ByteArray.toList_eq]; exact ne_nil he1
  have he3 : s.toList.isEmpty = false := by rw [← Bool.not_eq_true, List.isEmpty_iff]; exact he2
  go_enter Tryd.func37, Tryd.ntmps37
  go_wp2
  · go_ret2
    have hz := numOk_zero (s := s) (by omega) (by assumption)
    exact ⟨ret_two (by simp [numV, hz]) (by simp [hz]), Bel.out⟩
  all_goals
    have H0 : Hid (¬ ((s[0].toNat : Int) = 48) ∨ (s.size : Int) ≤ 1) := by first | exact .inl (by assumption) | exact .inr (by assumption)
    go_loop [20, 4] (fun i n => ∃ k : Nat, k ≤ s.size ∧ i = .int .i64 k ∧ n = .int .i64 (capv 1099511627777 (s.data.toList.take k)) ∧ (s.data.toList.take k).all isDig = true) (fun i _ => s.size - (intOf i).toNat)
    case atStart => exact ⟨0, by omega, rfl, rfl, rfl⟩
    case round =>
      obtain ⟨k, hk, rfl, rfl, hall⟩ := hrel
      have hb := capv_bd _ hall
      have HA := Lib.hid hall; clear hall
      by_cases hlt : k < s.size
      · go_wp2
        all_goals first
          | (go_ret2
             have hd := numOk_false k hlt (by simp [isDig, UInt8.le_iff_toNat_le]; omega)
             exact ⟨ret_two (by simp [numV, hd]) (by simp [hd]), Bel.out⟩)
          | (have hd : isDig s[k] = true := by simp [isDig, UInt8.le_iff_toNat_le]; omega
             refine ⟨⟨k + 1, by omega, by go_num, ?_, ?_⟩, by simp [intOf]; omega⟩
             · rw [take_snoc s k hlt, capv_snoc]; congr 1; split <;> omega
             · rw [take_snoc s k hlt, List.all_append, HA.out]; simp [hd])
      · go_wp2
        go_ret2
        have ha := HA.out
        rw [List.take_of_length_le (by have : s.data.size = s.size := rfl; simp; omega)] at ha ⊢
        have hd := numOk_true he1 H0.out ha
        exact ⟨ret_two (by simp [numV, hd]) (by simp [hd]), Bel.out⟩
end Go.Proofs.YtajkbnfpnohdlaaDoor.L01
