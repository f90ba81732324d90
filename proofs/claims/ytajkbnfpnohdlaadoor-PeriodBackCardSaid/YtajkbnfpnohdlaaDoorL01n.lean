/- LAYER 1, THE PLAIN LAW: a text and its period. -/
import Derived.Test.YtajkbnfpnohdlaaDoorL01k
namespace Go.Proofs.YtajkbnfpnohdlaaDoor.L01
open Go.RowKit Go.Proofs.YtajkbnfpnohdlaaDoor.Kit Go.Lib
set_option linter.unusedVariables false
set_option linter.unusedSimpArgs false

/-- The value of digits, without a cap. -/
def val (l : List UInt8) : Nat := l.foldl (fun n c => 10 * n + (c.toNat - 48)) 0
theorem val_snoc (l : List UInt8) (c : UInt8) : val (l ++ [c]) = 10 * val l + (c.toNat - 48) := by simp [val]
theorem all_snoc {l : List UInt8} {c : UInt8} (h : (l ++ [c]).all isDig = true) : l.all isDig = true ∧ 48 ≤ c.toNat ∧ c.toNat ≤ 57 := by
  rw [List.all_append, Bool.and_eq_true] at h
  refine ⟨h.1, ?_⟩
  have h2 := h.2
  simpa [isDig, UInt8.le_iff_toNat_le] using h2
theorem rev_ind {P : List UInt8 → Prop} (h0 : P []) (h1 : ∀ l c, P l → P (l ++ [c])) (l : List UInt8) : P l := by
  have : ∀ m : List UInt8, P m.reverse := by
    intro m
    induction m with
    | nil => exact h0
    | cons c m ih => rw [List.reverse_cons]; exact h1 _ _ ih
  simpa using this l.reverse
theorem capv_val (l : List UInt8) (h : l.all isDig = true) : capv 1099511627777 l = min (val l : Int) 1099511627777 := by
  induction l using rev_ind with
  | h0 => rfl
  | h1 l c ih =>
    have h2 := all_snoc h
    rw [capv_snoc, val_snoc, ih h2.1]
    omega
theorem dig_of (c : UInt8) (h1 : 48 ≤ c.toNat) (h2 : c.toNat ≤ 57) : UInt8.ofNat (48 + (c.toNat - 48)) = c := by
  rw [show 48 + (c.toNat - 48) = c.toNat by omega]
  exact UInt8.ofNat_toNat
/-- No zero ahead. -/
def lead (l : List UInt8) : Prop := l.head? = some 48 → l.length ≤ 1
theorem lead_of {l : List UInt8} (h : numOk l = true) : lead l := by
  intro h2
  simp [numOk, h2] at h
  exact h.1.2
theorem digits_back (l : List UInt8) : l.all isDig = true → lead l → l ≠ [] → decDigits (val l) = l ∧ (1 < l.length → 10 ≤ val l) := by
  induction l using rev_ind with
  | h0 => intro _ _ h; exact absurd rfl h
  | h1 l c ih =>
    intro h hl _
    have h2 := all_snoc h
    by_cases hn : l = []
    · subst hn
      refine ⟨?_, fun h => by simp at h⟩
      rw [val_snoc]
      simp only [val, List.foldl_nil, Nat.mul_zero, Nat.zero_add, List.nil_append]
      rw [decDigits_one (by omega), dig_of c h2.2.1 h2.2.2]
    · have hh : (l ++ [c]).head? = l.head? := by cases l with | nil => exact absurd rfl hn | cons a m => rfl
      have hll : lead l := fun h3 => by
        have h8 := hl (hh.trans h3)
        rw [List.length_append, List.length_singleton] at h8
        have := List.length_pos_iff.2 hn
        omega
      obtain ⟨h4, h5⟩ := ih h2.1 hll hn
      have hpos : 1 ≤ val l := by
        by_cases hz : val l = 0
        · exfalso
          rw [hz, decDigits_one (by decide)] at h4
          have := hl (by rw [hh, ← h4]; rfl)
          rw [← h4] at this
          simp at this
        · omega
      rw [val_snoc]
      refine ⟨?_, fun _ => by omega⟩
      rw [decDigits, dif_neg (by omega), show (10 * val l + (c.toNat - 48)) / 10 = val l by omega, show (10 * val l + (c.toNat - 48)) % 10 = c.toNat - 48 by omega, h4, dig_of c h2.2.1 h2.2.2]
theorem num_back {f : List UInt8} (h : numOk f = true) (hlt : numV f < 1099511627777) : num (numV f) = ⟨f.toArray⟩ := by
  have h1 := capv_val f (numOk_all h)
  rw [numV_ok h] at hlt ⊢
  have h2 := (digits_back f (numOk_all h) (lead_of h) (numOk_ne h)).1
  unfold num
  rw [show (capv 1099511627777 f).toNat = val f by omega, h2]
theorem decDigits_all (u : Nat) : (decDigits u).all isDig = true := by
  induction u using Nat.strongRecOn with
  | _ u ih =>
    by_cases h : u < 10
    · rw [decDigits_one h]
      have : ∀ i : Fin 10, isDig (UInt8.ofNat (48 + i.val)) = true := by decide
      simpa using this ⟨u, h⟩
    · rw [decDigits, dif_neg h, List.all_append, ih (u / 10) (by omega)]
      have : ∀ i : Fin 10, isDig (UInt8.ofNat (48 + i.val)) = true := by decide
      simpa using this ⟨u % 10, by omega⟩
theorem decDigits_val (u : Nat) : val (decDigits u) = u := by
  induction u using Nat.strongRecOn with
  | _ u ih =>
    have h9 : ∀ i : Fin 10, (UInt8.ofNat (48 + i.val)).toNat - 48 = i.val := by decide
    by_cases h : u < 10
    · rw [decDigits_one h]
      have := h9 ⟨u, h⟩
      simp only [val, List.foldl_cons, List.foldl_nil]
      simp only at this
      omega
    · rw [decDigits, dif_neg h, val_snoc, ih (u / 10) (by omega)]
      have := h9 ⟨u % 10, by omega⟩
      simp only at this
      omega
theorem decDigits_head (u : Nat) (h : 1 ≤ u) : ∃ c m, decDigits u = c :: m ∧ c ≠ 48 := by
  induction u using Nat.strongRecOn with
  | _ u ih =>
    by_cases h2 : u < 10
    · rw [decDigits_one h2]
      refine ⟨_, [], rfl, ?_⟩
      have : ∀ i : Fin 10, i.val ≠ 0 → UInt8.ofNat (48 + i.val) ≠ 48 := by decide
      exact this ⟨u, h2⟩ (by simp; omega)
    · obtain ⟨c, m, e, hc⟩ := ih (u / 10) (by omega) (by omega)
      rw [decDigits, dif_neg h2, e]
      exact ⟨c, _, rfl, hc⟩
theorem decDigits_ok (u : Nat) : numOk (decDigits u) = true := by
  rw [numOk, decDigits_all]
  have hl := decDigits_length u
  have hp := nDigits_pos u
  have h1 : (decDigits u).isEmpty = false := by
    rw [← Bool.not_eq_true, List.isEmpty_iff]
    intro e
    rw [e] at hl
    simp at hl
    omega
  by_cases hu : 1 ≤ u
  · obtain ⟨c, m, e, hc⟩ := decDigits_head u hu
    rw [e]
    simp [hc]
  · obtain rfl : u = 0 := by omega
    rw [decDigits_one (by decide)]
    decide
theorem numV_dec (n : Int) (h0 : 0 ≤ n) (h1 : n ≤ 1099511627776) : numV (decDigits n.toNat) = n := by
  rw [numV_ok (decDigits_ok _), capv_val _ (decDigits_all _), decDigits_val]
  omega
theorem not_forever (u : Nat) : isFor (decDigits u) = false := by
  rw [← Bool.not_eq_true, isFor_iff]
  intro e
  have := decDigits_all u
  rw [e] at this
  exact absurd this (by decide)
/-- A valid period is parsed from its text. -/
theorem parse_txt {a b : Int} (h : valid a b = true) : parseP (txt a b).data.toList = (a, b, 0) := by
  have hv := h
  simp [valid] at hv
  obtain ⟨h0, h1, h2⟩ := hv
  by_cases hb : b = 1099511627776
  · have hs : Shape (txt a b).data.toList (decDigits a.toNat) [102, 111, 114, 101, 118, 101, 114] := by
      refine ⟨?_, decDigits_ok _, .inl rfl⟩
      rw [txt, if_pos h, if_pos hb]
      simp [append_toList, num]
    rw [parseP_shape hs, value, numV_dec a h0 (by omega)]
    simp only [bound, show isFor [102, 111, 114, 101, 118, 101, 114] = true from rfl, if_true]
    rw [if_neg (by omega), hb]
  · have hs : Shape (txt a b).data.toList (decDigits a.toNat) (decDigits b.toNat) := by
      refine ⟨?_, decDigits_ok _, .inr (decDigits_ok _)⟩
      rw [txt, if_pos h, if_neg hb]
      simp [append_toList, num]
    rw [parseP_shape hs, value, numV_dec a h0 (by omega)]
    have : bound (decDigits b.toNat) = b := by
      rw [bound, not_forever, numV_dec b (by omega) h2]
      simp [hb]
    rw [this, if_neg (by omega)]
theorem ba_ext {a b : ByteArray} (h : a.data.toList = b.data.toList) : a = b := by
  cases a with | mk a => cases b with | mk b => simp at h; rw [h]
/-- What is parsed has that text. -/
theorem txt_parse (s : ByteArray) (h : (parseP s.data.toList).2.2 = 0) : txt (parseP s.data.toList).1 (parseP s.data.toList).2.1 = s := by
  by_cases hs : ∃ f t, Shape s.data.toList f t
  · obtain ⟨f, t, hs⟩ := hs
    have nf := numV_bd f
    rw [parseP_shape hs] at h ⊢
    unfold value at h ⊢
    by_cases hc : bound t ≤ numV f ∨ 1099511627776 < bound t
    · rw [if_pos hc] at h; simp at h
    · rw [if_neg hc]
      simp only
      have hv : valid (numV f) (bound t) = true := by simp [valid]; omega
      rw [txt, if_pos hv, num_back hs.f_ok (by omega)]
      by_cases ht : isFor t = true
      · have hb : bound t = 1099511627776 := by simp [bound, ht]
        rw [hb, if_pos rfl]
        apply ba_ext
        rw [hs.eq, (isFor_iff t).1 ht]
        simp [append_toList]
      · have hto : numOk t = true := by rcases hs.t_ok with h | h; exact absurd h ht; exact h
        have hb : bound t = numV t := by
          unfold bound at hc ⊢
          rw [if_neg ht] at hc ⊢
          split at hc
          · omega
          · rename_i h3; rw [if_neg h3]
        have hb2 : bound t ≠ 1099511627776 := by
          rw [hb]
          intro e
          have : bound t = 1099511627777 := by simp [bound, ht, e]
          omega
        rw [if_neg hb2, hb, num_back hto (by omega)]
        apply ba_ext
        rw [hs.eq]
        simp [append_toList]
  · rw [parseP_none fun f t h => hs ⟨f, t, h⟩] at h
    simp at h
end Go.Proofs.YtajkbnfpnohdlaaDoor.L01
