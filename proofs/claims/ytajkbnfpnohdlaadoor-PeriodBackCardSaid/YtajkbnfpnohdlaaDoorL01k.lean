/- LAYER 1, THE PLAIN LAW: both parsers read the same. -/
import Derived.Test.YtajkbnfpnohdlaaDoorL01i
import Derived.Test.YtajkbnfpnohdlaaDoorL01j
import Derived.Lib.IndexMore
namespace Go.Proofs.YtajkbnfpnohdlaaDoor.L01
open Go.RowKit Go.Proofs.YtajkbnfpnohdlaaDoor.Kit Go.Lib
set_option linter.unusedVariables false
set_option linter.unusedSimpArgs false

def value (f t : List UInt8) : Int × Int × Int := if bound t ≤ numV f ∨ 1099511627776 < bound t then (0, 0, 6) else (numV f, bound t, 0)
structure Shape (l f t : List UInt8) : Prop where
  eq : l = 91 :: (f ++ 44 :: 32 :: (t ++ [41]))
  f_ok : numOk f = true
  t_ok : isFor t = true ∨ numOk t = true

theorem numOk_all {f : List UInt8} (h : numOk f = true) : f.all isDig = true := by simp [numOk] at h; simpa [List.all_eq_true] using h.2
theorem numOk_ne {f : List UInt8} (h : numOk f = true) : f ≠ [] := by rintro rfl; simp [numOk] at h
theorem takeWhile_dig (f r : List UInt8) (c : UInt8) (hf : f.all isDig = true) (hc : isDig c = false) : (f ++ c :: r).takeWhile isDig = f := by
  rw [List.takeWhile_append_of_pos (by simpa [List.all_eq_true] using hf), List.takeWhile_cons_of_neg (by simp [hc]), List.append_nil]
theorem not_comma {f : List UInt8} (hf : f.all isDig = true) (j : Nat) (c : UInt8) (hj : f[j]? = some c) : c ≠ 44 := by
  rw [List.all_eq_true] at hf
  have := hf c (List.mem_of_getElem? hj)
  rintro rfl
  simp [isDig, UInt8.le_iff_toNat_le] at this
theorem cut_shape {f t : List UInt8} (hf : f.all isDig = true) : cut (f ++ 44 :: 32 :: t) [44, 32] = (f, t, true) := by
  have hi : index (f ++ 44 :: 32 :: t) [44, 32] = f.length := by
    refine index_first (by simp) ?_ ?_
    · simp [occAt]
    · intro j hj
      rw [← Bool.not_eq_true]
      intro h
      have h2 := occAt_head rfl h
      rw [List.getElem?_append_left hj] at h2
      exact not_comma hf j _ h2 rfl
  unfold cut
  rw [hi, if_pos (by omega)]
  simp
theorem cut_back {q : List UInt8} (h : (cut q [44, 32]).2.2 = true) : q = (cut q [44, 32]).1 ++ 44 :: 32 :: (cut q [44, 32]).2.1 := by
  unfold cut at h ⊢
  rcases index_spec q [44, 32] with ⟨h1, _⟩ | ⟨i, h1, h2, h3, _⟩
  · rw [h1] at h; simp at h
  · rw [h1, if_pos (by omega)]
    rcases occAt_room h3 with h4 | h4
    · have h5 := occAt_iff_take q [44, 32] i h4
      rw [h3] at h5
      have h6 : (q.drop i).take 2 = [44, 32] := by simpa using h5.symm
      simp only [Int.toNat_natCast, List.length_cons, List.length_nil]
      conv => lhs; rw [← List.take_append_drop i q, ← List.take_append_drop 2 (q.drop i), h6, List.drop_drop]
      simp
    · cases h4
theorem suf (q : List UInt8) : hasSuffix (q ++ [41]) [41] = true := by unfold hasSuffix; rw [List.isSuffixOf_iff_suffix]; exact List.suffix_append _ _
theorem trimS (q : List UInt8) : trimSuffix (q ++ [41]) [41] = q := by
  unfold trimSuffix
  rw [if_pos (suf q), List.length_append, List.length_singleton, Nat.add_sub_cancel, List.take_left]
theorem shape_q (f t : List UInt8) : f ++ 44 :: 32 :: (t ++ [41]) = (f ++ 44 :: 32 :: t) ++ [41] := by simp
theorem parseP_shape {l f t : List UInt8} (h : Shape l f t) : parseP l = value f t := by
  have e1 : trimPrefix l [91] = f ++ 44 :: 32 :: (t ++ [41]) := by rw [h.eq]; simp [trimPrefix, hasPrefix, List.isPrefixOf]
  have e2 : pIn l = f ++ 44 :: 32 :: t := by rw [pIn, e1, shape_q, trimS]
  have e3 : pForm l = true := by
    rw [pForm, e1, e2, cut_shape (numOk_all h.f_ok), shape_q, suf, h.eq]
    simp [hasPrefix, List.isPrefixOf]
  unfold parseP
  rw [if_pos e3, e2, cut_shape (numOk_all h.f_ok), h.f_ok]
  have : (true && (isFor t || numOk t)) = true := by rcases h.t_ok with h | h <;> simp [h]
  simp only [this, if_true, value]
theorem parseP_none {l : List UInt8} (h : ∀ f t, ¬ Shape l f t) : parseP l = (0, 0, 1) := by
  unfold parseP
  split
  · rename_i h1
    split
    · rename_i h2
      exfalso
      simp only [pForm, Bool.and_eq_true] at h1
      obtain ⟨h3, h4, h5⟩ := h1
      simp only [Bool.and_eq_true, Bool.or_eq_true] at h2
      refine h _ _ ⟨?_, h2.1, h2.2⟩
      have e5 := cut_back h5
      simp only [hasPrefix, List.isPrefixOf_iff_prefix] at h3
      obtain ⟨m, hm⟩ := h3
      simp only [hasSuffix, List.isSuffixOf_iff_suffix] at h4
      obtain ⟨q, hq⟩ := h4
      have e1 : trimPrefix l [91] = m := by rw [← hm]; simp [trimPrefix, hasPrefix, List.isPrefixOf]
      have e2 : pIn l = q := by
        rw [pIn, ← hq, trimS]
      rw [e2] at e5 ⊢
      rw [← hm, ← e1, ← hq]
      conv => lhs; rw [e5]
      simp
    · rfl
  · rfl
theorem run_split (m : List UInt8) : m = m.takeWhile isDig ++ m.drop (m.takeWhile isDig).length := by
  have h := List.takeWhile_append_dropWhile (p := isDig) (l := m)
  have h2 : m.drop (m.takeWhile isDig).length = m.dropWhile isDig := by
    conv => lhs; arg 2; rw [← h]
    exact List.drop_left
  rw [h2, h]
theorem run_at (l : List UInt8) (a : Nat) : l.drop a = run l a ++ l.drop (a + (run l a).length) := by
  rw [← List.drop_drop]
  exact run_split _
/-- The reference's parser over a list. -/
def restL (n : Int) (l : List UInt8) (i : Nat) : Int × Int × Int :=
  if l.length < i + 2 then (0, 0, 1) else
  if (l.drop i).take 2 = [44, 32] then
    if l.drop (i + 2) = [102, 111, 114, 101, 118, 101, 114, 41] then (if 1099511627776 ≤ n then (0, 0, 6) else (n, 1099511627776, 0))
    else if runOk l (i + 2) then
      if l.drop (i + 2 + (run l (i + 2)).length) = [41] then
        if runN l (i + 2) ≤ n ∨ 1099511627776 ≤ runN l (i + 2) then (0, 0, 6) else (n, runN l (i + 2), 0)
      else (0, 0, 1)
    else (0, 0, 1)
  else (0, 0, 1)
def parseL (l : List UInt8) : Int × Int × Int :=
  if l.head? = some 91 ∧ runOk l 1 = true then restL (runN l 1) l (1 + (run l 1).length) else (0, 0, 1)
theorem tail_toList (s : ByteArray) (a : Nat) : (s.extract a s.size).toList = s.data.toList.drop a := by
  rw [extract_toList, List.take_of_length_le]
  rw [List.length_drop, size_toList]
  omega
theorem parseR_eq (s : ByteArray) : parseR s = parseL s.data.toList := by
  unfold parseR parseL restR restL
  rw [tail_toList, tail_toList, extract_toList, size_toList, show ∀ i : Nat, i + 2 - i = 2 from fun i => by omega]
theorem capv_min (l : List UInt8) (h : l.all isDig = true) : capv 1099511627776 l = min (capv 1099511627777 l) 1099511627776 := by
  have : ∀ m : List UInt8, m.reverse.all isDig = true → capv 1099511627776 m.reverse = min (capv 1099511627777 m.reverse) 1099511627776 := by
    intro m
    induction m with
    | nil => intro _; rfl
    | cons c m ih =>
      intro h
      rw [List.reverse_cons] at h ⊢
      rw [List.all_append, Bool.and_eq_true] at h
      have h2 := h.2
      have h3 := capv_bdR m h.1
      simp [isDig, UInt8.le_iff_toNat_le] at h2
      rw [capv_snoc, capv_snoc, ih h.1]
      omega
  have h2 := this l.reverse (by simpa using h)
  simpa using h2
theorem numV_ok {f : List UInt8} (h : numOk f = true) : numV f = capv 1099511627777 f := by simp [numV, h]
theorem isFor_iff (t : List UInt8) : isFor t = true ↔ t = [102, 111, 114, 101, 118, 101, 114] := by simp [isFor]
theorem parseL_shape {l f t : List UInt8} (h : Shape l f t) : parseL l = value f t := by
  have hf := numOk_all h.f_ok
  have r1 : run l 1 = f := by
    unfold run
    rw [h.eq, List.drop_one, List.tail_cons]
    exact takeWhile_dig f _ 44 hf rfl
  have ok1 : runOk l 1 = true := by rw [runOk, r1]; exact h.f_ok
  have n1 : runN l 1 = min (numV f) 1099511627776 := by rw [runN, if_pos ok1, r1, capv_min f hf, numV_ok h.f_ok]
  have d1 : l.drop (1 + f.length) = 44 :: 32 :: (t ++ [41]) := by rw [h.eq, Nat.add_comm, List.drop_succ_cons, List.drop_left]
  have d2 : l.drop (1 + f.length + 2) = t ++ [41] := by rw [← List.drop_drop, d1]; rfl
  have hl : l.length = 1 + f.length + 2 + t.length + 1 := by rw [h.eq]; simp; omega
  unfold parseL
  rw [if_pos ⟨by rw [h.eq]; rfl, ok1⟩, r1, n1]
  unfold restL
  rw [if_neg (by omega), d1, d2, if_pos (by rfl)]
  have nb := numV_bd f
  have tb := numV_bd t
  by_cases hx : isFor t = true
  · have := (isFor_iff t).1 hx
    subst this
    rw [if_pos (by rfl)]
    simp only [value, bound, hx, if_true]
    (repeat' split) <;> first | rfl | omega | (congr 1; omega)
  · have ht : numOk t = true := by rcases h.t_ok with h | h; exact absurd h hx; exact h
    have r2 : run l (1 + f.length + 2) = t := by
      unfold run
      rw [d2]
      exact takeWhile_dig t _ 41 (numOk_all ht) rfl
    have ok2 : runOk l (1 + f.length + 2) = true := by rw [runOk, r2]; exact ht
    have n2 : runN l (1 + f.length + 2) = min (numV t) 1099511627776 := by rw [runN, if_pos ok2, r2, capv_min t (numOk_all ht), numV_ok ht]
    rw [if_neg, if_pos ok2, r2, if_pos, n2]
    · simp only [value, bound, hx, if_false]
      (repeat' split) <;> simp_all <;> omega
    · rw [← List.drop_drop, d2, List.drop_left]
    · intro e
      refine hx ((isFor_iff t).2 ?_)
      have := congrArg List.dropLast e
      simpa using this
theorem parseL_none {l : List UInt8} (h : ∀ f t, ¬ Shape l f t) : parseL l = (0, 0, 1) := by
  unfold parseL
  split
  · rename_i h1
    obtain ⟨h2, h3⟩ := h1
    have e1 : l = 91 :: l.drop 1 := by
      cases l with
      | nil => simp at h2
      | cons c m => simp at h2; subst h2; rfl
    have e2 := run_at l 1
    unfold restL
    split
    · rfl
    · split
      · rename_i h4 h5
        have e3 : l.drop (1 + (run l 1).length) = 44 :: 32 :: l.drop (1 + (run l 1).length + 2) := by
          conv => lhs; rw [← List.take_append_drop 2 (l.drop (1 + (run l 1).length)), h5, List.drop_drop]
          rfl
        split
        · rename_i h6
          exfalso
          refine h (run l 1) [102, 111, 114, 101, 118, 101, 114] ⟨?_, h3, .inl rfl⟩
          conv => lhs; rw [e1, e2, e3, h6]
          rfl
        · split
          · rename_i h7
            split
            · rename_i h8
              exfalso
              have e4 := run_at l (1 + (run l 1).length + 2)
              refine h (run l 1) (run l (1 + (run l 1).length + 2)) ⟨?_, h3, .inr h7⟩
              conv => lhs; rw [e1, e2, e3, e4, h8]
            · rfl
          · rfl
      · rfl
  · rfl
theorem parsers_agree (s : ByteArray) : parseR s = parseP s.data.toList := by
  rw [parseR_eq]
  by_cases h : ∃ f t, Shape s.data.toList f t
  · obtain ⟨f, t, h⟩ := h
    rw [parseL_shape h, parseP_shape h]
  · have h2 : ∀ f t, ¬ Shape s.data.toList f t := fun f t hs => h ⟨f, t, hs⟩
    rw [parseL_none h2, parseP_none h2]
end Go.Proofs.YtajkbnfpnohdlaaDoor.L01
