/- LAYER 1: the reference's parser of periods. -/
import Derived.Test.YtajkbnfpnohdlaaDoorL01g
import Derived.WalkLawsBesides
namespace Go.Proofs.YtajkbnfpnohdlaaDoor.L01
open Go.RowKit Go.Proofs.YtajkbnfpnohdlaaDoor.Kit
set_option linter.unusedVariables false
attribute [local go_sem] allocCell allocFrozen setFar setFrozen allocAdd

theorem run_le (l : List UInt8) (a : Nat) (h : a ≤ l.length) : a + (run l a).length ≤ l.length := by
  have := (List.takeWhile_sublist isDig (l := l.drop a)).length_le
  rw [List.length_drop] at this
  unfold run
  omega
theorem u8_91 {c : UInt8} (h : (c.toNat : Int) = 91) : c = 91 := by
  have h00 : c.toNat = 91 := by exact_mod_cast h
  exact UInt8.toNat_inj.1 (by rw [h00]; rfl)
theorem runN_bd (l : List UInt8) (a : Nat) : 0 ≤ runN l a ∧ runN l a ≤ 1099511627776 := by
  unfold runN runOk
  split
  · rename_i h
    exact capv_bd0 _ (by simp [numOk] at h; simpa [List.all_eq_true] using h.2)
  · omega
theorem size_toList' (s : ByteArray) : s.data.toList.length = s.size := by simp
theorem digits_no {s : ByteArray} {a : Nat} {j : Int} (h : runOk s.data.toList a = false) (hj : j = a) (hs : s.size ≤ 4294967280) (hat : a ≤ s.size) (w : World) :
    Calls Tryd.prog 39 #[.string s, .int .i64 j] w fun e w' => e = .returned (.tuple #[.int .i64 0, .int .i64 (-1)]) ∧ Below w.heap.size w w' := by
  subst hj
  exact (digits_calls s a hs hat w).mono fun e w' ⟨he, hb⟩ => ⟨by rw [he]; simp [runN, runI, h], hb⟩
theorem digits_yes {s : ByteArray} {a i : Nat} {j n : Int} (h : runOk s.data.toList a = true) (hj : j = a) (hn : Hid (n = runN s.data.toList a)) (hi : Hid (i = a + (run s.data.toList a).length)) (hs : s.size ≤ 4294967280) (hat : a ≤ s.size) (w : World) :
    Calls Tryd.prog 39 #[.string s, .int .i64 j] w fun e w' => e = .returned (.tuple #[.int .i64 n, .int .i64 i]) ∧ Below w.heap.size w w' := by
  subst hj
  exact (digits_calls s a hs hat w).mono fun e w' ⟨he, hb⟩ => ⟨by rw [he, hn.out, hi.out]; simp [runI, h], hb⟩
theorem one : (1 : Int) = ((1 : Nat) : Int) := rfl
theorem two (i : Nat) : (i : Int) + 2 = ((i + 2 : Nat) : Int) := rfl
def restR (n : Int) (s : ByteArray) (i : Nat) : Int × Int × Int :=
  if s.size < i + 2 then (0, 0, 1) else
  if (s.extract i (i + 2)).toList = [44, 32] then
    if (s.extract (i + 2) s.size).toList = [102, 111, 114, 101, 118, 101, 114, 41] then (if 1099511627776 ≤ n then (0, 0, 6) else (n, 1099511627776, 0))
    else if runOk s.data.toList (i + 2) then
      if (s.extract (i + 2 + (run s.data.toList (i + 2)).length) s.size).toList = [41] then
        if runN s.data.toList (i + 2) ≤ n ∨ 1099511627776 ≤ runN s.data.toList (i + 2) then (0, 0, 6) else (n, runN s.data.toList (i + 2), 0)
      else (0, 0, 1)
    else (0, 0, 1)
  else (0, 0, 1)
def parseR (s : ByteArray) : Int × Int × Int :=
  if s.data.toList.head? = some 91 ∧ runOk s.data.toList 1 = true then restR (runN s.data.toList 1) s (1 + (run s.data.toList 1).length) else (0, 0, 1)
set_option maxHeartbeats 1000000 in
theorem rparse_calls (s : ByteArray) (hsz : s.size ≤ 4294967280) (w : World) :
    Calls Tryd.prog 21 #[.string s] w fun e w' => e = .returned (.tuple #[.agg #[.int .i64 (parseR s).1, .int .i64 (parseR s).2.1], .int .i64 (parseR s).2.2]) ∧ Below w.heap.size w w' := by
  obtain ⟨X, hX⟩ : ∃ X, X = parseR s := ⟨_, rfl⟩
  rw [← hX]
  by_cases h0 : s.size = 0
  · have hx : X = (0, 0, 1) := by
      obtain rfl : s = ⟨#[]⟩ := by cases s with | mk a => simp [ByteArray.size] at h0; rw [h0]
      rw [hX]; rfl
    subst hx
    go_enter Tryd.func21, Tryd.ntmps21
    go_wp2
    all_goals exact bodyPost_ret (v := .tuple #[.agg #[.int .i64 0, .int .i64 0], .int .i64 1]) (by simp [results, Tryd.results21, go_sem]) rfl ⟨rfl, Bel.out⟩
  have hp : 0 < s.size := by omega
  have hh := head_some hp
  have hp1 : 1 ≤ s.size := hp
  by_cases h1 : s[0] = 91
  case neg =>
    have hx : X = (0, 0, 1) := by rw [hX, parseR, if_neg]; rw [hh]; simp [h1]
    have h2 : ((s[0].toNat : Int) != 91) = true := by simpa using fun e => h1 (u8_91 (by exact_mod_cast e))
    have h5 : ((s.size : Int) == 0) = false := by simpa using h0
    subst hx
    go_enter Tryd.func21, Tryd.ntmps21
    go_wp2
    all_goals exact bodyPost_ret (v := .tuple #[.agg #[.int .i64 0, .int .i64 0], .int .i64 1]) (by simp [results, Tryd.results21, go_sem]) rfl ⟨rfl, Bel.out⟩
  have h2 : (s[0].toNat : Int) = 91 := by rw [h1]; rfl
  rcases h3 : runOk s.data.toList 1 with _ | _
  · have hx : X = (0, 0, 1) := by rw [hX, parseR, if_neg]; simp [h3]
    subst hx
    go_enter Tryd.func21, Tryd.ntmps21
    go_wp2_with (go_at_call 39; refine (digits_no (a := 1) (j := 1) h3 one hsz hp1 _).mono ?_; rintro e w1 ⟨rfl, hb⟩; have hs := Step.of hb; clear hb; have hc := hs.cell; have hf := hs.frozen)
    all_goals exact bodyPost_ret (v := .tuple #[.agg #[.int .i64 0, .int .i64 0], .int .i64 1]) (by simp_all [results, Tryd.results21, go_sem]) rfl ⟨rfl, Bel.out⟩
  · have l1 := run_le s.data.toList 1 (by rw [size_toList']; omega)
    have n1 := runN_bd s.data.toList 1
    rw [size_toList'] at l1
    obtain ⟨n, en⟩ : ∃ n, Hid (n = runN s.data.toList 1) := ⟨_, Lib.hid rfl⟩
    obtain ⟨i, ei⟩ : ∃ i, Hid (i = 1 + (run s.data.toList 1).length) := ⟨_, Lib.hid rfl⟩
    rw [← ei.out] at l1
    rw [← en.out] at n1
    have hx : Hid (X = restR n s i) := Lib.hid (by rw [hX, parseR, if_pos ⟨by rw [hh, h1], h3⟩, ← en.out, ← ei.out])
    clear hX
    by_cases hi : s.size < i + 2
    · have hx2 : X = (0, 0, 1) := by rw [hx.out, restR, if_pos hi]
      subst hx2
      go_enter Tryd.func21, Tryd.ntmps21
      go_wp2_with (go_at_call 39; refine (digits_yes (a := 1) (j := 1) h3 one en ei hsz hp1 _).mono ?_; rintro e w1 ⟨rfl, hb⟩; have hs := Step.of hb; clear hb; have hc := hs.cell; have hf := hs.frozen)
      all_goals exact bodyPost_ret (v := .tuple #[.agg #[.int .i64 0, .int .i64 0], .int .i64 1]) (by simp_all [results, Tryd.results21, go_sem]) rfl ⟨rfl, Bel.out⟩
    have hx3 : Hid (X = if (s.extract i (i + 2)).toList = [44, 32] then
        if (s.extract (i + 2) s.size).toList = [102, 111, 114, 101, 118, 101, 114, 41] then (if 1099511627776 ≤ n then (0, 0, 6) else (n, 1099511627776, 0))
        else if runOk s.data.toList (i + 2) then
          if (s.extract (i + 2 + (run s.data.toList (i + 2)).length) s.size).toList = [41] then
            if runN s.data.toList (i + 2) ≤ n ∨ 1099511627776 ≤ runN s.data.toList (i + 2) then (0, 0, 6) else (n, runN s.data.toList (i + 2), 0)
          else (0, 0, 1)
        else (0, 0, 1)
      else (0, 0, 1)) := Lib.hid (by rw [hx.out, restR, if_neg hi])
    clear hx
    have hi2 : i + 2 ≤ s.size := by omega
    rcases h4 : runOk s.data.toList (i + 2) with _ | _
    · go_enter Tryd.func21, Tryd.ntmps21
      go_wp2_with (go_at_call 39; (first | (with_reducible refine (digits_yes (a := 1) (j := 1) h3 one en ei hsz hp1 _).mono ?_) | (with_reducible refine (digits_no (a := i + 2) (j := (i : Int) + 2) h4 (two i) hsz hi2 _).mono ?_)); rintro e w1 ⟨rfl, hb⟩; have hs := Step.of hb; clear hb; have hc := hs.cell; have hf := hs.frozen)
      all_goals
        have hq := hx3.out
        have hz1 : ¬ ((i : Int) < 0) := by omega
        have hz2 : ¬ ((s.size : Int) < (i : Int) + 2) := by omega
        clear hx3 ei en l1
        exact bodyPost_ret (v := .tuple #[.agg #[.int .i64 X.1, .int .i64 X.2.1], .int .i64 X.2.2]) (by simp_all [results, Tryd.results21, go_sem] <;> first | (rw [if_neg (by omega)]; simp; done) | (rw [if_pos (by omega)]; simp; done) | (exfalso; omega)) rfl ⟨rfl, Bel.out⟩
    · have l2 := run_le s.data.toList (i + 2) (by rw [size_toList']; omega)
      have n2 := runN_bd s.data.toList (i + 2)
      rw [size_toList'] at l2
      obtain ⟨m, em⟩ : ∃ m, Hid (m = runN s.data.toList (i + 2)) := ⟨_, Lib.hid rfl⟩
      obtain ⟨k, ek⟩ : ∃ k, Hid (k = i + 2 + (run s.data.toList (i + 2)).length) := ⟨_, Lib.hid rfl⟩
      rw [← ek.out] at l2
      rw [← em.out] at n2
      have hx4 := hx3.out
      rw [← ek.out, ← em.out, h4] at hx4
      have HX := Lib.hid hx4
      clear hx4 hx3
      go_enter Tryd.func21, Tryd.ntmps21
      go_wp2_with (go_at_call 39; (first | (with_reducible refine (digits_yes (a := 1) (j := 1) h3 one en ei hsz hp1 _).mono ?_) | (with_reducible refine (digits_yes (a := i + 2) (j := (i : Int) + 2) h4 (two i) em ek hsz hi2 _).mono ?_)); rintro e w1 ⟨rfl, hb⟩; have hs := Step.of hb; clear hb; have hc := hs.cell; have hf := hs.frozen)
      all_goals
        have hq := HX.out
        have hz1 : ¬ ((i : Int) < 0) := by omega
        have hz2 : ¬ ((s.size : Int) < (i : Int) + 2) := by omega
        have hz3 : ¬ ((k : Int) < 0) := by omega
        clear HX ei en em ek l1 l2
        exact bodyPost_ret (v := .tuple #[.agg #[.int .i64 X.1, .int .i64 X.2.1], .int .i64 X.2.2]) (by simp_all [results, Tryd.results21, go_sem] <;> first | (rw [if_neg (by omega)]; simp; done) | (rw [if_pos (by omega)]; simp; done) | (exfalso; omega)) rfl ⟨rfl, Bel.out⟩
end Go.Proofs.YtajkbnfpnohdlaaDoor.L01
