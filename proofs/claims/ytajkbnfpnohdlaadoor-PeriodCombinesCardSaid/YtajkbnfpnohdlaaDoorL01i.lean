/- LAYER 1: the program's parser of periods. -/
import Derived.Test.YtajkbnfpnohdlaaDoorL01f
import Derived.Test.YtajkbnfpnohdlaaDoorL01h
namespace Go.Proofs.YtajkbnfpnohdlaaDoor.L01
open Go.RowKit Go.Proofs.YtajkbnfpnohdlaaDoor.Kit Go.Lib
set_option linter.unusedVariables false
attribute [local go_sem] allocCell allocFrozen setFar setFrozen allocAdd

def isFor (t : List UInt8) : Bool := t == [102, 111, 114, 101, 118, 101, 114]
def pIn (l : List UInt8) : List UInt8 := trimSuffix (trimPrefix l [91]) [41]
def pForm (l : List UInt8) : Bool := hasPrefix l [91] && (hasSuffix (trimPrefix l [91]) [41] && (cut (pIn l) [44, 32]).2.2)
def bound (t : List UInt8) : Int := if isFor t = true then 1099511627776 else if (numV t == 1099511627776) = true then 1099511627777 else numV t
def parseP (l : List UInt8) : Int × Int × Int :=
  if pForm l then
    if numOk (cut (pIn l) [44, 32]).1 && (isFor (cut (pIn l) [44, 32]).2.1 || numOk (cut (pIn l) [44, 32]).2.1) then
      if bound (cut (pIn l) [44, 32]).2.1 ≤ numV (cut (pIn l) [44, 32]).1 ∨ 1099511627776 < bound (cut (pIn l) [44, 32]).2.1 then (0, 0, 6) else (numV (cut (pIn l) [44, 32]).1, bound (cut (pIn l) [44, 32]).2.1, 0)
    else (0, 0, 1)
  else (0, 0, 1)
theorem numV_bd (l : List UInt8) : 0 ≤ numV l ∧ numV l ≤ 1099511627777 := by
  unfold numV
  split
  · rename_i h
    exact capv_bd l (by simp [numOk] at h; simpa [List.all_eq_true] using h.2)
  · omega
theorem bytes_toList (l : List UInt8) : (⟨l.toArray⟩ : ByteArray).data.toList = l := by simp
theorem trimP_le (l p : List UInt8) : (trimPrefix l p).length ≤ l.length := by unfold trimPrefix; split <;> simp
theorem trimS_le (l p : List UInt8) : (trimSuffix l p).length ≤ l.length := by unfold trimSuffix; split <;> simp
theorem cut_le (l p : List UInt8) : (cut l p).1.length ≤ l.length ∧ (cut l p).2.1.length ≤ l.length := by unfold cut; split <;> simp <;> omega
theorem size_toList (s : ByteArray) : s.data.toList.length = s.size := by simp
theorem cutP_calls (s b : ByteArray) (hb : Hid (b.data.toList = trimPrefix s.data.toList [91])) (w : World) :
    Calls Tryd.prog 34 #[.string s, .string ⟨#[91]⟩] w fun e w' => e = .returned (.tuple #[.string b, .bool (hasPrefix s.data.toList [91])]) ∧ Below w.heap.size w w' :=
  (Tryd.strings_CutPrefix s ⟨#[91]⟩ w).mono fun e w' ⟨h, hw⟩ => ⟨by rw [h, ← hb.out], by rw [hw]; exact Below.refl _ _⟩
theorem cutS_calls (s b : ByteArray) (hs : s.size ≤ 4294967280) (hb : Hid (b.data.toList = trimSuffix s.data.toList [41])) (w : World) :
    Calls Tryd.prog 35 #[.string s, .string ⟨#[41]⟩] w fun e w' => e = .returned (.tuple #[.string b, .bool (hasSuffix s.data.toList [41])]) ∧ Below w.heap.size w w' :=
  (Tryd.strings_CutSuffix s ⟨#[41]⟩ w (by omega)).mono fun e w' ⟨h, hw⟩ => ⟨by rw [h, ← hb.out], by rw [hw]; exact Below.refl _ _⟩
theorem cut_calls (s f t : ByteArray) (hs : s.size ≤ 4294967280) (hf : Hid (f.data.toList = (cut s.data.toList [44, 32]).1)) (ht : Hid (t.data.toList = (cut s.data.toList [44, 32]).2.1)) (w : World) (he : Env w) :
    Calls Tryd.prog 36 #[.string s, .string ⟨#[44, 32]⟩] w fun e w' => e = .returned (.tuple #[.string f, .string t, .bool (cut s.data.toList [44, 32]).2.2]) ∧ Below w.heap.size w w' := by
  obtain ⟨m, hm⟩ := he.2
  refine (Tryd.strings_Cut s ⟨#[44, 32]⟩ m w (by omega) hm).mono fun e w' ⟨h, n, hw⟩ => ⟨?_, by rw [hw]; exact below_drewN (Below.refl _ _) n⟩
  rw [h, ← hf.out, ← ht.out]
set_option maxHeartbeats 1000000 in
theorem parse_calls (s : ByteArray) (hs : s.size ≤ 4294967280) (w : World) (he : Env w) :
    Calls Tryd.prog 18 #[.string s] w fun e w' => e = .returned (.tuple #[.agg #[.int .i64 (parseP s.data.toList).1, .int .i64 (parseP s.data.toList).2.1], .int .i64 (parseP s.data.toList).2.2]) ∧ Below w.heap.size w w' := by
  obtain ⟨b1, e1⟩ : ∃ b : ByteArray, Hid (b.data.toList = trimPrefix s.data.toList [91]) := ⟨⟨_⟩, Lib.hid (bytes_toList _)⟩
  obtain ⟨b2, e2⟩ : ∃ b : ByteArray, Hid (b.data.toList = trimSuffix b1.data.toList [41]) := ⟨⟨_⟩, Lib.hid (bytes_toList _)⟩
  obtain ⟨f, ef⟩ : ∃ b : ByteArray, Hid (b.data.toList = (cut b2.data.toList [44, 32]).1) := ⟨⟨_⟩, Lib.hid (bytes_toList _)⟩
  obtain ⟨t, et⟩ : ∃ b : ByteArray, Hid (b.data.toList = (cut b2.data.toList [44, 32]).2.1) := ⟨⟨_⟩, Lib.hid (bytes_toList _)⟩
  have l1 : b1.size ≤ 4294967280 := by have := trimP_le s.data.toList [91]; rw [← e1.out, size_toList, size_toList] at this; omega
  have l2 : b2.size ≤ 4294967280 := by have := trimS_le b1.data.toList [41]; rw [← e2.out, size_toList, size_toList] at this; omega
  have l3 : f.size ≤ 4294967280 := by have := (cut_le b2.data.toList [44, 32]).1; rw [← ef.out, size_toList, size_toList] at this; omega
  have l4 : t.size ≤ 4294967280 := by have := (cut_le b2.data.toList [44, 32]).2; rw [← et.out, size_toList, size_toList] at this; omega
  obtain ⟨X, hX⟩ : ∃ X, X = parseP s.data.toList := ⟨_, rfl⟩
  rw [← hX]
  have hp : Hid (X = if hasPrefix s.data.toList [91] && (hasSuffix b1.data.toList [41] && (cut b2.data.toList [44, 32]).2.2) then
    if numOk f.data.toList && ((t.toList == [102, 111, 114, 101, 118, 101, 114]) || numOk t.data.toList) then
      if (if (t.toList == [102, 111, 114, 101, 118, 101, 114]) = true then 1099511627776 else if (numV t.data.toList == 1099511627776) = true then 1099511627777 else numV t.data.toList) ≤ numV f.data.toList ∨ 1099511627776 < (if (t.toList == [102, 111, 114, 101, 118, 101, 114]) = true then 1099511627776 else if (numV t.data.toList == 1099511627776) = true then 1099511627777 else numV t.data.toList) then (0, 0, 6) else (numV f.data.toList, (if (t.toList == [102, 111, 114, 101, 118, 101, 114]) = true then 1099511627776 else if (numV t.data.toList == 1099511627776) = true then 1099511627777 else numV t.data.toList), 0)
    else (0, 0, 1) else (0, 0, 1)) := Lib.hid (by
      rw [hX]
      unfold parseP pForm pIn
      rw [← e1.out, ← e2.out, ← ef.out, ← et.out, ByteArray.toList_eq]
      rfl)
  clear hX
  have n1 := numV_bd f.data.toList
  have n2 := numV_bd t.data.toList
  have HE := Lib.hid he; clear he
  go_enter Tryd.func18, Tryd.ntmps18
  go_wp2_with (first
      | (go_at_call 34; refine (cutP_calls _ b1 e1 _).mono ?_; rintro e w1 ⟨rfl, hb⟩; have hs := Step.of hb; clear hb; have hc := hs.cell; have hf := hs.frozen)
      | (go_at_call 35; refine (cutS_calls _ b2 l1 e2 _).mono ?_; rintro e w1 ⟨rfl, hb⟩; have hs := Step.of hb; clear hb; have hc := hs.cell; have hf := hs.frozen)
      | (go_at_call 36; refine (cut_calls _ f t l2 ef et _ (Env.up (w := w) HE.out)).mono ?_; rintro e w1 ⟨rfl, hb⟩; have hs := Step.of hb; clear hb; have hc := hs.cell; have hf := hs.frozen)
      | (go_at_call 37; refine (number_calls _ (by first | exact l3 | exact l4) _).mono ?_; rintro e w1 ⟨rfl, hb⟩; have hs := Step.of hb; clear hb; have hc := hs.cell; have hf := hs.frozen))
  all_goals
    have hq := hp.out
    clear hp e1 e2 ef et HE l1 l2 l3 l4
    exact bodyPost_ret (v := .tuple #[.agg #[.int .i64 X.1, .int .i64 X.2.1], .int .i64 X.2.2]) (by simp_all [results, Tryd.results18, go_sem] <;> first | (rw [if_neg (by omega)]; simp; done) | (rw [if_pos (by omega)]; simp; done)) rfl ⟨rfl, Bel.out⟩
end Go.Proofs.YtajkbnfpnohdlaaDoor.L01
