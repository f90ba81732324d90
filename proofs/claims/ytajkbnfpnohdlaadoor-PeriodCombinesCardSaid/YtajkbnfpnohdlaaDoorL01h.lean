/- LAYER 1: the text of a period. -/
import Derived.Test.YtajkbnfpnohdlaaDoorL01e
import Derived.Test.YtajkbnfpnohdlaaDoorShelf
import Derived.WalkLawsBesides
import Derived.Lib.AppendIntMem
namespace Go.Proofs.YtajkbnfpnohdlaaDoor.L01
open Go.RowKit Go.Proofs.YtajkbnfpnohdlaaDoor.Kit Go.Lib
set_option linter.unusedVariables false
attribute [local go_sem] allocCell allocFrozen setFar setFrozen allocAdd

theorem gPow : Tryd.prog.globalNamed "internal/strconv.uint64pow10" = some 1 := by kernel_rfl
/-- What the library's variables hold: the powers of ten; some number. -/
def Env (w : World) : Prop := Lib.TabIs Tryd.prog w "internal/strconv.uint64pow10" .u64 Lib.pow10Tab ∧ ∃ m, w.cell? ⟨0, 0, none⟩ = some (.int .i64 m)
theorem Env.up {w W : World} (h : Env w) [b : Bel w W] : Env W :=
  ⟨(tabBelow_of_tabIs h.1) W b.out, by
    obtain ⟨m, hm⟩ := h.2
    exact ⟨m, (b.out.cell (World.block_lt_of_cell? w _ hm)).trans hm⟩⟩
theorem below_grow (w : World) (k : Nat) (os : Array Obj) : Below w.heap.size w (Go.Sort.grow (w.drewN k) os) := Go.Lib.below_grow _ _ (Nat.le_refl _) _ _
theorem itoa_calls (n : Int) (h0 : 0 ≤ n) (h1 : n ≤ 1099511627776) (w : World) (he : Env w) :
    Calls Tryd.prog 33 #[.int .i64 n] w fun e w' => e = .returned (.string (num n)) ∧ Below w.heap.size w w' :=
  (Tryd.strconv_Itoa n (by omega) (by omega) w he.1).mono fun e w' ⟨h, k, os, hw⟩ => ⟨by
    rw [h, num]; unfold itoa; rw [if_neg (by omega)], by rw [hw]; exact below_grow w k os⟩
theorem num_size (n : Int) (h0 : 0 ≤ n) (h1 : n ≤ 1099511627776) : (num n).size ≤ 21 := by
  have h3 := itoa_length_le n (by omega) (by omega)
  rw [show itoa n = decDigits n.toNat by unfold itoa; rw [if_neg (by omega)]] at h3
  have : (num n).size = (decDigits n.toNat).length := by simp [num, ByteArray.size]
  omega
def txt (a b : Int) : ByteArray :=
  if valid a b then ⟨#[91]⟩ ++ num a ++ ⟨#[44, 32]⟩ ++ (if b = 1099511627776 then ⟨#[102, 111, 114, 101, 118, 101, 114]⟩ else num b) ++ ⟨#[41]⟩ else ⟨#[]⟩
set_option maxHeartbeats 1000000 in
theorem text_calls (a b : Int) (w : World) (he : Env w) :
    Calls Tryd.prog 17 #[.agg #[.int .i64 a, .int .i64 b]] w fun e w' => e = .returned (.string (txt a b)) ∧ Below w.heap.size w w' := by
  rcases hv : valid a b with _ | _
  · go_enter Tryd.func17, Tryd.ntmps17
    go_wp2_with (go_at_call 23; refine (valid_calls _ _ _).mono ?_; rintro e w1 ⟨rfl, hb⟩; have hs := Step.of hb; clear hb; have hc := hs.cell; have hf := hs.frozen)
    go_ret
    exact ⟨ret_str (by simp [txt, hv]), Bel.out⟩
  · have hv2 := hv
    simp [valid] at hv2
    obtain ⟨h0, h1, h2⟩ := hv2
    have s1 := num_size a h0 (by omega)
    have s2 := num_size b (by omega) (by omega)
    have HE := Lib.hid he; clear he
    go_enter Tryd.func17, Tryd.ntmps17
    go_wp2_with (first
      | (go_at_call 23; refine (valid_calls _ _ _).mono ?_; rintro e w1 ⟨rfl, hb⟩; have hs := Step.of hb; clear hb; have hc := hs.cell; have hf := hs.frozen)
      | (go_at_call 33; refine (itoa_calls _ (by omega) (by omega) _ (Env.up (w := w) HE.out)).mono ?_; rintro e w1 ⟨rfl, hb⟩; have hs := Step.of hb; clear hb; have hc := hs.cell; have hf := hs.frozen))
    all_goals
      go_ret
      exact ⟨ret_str (by simp_all [txt]), Bel.out⟩
set_option maxHeartbeats 1000000 in
theorem rtext_calls (a b : Int) (w : World) :
    Calls Tryd.prog 20 #[.agg #[.int .i64 a, .int .i64 b]] w fun e w' => e = .returned (.string (txt a b)) ∧ Below w.heap.size w w' := by
  rcases hv : valid a b with _ | _
  · go_enter Tryd.func20, Tryd.ntmps20
    go_wp2_with (go_at_call 19; refine (rvalid_calls _ _ _).mono ?_; rintro e w1 ⟨rfl, hb⟩; have hs := Step.of hb; clear hb; have hc := hs.cell; have hf := hs.frozen)
    go_ret
    exact ⟨ret_str (by simp [txt, hv]), Bel.out⟩
  · have hv2 := hv
    simp [valid] at hv2
    obtain ⟨h0, h1, h2⟩ := hv2
    have s1 := num_size a h0 (by omega)
    have s2 := num_size b (by omega) (by omega)
    go_enter Tryd.func20, Tryd.ntmps20
    go_wp2_with (first
      | (go_at_call 19; refine (rvalid_calls _ _ _).mono ?_; rintro e w1 ⟨rfl, hb⟩; have hs := Step.of hb; clear hb; have hc := hs.cell; have hf := hs.frozen)
      | (go_at_call 38; refine (rnumber_calls _ (by omega) (by omega) _).mono ?_; rintro e w1 ⟨rfl, hb⟩; have hs := Step.of hb; clear hb; have hc := hs.cell; have hf := hs.frozen))
    all_goals
      go_ret
      exact ⟨ret_str (by first | (simp_all [txt]; done) | (rw [txt, if_pos hv, if_neg (by omega)]) | (rw [txt, if_pos hv, if_pos (by omega)])), Bel.out⟩
end Go.Proofs.YtajkbnfpnohdlaaDoor.L01
