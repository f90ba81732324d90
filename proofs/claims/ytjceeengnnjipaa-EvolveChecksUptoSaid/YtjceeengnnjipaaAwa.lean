/- slices.Clone of columns; the default of the examples. -/
import Derived.Test.YtjceeengnnjipaaGiv1
import Derived.Test.YtjceeengnnjipaaRet
namespace Go.Proofs.Ytjceeengnnjipaa.PAll
open Go.RowKit Go.Proofs.Ytjceeengnnjipaa.Kit Go.Proofs.Ytjceeengnnjipaa.L13 Go.Proofs.YtjceeengnnjipaaW.PrintWords
set_option linter.unusedVariables false
attribute [local go_sem] allocCell allocFrozen setFar setFrozen allocAny

set_option maxRecDepth 100000 in
set_option maxHeartbeats 1000000 in
theorem cloneC_calls (A0 : Option Addr) (c0 : Nat) (l0 : List S29) (w : World) (hr0 : Kd.C k29 w A0 l0.length l0) (hc0 : l0.length ≤ c0) (hlt : l0.length < 1099511627776) :
    Calls Try.prog 52 #[.slice A0 l0.length c0] w fun e w' => ∃ v0_ : Value, e = .returned v0_ ∧ Kd.R k29 29 w' w.heap.size (fun _ => True) v0_ l0 ∧ Below w.heap.size w w' := by
  have hu := Try.underlying22
  have q22 : ∀ (w : World) (a : Option Addr) (n c n' c' : Nat), (binOp .eql 22 (.slice a n c) (.slice none n' c')).run Try.prog w = .ok (.bool a.isNone) w := fun w a n c n' c' => Lib.run_eql_slice_nil w _ _ a n c n' c' hu
  have i3 : (Try.prog.info? 29).map (fun i => (i.zero, i.size, i.bytes)) = some (some (.agg #[(.string ⟨#[]⟩), (.int .i64 0), (.bool false)]), 3, 32) := by kernel_rfl
  go_enter Try.func52, Try.ntmps52
  cases A0 with
  | none =>
    have hz : l0 = [] := by
      rcases Nat.eq_zero_or_pos l0.length with h0 | h0
      · exact List.eq_nil_of_length_eq_zero h0
      · obtain ⟨ad, e, _⟩ := hr0.2.2 h0; cases e
    subst hz
    go_wp2
    go_ret
    exact ⟨_, rfl, Kd.R_nil _ _ _ _ _, Bel.out⟩
  | some ad =>
    have HR := Lib.hid hr0; clear hr0
    go_wp2_with (at_builtin; go_loud (refine Kd.R_append_rows k29 (Rr := k29.K (w.alloc (.cells #[] 29))) (w0 := w) w.heap.size rfl (.tmp 5) (.tmp 6) 22 29 (.agg #[(.string ⟨#[]⟩), (.int .i64 0), (.bool false)]) 32 rfl hu i3 rfl (by decide) (by omega) _ [] l0 _ _ _ (fun _ => True) (fun _ => False) rfl rfl ?aO ?aR ?aM (fun _ h => h.elim) ?aF ?aB ?aS ?aL ?_))
    case aF => exact fun _ _ => trivial
    case aS => simp
    case aL => simp only [List.length_nil]; omega
    case aO => exact R_litA (d := k29) (e := 29) (okp := fun _ => False) (inner := []) (Reps.none _ _) HSize.out (Nat.le_refl _) (by simp)
    case aB => exact Bel.out
    case aR => exact (show Kd.C k29 _ _ _ _ from up HR.out)
    case aM => intro x cs h; obtain rfl := k29_open h; exact k29_mkM _ _ _ _
    intro v1 w1 hR hb hg hat
    have hb' : Bel w w1 := ⟨hb⟩
    have HR1 := Lib.hid hR; clear hR hb hg hat
    go_wp2
    go_ret
    exact ⟨_, rfl, by simpa using HR1.out, Bel.out⟩
set_option maxRecDepth 20000 in
theorem rvalid1_calls (w : World) :
    Calls Try.prog 51 #[.agg #[.int .i64 1, .int .i64 7, .string ⟨#[]⟩]] w fun e w' => e = .returned (.agg #[.int .i64 1, .int .i64 7, .string ⟨#[]⟩]) ∧ Below w.heap.size w w' := by
  have hu := Try.underlying31
  have hv : L07.valOk ⟨1, 7, ⟨#[]⟩⟩ = true := by have ez : (⟨#[]⟩ : ByteArray).toList = [] := ByteArray.toList_mk []; simp [L07.valOk, ez]
  go_enter Try.func51, Try.ntmps51
  go_wp2_with (go_at_call 46; (with_reducible refine (L07.rvalid_calls _ _ _ _).mono ?_); rintro e w2 ⟨rfl, hb⟩; have hs := Step.of hb; clear hb; have hc2 := hs.cell; have hf2 := hs.frozen; rw [hv])
  exact ret_cell (cs' := #[.int .i64 1, .int .i64 7, .string ⟨#[]⟩]) rfl rfl Blk.out rfl hu rfl (by kernel_rfl) rfl ⟨rfl, Bel.out⟩
set_option maxRecDepth 20000 in
theorem rint_calls (w : World) :
    Calls Try.prog 27 #[.int .i64 7] w fun e w' => e = .returned (.agg #[.int .i64 1, .int .i64 7, .string ⟨#[]⟩]) ∧ Below w.heap.size w w' := by
  have hu := Try.underlying31
  go_enter Try.func27, Try.ntmps27
  go_wp2_with (go_at_call 51; (with_reducible refine (rvalid1_calls _).mono ?_); rintro e w2 ⟨rfl, hb⟩; have hs := Step.of hb; clear hb; have hc2 := hs.cell; have hf2 := hs.frozen)
  exact ret_cell (cs' := #[.int .i64 1, .int .i64 7, .string ⟨#[]⟩]) rfl rfl Blk.out rfl hu rfl (by kernel_rfl) rfl ⟨rfl, Bel.out⟩
abbrev bA : ByteArray := ⟨#[97]⟩
abbrev bB : ByteArray := ⟨#[98]⟩
abbrev bC : ByteArray := ⟨#[99]⟩
abbrev bT : ByteArray := ⟨#[116]⟩
def sCols : List S29 := [⟨bA, 1, false⟩, ⟨bB, 2, true⟩]
theorem C_litA {α : Type} {d : Kd α} {W : World} {e g : Nat} {xs : List α} {inner : List Value} (hrep : Reps (d.M W W.heap.size (fun _ => False)) d.sz xs inner) (hg : W.heap.size = g) (hm : xs.length ≤ 9223372036854775807) : Kd.C d (W.alloc (.cells inner.toArray e)) (some ⟨g, 0, none⟩) xs.length xs := by
  obtain ⟨A, c, e1, hl, hC⟩ := Kd.R_reads (R_litA (e := e) hrep hg (Nat.le_refl _) hm)
  cases e1
  exact hC
def colCells : List S29 → List Value
  | [] => []
  | x :: xs => [.string x.f0, .int .i64 x.f1, .bool x.f2] ++ colCells xs
theorem reps_cons {α : Type} {R : α → List Value → Prop} {n : Nat} {x : α} {c : List Value} {xs : List α} {cs : List Value} (hx : R x c) (hc : c.length = n) (h : Reps R n xs cs) : Reps R n (x :: xs) (c ++ cs) := Kd.reps_append (ps := [x]) (reps1 hx hc) h
theorem cols_reps (xs : List S29) (W : World) (base : Nat) (ok : Nat → Prop) : Reps (k29.M W base ok) 3 xs (colCells xs) := by
  induction xs with
  | nil => exact Reps.none _ _
  | cons x xs ih => exact reps_cons (k29_mkM _ _ _ x) rfl ih
theorem sCols_reps (W : World) : Reps (k29.M W W.heap.size (fun _ => False)) 3 sCols [.string bA, .int .i64 1, .bool false, .string bB, .int .i64 2, .bool true] := cols_reps sCols W _ _
theorem int_reps (xs : List Int) (W : World) : Reps ((Kd.int .i64).M W W.heap.size (fun _ => False)) 1 xs (xs.map (Value.int .i64)) := Kd.reps_scalar xs
set_option maxRecDepth 20000 in
set_option maxHeartbeats 2000000 in
theorem sample_calls (w : World) :
    Calls Try.prog 26 #[] w fun e w' => ∃ A1 A2, e = .returned (.agg #[.string bT, .slice A1 2 2, .slice A2 1 1, .slice none 0 0, .slice none 0 0]) ∧ Kd.C k29 w' A1 2 sCols ∧ Kd.C (Kd.int .i64) w' A2 1 [0] ∧ Below w.heap.size w w' := by
  have hu := Try.underlying27
  go_enter Try.func26, Try.ntmps26
  go_wp2
  refine ret_cell (cs' := #[.string bT, .slice (some ⟨w.heap.size + 1, 0, none⟩) 2 2, .slice (some ⟨w.heap.size + 1 + 1, 0, none⟩) 1 1, .slice none 0 0, .slice none 0 0]) rfl rfl Blk.out rfl hu rfl (by kernel_rfl) rfl ?_
  have h1 := C_litA (d := k29) (e := 29) (xs := sCols) (sCols_reps (w.alloc (.cells #[.string bT, .slice (some ⟨w.heap.size + 1, 0, none⟩) 2 2, .slice (some ⟨w.heap.size + 1 + 1, 0, none⟩) 1 1, .slice none 0 0, .slice none 0 0] 27))) HSize.out (by decide)
  have h2 := C_litA (d := Kd.int .i64) (e := 3) (int_reps [0] ((w.alloc (.cells #[.string bT, .slice (some ⟨w.heap.size + 1, 0, none⟩) 2 2, .slice (some ⟨w.heap.size + 1 + 1, 0, none⟩) 1 1, .slice none 0 0, .slice none 0 0] 27)).alloc (.cells #[.string bA, .int .i64 1, .bool false, .string bB, .int .i64 2, .bool true] 29))) HSize.out (by decide)
  exact ⟨_, _, rfl, up h1, h2, Bel.out⟩
end Go.Proofs.Ytjceeengnnjipaa.PAll
