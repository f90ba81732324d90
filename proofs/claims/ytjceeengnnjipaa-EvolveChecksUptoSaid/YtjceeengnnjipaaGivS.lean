/- GIVEN BY HAND: evolve.spare. -/
import Derived.Test.YtjceeengnnjipaaRdr
import Derived.RegionTactic
import Derived.Test.YtjceeengnnjipaaMapKit
namespace Go.Proofs.Ytjceeengnnjipaa.PAll
open Go.RowKit Go.Proofs.Ytjceeengnnjipaa.Kit Go.Proofs.Ytjceeengnnjipaa.L13 Go.Proofs.YtjceeengnnjipaaW.PrintWords
set_option linter.unusedVariables false
attribute [local go_sem] allocCell allocFrozen setFar setFrozen allocAny allocAdd

set_option maxRecDepth 20000 in
set_option maxHeartbeats 2000000 in
theorem spare_other (k : Int) (nm nt cn : ByteArray) (ck : Int) (cb : Bool) (dk dn : Int) (dt : ByteArray) (w : World) (h1 : k ≠ 1) (h3 : k ≠ 3) :
    Calls Try.prog 16 #[.agg #[.int .i64 k, .string nm, .string nt, .string cn, .int .i64 ck, .bool cb, .int .i64 dk, .int .i64 dn, .string dt]] w fun e w' => e = .returned (.bool (spareS k nm nt cn ck cb dk dn dt)) ∧ Below w.heap.size w w' := by
  have hu := Try.underlying33
  have hu1 := Try.underlying29
  have hu2 := Try.underlying31
  have k1 : (k == 1) = false := beq_eq_false_iff_ne.2 h1
  have k3 : (k == 3) = false := beq_eq_false_iff_ne.2 h3
  have H1 := Lib.hid h1; have H3 := Lib.hid h3; clear h1 h3
  go_enter Try.func16, Try.ntmps16
  go_wp2
  all_goals
    go_ret
    refine ⟨ret_bool ?_, Bel.out⟩
    have h1 := H1.out
    have h3 := H3.out
    first
      | (simp_all [spareS]; done)
      | (unfold spareS; rw [if_neg h1, if_neg h3]; simp_all; done)
      | (unfold spareS; rw [if_neg h1, if_neg h3]; simp_all; omega)
set_option maxRecDepth 20000 in
set_option maxHeartbeats 2000000 in
theorem spare_three (nm nt cn : ByteArray) (ck : Int) (cb : Bool) (dk dn : Int) (dt : ByteArray) (w : World) :
    Calls Try.prog 16 #[.agg #[.int .i64 3, .string nm, .string nt, .string cn, .int .i64 ck, .bool cb, .int .i64 dk, .int .i64 dn, .string dt]] w fun e w' => e = .returned (.bool (spareS 3 nm nt cn ck cb dk dn dt)) ∧ Below w.heap.size w w' := by
  have hu := Try.underlying33
  have hu1 := Try.underlying29
  have hu2 := Try.underlying31
  go_enter Try.func16, Try.ntmps16
  go_wp2
  all_goals
    go_ret
    refine ⟨ret_bool ?_, Bel.out⟩
    first
      | (simp_all [spareS]; done)
      | (simp_all [spareS]; omega)
set_option maxRecDepth 20000 in
set_option maxHeartbeats 2000000 in
theorem spare_one (nm nt cn : ByteArray) (ck : Int) (cb : Bool) (dk dn : Int) (dt : ByteArray) (w : World) :
    Calls Try.prog 16 #[.agg #[.int .i64 1, .string nm, .string nt, .string cn, .int .i64 ck, .bool cb, .int .i64 dk, .int .i64 dn, .string dt]] w fun e w' => e = .returned (.bool (spareS 1 nm nt cn ck cb dk dn dt)) ∧ Below w.heap.size w w' := by
  have hu := Try.underlying33
  have hu1 := Try.underlying29
  have hu2 := Try.underlying31
  go_enter Try.func16, Try.ntmps16
  go_wp2
  go_region
  all_goals go_wp2
  all_goals
    go_ret
    refine ⟨ret_bool ?_, Bel.out⟩
    first
      | (simp_all [spareS]; done)
      | (simp_all [spareS]; omega)
theorem spare_calls (k : Int) (nm nt cn : ByteArray) (ck : Int) (cb : Bool) (dk dn : Int) (dt : ByteArray) (w : World) :
    Calls Try.prog 16 #[.agg #[.int .i64 k, .string nm, .string nt, .string cn, .int .i64 ck, .bool cb, .int .i64 dk, .int .i64 dn, .string dt]] w fun e w' => e = .returned (.bool (spareS k nm nt cn ck cb dk dn dt)) ∧ Below w.heap.size w w' := by
  by_cases h1 : k = 1
  · subst h1; exact spare_one nm nt cn ck cb dk dn dt w
  · by_cases h3 : k = 3
    · subst h3; exact spare_three nm nt cn ck cb dk dn dt w
    · exact spare_other k nm nt cn ck cb dk dn dt w h1 h3
end Go.Proofs.Ytjceeengnnjipaa.PAll
