/- The law EvolveChecks, walked. -/
import Derived.Test.YtjceeengnnjipaaAwk
import Derived.Test.YtjceeengnnjipaaH14c
namespace Go.Proofs.Ytjceeengnnjipaa.PAll
open Go.RowKit Go.Proofs.Ytjceeengnnjipaa.Kit Go.Proofs.Ytjceeengnnjipaa.L13 Go.Proofs.YtjceeengnnjipaaW.PrintWords
set_option linter.unusedVariables false
attribute [local go_sem] allocCell allocFrozen setFar setFrozen allocAny
attribute [local go_sem ↓] Go.wp_at_zero Go.wp_at_succ

set_option maxRecDepth 20000 in
set_option maxHeartbeats 4000000 in
theorem checks_calls (tn : ByteArray) (A1 : Option Addr) (c1 : Nat) (cols : List Cl) (A2 : Option Addr) (c2 : Nat) (key : List Int) (A3 : Option Addr) (c3 : Nat) (fg : List Fg) (A4 : Option Addr) (c4 : Nat) (ch : List Ex) (k : Int) (nm nt cn : ByteArray) (ck : Int) (cb : Bool) (dk dn : Int) (dt : ByteArray) (w : World) (hr1 : Kd.C k29 w A1 cols.length cols) (hc1 : cols.length ≤ c1) (hr2 : Kd.C (Kd.int .i64) w A2 key.length key) (hc2 : key.length ≤ c2) (hr3 : Kd.C k62 w A3 fg.length fg) (hc3 : fg.length ≤ c3) (hr4 : Kd.C k70 w A4 ch.length ch) (hc4 : ch.length ≤ c4) (hF : Fits cols key fg ch) (hO : ∀ x ∈ ch, ∀ c ∈ occ x, okI c) :
    Calls Try.prog 3 #[.agg #[.string tn, .slice A1 cols.length c1, .slice A2 key.length c2, .slice A3 fg.length c3, .slice A4 ch.length c4], .agg #[.int .i64 k, .string nm, .string nt, .string cn, .int .i64 ck, .bool cb, .int .i64 dk, .int .i64 dn, .string dt]] w fun e w' => e = .returned (.bool true) ∧ Below w.heap.size w w' := by
  obtain ⟨r, hr⟩ : ∃ r, evErr tn cols key fg ch k nm nt cn ck cb dk dn dt = r := ⟨_, rfl⟩
  have HX : Hid (∀ W, Bel w W → Calls Try.prog 7 #[.agg #[.string tn, .slice A1 cols.length c1, .slice A2 key.length c2, .slice A3 fg.length c3, .slice A4 ch.length c4], .agg #[.int .i64 k, .string nm, .string nt, .string cn, .int .i64 ck, .bool cb, .int .i64 dk, .int .i64 dn, .string dt]] W fun e w' => e = .returned (.int .i64 r) ∧ Below W.heap.size W w') := by
    intro W hb
    rw [← hr]
    exact ev_calls tn A1 c1 cols A2 c2 key A3 c3 fg A4 c4 ch k nm nt cn ck cb dk dn dt W (up hr1) hc1 (up hr2) hc2 (up hr3) hc3 (up hr4) hc4 hF hO
  have HY : Hid (∀ W, Bel w W → Calls Try.prog 8 #[.agg #[.string tn, .slice A1 cols.length c1, .slice A2 key.length c2, .slice A3 fg.length c3, .slice A4 ch.length c4], .agg #[.int .i64 k, .string nm, .string nt, .string cn, .int .i64 ck, .bool cb, .int .i64 dk, .int .i64 dn, .string dt]] W fun e w' => e = .returned (.int .i64 r) ∧ Below W.heap.size W w') := by
    intro W hb
    rw [← hr]
    exact rev_calls tn A1 c1 cols A2 c2 key A3 c3 fg A4 c4 ch k nm nt cn ck cb dk dn dt W ⟨up hr1, hc1, up hr2, hc2, up hr3, hc3, up hr4, hc4⟩ hF
  clear hr hr1 hc1 hr2 hc2 hr3 hc3 hr4 hc4 hF hO
  have hu := Try.underlying27
  have hu1 := Try.underlying33
  go_enter Try.func3, Try.ntmps3
  go_wp2_with fail
  rename_i K a_k
  generalize hW : ((w.alloc (.cells #[.string tn, .slice A1 cols.length c1, .slice A2 key.length c2, .slice A3 fg.length c3, .slice A4 ch.length c4] 27)).alloc (.cells #[.int .i64 k, .string nm, .string nt, .string cn, .int .i64 ck, .bool cb, .int .i64 dk, .int .i64 dn, .string dt] 33)) = W3
  have i0 : Bel w W3 := by subst hW; infer_instance
  have i1 : Blk W3 w.heap.size (.cells #[.string tn, .slice A1 cols.length c1, .slice A2 key.length c2, .slice A3 fg.length c3, .slice A4 ch.length c4] 27) := by subst hW; infer_instance
  have i2 : Blk W3 (w.heap.size + 1) (.cells #[.int .i64 k, .string nm, .string nt, .string cn, .int .i64 ck, .bool cb, .int .i64 dk, .int .i64 dn, .string dt] 33) := by subst hW; infer_instance
  clear hW
  obtain ⟨⟨t0, t1, t2, t3, t4⟩, tf⟩ := blk5 i1
  have u0 : W3.cell? ⟨w.heap.size + 1, 0, none⟩ = _ := (blk_cell i2.out 0).trans rfl
  have u1 : W3.cell? ⟨w.heap.size + 1, 1, none⟩ = _ := (blk_cell i2.out 1).trans rfl
  have u2 : W3.cell? ⟨w.heap.size + 1, 2, none⟩ = _ := (blk_cell i2.out 2).trans rfl
  have u3 : W3.cell? ⟨w.heap.size + 1, 3, none⟩ = _ := (blk_cell i2.out 3).trans rfl
  have u4 : W3.cell? ⟨w.heap.size + 1, 4, none⟩ = _ := (blk_cell i2.out 4).trans rfl
  have u5 : W3.cell? ⟨w.heap.size + 1, 5, none⟩ = _ := (blk_cell i2.out 5).trans rfl
  have u6 : W3.cell? ⟨w.heap.size + 1, 6, none⟩ = _ := (blk_cell i2.out 6).trans rfl
  have u7 : W3.cell? ⟨w.heap.size + 1, 7, none⟩ = _ := (blk_cell i2.out 7).trans rfl
  have u8 : W3.cell? ⟨w.heap.size + 1, 8, none⟩ = _ := (blk_cell i2.out 8).trans rfl
  go_region_held3 (fun w' => Bel W3 w' ∧ ∀ (b o : Nat) [InHeap W3 b], w'.cell? ⟨b, o, none⟩ = W3.cell? ⟨b, o, none⟩) (exact keepB)
    (first
    | (go_at_call 7; with_reducible refine (HX.out _ (by infer_instance)).mono ?_; rintro e w1 ⟨rfl, hb⟩; have hs1 := Step.of hb; clear hb)
    | (go_at_call 8; with_reducible refine (HY.out _ (by infer_instance)).mono ?_; rintro e w1 ⟨rfl, hb⟩; have hs2 := Step.of hb; clear hb)
    | (go_at_call 9; with_reducible refine (awake_calls _).mono ?_; rintro e w1 ⟨rfl, hb⟩; have hs3 := Step.of hb; clear hb))
  all_goals
    rename_i hH
    have hb : Bel w w1 := ⟨i0.out.trans (hH.1.out.mono i0.out.size)⟩
    go_wp2
    go_ret
    exact ⟨rfl, Bel.out⟩
end Go.Proofs.Ytjceeengnnjipaa.PAll
