/- schema.Clone of a table without foreign keys and checks. -/
import Derived.Test.YtjceeengnnjipaaAwa
import Derived.Deep.RegionHeld3
import Derived.Deep.DrawnRows
import Derived.LoopTactic
namespace Go.Proofs.Ytjceeengnnjipaa.PAll
open Go.RowKit Go.Proofs.Ytjceeengnnjipaa.Kit Go.Proofs.Ytjceeengnnjipaa.L13 Go.Proofs.YtjceeengnnjipaaW.PrintWords
set_option linter.unusedVariables false
attribute [local go_sem] allocCell allocFrozen setFar setFrozen allocAny
attribute [local go_sem ↓] Go.wp_at_zero Go.wp_at_succ

theorem name_world {W3 W : World} (h : Bel W3 W) : ∃ WF, WF = W := ⟨_, rfl⟩
instance apC : Apart k29 29 27 := ⟨by decide⟩
instance apI : Apart (Kd.int .i64) 3 27 := ⟨by decide⟩
theorem held5 {W w' : World} {p : Nat} {v0 v1 v2 v3 v4 : Value} [h : Bel W w'] [i1 : InHeap W p]
    (c0 : W.cell? ⟨p, 0, none⟩ = some v0) (c1 : W.cell? ⟨p, 1, none⟩ = some v1) (c2 : W.cell? ⟨p, 2, none⟩ = some v2) (c3 : W.cell? ⟨p, 3, none⟩ = some v3) (c4 : W.cell? ⟨p, 4, none⟩ = some v4) :
    Bel W w' ∧ (w'.cell? ⟨p, 0, none⟩ = some v0 ∧ w'.cell? ⟨p, 1, none⟩ = some v1 ∧ w'.cell? ⟨p, 2, none⟩ = some v2 ∧ w'.cell? ⟨p, 3, none⟩ = some v3 ∧ w'.cell? ⟨p, 4, none⟩ = some v4) := by
  have k : ∀ (o : Nat), w'.cell? ⟨p, o, none⟩ = W.cell? ⟨p, o, none⟩ := fun o => h.out.cell (p := ⟨p, o, none⟩) i1.out
  exact ⟨h, (k _).trans c0, (k _).trans c1, (k _).trans c2, (k _).trans c3, (k _).trans c4⟩
theorem cloneC_x {A0 : Option Addr} {c0 : Nat} {l0 : List S29} {w W : World} (hr0 : Hid (Kd.C k29 w A0 l0.length l0)) (hc0 : Hid (l0.length ≤ c0)) (hlt : Hid (l0.length < 1099511627776)) [b : Bel w W] :
    Calls Try.prog 52 #[.slice A0 l0.length c0] W fun e w' => ∃ A c, e = .returned (.slice A l0.length c) ∧ Kd.R k29 29 w' W.heap.size (fun _ => True) (.slice A l0.length c) l0 ∧ Below W.heap.size W w' := by
  refine (cloneC_calls A0 c0 l0 W (up hr0.out) hc0.out hlt.out).mono ?_
  rintro e w' ⟨v, rfl, hR, hb⟩
  obtain ⟨A, c, rfl, _, _⟩ := Kd.R_reads hR
  exact ⟨A, c, rfl, hR, hb⟩
theorem cloneI_x {A0 : Option Addr} {c0 : Nat} {l0 : List Int} {w W : World} (hr0 : Hid (Kd.C (Kd.int .i64) w A0 l0.length l0)) (hc0 : Hid (l0.length ≤ c0)) (hlt : Hid (l0.length < 1099511627776)) [b : Bel w W] :
    Calls Try.prog 53 #[.slice A0 l0.length c0] W fun e w' => ∃ A c, e = .returned (.slice A l0.length c) ∧ Kd.R (Kd.int .i64) 3 w' W.heap.size (fun _ => True) (.slice A l0.length c) l0 ∧ Below W.heap.size W w' := by
  refine (slices_Clone_int_int.calls A0 c0 l0 l0 W (up hr0.out) hc0.out (by unfold slices_Clone_int_int.f; rw [if_pos (by have := hlt.out; omega)])).mono ?_
  rintro e w' ⟨v, rfl, hR, hb⟩
  obtain ⟨A, c, rfl, _, _⟩ := Kd.R_reads hR
  exact ⟨A, c, rfl, hR, hb⟩
set_option maxRecDepth 20000 in
set_option maxHeartbeats 2000000 in
theorem clone0_calls (tn : ByteArray) (A1 : Option Addr) (c1 : Nat) (cols : List S29) (A2 : Option Addr) (c2 : Nat) (key : List Int) (w : World) (hr1 : Kd.C k29 w A1 cols.length cols) (hc1 : cols.length ≤ c1) (hl1 : cols.length < 1099511627776) (hr2 : Kd.C (Kd.int .i64) w A2 key.length key) (hc2 : key.length ≤ c2) (hl2 : key.length < 1099511627776) :
    Calls Try.prog 28 #[.agg #[.string tn, .slice A1 cols.length c1, .slice A2 key.length c2, .slice none 0 0, .slice none 0 0]] w fun e w' => ∃ (B1 : Option Addr) (d1 : Nat) (B2 : Option Addr) (d2 : Nat), e = .returned (.agg #[.string tn, .slice B1 cols.length d1, .slice B2 key.length d2, .slice none 0 0, .slice none 0 0]) ∧ Kd.R k29 29 w' w.heap.size (fun _ => True) (.slice B1 cols.length d1) cols ∧ Kd.R (Kd.int .i64) 3 w' w.heap.size (fun _ => True) (.slice B2 key.length d2) key ∧ Below w.heap.size w w' := by
  have HR1 := Lib.hid hr1; have HC1 := Lib.hid hc1; have HL1 := Lib.hid hl1; have HR2 := Lib.hid hr2; have HC2 := Lib.hid hc2; have HL2 := Lib.hid hl2
  clear hr1 hc1 hl1 hr2 hc2 hl2
  have hu := Try.underlying27
  go_enter Try.func28, Try.ntmps28
  go_wp2_with fail
  rename_i K a_k
  generalize hW : ((w.alloc (.cells #[.string tn, .slice A1 cols.length c1, .slice A2 key.length c2, .slice none 0 0, .slice none 0 0] 27)).alloc (.cells #[.string ⟨#[]⟩, .slice none 0 0, .slice none 0 0, .slice none 0 0, .slice none 0 0] 27)) = W3
  have c0 : W3.cell? ⟨w.heap.size, 0, none⟩ = some (.string tn) := by subst hW; clear a_k; go_simp
  have c1' : W3.cell? ⟨w.heap.size, 1, none⟩ = some (.slice A1 cols.length c1) := by subst hW; clear a_k; go_simp
  have c2' : W3.cell? ⟨w.heap.size, 2, none⟩ = some (.slice A2 key.length c2) := by subst hW; clear a_k; go_simp
  have c3 : W3.cell? ⟨w.heap.size, 3, none⟩ = some (.slice none 0 0) := by subst hW; clear a_k; go_simp
  have c4 : W3.cell? ⟨w.heap.size, 4, none⟩ = some (.slice none 0 0) := by subst hW; clear a_k; go_simp
  have i0 : Bel w W3 := by subst hW; infer_instance
  have i1 : InHeap W3 w.heap.size := by subst hW; infer_instance
  have i2 : Blk W3 (w.heap.size + 1) (.cells #[.string ⟨#[]⟩, .slice none 0 0, .slice none 0 0, .slice none 0 0, .slice none 0 0] 27) := by subst hW; infer_instance
  clear hW
  go_region_held3 (fun w' => Bel W3 w' ∧ (w'.cell? ⟨w.heap.size, 0, none⟩ = some (.string tn) ∧ w'.cell? ⟨w.heap.size, 1, none⟩ = some (.slice A1 cols.length c1) ∧ w'.cell? ⟨w.heap.size, 2, none⟩ = some (.slice A2 key.length c2) ∧ w'.cell? ⟨w.heap.size, 3, none⟩ = some (.slice none 0 0) ∧ w'.cell? ⟨w.heap.size, 4, none⟩ = some (.slice none 0 0))) (exact held5 c0 c1' c2' c3 c4)
    (first
    | (go_at_call 52; with_reducible refine (cloneC_x HR1 HC1 HL1).mono ?_; rintro e w1 ⟨B1, d1, rfl, hR1, hb⟩; have hs1 := Step.of hb; clear hb; have hc1 := hs1.cell; have hf1 := hs1.frozen)
    | (go_at_call 53; with_reducible refine (cloneI_x HR2 HC2 HL2).mono ?_; rintro e w1 ⟨B2, d2, rfl, hR2, hb⟩; have hs2 := Step.of hb; clear hb; have hc2 := hs2.cell; have hf2 := hs2.frozen))
  all_goals
    rename_i wa hH
    obtain ⟨hB, k0, k1, k2, k3, k4⟩ := hH
    clear c0 c1' c2' c3 c4 hc1 hf1 hc2 hf2
    have x1 : Row k29 29 wa _ _ _ := ⟨hR1⟩
    have x2 : Row (Kd.int .i64) 3 w1 _ _ _ := ⟨hR2⟩
    obtain ⟨WF, hWF⟩ := name_world hB
    rw [← hWF] at hB k0 k1 k2 k3 k4 ⊢
    first
      | (obtain ⟨g, hg⟩ : ∃ g, g = w1.heap.size := ⟨_, rfl⟩; rw [← hg])
      | (obtain ⟨g, hg⟩ : ∃ g, g = wa.heap.size := ⟨_, rfl⟩; rw [← hg])
      | (obtain ⟨g, hg⟩ : ∃ g, g = W3.heap.size := ⟨_, rfl⟩; rw [← hg])
    have bg : Blk WF g (.cells #[.string tn, .slice B1 cols.length d1, .slice B2 key.length d2, .slice none 0 0, .slice none 0 0] 27) := ⟨by rw [hWF, hg]; exact Blk.out⟩
    have hq : Blk WF (w.heap.size + 1) (.cells #[.string ⟨#[]⟩, .slice none 0 0, .slice none 0 0, .slice none 0 0, .slice none 0 0] 27) := by rw [hWF]; infer_instance
    have y1 : Kd.R k29 29 WF w.heap.size (fun _ => True) (.slice B1 cols.length d1) cols := by rw [hWF]; exact Row.down
    have y2 : Kd.R (Kd.int .i64) 3 WF w.heap.size (fun _ => True) (.slice B2 key.length d2) key := by rw [hWF]; exact Row.down
    have z1 : Row k29 29 WF _ _ _ := ⟨y1⟩
    have z2 : Row (Kd.int .i64) 3 WF _ _ _ := ⟨y2⟩
    have bw : Bel w WF := ⟨i0.out.trans (hB.out.mono i0.out.size)⟩
    clear x1 x2 hR1 hR2 hg hWF hs1 hs2 hB i1 i2 i0 y1 y2
    clear w1
    clear wa
    have r0 : WF.cell? ⟨w.heap.size + 1, 0, none⟩ = _ := (blk_cell hq.out 0).trans rfl
    have f0 := blk_frozen hq.out 0
    have r1 : WF.cell? ⟨w.heap.size + 1, 1, none⟩ = _ := (blk_cell hq.out 1).trans rfl
    have f1 := blk_frozen hq.out 1
    have r2 : WF.cell? ⟨w.heap.size + 1, 2, none⟩ = _ := (blk_cell hq.out 2).trans rfl
    have f2 := blk_frozen hq.out 2
    have r3 : WF.cell? ⟨w.heap.size + 1, 3, none⟩ = _ := (blk_cell hq.out 3).trans rfl
    have f3 := blk_frozen hq.out 3
    have r4 : WF.cell? ⟨w.heap.size + 1, 4, none⟩ = _ := (blk_cell hq.out 4).trans rfl
    have f4 := blk_frozen hq.out 4
    have g0 : WF.cell? ⟨g, 0, none⟩ = _ := (blk_cell bg.out 0).trans rfl
    have g1 : WF.cell? ⟨g, 1, none⟩ = _ := (blk_cell bg.out 1).trans rfl
    have g2 : WF.cell? ⟨g, 2, none⟩ = _ := (blk_cell bg.out 2).trans rfl
    have g3 : WF.cell? ⟨g, 3, none⟩ = _ := (blk_cell bg.out 3).trans rfl
    have g4 : WF.cell? ⟨g, 4, none⟩ = _ := (blk_cell bg.out 4).trans rfl
    go_wp2_with fail
    refine wp_loop_once ?_
    go_wp2_with fail
    refine wp_loop_once ?_
    go_wp2_with fail
    refine ret_cell (cs' := #[.string tn, .slice B1 cols.length d1, .slice B2 key.length d2, .slice none 0 0, .slice none 0 0]) rfl rfl Blk.out rfl hu rfl (by kernel_rfl) rfl ?_
    exact ⟨_, _, _, _, rfl, Row.down, Row.down, Bel.out⟩
end Go.Proofs.Ytjceeengnnjipaa.PAll
