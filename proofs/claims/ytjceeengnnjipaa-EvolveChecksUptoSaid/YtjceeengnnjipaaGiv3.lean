/- GIVEN BY HAND for the told texts: schema.Check. -/
import Derived.Test.YtjceeengnnjipaaGiv5
import Derived.Test.YtjceeengnnjipaaH13f
namespace Go.Proofs.Ytjceeengnnjipaa.PAll
open Go.RowKit Go.Proofs.Ytjceeengnnjipaa.Kit Go.Proofs.Ytjceeengnnjipaa.L13 Go.Proofs.YtjceeengnnjipaaW.PrintWords
set_option linter.unusedVariables false
attribute [local go_sem] allocCell allocFrozen setFar setFrozen allocAny allocAdd

open Classical in
noncomputable def schema_Check.f (a0_0 : ByteArray) (l0_1 : List Cl) (l0_2 : List Int) (l0_3 : List Fg) (l0_4 : List Ex) : Option Int := if Fits l0_1 l0_2 l0_3 l0_4 then some (tblErr a0_0 l0_1 l0_2 l0_3 l0_4) else none
/-- What is left of the check before its i-th part. -/
def stage (cols : List Cl) (key : List Int) (fg : List Fg) (ch : List Ex) : Nat → Int
  | 0 => if colsErr cols = 0 then (if keyErr cols key = 0 then consErr cols fg ch else keyErr cols key) else colsErr cols
  | 1 => if keyErr cols key = 0 then consErr cols fg ch else keyErr cols key
  | 2 => consErr cols fg ch
  | 3 => chksErr (cols.map (·.f1)) ch
  | _ => 0
section
variable {cols : List Cl} {key : List Int} {fg : List Fg} {ch : List Ex}
theorem stage_hit0 (h : ¬ colsErr cols = 0) : colsErr cols = stage cols key fg ch 0 := by simp only [stage]; rw [if_neg h]
theorem stage_go0 (h : colsErr cols = 0) : stage cols key fg ch (0 + 1) = stage cols key fg ch 0 := by simp only [stage]; rw [if_pos h]
theorem stage_hit1 (h : ¬ keyErr cols key = 0) : keyErr cols key = stage cols key fg ch 1 := by simp only [stage]; rw [if_neg h]
theorem stage_go1 (h : keyErr cols key = 0) : stage cols key fg ch (1 + 1) = stage cols key fg ch 1 := by simp only [stage]; rw [if_pos h]
theorem stage_hit2 (h : ¬ foreignsErr cols.length fg = 0) : foreignsErr cols.length fg = stage cols key fg ch 2 := by simp only [stage, consErr]; rw [if_neg h]
theorem stage_go2 (h : foreignsErr cols.length fg = 0) : stage cols key fg ch (2 + 1) = stage cols key fg ch 2 := by simp only [stage, consErr]; rw [if_pos h]
theorem stage_hit3 (h : ¬ chksErr (cols.map (·.f1)) ch = 0) : chksErr (cols.map (·.f1)) ch = stage cols key fg ch 3 := by simp only [stage]
theorem stage_go3 (h : chksErr (cols.map (·.f1)) ch = 0) : stage cols key fg ch (3 + 1) = stage cols key fg ch 3 := by simp only [stage]; exact h.symm
end
set_option maxRecDepth 20000 in
set_option maxHeartbeats 4000000 in
theorem schema_Check.calls (a0_0 : ByteArray) (A0_1 : Option Addr) (c0_1 : Nat) (l0_1 : List Cl) (A0_2 : Option Addr) (c0_2 : Nat) (l0_2 : List Int) (A0_3 : Option Addr) (c0_3 : Nat) (l0_3 : List Fg) (A0_4 : Option Addr) (c0_4 : Nat) (l0_4 : List Ex) (r : Int) (w : World) (hr0_1 : Kd.C k29 w A0_1 l0_1.length l0_1) (hc0_1 : l0_1.length ≤ c0_1) (hr0_2 : Kd.C (Kd.int .i64) w A0_2 l0_2.length l0_2) (hc0_2 : l0_2.length ≤ c0_2) (hr0_3 : Kd.C k62 w A0_3 l0_3.length l0_3) (hc0_3 : l0_3.length ≤ c0_3) (hr0_4 : Kd.C k70 w A0_4 l0_4.length l0_4) (hc0_4 : l0_4.length ≤ c0_4) (h : schema_Check.f a0_0 l0_1 l0_2 l0_3 l0_4 = some r) :
    Calls Try.prog 15 #[.agg #[.string a0_0, .slice A0_1 l0_1.length c0_1, .slice A0_2 l0_2.length c0_2, .slice A0_3 l0_3.length c0_3, .slice A0_4 l0_4.length c0_4]] w fun e w' => e = .returned (.int .i64 r) ∧ Below w.heap.size w w' := by
  have hF : Fits l0_1 l0_2 l0_3 l0_4 := by
    unfold schema_Check.f at h
    split at h
    · assumption
    · cases h
  obtain rfl : r = tblErr a0_0 l0_1 l0_2 l0_3 l0_4 := by unfold schema_Check.f at h; rw [if_pos hF] at h; injection h with h; exact h.symm
  clear h
  have HF := Lib.hid hF; clear hF
  have HR1 := Lib.hid hr0_1; have HC1 := Lib.hid hc0_1; have HR2 := Lib.hid hr0_2; have HC2 := Lib.hid hc0_2; have HR3 := Lib.hid hr0_3; have HC3 := Lib.hid hc0_3; have HR4 := Lib.hid hr0_4; have HC4 := Lib.hid hc0_4
  clear hr0_1 hc0_1 hr0_2 hc0_2 hr0_3 hc0_3 hr0_4 hc0_4
  have hu := Try.underlying27
  go_enter Try.func15, Try.ntmps15
  go_wp2_with (first
    | (go_at_call 20; (with_reducible refine (name_calls _ _).mono ?_); rintro e w2 ⟨rfl, hb⟩; have hs := Step.of hb; clear hb; have hc2 := hs.cell; have hf2 := hs.frozen))
  · go_ret
    exact ⟨ret_int (by unfold tblErr; rw [if_pos (by simpa using (by assumption : (!nameOk a0_0) = true))]), Bel.out⟩
  · have hn : nameOk a0_0 = true := by simpa using (by assumption : (!nameOk a0_0) = false)
    rw [(by assumption : (!nameOk a0_0) = false), hn]
    have hst : tblErr a0_0 l0_1 l0_2 l0_3 l0_4 = stage l0_1 l0_2 l0_3 l0_4 0 := by unfold tblErr; rw [if_neg (by rw [hn]; decide)]; rfl
    have HST := Lib.hid hst; clear hst
    have i1 : InHeap w2 w.heap.size := by infer_instance
    have n1 : NeB w.heap.size w2.heap.size := by infer_instance
    go_loopw [12] (fun i wr => ∃ k : Nat, k ≤ 4 ∧ i = .int .i64 k ∧ Below w.heap.size w wr ∧ Blk wr w.heap.size (.cells #[.string a0_0, .slice A0_1 l0_1.length c0_1, .slice A0_2 l0_2.length c0_2, .slice A0_3 l0_3.length c0_3, .slice A0_4 l0_4.length c0_4] 27) ∧ Blk wr w2.heap.size (.cells #[.func (.func 36) #[] #[], .func (.func 37) #[] #[], .func (.func 38) #[] #[], .func (.func 39) #[] #[]] 41) ∧ stage l0_1 l0_2 l0_3 l0_4 k = stage l0_1 l0_2 l0_3 l0_4 0) (fun i wr => 4 - (intOf i).toNat)
    case atStart => exact ⟨0, by omega, rfl, Bel.out, by infer_instance, by infer_instance, rfl⟩
    case round =>
      obtain ⟨k, hk, rfl, hbw, hbk, hbf, hall⟩ := hrel
      have HB : Bel w wr := ⟨hbw⟩
      have HA := Lib.hid hall; clear hall hbw
      have t0 : wr.cell? ⟨w.heap.size, 0, none⟩ = _ := (blk_cell hbk.out 0).trans rfl
      have t1 : wr.cell? ⟨w.heap.size, 1, none⟩ = _ := (blk_cell hbk.out 1).trans rfl
      have t2 : wr.cell? ⟨w.heap.size, 2, none⟩ = _ := (blk_cell hbk.out 2).trans rfl
      have t3 : wr.cell? ⟨w.heap.size, 3, none⟩ = _ := (blk_cell hbk.out 3).trans rfl
      have t4 : wr.cell? ⟨w.heap.size, 4, none⟩ = _ := (blk_cell hbk.out 4).trans rfl
      have f0 : wr.cell? ⟨w2.heap.size, 0, none⟩ = _ := (blk_cell hbf.out 0).trans rfl
      have f1 : wr.cell? ⟨w2.heap.size, 1, none⟩ = _ := (blk_cell hbf.out 1).trans rfl
      have f2 : wr.cell? ⟨w2.heap.size, 2, none⟩ = _ := (blk_cell hbf.out 2).trans rfl
      have f3 : wr.cell? ⟨w2.heap.size, 3, none⟩ = _ := (blk_cell hbf.out 3).trans rfl
      have hk4 : k = 0 ∨ k = 1 ∨ k = 2 ∨ k = 3 ∨ k = 4 := by omega
      rcases hk4 with rfl | rfl | rfl | rfl | rfl
      · go_wp2_with (go_at_call 36; (with_reducible refine (columns_calls _ _ _ l0_1 _ _ _ _ _ _ _ _ _ _ ?g1 HC1.out ?g2).mono ?_); (case g1 => exact up HR1.out); (case g2 => exact HF.out.hnames); rintro e w3 ⟨rfl, hb⟩; have hs3 := Step.of hb; clear hb)
        · have hx : ¬ (colsErr l0_1 = 0) := by simpa using (by assumption : (colsErr l0_1 != 0) = true)
          have h : colsErr l0_1 = stage l0_1 l0_2 l0_3 l0_4 0 := stage_hit0 hx
          have HX := Lib.hid (h.trans HST.out.symm)
          go_ret
          exact ⟨ret_int HX.out, Bel.out⟩
        · have hx : colsErr l0_1 = 0 := by simpa using (by assumption : (colsErr l0_1 != 0) = false)
          have h : stage l0_1 l0_2 l0_3 l0_4 (0 + 1) = stage l0_1 l0_2 l0_3 l0_4 0 := stage_go0 hx
          have HX := Lib.hid h
          go_roundw
          case rel => exact ⟨0 + 1, by omega, by go_num, Bel.out, by infer_instance, by infer_instance, HX.out⟩
          case measure => simp [intOf]
      · go_wp2_with (go_at_call 37; (with_reducible refine (checkKey_calls _ _ _ l0_1 _ _ l0_2 _ _ l0_3 _ _ l0_4 _ ?g1).mono ?_); (case g1 => exact ⟨up HR1.out, HC1.out, up HR2.out, HC2.out, up HR3.out, HC3.out, up HR4.out, HC4.out⟩); rintro e w3 ⟨rfl, hb⟩; have hs3 := Step.of hb; clear hb)
        · have hx : ¬ (keyErr l0_1 l0_2 = 0) := by simpa using (by assumption : (keyErr l0_1 l0_2 != 0) = true)
          have h : keyErr l0_1 l0_2 = stage l0_1 l0_2 l0_3 l0_4 1 := stage_hit1 hx
          have HX := Lib.hid (h.trans (HA.out.trans HST.out.symm))
          go_ret
          exact ⟨ret_int HX.out, Bel.out⟩
        · have hx : keyErr l0_1 l0_2 = 0 := by simpa using (by assumption : (keyErr l0_1 l0_2 != 0) = false)
          have h : stage l0_1 l0_2 l0_3 l0_4 (1 + 1) = stage l0_1 l0_2 l0_3 l0_4 1 := stage_go1 hx
          have HX := Lib.hid (h.trans HA.out)
          go_roundw
          case rel => exact ⟨1 + 1, by omega, by go_num, Bel.out, by infer_instance, by infer_instance, HX.out⟩
          case measure => simp [intOf]
      · go_wp2_with (go_at_call 38; (with_reducible refine (foreigns_calls _ _ _ _ _ _ _ _ _ l0_3 _ _ _ _ ?g1 HC3.out ?g2).mono ?_); (case g1 => exact up HR3.out); (case g2 => exact HF.out.hints); rintro e w3 ⟨rfl, hb⟩; have hs3 := Step.of hb; clear hb)
        · have hx : ¬ (foreignsErr l0_1.length l0_3 = 0) := by simpa using (by assumption : (foreignsErr l0_1.length l0_3 != 0) = true)
          have h : foreignsErr l0_1.length l0_3 = stage l0_1 l0_2 l0_3 l0_4 2 := stage_hit2 hx
          have HX := Lib.hid (h.trans (HA.out.trans HST.out.symm))
          go_ret
          exact ⟨ret_int HX.out, Bel.out⟩
        · have hx : foreignsErr l0_1.length l0_3 = 0 := by simpa using (by assumption : (foreignsErr l0_1.length l0_3 != 0) = false)
          have h : stage l0_1 l0_2 l0_3 l0_4 (2 + 1) = stage l0_1 l0_2 l0_3 l0_4 2 := stage_go2 hx
          have HX := Lib.hid (h.trans HA.out)
          go_roundw
          case rel => exact ⟨2 + 1, by omega, by go_num, Bel.out, by infer_instance, by infer_instance, HX.out⟩
          case measure => simp [intOf]
      · go_wp2_with (go_at_call 39; (with_reducible refine (checkChecks_calls _ _ _ l0_1 _ _ l0_2 _ _ l0_3 _ _ l0_4 _ ?g1 HF.out.hcols HF.out.hnodes).mono ?_); (case g1 => exact ⟨up HR1.out, HC1.out, up HR2.out, HC2.out, up HR3.out, HC3.out, up HR4.out, HC4.out⟩); rintro e w3 ⟨rfl, hb⟩; have hs3 := Step.of hb; clear hb)
        · have hx : ¬ (chksErr (l0_1.map (·.f1)) l0_4 = 0) := by simpa using (by assumption : (chksErr (l0_1.map (·.f1)) l0_4 != 0) = true)
          have h : chksErr (l0_1.map (·.f1)) l0_4 = stage l0_1 l0_2 l0_3 l0_4 3 := stage_hit3 hx
          have HX := Lib.hid (h.trans (HA.out.trans HST.out.symm))
          go_ret
          exact ⟨ret_int HX.out, Bel.out⟩
        · have hx : chksErr (l0_1.map (·.f1)) l0_4 = 0 := by simpa using (by assumption : (chksErr (l0_1.map (·.f1)) l0_4 != 0) = false)
          have h : stage l0_1 l0_2 l0_3 l0_4 (3 + 1) = stage l0_1 l0_2 l0_3 l0_4 3 := stage_go3 hx
          have HX := Lib.hid (h.trans HA.out)
          go_roundw
          case rel => exact ⟨3 + 1, by omega, by go_num, Bel.out, by infer_instance, by infer_instance, HX.out⟩
          case measure => simp [intOf]
      · go_wp2
        go_ret
        exact ⟨ret_int (HA.out.trans HST.out.symm), Bel.out⟩
end Go.Proofs.Ytjceeengnnjipaa.PAll
