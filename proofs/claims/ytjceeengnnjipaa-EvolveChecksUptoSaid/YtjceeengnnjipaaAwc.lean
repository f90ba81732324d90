/- slices.Delete of one column from a row of the call's own. -/
import Derived.Test.YtjceeengnnjipaaAwa
import Derived.Lib.SliceRun
import Derived.Deep.RegionLaw
import Derived.Laws.IdiomCopy
namespace Go.Proofs.Ytjceeengnnjipaa.PAll
open Go.RowKit Go.Proofs.Ytjceeengnnjipaa.Kit Go.Proofs.Ytjceeengnnjipaa.L13 Go.Proofs.YtjceeengnnjipaaW.PrintWords
set_option linter.unusedVariables false
attribute [local go_sem] allocCell allocFrozen setFar setFrozen allocAny

theorem colCells_len : ∀ xs : List S29, (colCells xs).length = xs.length * 3
  | [] => rfl
  | x :: xs => by simp only [colCells, List.length_append, List.length_cons, List.length_nil, colCells_len xs]; omega
theorem colCells_append : ∀ xs ys : List S29, colCells (xs ++ ys) = colCells xs ++ colCells ys
  | [], ys => rfl
  | x :: xs, ys => by simp only [List.cons_append, colCells, colCells_append xs ys, List.append_assoc]
theorem colCells_one : ∀ xs : List S29, ∀ v ∈ colCells xs, v.oneCell' = true
  | [], v, h => by cases h
  | x :: xs, v, h => by
    simp only [colCells, List.cons_append, List.nil_append, List.mem_cons] at h
    rcases h with rfl | rfl | rfl | h
    · rfl
    · rfl
    · rfl
    · exact colCells_one xs v h
theorem cols_of_reps {W : World} {base : Nat} {ok : Nat → Prop} : ∀ (xs : List S29) (cs : List Value), Reps (k29.M W base ok) 3 xs cs → cs = colCells xs := by
  intro xs
  induction xs with
  | nil => intro cs h; have := h.1; simp at this; exact this
  | cons x xs ih =>
    intro cs h
    have h0 := h.2 0 x rfl
    simp only [Nat.zero_mul, List.drop_zero] at h0
    have h1 := k29_openM h0
    have h2 : Reps (k29.M W base ok) 3 xs (cs.drop 3) := by
      refine ⟨by have := h.1; rw [List.length_drop, this, List.length_cons]; omega, fun j p hj => ?_⟩
      have := h.2 (j + 1) p (by simpa using hj)
      rw [List.drop_drop]
      rwa [Nat.succ_mul, Nat.add_comm] at this
    have h3 := ih _ h2
    rw [← List.take_append_drop 3 cs, h1, h3, colCells]
theorem run_clear_cells {P : Program} (w : World) (t e ty : TypeId) (z : Value) (zs : List Value) (ht : P.underlying t = some (.slice e)) (hv : ∀ w, (zeroValue e).run P w = .ok z w) (hz : (Builtin.zeroCells z.cells 1).toList = zs) (h1 : ∀ v ∈ zs, v.oneCell' = true) (b o c : Nat)
    (hc : ∀ j, j < zs.length → (w.cell? ⟨b, o + j, none⟩).isSome = true) (hf : ∀ j, j < zs.length → w.frozen? ⟨b, o + j, none⟩ = false) :
    (Builtin.clear_ #[t] ty #[.slice (some ⟨b, o, none⟩) 1 c]).run P w = .ok (.tuple #[]) (w.setCells b o zs) := by
  have hst := run_storeCells_cells (P := P) b o zs 0 w (by simpa using hc) (by simpa using hf) h1
  simp only [Nat.add_zero] at hst
  simp [Builtin.clear_, run_underlying ht, hv, hz, hst]
set_option maxHeartbeats 4000000 in
set_option maxRecDepth 1000000 in
theorem delete_calls (W : World) (base g cap i : Nat) (cols : List S29) (h : Kd.R k29 29 W base (fun _ => True) (.slice (some ⟨g, 0, none⟩) cols.length cap) cols) (hi : i < cols.length) :
    Calls Try.prog 55 #[.slice (some ⟨g, 0, none⟩) cols.length cap, .int .i64 i, .int .i64 ((i : Int) + 1)] W fun e w' => e = .returned (.slice (some ⟨g, 0, none⟩) (cols.length - 1) cap) ∧ Kd.R k29 29 w' base (fun _ => True) (.slice (some ⟨g, 0, none⟩) (cols.length - 1) cap) (cols.take i ++ cols.drop (i + 1)) ∧ W.grownBy w' (some g) := by
  obtain ⟨_, inner, ho, hr⟩ := h
  obtain rfl := cols_of_reps cols inner hr
  obtain ⟨ho1, ho2⟩ := ho
  rcases ho2 with ⟨hv, _⟩ | ⟨g', cap', cur, hv, hb, hh, hnc, hcm, hcs, htk⟩
  · cases hv
  injection hv with ha _ hc
  injection ha with ha
  injection ha with hg
  subst hg; subst hc
  have hs3 : cap * 3 = cur.size := hcs.symm
  have hcm' : cap ≤ 9223372036854775807 := hcm
  -- the cells that are moved to the left
  obtain ⟨news, hnews⟩ : ∃ news, news = colCells (cols.drop (i + 1)) := ⟨_, rfl⟩
  have hlen : news.length = (cols.length - (i + 1)) * 3 := by rw [hnews, colCells_len, List.length_drop]
  have hall : colCells cols = colCells (cols.take (i + 1)) ++ news := by rw [hnews, ← colCells_append, List.take_append_drop]
  have hread : ∀ q u, news[q]? = some u → W.cell? ⟨g, (i + 1) * 3 + q, none⟩ = some u := by
    intro q u hq
    rw [blk_cell hh, ← Array.getElem?_toList]
    have h5 : (colCells cols)[(i + 1) * 3 + q]? = some u := by
      rw [hall, List.getElem?_append_right (by rw [colCells_len, List.length_take]; omega), colCells_len, List.length_take, Nat.min_eq_left (by omega), Nat.add_sub_cancel_left]
      exact hq
    rw [← htk, List.getElem?_take] at h5
    split at h5
    · exact h5
    · cases h5
  obtain ⟨A, hA, hsrc⟩ : ∃ A : Addr, (if cap = i + 1 then some (⟨g, 0, none⟩ : Addr) else some ⟨g, (i + 1) * 3, none⟩) = some A ∧ Hid (∀ q u, news[q]? = some u → W.drew.cell? (A.add q) = some u) := by
    by_cases h : cap = i + 1
    · refine ⟨⟨g, 0, none⟩, by simp [h], fun q u hu => ?_⟩
      have h0 : news.length = 0 := by rw [hlen]; omega
      rw [List.length_eq_zero_iff.1 h0] at hu
      simp at hu
    · refine ⟨⟨g, (i + 1) * 3, none⟩, by simp [h], fun q u hu => ?_⟩
      rw [Addr.add_lit]
      exact hread q u hu
  have s1 : Hid (news.length = (cols.length - (i + 1)) * 3) := hlen
  have s2 : Hid (∀ u ∈ news, u.oneCell' = true) := by rw [hnews]; exact colCells_one _
  have s3 : Hid (∀ q, q < news.length → (W.drew.cell? ⟨g, 0 + i * 3 + q, none⟩).isSome = true ∧ W.drew.frozen? ⟨g, 0 + i * 3 + q, none⟩ = false) := by
    intro q hq
    rw [hlen] at hq
    refine ⟨?_, blk_frozen (w := W) hh _⟩
    show (W.cell? _).isSome = true
    rw [blk_cell hh]
    rw [Array.getElem?_eq_getElem (by omega)]
    rfl
  obtain ⟨W1, hW1⟩ : ∃ W1, W1 = W.drew.setCells g (0 + i * 3) news := ⟨_, rfl⟩
  obtain ⟨cur1, h3, h4, h5⟩ := setCells_row news (0 + i * 3) W.drew cur hh (by rw [hlen]; omega)
  rw [← hW1] at h3
  have hz : (Builtin.zeroCells (Value.agg #[(.string ⟨#[]⟩), (.int .i64 0), (.bool false)]).cells 1).toList = [.string ⟨#[]⟩, .int .i64 0, .bool false] := by kernel_rfl
  have v23 : ∀ w, (zeroValue 29).run Try.prog w = .ok (.agg #[(.string ⟨#[]⟩), (.int .i64 0), (.bool false)]) w := fun w => by kernel_rfl
  have e0 : i + (cols.length - (i + 1)) = cols.length - 1 := by omega
  have hcl : ∀ ty, (Builtin.clear_ #[22] ty #[.slice (some ⟨g, (i + (cols.length - (i + 1))) * 3, none⟩) (cols.length - (i + (cols.length - (i + 1)))) (cap - (i + (cols.length - (i + 1))))]).run Try.prog W1 = .ok (.tuple #[]) (W1.setCells g ((i + (cols.length - (i + 1))) * 3) [.string ⟨#[]⟩, .int .i64 0, .bool false]) := fun ty => by
    rw [e0, show cols.length - (cols.length - 1) = 1 by omega]
    exact run_clear_cells W1 _ _ ty _ _ Try.underlying22 v23 hz (by simp [Value.oneCell']) g _ _ (fun j hj => by rw [blk_cell h3]; simp only [List.length_cons, List.length_nil] at hj; rw [Array.getElem?_eq_getElem (by omega)]; rfl) (fun j hj => blk_frozen h3 _)
  have hfin : ∀ W2, W2 = W1.setCells g ((i + (cols.length - (i + 1))) * 3) [.string ⟨#[]⟩, .int .i64 0, .bool false] → Kd.R k29 29 W2 base (fun _ => True) (.slice (some ⟨g, 0, none⟩) (cols.length - 1) cap) (cols.take i ++ cols.drop (i + 1)) ∧ W.grownBy W2 (some g) := by
    rintro W2 rfl
    rw [e0]
    obtain ⟨cur2, k3, k4, k5⟩ := setCells_row [.string ⟨#[]⟩, .int .i64 0, .bool false] ((cols.length - 1) * 3) W1 cur1 h3 (by simp only [List.length_cons, List.length_nil]; omega)
    have hlt : (cols.take i ++ cols.drop (i + 1)).length = cols.length - 1 := by rw [List.length_append, List.length_take, List.length_drop]; omega
    refine ⟨⟨fun _ _ => trivial, colCells (cols.take i ++ cols.drop (i + 1)), ⟨by rw [colCells_len]; rfl, .inr ⟨g, cap, cur2, by rw [hlt], hb, k3, by rw [hlt]; omega, hcm, by rw [k4, h4]; exact hcs, ?_⟩⟩, cols_reps _ _ _ _⟩, ?_⟩
    · rw [hlt, colCells_append, ← hnews]
      show List.take ((cols.length - 1) * 3) cur2.toList = _
      have l0 : cur.toList.length = cur.size := Array.length_toList
      have l1 : cur1.toList.length = cur1.size := Array.length_toList
      have e1 : cur.toList.take (0 + i * 3) = colCells (cols.take i) := by
        have h6 : cur.toList.take (0 + i * 3) = (colCells cols).take (i * 3) := by
          rw [← htk, List.take_take, Nat.zero_add]
          congr 1
          show i * 3 = min (i * 3) (cols.length * 3)
          omega
        rw [h6, show colCells cols = colCells (cols.take i) ++ colCells (cols.drop i) by rw [← colCells_append, List.take_append_drop]]
        rw [List.take_left' (by rw [colCells_len, List.length_take]; omega)]
      rw [k5, List.append_assoc, List.take_left' (by rw [List.length_take, l1, h4]; omega), h5, e1]
      rw [List.take_left' (by rw [List.length_append, colCells_len, hlen, List.length_take]; omega)]
    · rw [hW1]
      obtain ⟨s1, s2, s3, s4⟩ := setCells_same g news (0 + i * 3) W.drew
      obtain ⟨q1, q2, q3, q4⟩ := setCells_same g [.string ⟨#[]⟩, .int .i64 0, .bool false] ((cols.length - 1) * 3) (W.drew.setCells g (0 + i * 3) news)
      exact ⟨q1.trans s1, q2.trans s2, q3.trans s3, by rw [q4, s4]; exact Nat.le_refl _, fun k _ hk => (setCells_far _ _ k (fun he => hk (by rw [he]))).trans (setCells_far (w := W.drew) news _ k (fun he => hk (by rw [he])))⟩
  have X : Aside0 (W1 = W.drew.setCells g (0 + i * 3) news) := ⟨hW1⟩
  have HFN := Lib.hid hfin
  clear hfin e0 hW1 h3 h4 h5 hh htk hnews hall hread hlen hr ho1 v23 hz
  have hic : i ≤ cap := by omega
  have hjc : i + 1 ≤ cap := by omega
  have b0 : (0 : Int) ≤ (i : Int) + 1 := by omega
  have b1 : (i : Int) + 1 ≤ (cols.length : Int) := by omega
  have hu := Try.underlying22
  have i3 : ∃ i0, Try.prog.info? 29 = some i0 ∧ i0.size = 3 := ⟨_, rfl, by kernel_rfl⟩
  obtain ⟨i0, hi0, hi1⟩ := i3
  go_enter Try.func55, Try.ntmps55
  go_wp2_with fail
  go_region_law (refine step_append_room rfl (.tmp 22) (.tmp 25) 22 rfl 29 i0 3 hu hi0 hi1 g 0 i cap (by simp [Act.eval, Act.put]) A (cols.length - (i + 1)) (cap - (i + 1)) news (by simp [Act.eval, Act.put]) s1.out hsrc.out s2.out (by omega) s3.out ?_; rw [← X.out])
  go_wp2
  go_ret
  obtain ⟨f1, f2⟩ := HFN.out _ rfl
  exact ⟨by rw [show i + (cols.length - (i + 1)) = cols.length - 1 by omega]; rfl, f1, f2⟩
end Go.Proofs.Ytjceeengnnjipaa.PAll
