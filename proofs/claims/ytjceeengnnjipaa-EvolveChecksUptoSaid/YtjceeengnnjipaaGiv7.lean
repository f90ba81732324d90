/- GIVEN BY HAND: expr.Columns. -/
import Derived.Test.YtjceeengnnjipaaGiv6
import Derived.Test.YtjceeengnnjipaaShelf
import Derived.Lib.OwnBridge
import Derived.Sort.OwnSortedInts
namespace Go.Proofs.Ytjceeengnnjipaa.PAll
open Go.RowKit Go.Proofs.Ytjceeengnnjipaa.Kit Go.Proofs.Ytjceeengnnjipaa.L13 Go.Proofs.YtjceeengnnjipaaW.PrintWords
set_option linter.unusedVariables false
attribute [local go_sem] allocCell allocFrozen setFar setFrozen allocAny allocAdd

def OwnI (W : World) (base : Nat) (v : Value) (xs : List Int) : Prop := W.ownsRow base 3 1 v xs.length (xs.map (Value.int .i64))
theorem OwnI.of {W : World} {base : Nat} {ok : Nat → Prop} {v : Value} {xs : List Int} (h : (Kd.int .i64).R 3 W base ok v xs) : OwnI W base v xs := Kd.own_of_R h
theorem OwnI.R {W : World} {base : Nat} {v : Value} {xs : List Int} (h : OwnI W base v xs) : (Kd.int .i64).R 3 W base (fun _ => True) v xs := Kd.R_of_own h (fun _ _ => trivial)
theorem compact_mem (d : Array Int) (x : Int) : ∀ m : Nat, x ∈ Lib.compactUpTo d m ↔ ∃ j, j < m ∧ d[j]! = x := by
  intro m
  induction m with
  | zero => simp [Lib.compactUpTo]
  | succ m ih =>
    rw [Lib.compactUpTo_succ, List.mem_append, ih]
    constructor
    · rintro (⟨j, hj, e⟩ | h)
      · exact ⟨j, by omega, e⟩
      · split at h
        · rw [List.mem_singleton] at h; exact ⟨m, by omega, h.symm⟩
        · cases h
    · rintro ⟨j, hj, e⟩
      rcases Nat.lt_or_ge j m with h | h
      · exact .inl ⟨j, h, e⟩
      · obtain rfl : j = m := by omega
        by_cases hk : Lib.keeps d j = true
        · rw [if_pos hk]; exact .inr (by rw [List.mem_singleton, e])
        · simp only [Lib.keeps, decide_eq_true_eq, not_or, ne_eq, Decidable.not_not] at hk
          exact .inl ⟨j - 1, by omega, by rw [← hk.2, e]⟩
theorem compact_mem' (zs : List Int) (x : Int) : x ∈ Lib.compact zs ↔ x ∈ zs := by
  unfold Lib.compact
  rw [compact_mem, List.mem_iff_getElem]
  constructor
  · rintro ⟨j, hj, e⟩
    exact ⟨j, hj, by rw [← e]; simp [getElem!_pos, hj]⟩
  · rintro ⟨j, hj, e⟩
    exact ⟨j, hj, by rw [← e]; simp [getElem!_pos, hj]⟩
theorem sort_own (W : World) (base : Nat) (v : Value) (xs : List Int) (h : OwnI W base v xs) (hl : xs.length < 4611686018427387904) :
    Calls Try.prog 69 #[v] W fun e W' => e = .returned (.tuple #[]) ∧ ∃ ys, (∀ x, x ∈ ys ↔ x ∈ xs) ∧ ys.length = xs.length ∧ OwnI W' base v ys ∧ W.grownBy W' v.ownBlock := by
  rcases h.2 with ⟨rfl, h0⟩ | ⟨g, cap, cur, rfl, hb, hg, hn, hm, hs, ht⟩
  · refine (Try.slices_Sort_int_none none 0 W).mono ?_
    rintro e W' ⟨rfl, rfl⟩
    exact ⟨rfl, xs, fun _ => Iff.rfl, rfl, h, World.grownBy.refl _ _⟩
  · obtain ⟨g', cap', e1, _, hlt, _, _, _, hH⟩ := Lib.holds_of_ownsRow h (by simp)
    injection e1 with e1 _ e3
    injection e1 with e1
    injection e1 with e1
    subst e1
    refine (Try.slices_Sort_int g 0 cap xs W hH hlt hl).mono ?_
    rintro e W' ⟨rfl, n, os, rfl⟩
    refine ⟨rfl, xs.mergeSort fun x y => decide (x ≤ y), fun x => (List.mergeSort_perm _ _).mem_iff, List.length_mergeSort _, ?_, ?_⟩
    · unfold OwnI
      rw [List.length_mergeSort]
      exact ownsRow_sortedI (List.length_mergeSort _) hb hg hn hm (by simpa using hs)
    · exact grownBy_sortedI _
theorem compact_own (W : World) (base : Nat) (v : Value) (xs : List Int) (h : OwnI W base v xs) (hl : xs.length < 4611686018427387904) :
    Calls Try.prog 70 #[v] W fun e W' => ∃ v' ys, e = .returned v' ∧ (∀ x, x ∈ ys ↔ x ∈ xs) ∧ ys.length ≤ xs.length ∧ OwnI W' base v' ys ∧ W.grownBy W' v.ownBlock := by
  rcases h.2 with ⟨rfl, h0⟩ | ⟨g, cap, cur, rfl, hb, hg, hn, hm, hs, ht⟩
  · refine (Try.slices_Compact_int_empty none 0 W).mono ?_
    rintro e W' ⟨rfl, rfl⟩
    exact ⟨_, xs, rfl, fun _ => Iff.rfl, Nat.le_refl _, h, World.grownBy.refl _ _⟩
  · obtain ⟨g', cap', e1, _, hlt, _, _, _, hH⟩ := Lib.holds_of_ownsRow h (by simp)
    injection e1 with e1 _ e3
    injection e1 with e1
    injection e1 with e1
    subst e1
    refine (Try.slices_Compact_int g 0 cap xs W hH (by omega) hn).mono ?_
    rintro e W' ⟨rfl, q, rfl⟩
    have hle := Lib.compact_length_le xs
    refine ⟨_, Lib.compact xs, rfl, compact_mem' xs, hle, ?_, ?_⟩
    · have := Lib.ownsRow_putRow (q := q) (k := (Lib.compact xs).length) (ys := Lib.compact xs ++ List.replicate (xs.length - (Lib.compact xs).length) 0) h (by simp; omega) hle
      rw [List.take_left'] at this
      · exact this
      · rfl
    · have := grownBy_sortedI (w := W) (g := g) (n := q) (os := #[]) (Lib.compact xs ++ List.replicate (xs.length - (Lib.compact xs).length) 0).toArray
      rw [Sort.grow_empty] at this
      exact this
theorem Acc.madeAt {w W : World} {p : Nat} (h : W.heap.size = p) (hb : Below w.heap.size w W) : Acc w p [] (W.alloc (.cells #[.slice none 0 0] 23)) := by
  subst h
  exact ⟨hb.size, ⟨.slice none 0 0, heap_alloc_new W _, Kd.R_nil _ _ _ _ _⟩, hb.alloc hb.size _⟩
set_option maxRecDepth 20000 in
set_option maxHeartbeats 2000000 in
theorem exprColumns_calls (x : Ex) (A : Option Addr) (cc : Nat) (w : World) (hr : Kd.C k70 w A x.f4.length x.f4) (hcc : x.f4.length ≤ cc) (hn : nodes x ≤ 1048576) :
    Calls Try.prog 44 #[.agg #[.int .i64 x.f0, .int .i64 x.f1, .int .i64 x.f2.f0, .int .i64 x.f2.f1, .string x.f2.f2, .string x.f3, .slice A x.f4.length cc]] w fun r W' => ∃ v ys, r = .returned v ∧ (∀ y, y ∈ ys ↔ y ∈ occ x) ∧ ys.length ≤ 1048576 ∧ OwnI W' w.heap.size v ys ∧ Below w.heap.size w W' := by
  have HR := Lib.hid hr; have HC := Lib.hid hcc
  clear hr hcc
  have hol := occ_len _ x (Nat.le_refl _)
  have hu := Try.underlying70
  have hu1 := Try.underlying23
  have hmf : ∀ (fn : Fn) (first cap : Array Value) (w : World), (Instr.makeFunc fn first cap).run Try.prog w = .ok (.func fn first cap) w := fun _ _ _ _ => rfl
  go_enter Try.func44, Try.ntmps44
  go_wp2_with (first
    | (go_at_call 67; (with_reducible refine (visit_calls w (w.heap.size + 1) _ x (Nat.le_refl _) hn [] A cc _ ?g1 HR.out HC.out ?g2).mono ?_); (case g1 => exact Acc.madeAt HSize.out Bel.out); (case g2 => simp; omega); rintro e w1 ⟨rfl, hA1, hK1⟩; obtain ⟨v, hv, hR⟩ := hA1.cell; have hx3 : w1.cell? ⟨w.heap.size + 1, 0, none⟩ = some v := (blk_cell hv 0).trans rfl; have HB1 := Lib.hid hA1.below; have HV := Lib.hid hv; have HO := Lib.hid (OwnI.of hR); have HNE := Lib.hid (fun e : some (w.heap.size + 1) = v.ownBlock => hR.1 _ e.symm rfl); clear hA1 hK1 hv hR)
    | (go_at_call 69; (with_reducible refine (sort_own _ w.heap.size v (occ x) HO.out ?g2).mono ?_); (case g2 => omega); rintro e w2 ⟨rfl, ys, hy1, hy2, hy3, hg2⟩; have hx4 : w2.cell? ⟨w.heap.size + 1, 0, none⟩ = some v := (blk_cell (blk_grown HV.out hg2 HNE.out) 0).trans rfl; have HY1 := Lib.hid hy1; have HY2 := Lib.hid hy2; have HY3 := Lib.hid hy3; have HG2 := Lib.hid hg2; clear hy1 hy2 hy3 hg2)
    | (go_at_call 70; (with_reducible refine (compact_own _ w.heap.size v ys HY3.out ?g2).mono ?_); (case g2 => have := HY2.out; omega); rintro e w3 ⟨v', zs, rfl, hz1, hz2, hz3, hg3⟩; have HZ := Lib.hid (And.intro hz1 (And.intro hz2 (And.intro hz3 hg3))); clear hz1 hz2 hz3 hg3))
  go_ret
  obtain ⟨hz1, hz2, hz3, hg3⟩ := HZ.out
  have hrow : ∀ j, v.ownBlock = some j → w.heap.size ≤ j := fun j hj => own_base HO.out j hj
  exact ⟨v', zs, rfl, fun y => (hz1 y).trans (HY1.out y), by have := HY2.out; omega, hz3, (HB1.out.grown HG2.out HB1.out.size hrow).grown hg3 (HB1.out.grown HG2.out HB1.out.size hrow).size hrow⟩
end Go.Proofs.Ytjceeengnnjipaa.PAll
