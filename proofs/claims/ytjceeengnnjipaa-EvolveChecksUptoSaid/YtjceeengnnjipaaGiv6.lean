/- GIVEN BY HAND: expr.visit with the closure of expr.Columns. -/
import Derived.Test.YtjceeengnnjipaaRdr
import Derived.Test.YtjceeengnnjipaaMapKit
import Derived.Test.YtjceeengnnjipaaKdg
import Derived.LoopTactic
namespace Go.Proofs.Ytjceeengnnjipaa.PAll
open Go.RowKit Go.Proofs.Ytjceeengnnjipaa.Kit Go.Proofs.Ytjceeengnnjipaa.L13 Go.Proofs.YtjceeengnnjipaaW.PrintWords
set_option linter.unusedVariables false
attribute [local go_sem] allocCell allocFrozen setFar setFrozen allocAny allocAdd

/-- The captured list: block p holds a slice of the call's own (base w0), whose elements are xs. -/
structure Acc (w0 : World) (p : Nat) (xs : List Int) (W : World) : Prop where
  ge : w0.heap.size ≤ p
  cell : ∃ v, W.heap[p]? = some (.cells #[v] 23 (0, 0)) ∧ (Kd.int .i64).R 3 W w0.heap.size (fun k => k ≠ p) v xs
  below : Below w0.heap.size w0 W
/-- Blocks of expressions stay. -/
def KeptX (W W' : World) : Prop := W.heap.size ≤ W'.heap.size ∧ ∀ (b : Nat) (cs : Array Value), W.heap[b]? = some (Obj.cells cs 70 (0, 0)) → W'.heap[b]? = some (Obj.cells cs 70 (0, 0))
theorem KeptX.refl (W : World) : KeptX W W := ⟨Nat.le_refl _, fun _ _ h => h⟩
theorem KeptX.trans {a b c : World} (h : KeptX a b) (k : KeptX b c) : KeptX a c := ⟨Nat.le_trans h.1 k.1, fun x cs hx => k.2 x cs (h.2 x cs hx)⟩
theorem KeptX.of {W W' : World} (h : Below W.heap.size W W') : KeptX W W' := ⟨h.size, fun b cs hb => (h.block b (Array.getElem?_eq_some_iff.1 hb).1).trans hb⟩
theorem Acc.lt {w0 : World} {p : Nat} {xs : List Int} {W : World} (h : Acc w0 p xs W) : p < W.heap.size := by
  obtain ⟨v, hv, _⟩ := h.cell
  exact (Array.getElem?_eq_some_iff.1 hv).1
theorem Acc.mv {w0 : World} {p : Nat} {xs : List Int} {W W' : World} (h : Acc w0 p xs W) (hb : Below W.heap.size W W') : Acc w0 p xs W' := by
  obtain ⟨v, hv, hr⟩ := h.cell
  exact ⟨h.ge, ⟨v, (hb.block p h.lt).trans hv, Kd.R_below hr hb⟩, h.below.trans (hb.mono h.below.size)⟩
theorem heap_alloc_far {W : World} {g : Nat} {o : Obj} (h : W.heap[g]? = some o) (o' : Obj) : (W.alloc o').heap[g]? = some o := (((Below.refl W.heap.size W).alloc (Nat.le_refl _) o').block g (Array.getElem?_eq_some_iff.1 h).1).trans h
theorem exprInfo : (Try.prog.info? 3).map (fun i => (i.zero, i.size, i.bytes)) = some (some (.int .i64 0), 1, 8) := by kernel_rfl
set_option maxRecDepth 20000 in
set_option maxHeartbeats 2000000 in
theorem closure_calls (w0 : World) (p : Nat) (xs : List Int) (op n a b : Int) (c nm : ByteArray) (A : Option Addr) (l cc : Nat) (W : World) (hA : Acc w0 p xs W) (hlen : xs.length < 17592186044416) :
    Calls Try.prog 68 #[.agg #[.int .i64 op, .int .i64 n, .int .i64 a, .int .i64 b, .string c, .string nm, .slice A l cc], .pointer (some ⟨p, 0, none⟩)] W fun e W' => e = .returned (.tuple #[]) ∧ Acc w0 p (if op = 2 then xs ++ [n] else xs) W' ∧ KeptX W W' := by
  obtain ⟨v, hv, hr⟩ := hA.cell
  have hi : InHeap W p := ⟨hA.lt⟩
  have hp : W.cell? ⟨p, 0, none⟩ = some v := (blk_cell hv 0).trans rfl
  have hfz := blk_frozen hv 0
  have HR := Lib.hid hr; have HV := Lib.hid hv; have HA := Lib.hid hA
  clear hr hv hA
  have hu := Try.underlying70
  have hu1 := Try.underlying23
  go_enter Try.func68, Try.ntmps68
  go_wp2_with (at_builtin; refine Kd.R_append (Kd.int .i64) (w0 := w0) w0.heap.size rfl (.tmp 6) (.tmp 9) 23 3 (.int .i64 0) 8 rfl hu1 exprInfo rfl (by decide) (by omega) v xs n [.int .i64 n] (fun k => k ≠ p) (fun _ => False) rfl (by first | rfl | simp [Act.eval]) rfl (fun _ h => h.elim) ?aF ?aO ?aB ?aS ?aL ?_)
  case aF =>
    rintro k hk rfl
    have := HA.out.lt
    simp at hk
    omega
  case aO => exact Kd.R_alloc HR.out _
  case aB => exact HA.out.below.alloc HA.out.below.size _
  case aS => have := HA.out.below.size; simp; omega
  case aL => omega
  · intro v1 w1 hR1 hb1 hg1 hat1
    have hne : some p ≠ v.ownBlock := fun e => HR.out.1 p e.symm rfl
    have hp1 : w1.cell? ⟨p, 0, none⟩ = some v := hg1.cell (a := ⟨p, 0, none⟩) (by rw [allocCell]; exact hp) hne
    have hv1 : w1.heap[p]? = some (.cells #[v] 23 (0, 0)) := blk_grown (heap_alloc_far HV.out _) hg1 hne
    have hf1 := blk_frozen hv1 0
    have hk1 : KeptX W w1 := by
      refine ⟨by have := hg1.size; simp at this; omega, fun g cs hg => ?_⟩
      refine blk_grown (heap_alloc_far hg _) hg1 (fun e => ?_)
      obtain ⟨_, inner, ho, _⟩ := HR.out
      obtain ⟨cells, hc⟩ := own_typed ho g e.symm
      rw [hg] at hc
      injection hc with hc
      injection hc with _ hc
      exact absurd hc (by decide)
    obtain ⟨A1, c1, rfl⟩ := Kd.R_slice hR1
    have HR1 := Lib.hid hR1; have HB1 := Lib.hid hb1; have HV1 := Lib.hid hv1; have HK1 := Lib.hid hk1
    clear hR1 hb1 hg1 hat1 hv1 hk1 hne
    have ho2 : op = 2 := by simpa using (by assumption : (op == 2) = true)
    have HO := Lib.hid ho2; clear ho2
    go_wp2
    go_end0
    refine ⟨rfl, ?_, ?_⟩
    · exact ⟨HA.out.ge, ⟨_, by simpa using blk_set HV1.out 0 _, Kd.R_far (p := ⟨p, 0, none⟩) HR1.out (fun _ hk => hk) _⟩, HB1.out.setCell HA.out.ge _⟩
    · refine HK1.out.trans ⟨by simp, fun g cs hg => blk_far hg ?_ _⟩
      rintro rfl
      have hc := HV1.out
      rw [hg] at hc
      injection hc with hc
      injection hc with _ hc
      exact absurd hc (by decide)
  · exfalso
    have h := (by assumption : (op == 2) = false)
    simp at h
    contradiction
  · have HN := Lib.hid (by assumption : ¬ op = 2)
    go_end0
    refine ⟨rfl, ?_, KeptX.of Bel.out⟩
    exact HA.out.mv Bel.out
theorem occL_append : ∀ a b : List Ex, occL (a ++ b) = occL a ++ occL b
  | [], b => rfl
  | x :: xs, b => by simp only [List.cons_append, occL, occL_append xs b, List.append_assoc]
theorem nodesL_append : ∀ a b : List Ex, nodesL (a ++ b) = nodesL a + nodesL b
  | [], b => by simp [nodesL]
  | x :: xs, b => by simp only [List.cons_append, nodesL, nodesL_append xs b]; omega
theorem occ_len : ∀ N : Nat, ∀ e : Ex, nodes e ≤ N → (occ e).length ≤ nodes e := by
  intro N
  induction N with
  | zero => intro e h; have := nodes_pos e; omega
  | succ N ih =>
    have hL : ∀ l : List Ex, nodesL l ≤ N → (occL l).length ≤ nodesL l := by
      intro l
      induction l with
      | nil => intro _; simp [occL]
      | cons x xs ihl =>
        intro h
        simp only [nodesL] at h
        have h1 := ih x (by omega)
        have h2 := ihl (by omega)
        simp only [occL, nodesL, List.length_append]; omega
    rintro ⟨op, n, v, nm, l⟩ h
    simp only [nodes] at h
    have := hL l (by omega)
    simp only [occ, nodes, List.length_append]
    split <;> simp <;> omega
theorem occL_len (l : List Ex) : (occL l).length ≤ nodesL l := by
  induction l with
  | nil => simp [occL]
  | cons x xs ih => have := occ_len _ x (Nat.le_refl _); simp only [occL, nodesL, List.length_append]; omega
set_option maxRecDepth 20000 in
set_option maxHeartbeats 2000000 in
theorem visit_calls (w0 : World) (p : Nat) : ∀ (N : Nat) (e : Ex), nodes e ≤ N → N ≤ 1048576 → ∀ (xs : List Int) (A : Option Addr) (cc : Nat) (W : World), Acc w0 p xs W → Kd.C k70 w0 A e.f4.length e.f4 → e.f4.length ≤ cc → xs.length + nodes e ≤ 1099511627776 →
    Calls Try.prog 67 #[.agg #[.int .i64 e.f0, .int .i64 e.f1, .int .i64 e.f2.f0, .int .i64 e.f2.f1, .string e.f2.f2, .string e.f3, .slice A e.f4.length cc], .func (.func 68) #[] #[.pointer (some ⟨p, 0, none⟩)]] W fun r W' => r = .returned (.tuple #[]) ∧ Acc w0 p (xs ++ occ e) W' ∧ KeptX W W' := by
  intro N
  induction N with
  | zero => intro e h; have := nodes_pos e; omega
  | succ N ih =>
    rintro ⟨op, n, ⟨a, b, c⟩, nm, l⟩ hn hN xs A cc W hA hr hcc hlen
    simp only [nodes] at hn hlen
    have hll := nodesL_len l
    have HA := Lib.hid hA; have HR := Lib.hid hr; have HC := Lib.hid hcc
    clear hA hr hcc
    have hu := Try.underlying70
    have hu1 := Try.underlying25
    go_enter Try.func67, Try.ntmps67
    go_wp2_with (go_at_call 68; (with_reducible refine (closure_calls w0 p xs _ _ _ _ _ _ _ _ _ _ ?g1 ?g2).mono ?_); (case g1 => exact HA.out.mv Bel.out); (case g2 => omega); rintro e w1 ⟨rfl, hA1, hK1⟩; have hbx := hK1.2 W.heap.size _ (heap_alloc_new W _); have HA1 := Lib.hid hA1; have HK1 := Lib.hid ((KeptX.of ((Below.refl W.heap.size W).alloc (Nat.le_refl _) _)).trans hK1); clear hA1 hK1; have hx6 := (blk_cell hbx 6).trans rfl; clear hbx)
    obtain ⟨ys, hys⟩ : ∃ ys, ys = (if op = 2 then xs ++ [n] else xs) := ⟨_, rfl⟩
    rw [← hys] at HA1
    have hfin : xs ++ occ ⟨op, n, ⟨a, b, c⟩, nm, l⟩ = ys ++ occL l := by
      rw [hys]; simp only [occ]; split <;> simp
    have hyl : ys.length ≤ xs.length + 1 := by rw [hys]; split <;> simp
    have HF := Lib.hid hfin; have HY := Lib.hid hyl
    clear hys hfin hyl
    go_loopw [12] (fun i wr => ∃ k : Nat, k ≤ l.length ∧ i = .int .i64 k ∧ Acc w0 p (ys ++ occL (l.take k)) wr ∧ KeptX W wr) (fun i wr => l.length - (intOf i).toNat)
    case atStart => exact ⟨0, by omega, rfl, by simpa [occL] using HA1.out, HK1.out⟩
    case round =>
      obtain ⟨k, hk, rfl, hA2, hK2⟩ := hrel
      have HA2 := Lib.hid hA2; have HK2 := Lib.hid hK2; clear hA2 hK2
      by_cases hlt : k < l.length
      · obtain ⟨ad, A6, c6, e, x0, x1, x2, x3, x4, x5, x6, hl6, hr6⟩ := at_T70 HR.out (k : Int) (by omega) (by simp; omega)
        cases e
        simp only [Int.toNat_natCast] at x0 x1 x2 x3 x4 x5 x6
        have he : rd_T70 l (k : Int) = l[k] := by simp [rd_T70, hlt]
        simp only [he] at x0 x1 x2 x3 x4 x5 x6 hl6 hr6
        obtain ⟨f, hf⟩ : ∃ f, f = l[k] := ⟨_, rfl⟩
        simp only [← hf] at x0 x1 x2 x3 x4 x5 x6 hl6 hr6
        have hB := HA2.out.below
        replace x0 := (hB.cell (World.block_lt_of_cell? w0 _ x0)).trans x0
        replace x1 := (hB.cell (World.block_lt_of_cell? w0 _ x1)).trans x1
        replace x2 := (hB.cell (World.block_lt_of_cell? w0 _ x2)).trans x2
        replace x3 := (hB.cell (World.block_lt_of_cell? w0 _ x3)).trans x3
        replace x4 := (hB.cell (World.block_lt_of_cell? w0 _ x4)).trans x4
        replace x5 := (hB.cell (World.block_lt_of_cell? w0 _ x5)).trans x5
        replace x6 := (hB.cell (World.block_lt_of_cell? w0 _ x6)).trans x6
        have hnode : nodesL (l.take k) + nodes f ≤ nodesL l := by
          have h := congrArg nodesL (List.take_append_drop k l)
          rw [nodesL_append, List.drop_eq_getElem_cons hlt] at h
          simp only [nodesL] at h
          rw [hf]; omega
        have hocc := occL_len (l.take k)
        have htk : occL (l.take (k + 1)) = occL (l.take k) ++ occ f := by
          rw [List.take_succ_eq_append_getElem hlt, occL_append, ← hf]; simp [occL]
        have HT := Lib.hid htk
        have HN := Lib.hid (show nodes f ≤ N by omega)
        have HLn := Lib.hid (show (ys ++ occL (l.take k)).length + nodes f ≤ 1099511627776 by rw [List.length_append]; have := HY.out; omega)
        have HL6 := Lib.hid hl6; have HR6 := Lib.hid hr6
        clear htk hnode hocc hf he hl6 hr6 hB
        go_wp2_with (go_at_call 67; (with_reducible refine (ih f HN.out (by omega) (ys ++ occL (l.take k)) A6 c6 _ ?g1 HR6.out HL6.out HLn.out).mono ?_); (case g1 => exact HA2.out.mv Bel.out); rintro e w2 ⟨rfl, hA3, hK3⟩; have HA3 := Lib.hid hA3; have HK3 := Lib.hid hK3; clear hA3 hK3)
        refine ⟨⟨k + 1, by omega, by go_num, ?_, KeptX.trans (KeptX.trans HK2.out (KeptX.of Bel.out)) HK3.out⟩, by simp [intOf]; omega⟩
        rw [HT.out, ← List.append_assoc]
        exact HA3.out
      · go_wp2
        go_end0
        refine ⟨rfl, ?_, HK2.out⟩
        rw [HF.out]
        have h := HA2.out
        rw [List.take_of_length_le (by omega)] at h
        exact h
end Go.Proofs.Ytjceeengnnjipaa.PAll
