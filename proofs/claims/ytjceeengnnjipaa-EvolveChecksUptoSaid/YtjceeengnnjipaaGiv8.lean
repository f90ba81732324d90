/- GIVEN BY HAND: evolve.used. -/
import Derived.Test.YtjceeengnnjipaaGiv7
import Derived.Test.YtjceeengnnjipaaGiv5
namespace Go.Proofs.Ytjceeengnnjipaa.PAll
open Go.RowKit Go.Proofs.Ytjceeengnnjipaa.Kit Go.Proofs.Ytjceeengnnjipaa.L13 Go.Proofs.YtjceeengnnjipaaW.PrintWords
set_option linter.unusedVariables false
attribute [local go_sem] allocCell allocFrozen setFar setFrozen allocAny allocAdd

def cntL (ys : List Int) (l : Lit) : Nat := match l with | .int .i64 c => ys.count c | _ => 0
theorem cntL_snoc_same (ys : List Int) (c : Int) : cntL (ys ++ [c]) (keyI c) = cntL ys (keyI c) + 1 := by
  simp only [cntL, keyI]
  rw [List.count_append]
  simp
theorem cntL_snoc_other (ys : List Int) (c : Int) (l : Lit) (hl : l ≠ keyI c) : cntL (ys ++ [c]) l = cntL ys l := by
  unfold cntL
  split
  · rename_i d
    rw [List.count_append]
    have : (c == d) = false := by rw [beq_eq_false_iff_ne]; intro e; exact hl (by rw [keyI, e])
    simp [List.count_cons, this]
  · rfl
theorem cntL_le (ys : List Int) (l : Lit) : cntL ys l ≤ ys.length := by
  unfold cntL
  split
  · exact List.count_le_length
  · omega
theorem cell_ne_map {P : Program} {K E B n : Nat} {cnt : Lit → Nat} {w : World} {a : Addr} {v : Value} (hc : Counts P K E B n cnt w) (h : w.cell? a = some v) : some a.block ≠ some B := by
  intro e
  injection e with e
  obtain ⟨D, ⟨es, clock, hb, _⟩, _⟩ := hc.out
  simp only [World.cell?] at h
  rw [e, hb] at h
  simp at h
set_option maxRecDepth 20000 in
set_option maxHeartbeats 4000000 in
theorem add_calls (p B m : Nat) (ys xs : List Int) (A : Option Addr) (cc : Nat) (W : World) (hp : W.cell? ⟨p, 0, none⟩ = some (.map (some B))) (hc : Counts Try.prog 3 3 B m (cntL ys) W) (hm : ys.length ≤ m) (hmx : m + xs.length < 4611686018427387904) (hr : Kd.C (Kd.int .i64) W A xs.length xs) (hcc : xs.length ≤ cc) (hok : ∀ c ∈ xs, okI c) :
    Calls Try.prog 43 #[.slice A xs.length cc, .pointer (some ⟨p, 0, none⟩)] W fun e W' => e = .returned (.tuple #[]) ∧ Counts Try.prog 3 3 B (m + xs.length) (cntL (ys ++ xs)) W' ∧ W.grownBy W' (some B) := by
  have HR := Lib.hid hr; have HC := Lib.hid hcc; have HS := Lib.hid hok; have HP := Lib.hid hp; have HW := Lib.hid hc
  clear hr hcc hok hp hc
  have hu1 := Try.underlying23
  have hu2 := Try.underlying49
  go_enter Try.func43, Try.ntmps43
  go_wp2
  go_loopw [7] (fun i wr => ∃ k : Nat, k ≤ xs.length ∧ i = .int .i64 k ∧ W.grownBy wr (some B) ∧ Counts Try.prog 3 3 B (m + k) (cntL (ys ++ xs.take k)) wr) (fun i wr => xs.length - (intOf i).toNat)
  case atStart => exact ⟨0, by omega, rfl, World.grownBy.refl _ _, by simpa using HW.out⟩
  case round =>
    obtain ⟨k, hk, rfl, hg, hcnt⟩ := hrel
    have hp1 : wr.cell? ⟨p, 0, none⟩ = some (.map (some B)) := hg.cell HP.out (cell_ne_map HW.out HP.out)
    by_cases hlt : k < xs.length
    · obtain ⟨ad, e, hi3, y0⟩ := at_int HR.out k hlt
      subst e
      have he : xs.getD k 0 = xs[k] := by simp [hlt]
      rw [he] at y0
      replace y0 := hg.cell y0 (cell_ne_map HW.out y0)
      have HK := Lib.hid (keyI_of (c := xs[k]) (HS.out _ (List.getElem_mem _)))
      have htk : xs.take (k + 1) = xs.take k ++ [xs[k]] := List.take_succ_eq_append_getElem hlt
      have hle := cntL_le (ys ++ xs.take k) (keyI xs[k])
      rw [List.length_append, List.length_take] at hle
      have hs1 : cntL (ys ++ xs.take (k + 1)) (keyI xs[k]) = cntL (ys ++ xs.take k) (keyI xs[k]) + 1 := by rw [htk, ← List.append_assoc]; exact cntL_snoc_same _ _
      have hs2 : ∀ l, l ≠ keyI xs[k] → cntL (ys ++ xs.take (k + 1)) l = cntL (ys ++ xs.take k) l := by rw [htk, ← List.append_assoc]; exact cntL_snoc_other _ _
      have hup : wrap64 ((cntL (ys ++ xs.take k) (keyI xs[k]) : Int) + 1) = ((cntL (ys ++ xs.take (k + 1)) (keyI xs[k]) : Nat) : Int) := by rw [hs1]; unfold wrap64; omega
      have HU := Lib.hid hup
      have HB2 := Lib.hid (show cntL (ys ++ xs.take (k + 1)) (keyI xs[k]) ≤ 9223372036854775807 by omega)
      have HO := Lib.hid hs2
      have HG := Lib.hid hg
      clear hup hle hs1 hs2 htk he hg
      go_wp2_with (first
        | (at_lookup; refine wpList_count _ rfl _ _ 49 rfl 3 3 lawI hu2 Try.underlying3 (zeroI _) _ _ _ rfl (by infer_instance) _ (keyI xs[k]) rfl HK.out trivial ?_)
        | (at_mapUpdate; refine wpList_countUp _ rfl _ _ _ 49 rfl 3 3 lawI hu2 Try.underlying3 _ _ _ rfl (by infer_instance) (by unfold maxLen; omega) _ (keyI xs[k]) (cntL (ys ++ xs.take (k + 1)) (keyI xs[k])) rfl (congrArg (Value.int .i64) HU.out) HB2.out HK.out trivial (cntL (ys ++ xs.take (k + 1))) rfl HO.out ?_; intro w1 hcnt1 hgrow1))
      exact ⟨⟨k + 1, by omega, by go_num, HG.out.trans hgrow1, hcnt1⟩, by simp [intOf]; omega⟩
    · go_wp2
      go_end0
      have e : k = xs.length := by omega
      subst e
      rw [List.take_length] at hcnt
      exact ⟨rfl, hcnt, hg⟩
/-- The columns in use, each as often as it is. -/
def useF (fg : List Fg) : List Int := fg.flatMap (·.f0)
theorem grownStep {w W w1 : World} {B : Nat} (h : Below w.heap.size w W) (hg : W.grownBy w1 (some B)) (hB : w.heap.size ≤ B) : Below w.heap.size w w1 := h.grown hg h.size (fun j hj => by cases hj; exact hB)
theorem cntL_nil : cntL [] = fun _ => 0 := by funext l; unfold cntL; split <;> simp
/-- What the map holds behind i foreign keys and j checks. -/
def Looped (w W : World) (key : List Int) (fg : List Fg) (ch : List Ex) (i j : Nat) : Prop :=
  ∃ m zs, Counts Try.prog 3 3 (w.heap.size + 1) m (cntL zs) W ∧ zs.length ≤ m ∧ m < (i + 1) * 17592186044416 + j * 1048577 ∧ ∀ c, c ∈ zs ↔ (c ∈ key ∨ (∃ f ∈ fg.take i, c ∈ f.f0) ∨ ∃ x ∈ ch.take j, c ∈ occ x)
set_option maxRecDepth 20000 in
set_option maxHeartbeats 8000000 in
theorem used_calls (a0_0 : ByteArray) (A0_1 : Option Addr) (n1 c0_1 : Nat) (A0_2 : Option Addr) (c0_2 : Nat) (key : List Int) (A0_3 : Option Addr) (c0_3 : Nat) (fg : List Fg) (A0_4 : Option Addr) (c0_4 : Nat) (ch : List Ex) (w : World)
    (hr2 : Kd.C (Kd.int .i64) w A0_2 key.length key) (hc2 : key.length ≤ c0_2) (hr3 : Kd.C k62 w A0_3 fg.length fg) (hc3 : fg.length ≤ c0_3) (hr4 : Kd.C k70 w A0_4 ch.length ch) (hc4 : ch.length ≤ c0_4)
    (hk : key.length < 17592186044416) (hkok : ∀ c ∈ key, okI c) (hf4 : fg.length ≤ 4) (hfl : ∀ f ∈ fg, f.f0.length < 17592186044416) (hfok : ∀ f ∈ fg, ∀ c ∈ f.f0, okI c) (hx4 : ch.length ≤ 4) (hxn : ∀ x ∈ ch, nodes x ≤ 1048576) (hxok : ∀ x ∈ ch, ∀ c ∈ occ x, okI c) :
    Calls Try.prog 19 #[.agg #[.string a0_0, .slice A0_1 n1 c0_1, .slice A0_2 key.length c0_2, .slice A0_3 fg.length c0_3, .slice A0_4 ch.length c0_4]] w fun e W' => ∃ B m zs, e = .returned (.map (some B)) ∧ Counts Try.prog 3 3 B m (cntL zs) W' ∧ (∀ c, c ∈ zs ↔ (c ∈ key ∨ (∃ f ∈ fg, c ∈ f.f0) ∨ ∃ x ∈ ch, c ∈ occ x)) ∧ Below w.heap.size w W' := by
  have HR2 := Lib.hid hr2; have HC2 := Lib.hid hc2; have HR3 := Lib.hid hr3; have HC3 := Lib.hid hc3; have HR4 := Lib.hid hr4; have HC4 := Lib.hid hc4
  have HK := Lib.hid (And.intro hk hkok); have HF := Lib.hid (And.intro hfl hfok); have HX := Lib.hid (And.intro hxn hxok)
  have hm3 := hr3.2.1; have hm4 := hr4.2.1
  clear hr2 hc2 hr3 hc3 hr4 hc4 hk hkok hfl hfok hxn hxok
  have hu := Try.underlying27
  have hu1 := Try.underlying62
  have hu2 := Try.underlying49
  have hu3 := Try.underlying70
  have hmm := @run_makeMap Try.prog
  have hmf : ∀ (fn : Fn) (first cap : Array Value) (w : World), (Instr.makeFunc fn first cap).run Try.prog w = .ok (.func fn first cap) w := fun _ _ _ _ => rfl
  go_enter Try.func19, Try.ntmps19
  have nb : NeB w.heap.size (w.heap.size + 1) := ⟨by omega⟩
  have np : NeB (w.heap.size + 1 + 1) (w.heap.size + 1) := ⟨by omega⟩
  go_wp2_with (go_at_call 43; (with_reducible refine (add_calls (w.heap.size + 1 + 1) (w.heap.size + 1) 0 [] key A0_2 c0_2 _ ?g1 ?g2 ?g3 ?g4 ?g5 HC2.out HK.out.2).mono ?_); (case g1 => first | (go_simp; done) | (go_simp; rfl)); (case g2 => rw [cntL_nil]; exact Counts.kept (Counts.madeAt HSize.out) (World.grownBy_alloc _ _ none) (by simp)); (case g3 => simp); (case g4 => have := HK.out.1; omega); (case g5 => exact up HR2.out); rintro e w1 ⟨rfl, hcn, hg1⟩; have ht : Turn _ _ w1 := ⟨hg1⟩; have hpc : w1.cell? ⟨w.heap.size + 1 + 1, 0, none⟩ = some (.map (some (w.heap.size + 1))) := (hg1.cell (by first | (go_simp; done) | (go_simp; rfl)) (by simp)); have hpi : InHeap w1 (w.heap.size + 1 + 1) := (by infer_instance); have hbt : Blk w1 w.heap.size (.cells #[.string a0_0, .slice A0_1 n1 c0_1, .slice A0_2 key.length c0_2, .slice A0_3 fg.length c0_3, .slice A0_4 ch.length c0_4] 27) := (by infer_instance); have hbl : Bel w w1 := (by infer_instance); clear ht hg1; have t3 : w1.cell? ⟨w.heap.size, 3, none⟩ = _ := (blk_cell hbt.out 3).trans rfl)
  rw [List.nil_append, Nat.zero_add] at hcn
  have HL0 := Lib.hid (show Looped w w1 key fg ch 0 0 from ⟨_, _, hcn, Nat.le_refl _, by have := HK.out.1; omega, fun c => by simp⟩)
  clear hcn
  go_loopw [18] (fun i wr => ∃ k : Nat, k ≤ fg.length ∧ i = .int .i64 k ∧ Bel w wr ∧ Blk wr w.heap.size (.cells #[.string a0_0, .slice A0_1 n1 c0_1, .slice A0_2 key.length c0_2, .slice A0_3 fg.length c0_3, .slice A0_4 ch.length c0_4] 27) ∧ wr.cell? ⟨w.heap.size + 1 + 1, 0, none⟩ = some (.map (some (w.heap.size + 1))) ∧ InHeap wr (w.heap.size + 1 + 1) ∧ Looped w wr key fg ch k 0) (fun i wr => fg.length - (intOf i).toNat)
  case atStart => exact ⟨0, by omega, rfl, by infer_instance, by infer_instance, hpc, by infer_instance, HL0.out⟩
  case round =>
    obtain ⟨k, hk, rfl, hbl, hbt, hpc, hpi, hL⟩ := hrel
    have HL := Lib.hid hL; clear hL
    by_cases hlt : k < fg.length
    · obtain ⟨ad, A0, c0, e, x0, x1, hl0, hr0⟩ := at_T62 HR3.out (k : Int) (by omega) (by omega)
      cases e
      simp only [Int.toNat_natCast] at x0 x1
      have he : rd_T62 fg (k : Int) = fg[k] := by simp [rd_T62, hlt]
      rw [he] at x0 x1 hl0 hr0
      replace x0 := (hbl.out.cell (World.block_lt_of_cell? w _ x0)).trans x0
      replace x1 := (hbl.out.cell (World.block_lt_of_cell? w _ x1)).trans x1
      obtain ⟨f, hf⟩ : ∃ f, f = fg[k] := ⟨_, rfl⟩
      have HFL := Lib.hid (show f.f0.length < 17592186044416 from hf ▸ HF.out.1 _ (List.getElem_mem _))
      have HFO := Lib.hid (show ∀ c ∈ f.f0, okI c from hf ▸ HF.out.2 _ (List.getElem_mem _))
      have HTK := Lib.hid (show fg.take (k + 1) = fg.take k ++ [f] from hf ▸ List.take_succ_eq_append_getElem hlt)
      rw [← hf] at x0 x1 hl0 hr0
      have HR0 := Lib.hid hr0; have HL0' := Lib.hid hl0; clear hr0 hl0 hf he
      obtain ⟨m, zs, hcn, hz1, hz2, hz3⟩ := HL.out
      have HZ := Lib.hid (And.intro hz1 (And.intro hz2 hz3)); clear hz1 hz2 hz3
      have hm0 : m < (k + 1) * 17592186044416 := by simpa using HZ.out.2.1
      go_wp2_with (go_at_call 43; (with_reducible refine (add_calls (w.heap.size + 1 + 1) (w.heap.size + 1) m zs f.f0 A0 c0 _ ?g1 (by infer_instance) HZ.out.1 ?g4 ?g5 HL0'.out HFO.out).mono ?_); (case g1 => first | (go_simp; done) | (go_simp; rfl)); (case g4 => have := HFL.out; omega); (case g5 => exact up HR0.out); rintro e w2 ⟨rfl, hcn2, hg2⟩; have ht : Turn _ _ w2 := ⟨hg2⟩; have hpc2 : w2.cell? ⟨w.heap.size + 1 + 1, 0, none⟩ = some (.map (some (w.heap.size + 1))) := (hg2.cell (by first | (go_simp; done) | (go_simp; rfl)) (by simp)); clear hg2)
      refine ⟨⟨k + 1, by omega, by go_num, by infer_instance, by infer_instance, hpc2, by infer_instance, ⟨m + f.f0.length, zs ++ f.f0, hcn2, by rw [List.length_append]; have := HZ.out.1; omega, by have := HFL.out; omega, fun c => ?_⟩⟩, by simp [intOf]; omega⟩
      rw [List.mem_append, HZ.out.2.2 c, HTK.out]
      constructor
      · rintro ((h | ⟨g, hg, h⟩ | ⟨x, hx, h⟩) | h)
        · exact .inl h
        · exact .inr (.inl ⟨g, List.mem_append_left _ hg, h⟩)
        · exact .inr (.inr ⟨x, hx, h⟩)
        · exact .inr (.inl ⟨f, List.mem_append_right _ (List.mem_singleton.2 rfl), h⟩)
      · rintro (h | ⟨g, hg, h⟩ | ⟨x, hx, h⟩)
        · exact .inl (.inl h)
        · rcases List.mem_append.1 hg with hg | hg
          · exact .inl (.inr (.inl ⟨g, hg, h⟩))
          · rw [List.mem_singleton.1 hg] at h; exact .inr h
        · exact .inl (.inr (.inr ⟨x, hx, h⟩))
    · obtain rfl : k = fg.length := by omega
      have t4 : wr.cell? ⟨w.heap.size, 4, none⟩ = _ := (blk_cell hbt.out 4).trans rfl
      go_wp2_with fail
      go_loopw [30] (fun i wr => ∃ j : Nat, j ≤ ch.length ∧ i = .int .i64 j ∧ Bel w wr ∧ wr.cell? ⟨w.heap.size + 1 + 1, 0, none⟩ = some (.map (some (w.heap.size + 1))) ∧ InHeap wr (w.heap.size + 1 + 1) ∧ Looped w wr key fg ch fg.length j) (fun i wr => ch.length - (intOf i).toNat)
      case atStart => exact ⟨0, by omega, rfl, by infer_instance, hpc, by infer_instance, HL.out⟩
      case round =>
        clear hbt t4 hpc hpi hbl
        obtain ⟨j, hj, rfl, hbl, hpc, hpi, hL2⟩ := hrel
        have HL2 := Lib.hid hL2; clear hL2
        by_cases hlt2 : j < ch.length
        · obtain ⟨ad, A6, c6, e, x0, x1, x2, x3, x4, x5, x6, hl6, hr6⟩ := at_T70 HR4.out (j : Int) (by omega) (by omega)
          cases e
          simp only [Int.toNat_natCast] at x0 x1 x2 x3 x4 x5 x6
          have he : rd_T70 ch (j : Int) = ch[j] := by simp [rd_T70, hlt2]
          simp only [he] at x0 x1 x2 x3 x4 x5 x6 hl6 hr6
          obtain ⟨x, hx⟩ : ∃ x, x = ch[j] := ⟨_, rfl⟩
          have HXN := Lib.hid (show nodes x ≤ 1048576 from hx ▸ HX.out.1 _ (List.getElem_mem _))
          have HXO := Lib.hid (show ∀ c ∈ occ x, okI c from hx ▸ HX.out.2 _ (List.getElem_mem _))
          have HTK := Lib.hid (show ch.take (j + 1) = ch.take j ++ [x] from hx ▸ List.take_succ_eq_append_getElem hlt2)
          simp only [← hx] at x0 x1 x2 x3 x4 x5 x6 hl6 hr6
          replace x0 := (hbl.out.cell (World.block_lt_of_cell? w _ x0)).trans x0
          replace x1 := (hbl.out.cell (World.block_lt_of_cell? w _ x1)).trans x1
          replace x2 := (hbl.out.cell (World.block_lt_of_cell? w _ x2)).trans x2
          replace x3 := (hbl.out.cell (World.block_lt_of_cell? w _ x3)).trans x3
          replace x4 := (hbl.out.cell (World.block_lt_of_cell? w _ x4)).trans x4
          replace x5 := (hbl.out.cell (World.block_lt_of_cell? w _ x5)).trans x5
          replace x6 := (hbl.out.cell (World.block_lt_of_cell? w _ x6)).trans x6
          have HR6 := Lib.hid hr6; have HL6 := Lib.hid hl6; clear hr6 hl6 hx he
          obtain ⟨m, zs, hcn, hz1, hz2, hz3⟩ := HL2.out
          have HZ := Lib.hid (And.intro hz1 (And.intro hz2 hz3)); clear hz1 hz2 hz3
          have hm0 := HZ.out.2.1
          go_wp2_with (first
            | (go_at_call 44; (with_reducible refine (exprColumns_calls x A6 c6 _ ?g1 HL6.out HXN.out).mono ?_); (case g1 => exact up HR6.out); rintro e w2 ⟨v, ys, rfl, hy1, hy2, hy3, hb⟩; have hs := Step.of hb; clear hb; have hc2 := hs.cell; obtain ⟨A7, c7, rfl, hl7, hr7⟩ := Kd.R_reads hy3.R; have HY := Lib.hid (And.intro hy1 hy2); have HL7 := Lib.hid hl7; have HR7 := Lib.hid hr7; clear hy1 hy2 hy3 hl7 hr7)
            | (go_at_call 43; (with_reducible refine (add_calls (w.heap.size + 1 + 1) (w.heap.size + 1) m zs ys A7 c7 _ ?g1 (by infer_instance) HZ.out.1 ?g4 HR7.out HL7.out ?g6).mono ?_); (case g1 => first | (go_simp; done) | (go_simp; rfl)); (case g4 => have := HY.out.2; omega); (case g6 => exact fun c hc => HXO.out c ((HY.out.1 c).1 hc)); rintro e w3 ⟨rfl, hcn3, hg3⟩; have ht : Turn _ _ w3 := ⟨hg3⟩; have hpc3 : w3.cell? ⟨w.heap.size + 1 + 1, 0, none⟩ = some (.map (some (w.heap.size + 1))) := (hg3.cell (by first | (go_simp; done) | (go_simp; rfl)) (by simp)); clear hg3))
          refine ⟨⟨j + 1, by omega, by go_num, by infer_instance, hpc3, by infer_instance, ⟨m + ys.length, zs ++ ys, hcn3, by rw [List.length_append]; have := HZ.out.1; omega, by have := HY.out.2; omega, fun c => ?_⟩⟩, by simp [intOf]; omega⟩
          rw [List.mem_append, HZ.out.2.2 c, HTK.out, HY.out.1 c]
          constructor
          · rintro ((h | ⟨g, hg, h⟩ | ⟨y, hy, h⟩) | h)
            · exact .inl h
            · exact .inr (.inl ⟨g, hg, h⟩)
            · exact .inr (.inr ⟨y, List.mem_append_left _ hy, h⟩)
            · exact .inr (.inr ⟨x, List.mem_append_right _ (List.mem_singleton.2 rfl), h⟩)
          · rintro (h | ⟨g, hg, h⟩ | ⟨y, hy, h⟩)
            · exact .inl (.inl h)
            · exact .inl (.inr (.inl ⟨g, hg, h⟩))
            · rcases List.mem_append.1 hy with hy | hy
              · exact .inl (.inr (.inr ⟨y, hy, h⟩))
              · rw [List.mem_singleton.1 hy] at h; exact .inr h
        · obtain rfl : j = ch.length := by omega
          go_wp2
          go_ret
          obtain ⟨m, zs, hcn, hz1, hz2, hz3⟩ := HL2.out
          refine ⟨_, m, zs, rfl, hcn, fun c => ?_, Bel.out⟩
          rw [hz3 c, List.take_length, List.take_length]
end Go.Proofs.Ytjceeengnnjipaa.PAll
