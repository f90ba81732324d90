/- Layer 13: the reference's foreign, constraints, Check. -/
import Derived.Test.YtjceeengnnjipaaH13d
namespace Go.Proofs.Ytjceeengnnjipaa.PAll
open Go.RowKit Go.Proofs.Ytjceeengnnjipaa.Kit Go.Proofs.Ytjceeengnnjipaa.L13 Go.Proofs.YtjceeengnnjipaaW.PrintWords
set_option linter.unusedVariables false
set_option linter.unusedSimpArgs false
attribute [local go_sem] allocCell allocFrozen setFar setFrozen allocAny allocAdd
attribute [local go_sem ↓] Go.wp_at_zero Go.wp_at_succ

instance (priority := high) blkNewAt (w : World) (o : Obj) (n : Nat) [h : HSize w n] : Blk (w.alloc o) n o := by
  have e := h.out
  subst e
  infer_instance
theorem blk2F {w : World} {g : Nat} {a b : Value} {t : TypeId} (k : Blk w g (.cells #[a, b] t (0, 0))) : w.cell? ⟨g, 0, none⟩ = some a ∧ w.cell? ⟨g, 1, none⟩ = some b :=
  ⟨(blk_cell k.out 0).trans rfl, (blk_cell k.out 1).trans rfl⟩
theorem fcol_step (n : Nat) (l : List Int) (k : Nat) (h : k < l.length) : fcolsFrom n l k (l.drop k) = if (decide (0 ≤ l[k]) && decide (l[k] < n)) = false ∨ l[k] ∈ l.take k then 25 else fcolsFrom n l (k + 1) (l.drop (k + 1)) := by
  rw [List.drop_eq_getElem_cons h, fcolsFrom]
theorem take_mem {l : List Int} {m k : Nat} (hm : m < k) (hk : k < l.length) : l[m]'(by omega) ∈ l.take k := by
  rw [List.mem_take_iff_getElem]; exact ⟨m, by omega, rfl⟩
theorem take_not {l : List Int} {m : Nat} {x : Int} (hm : m < l.length) (h : ¬ x ∈ l.take m) (h2 : ¬ l[m] = x) : ¬ x ∈ l.take (m + 1) := by
  rw [List.take_succ_eq_append_getElem hm, List.mem_append, List.mem_singleton]
  rintro (g | g)
  · exact h g
  · exact h2 g.symm
def NotIn (x : Int) (l : List Int) : Prop := ¬ x ∈ l
set_option maxRecDepth 20000 in
set_option maxHeartbeats 8000000 in
theorem rforeign_calls (tn : ByteArray) (A1 : Option Addr) (n1 c1 : Nat) (A2 : Option Addr) (n2 c2 : Nat) (A3 : Option Addr) (n3 c3 : Nat) (A4 : Option Addr) (n4 c4 : Nat) (f : Fg) (B : Option Addr) (cB : Nat) (w : World) (h : Rc (Kd.int .i64) w B cB f.f0) :
    Calls Try.prog 59 #[.agg #[.string tn, .slice A1 n1 c1, .slice A2 n2 c2, .slice A3 n3 c3, .slice A4 n4 c4], .agg #[.slice B f.f0.length cB, .string f.f1]] w fun e w' => e = .returned (.int .i64 (foreignErr n1 f)) ∧ Below w.heap.size w w' := by
  have hu := Try.underlying27
  have hu1 := Try.underlying62
  have hm2 := h.len
  go_enter Try.func59, Try.ntmps59
  go_wp2_with (go_at_call 24; (with_reducible refine (rname_calls _ _).mono ?_); rintro e w1 ⟨rfl, hb⟩; have hs1 := Step.of hb; clear hb; have hc1 := hs1.cell; have hf1 := hs1.frozen; have hd1 := hs1.add)
  · go_ret
    exact ⟨ret_int (by unfold foreignErr; rw [if_pos (by simpa using (by assumption : (!nameOk f.f1) = true))]), Bel.out⟩
  all_goals have hnm : ¬ nameOk f.f1 = false := by simpa using (by assumption : (!nameOk f.f1) = false)
  · go_ret
    exact ⟨ret_int (by unfold foreignErr; rw [if_neg hnm, if_pos (by simpa using (by assumption : ((f.f0.length : Int) == 0) = true))]), Bel.out⟩
  · have HE := Lib.hid (show foreignErr n1 f = fcolsFrom n1 f.f0 0 f.f0 by unfold foreignErr; rw [if_neg hnm, if_neg (by simpa using (by assumption : ((f.f0.length : Int) == 0) = false))])
    try rw [(by assumption : ((f.f0.length : Int) == 0) = false)]
    try rw [(by assumption : (!nameOk f.f1) = false)]
    obtain ⟨l, hl⟩ : ∃ l, f.f0 = l := ⟨_, rfl⟩
    rw [hl] at h hm2 HE ⊢
    have i0 : Bel w w1 := inferInstance
    have i1 : Blk w1 w.heap.size (.cells #[.string tn, .slice A1 n1 c1, .slice A2 n2 c2, .slice A3 n3 c3, .slice A4 n4 c4] 27) := inferInstance
    have i2 : Blk w1 (w.heap.size + 1) (.cells #[.slice B l.length cB, .string f.f1] 62) := by rw [← hl]; infer_instance
    clear hs1 hc1 hf1 hd1 hnm
    go_loopw [5] (fun i wr => ∃ (k : Nat), k ≤ l.length ∧ i = .int .i64 k ∧ Below w1.heap.size w1 wr ∧ fcolsFrom n1 l k (l.drop k) = foreignErr n1 f) (fun i wr => l.length - (intOf i).toNat)
    case atStart => exact ⟨0, by omega, rfl, Bel.out, HE.out.symm⟩
    case round =>
      obtain ⟨wo, hwo⟩ : ∃ wo, wo = wr := ⟨_, rfl⟩
      subst hwo
      obtain ⟨k, hk, rfl, hbw, hall⟩ := hrel
      have hst : Step w1 wo := ⟨hbw⟩
      have HA := Lib.hid hall; clear hall hbw
      have i3 : Blk wo w.heap.size (.cells #[.string tn, .slice A1 n1 c1, .slice A2 n2 c2, .slice A3 n3 c3, .slice A4 n4 c4] 27) := inferInstance
      have i4 : Blk wo (w.heap.size + 1) (.cells #[.slice B l.length cB, .string f.f1] 62) := inferInstance
      obtain ⟨t0, t1, t2, t3, t4⟩ := blk5T i3
      obtain ⟨u0, u1⟩ := blk2F i4
      by_cases hlt : k < l.length
      · obtain ⟨ad, rfl, hi, x0⟩ := int_at h.r (inferInstance : Bel w wo) k hlt
        have hkl : (k : Int) < (l.length : Int) := by omega
        have HS := Lib.hid (fcol_step n1 l k hlt)
        obtain ⟨ex, hex⟩ : ∃ ex, (decide (0 ≤ l[k]) && decide (l[k] < (n1 : Int))) = ex := ⟨_, rfl⟩
        have HX := Lib.hid hex; clear hex
        go_wp2_with fail
        refine wp_region_held_drew (S := (fun w' => Bel wo w' ∧ (∀ (b o : Nat) [InHeap wo b], w'.cell? ⟨b, o, none⟩ = wo.cell? ⟨b, o, none⟩) ∧ (∀ (a : Addr) (k : Nat) [InHeap wo a.block], w'.cell? (a.add k) = wo.cell? (a.add k)) ∧ (∀ (a : Addr) [InHeap wo a.block], w'.cell? a = wo.cell? a))) (by kernel_rfl) ?_ (fun hHeld => ?_)
        · exact keepC
        first | (refine takeN (i := 0) (N := (some 22)) (v := ?_) rfl rfl (by kernel_rfl) (by kernel_rfl) (by kernel_rfl) (fun _ _ _ h => h) (Or.inl ⟨by rfl, ?_⟩) (by assumption) ?_; rotate_left; focus ((intro w hSw; (try dsimp only at hSw); go_simp); (try with_reducible rfl))) | (refine takeN (i := 0) (N := (some 22)) (v := undef) rfl rfl (by kernel_rfl) (by kernel_rfl) (by kernel_rfl) (fun _ _ _ h => h) (Or.inr ⟨by rfl, rfl⟩) (by assumption) ?_)
        try simp only [Act.put, List.setIfInBounds_toArray, List.set_cons_zero, List.set_cons_succ]
        first | (refine takeN (i := 1) (N := (some 23)) (v := ?_) rfl rfl (by kernel_rfl) (by kernel_rfl) (by kernel_rfl) (fun _ _ _ h => h) (Or.inl ⟨by rfl, ?_⟩) (by assumption) ?_; rotate_left; focus ((intro w hSw; (try dsimp only at hSw); go_simp); (try with_reducible rfl))) | (refine takeN (i := 1) (N := (some 23)) (v := undef) rfl rfl (by kernel_rfl) (by kernel_rfl) (by kernel_rfl) (fun _ _ _ h => h) (Or.inr ⟨by rfl, rfl⟩) (by assumption) ?_)
        try simp only [Act.put, List.setIfInBounds_toArray, List.set_cons_zero, List.set_cons_succ]
        first | (refine takeN (i := 2) (N := (some 24)) (v := ?_) rfl rfl (by kernel_rfl) (by kernel_rfl) (by kernel_rfl) (fun _ _ _ h => h) (Or.inl ⟨by rfl, ?_⟩) (by assumption) ?_; rotate_left; focus ((intro w hSw; (try dsimp only at hSw); go_simp); (try with_reducible rfl))) | (refine takeN (i := 2) (N := (some 24)) (v := undef) rfl rfl (by kernel_rfl) (by kernel_rfl) (by kernel_rfl) (fun _ _ _ h => h) (Or.inr ⟨by rfl, rfl⟩) (by assumption) ?_)
        try simp only [Act.put, List.setIfInBounds_toArray, List.set_cons_zero, List.set_cons_succ]
        first | (refine takeN (i := 3) (N := (some 25)) (v := ?_) rfl rfl (by kernel_rfl) (by kernel_rfl) (by kernel_rfl) (fun _ _ _ h => h) (Or.inl ⟨by rfl, ?_⟩) (by assumption) ?_; rotate_left; focus ((intro w hSw; (try dsimp only at hSw); go_simp); (try with_reducible rfl))) | (refine takeN (i := 3) (N := (some 25)) (v := undef) rfl rfl (by kernel_rfl) (by kernel_rfl) (by kernel_rfl) (fun _ _ _ h => h) (Or.inr ⟨by rfl, rfl⟩) (by assumption) ?_)
        try simp only [Act.put, List.setIfInBounds_toArray, List.set_cons_zero, List.set_cons_succ]
        first | (refine takeN (i := 4) (N := (some 26)) (v := ?_) rfl rfl (by kernel_rfl) (by kernel_rfl) (by kernel_rfl) (fun _ _ _ h => h) (Or.inl ⟨by rfl, ?_⟩) (by assumption) ?_; rotate_left; focus ((intro w hSw; (try dsimp only at hSw); go_simp); (try with_reducible rfl))) | (refine takeN (i := 4) (N := (some 26)) (v := undef) rfl rfl (by kernel_rfl) (by kernel_rfl) (by kernel_rfl) (fun _ _ _ h => h) (Or.inr ⟨by rfl, rfl⟩) (by assumption) ?_)
        try simp only [Act.put, List.setIfInBounds_toArray, List.set_cons_zero, List.set_cons_succ]
        first | (refine takeN (i := 5) (N := (some 27)) (v := ?_) rfl rfl (by kernel_rfl) (by kernel_rfl) (by kernel_rfl) (fun _ _ _ h => h) (Or.inl ⟨by rfl, ?_⟩) (by assumption) ?_; rotate_left; focus ((intro w hSw; (try dsimp only at hSw); go_simp); (try with_reducible rfl))) | (refine takeN (i := 5) (N := (some 27)) (v := undef) rfl rfl (by kernel_rfl) (by kernel_rfl) (by kernel_rfl) (fun _ _ _ h => h) (Or.inr ⟨by rfl, rfl⟩) (by assumption) ?_)
        try simp only [Act.put, List.setIfInBounds_toArray, List.set_cons_zero, List.set_cons_succ]
        refine wpAnyH_ready (rs := [6]) (by kernel_rfl) (by simp) ?_
        refine AllReadyH.cons rfl (fun K hK => ?_) AllReadyH.nil
        go_simp
        (go_at_call 58; (with_reducible refine (exists_calls _ _ _ _ _ _ _ _ _ _ _ _ _ _ _).mono ?_); rintro e w2 ⟨rfl, hb⟩; rw [HX.out]; have hs2 := Step.of hb; clear hb)
        refine hK.out _ _ ?_ (fun hHeld => ?_)
        · (try dsimp only); exact keepC
        try simp only [Act.put, List.setIfInBounds_toArray, List.set_cons_zero, List.set_cons_succ]
        first | (refine takeN (i := 7) (N := (some 29)) (v := ?_) rfl rfl (by kernel_rfl) (by kernel_rfl) (by kernel_rfl) (fun _ _ _ h => h) (Or.inl ⟨by rfl, ?_⟩) (by assumption) ?_; rotate_left; focus ((intro w hSw; (try dsimp only at hSw); go_simp); (try with_reducible rfl))) | (refine takeN (i := 7) (N := (some 29)) (v := undef) rfl rfl (by kernel_rfl) (by kernel_rfl) (by kernel_rfl) (fun _ _ _ h => h) (Or.inr ⟨by rfl, rfl⟩) (by assumption) ?_)
        try simp only [Act.put, List.setIfInBounds_toArray, List.set_cons_zero, List.set_cons_succ]
        refine wpAnyH_done (by kernel_rfl) ?_ _
        have i5 : Bel w w2 := inferInstance
        have i7 : Bel w1 w2 := inferInstance
        have i6 : Blk w2 (w.heap.size + 1) (.cells #[.slice (some ad) l.length cB, .string f.f1] 62) := inferInstance
        clear t0 t1 t2 t3 t4 u0 u1
        go_wp2
        · go_ret
          refine ⟨ret_int ?_, Bel.out⟩
          rw [← HA.out, HS.out, if_pos (.inl (by rw [HX.out]; simpa using (by assumption : (!ex) = true)))]
        · have hext : ex = true := by simpa using (by assumption : (!ex) = false)
          try rw [(by assumption : (!ex) = false)]
          go_loopw [6] (fun i wr => ∃ (m : Nat), m ≤ k ∧ i = .int .i64 m ∧ Below w2.heap.size w2 wr ∧ NotIn l[k] (l.take m)) (fun i wr => k - (intOf i).toNat)
          case atStart => exact ⟨0, by omega, rfl, Bel.out, by simp [NotIn]⟩
          case round =>
            obtain ⟨m, hmk, rfl, hbw2, hnot⟩ := hrel
            have hst2 : Step w2 wr := ⟨hbw2⟩
            have HN := Lib.hid hnot; clear hnot hbw2
            have i8 : Blk wr (w.heap.size + 1) (.cells #[.slice (some ad) l.length cB, .string f.f1] 62) := inferInstance
            obtain ⟨v0, v1⟩ := blk2F i8
            by_cases hlt2 : m < k
            · obtain ⟨ad2, e2, hi2, y0⟩ := int_at h.r (inferInstance : Bel w wr) m (by omega)
              obtain ⟨ad3, e3, hi3, z0⟩ := int_at h.r (inferInstance : Bel w wr) k (by omega)
              injection e2 with e2; subst e2
              injection e3 with e3; subst e3
              have hml : (m : Int) < (l.length : Int) := by omega
              go_wp2_with fail
              refine wp_region_held_drew (S := (fun w' => Bel wr w' ∧ (∀ (b o : Nat) [InHeap wr b], w'.cell? ⟨b, o, none⟩ = wr.cell? ⟨b, o, none⟩) ∧ (∀ (a : Addr) (k : Nat) [InHeap wr a.block], w'.cell? (a.add k) = wr.cell? (a.add k)) ∧ (∀ (a : Addr) [InHeap wr a.block], w'.cell? a = wr.cell? a))) (by kernel_rfl) ?_ (fun hHeld => ?_)
              · exact keepC
              first | (refine takeN (i := 0) (N := (some 35)) (v := ?_) rfl rfl (by kernel_rfl) (by kernel_rfl) (by kernel_rfl) (fun _ _ _ h => h) (Or.inl ⟨by rfl, ?_⟩) (by assumption) ?_; rotate_left; focus ((intro w hSw; (try dsimp only at hSw); go_simp); (try with_reducible rfl))) | (refine takeN (i := 0) (N := (some 35)) (v := undef) rfl rfl (by kernel_rfl) (by kernel_rfl) (by kernel_rfl) (fun _ _ _ h => h) (Or.inr ⟨by rfl, rfl⟩) (by assumption) ?_)
              try simp only [Act.put, List.setIfInBounds_toArray, List.set_cons_zero, List.set_cons_succ]
              first | (refine takeN (i := 1) (N := (some 36)) (v := ?_) rfl rfl (by kernel_rfl) (by kernel_rfl) (by kernel_rfl) (fun _ _ _ h => h) (Or.inl ⟨by rfl, ?_⟩) (by assumption) ?_; rotate_left; focus ((intro w hSw; (try dsimp only at hSw); go_simp); (try with_reducible rfl))) | (refine takeN (i := 1) (N := (some 36)) (v := undef) rfl rfl (by kernel_rfl) (by kernel_rfl) (by kernel_rfl) (fun _ _ _ h => h) (Or.inr ⟨by rfl, rfl⟩) (by assumption) ?_)
              try simp only [Act.put, List.setIfInBounds_toArray, List.set_cons_zero, List.set_cons_succ]
              first | (refine takeN (i := 2) (N := (some 37)) (v := ?_) rfl rfl (by kernel_rfl) (by kernel_rfl) (by kernel_rfl) (fun _ _ _ h => h) (Or.inl ⟨by rfl, ?_⟩) (by assumption) ?_; rotate_left; focus ((intro w hSw; (try dsimp only at hSw); go_simp); (try with_reducible rfl))) | (refine takeN (i := 2) (N := (some 37)) (v := undef) rfl rfl (by kernel_rfl) (by kernel_rfl) (by kernel_rfl) (fun _ _ _ h => h) (Or.inr ⟨by rfl, rfl⟩) (by assumption) ?_)
              try simp only [Act.put, List.setIfInBounds_toArray, List.set_cons_zero, List.set_cons_succ]
              first | (refine takeN (i := 3) (N := (some 38)) (v := ?_) rfl rfl (by kernel_rfl) (by kernel_rfl) (by kernel_rfl) (fun _ _ _ h => h) (Or.inl ⟨by rfl, ?_⟩) (by assumption) ?_; rotate_left; focus ((intro w hSw; (try dsimp only at hSw); go_simp); (try with_reducible rfl))) | (refine takeN (i := 3) (N := (some 38)) (v := undef) rfl rfl (by kernel_rfl) (by kernel_rfl) (by kernel_rfl) (fun _ _ _ h => h) (Or.inr ⟨by rfl, rfl⟩) (by assumption) ?_)
              try simp only [Act.put, List.setIfInBounds_toArray, List.set_cons_zero, List.set_cons_succ]
              first | (refine takeN (i := 4) (N := (some 39)) (v := ?_) rfl rfl (by kernel_rfl) (by kernel_rfl) (by kernel_rfl) (fun _ _ _ h => h) (Or.inl ⟨by rfl, ?_⟩) (by assumption) ?_; rotate_left; focus ((intro w hSw; (try dsimp only at hSw); go_simp); (try with_reducible rfl))) | (refine takeN (i := 4) (N := (some 39)) (v := undef) rfl rfl (by kernel_rfl) (by kernel_rfl) (by kernel_rfl) (fun _ _ _ h => h) (Or.inr ⟨by rfl, rfl⟩) (by assumption) ?_)
              try simp only [Act.put, List.setIfInBounds_toArray, List.set_cons_zero, List.set_cons_succ]
              first | (refine takeN (i := 5) (N := (some 40)) (v := ?_) rfl rfl (by kernel_rfl) (by kernel_rfl) (by kernel_rfl) (fun _ _ _ h => h) (Or.inl ⟨by rfl, ?_⟩) (by assumption) ?_; rotate_left; focus ((intro w hSw; (try dsimp only at hSw); go_simp); (try with_reducible rfl))) | (refine takeN (i := 5) (N := (some 40)) (v := undef) rfl rfl (by kernel_rfl) (by kernel_rfl) (by kernel_rfl) (fun _ _ _ h => h) (Or.inr ⟨by rfl, rfl⟩) (by assumption) ?_)
              try simp only [Act.put, List.setIfInBounds_toArray, List.set_cons_zero, List.set_cons_succ]
              first | (refine takeN (i := 6) (N := (some 41)) (v := ?_) rfl rfl (by kernel_rfl) (by kernel_rfl) (by kernel_rfl) (fun _ _ _ h => h) (Or.inl ⟨by rfl, ?_⟩) (by assumption) ?_; rotate_left; focus ((intro w hSw; (try dsimp only at hSw); go_simp); (try with_reducible rfl))) | (refine takeN (i := 6) (N := (some 41)) (v := undef) rfl rfl (by kernel_rfl) (by kernel_rfl) (by kernel_rfl) (fun _ _ _ h => h) (Or.inr ⟨by rfl, rfl⟩) (by assumption) ?_)
              try simp only [Act.put, List.setIfInBounds_toArray, List.set_cons_zero, List.set_cons_succ]
              first | (refine takeN (i := 7) (N := (some 42)) (v := ?_) rfl rfl (by kernel_rfl) (by kernel_rfl) (by kernel_rfl) (fun _ _ _ h => h) (Or.inl ⟨by rfl, ?_⟩) (by assumption) ?_; rotate_left; focus ((intro w hSw; (try dsimp only at hSw); go_simp); (try with_reducible rfl))) | (refine takeN (i := 7) (N := (some 42)) (v := undef) rfl rfl (by kernel_rfl) (by kernel_rfl) (by kernel_rfl) (fun _ _ _ h => h) (Or.inr ⟨by rfl, rfl⟩) (by assumption) ?_)
              try simp only [Act.put, List.setIfInBounds_toArray, List.set_cons_zero, List.set_cons_succ]
              first | (refine takeN (i := 8) (N := (some 43)) (v := ?_) rfl rfl (by kernel_rfl) (by kernel_rfl) (by kernel_rfl) (fun _ _ _ h => h) (Or.inl ⟨by rfl, ?_⟩) (by assumption) ?_; rotate_left; focus ((intro w hSw; (try dsimp only at hSw); go_simp); (try with_reducible rfl))) | (refine takeN (i := 8) (N := (some 43)) (v := undef) rfl rfl (by kernel_rfl) (by kernel_rfl) (by kernel_rfl) (fun _ _ _ h => h) (Or.inr ⟨by rfl, rfl⟩) (by assumption) ?_)
              try simp only [Act.put, List.setIfInBounds_toArray, List.set_cons_zero, List.set_cons_succ]
              first | (refine takeN (i := 9) (N := (some 44)) (v := ?_) rfl rfl (by kernel_rfl) (by kernel_rfl) (by kernel_rfl) (fun _ _ _ h => h) (Or.inl ⟨by rfl, ?_⟩) (by assumption) ?_; rotate_left; focus ((intro w hSw; (try dsimp only at hSw); go_simp); (try with_reducible rfl))) | (refine takeN (i := 9) (N := (some 44)) (v := undef) rfl rfl (by kernel_rfl) (by kernel_rfl) (by kernel_rfl) (fun _ _ _ h => h) (Or.inr ⟨by rfl, rfl⟩) (by assumption) ?_)
              try simp only [Act.put, List.setIfInBounds_toArray, List.set_cons_zero, List.set_cons_succ]
              first | (refine takeN (i := 10) (N := (some 45)) (v := ?_) rfl rfl (by kernel_rfl) (by kernel_rfl) (by kernel_rfl) (fun _ _ _ h => h) (Or.inl ⟨by rfl, ?_⟩) (by assumption) ?_; rotate_left; focus ((intro w hSw; (try dsimp only at hSw); go_simp); (try with_reducible rfl))) | (refine takeN (i := 10) (N := (some 45)) (v := undef) rfl rfl (by kernel_rfl) (by kernel_rfl) (by kernel_rfl) (fun _ _ _ h => h) (Or.inr ⟨by rfl, rfl⟩) (by assumption) ?_)
              try simp only [Act.put, List.setIfInBounds_toArray, List.set_cons_zero, List.set_cons_succ]
              refine wpAnyH_done (by kernel_rfl) ?_ _
              go_wp2
              · go_ret
                have he : l[m] = l[k] := by simpa using (by assumption : (l[m] == l[k]) = true)
                refine ⟨ret_int ?_, (inferInstance : Bel w wr.drew).out⟩
                rw [← HA.out, HS.out, if_pos (.inr (he ▸ take_mem hlt2 hlt))]
              · have he : ¬ l[m] = l[k] := by simpa using (by assumption : (l[m] == l[k]) = false)
                exact ⟨⟨m + 1, by omega, by go_num, (inferInstance : Bel w2 wr.drew).out, take_not (by omega) HN.out he⟩, by simp [intOf]; omega⟩
            · go_wp2
              obtain rfl : m = k := by omega
              refine ⟨⟨m + 1, by omega, by go_num, Bel.out, ?_⟩, by simp [intOf]; omega⟩
              rw [← HA.out, HS.out, if_neg]
              rintro (g | g)
              · rw [HX.out, hext] at g; cases g
              · exact HN.out g
      · go_wp2
        go_ret
        refine ⟨ret_int ?_, Bel.out⟩
        have h := HA.out
        rw [List.drop_eq_nil_of_le (by omega)] at h
        exact h
end Go.Proofs.Ytjceeengnnjipaa.PAll
