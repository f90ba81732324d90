/- Layer 14: the reference's used, plain, Check. -/
import Derived.Test.YtjceeengnnjipaaH14a
import Derived.Test.YtjceeengnnjipaaWEqStruct
namespace Go.Proofs.Ytjceeengnnjipaa.PAll
open Go.RowKit Go.Proofs.Ytjceeengnnjipaa.Kit Go.Proofs.Ytjceeengnnjipaa.L13 Go.Proofs.YtjceeengnnjipaaW.PrintWords
set_option linter.unusedVariables false
set_option linter.unusedSimpArgs false
attribute [local go_sem] allocCell allocFrozen setFar setFrozen allocAny allocAdd
attribute [local go_sem ↓] Go.wp_at_zero Go.wp_at_succ

def anyF (fg : List Fg) (c : Int) : Bool := fg.any fun f => hasB f.f0 c
def anyE (ch : List Ex) (c : Int) : Bool := ch.any fun x => hasB (occ x) c
def usedV (key : List Int) (fg : List Fg) (ch : List Ex) (c : Int) : Bool := hasB key c || (anyF fg c || anyE ch c)
theorem usedV_eq (key : List Int) (fg : List Fg) (ch : List Ex) (c : Int) : usedV key fg ch c = usedB key fg ch c := rfl
theorem anyF_at (fg : List Fg) (c : Int) (k : Nat) (h : k < fg.length) : anyF (fg.drop k) c = (hasB fg[k].f0 c || anyF (fg.drop (k + 1)) c) := by rw [List.drop_eq_getElem_cons h, anyF, List.any_cons]; rfl
theorem anyE_at (ch : List Ex) (c : Int) (k : Nat) (h : k < ch.length) : anyE (ch.drop k) c = (hasB (occ ch[k]) c || anyE (ch.drop (k + 1)) c) := by rw [List.drop_eq_getElem_cons h, anyE, List.any_cons]; rfl
theorem hasB_same {r : List Int} {e : Ex} (h : SameMem r e) (c : Int) : hasB r c = hasB (occ e) c := by
  unfold hasB
  rw [Bool.eq_iff_iff, List.contains_iff_mem, List.contains_iff_mem]
  exact h c
set_option maxRecDepth 20000 in
set_option maxHeartbeats 4000000 in
theorem rused_calls (tn : ByteArray) (A1 : Option Addr) (c1 : Nat) (cols : List Cl) (A2 : Option Addr) (c2 : Nat) (key : List Int) (A3 : Option Addr) (c3 : Nat) (fg : List Fg) (A4 : Option Addr) (c4 : Nat) (ch : List Ex) (c : Int) (w : World) (h : Tc w A1 c1 cols A2 c2 key A3 c3 fg A4 c4 ch) (hn : ∀ x ∈ ch, nodes x ≤ 1048576) :
    Calls Try.prog 25 #[.agg #[.string tn, .slice A1 cols.length c1, .slice A2 key.length c2, .slice A3 fg.length c3, .slice A4 ch.length c4], .int .i64 c] w fun e w' => e = .returned (.bool (usedV key fg ch c)) ∧ Below w.heap.size w w' := by
  have hu := Try.underlying27
  have hu1 := Try.underlying62
  have hu2 := Try.underlying70
  have hm3 := h.r3.2.1
  have hm4 := h.r4.2.1
  have HN := Lib.hid hn; clear hn
  obtain ⟨b0, hb0⟩ : ∃ b, hasB key c = b := ⟨_, rfl⟩
  have HB0 := Lib.hid hb0
  have HU := Lib.hid (show usedV key fg ch c = (b0 || (anyF fg c || anyE ch c)) by rw [usedV, hb0])
  clear hb0
  go_enter Try.func25, Try.ntmps25
  go_wp2_with (go_at_call 49; (with_reducible refine (has14_calls _ _ key _ _ ?g1).mono ?_); (case g1 => exact (Rc.mk h.r2 h.h2).up); rintro e w1 ⟨rfl, hb⟩; rw [HB0.out]; have hs1 := Step.of hb; clear hb; have hc1 := hs1.cell)
  · go_ret
    exact ⟨ret_bool (by rw [HU.out, (by assumption : b0 = true)]; rfl), Bel.out⟩
  · have i0 : Bel w w1 := inferInstance
    have i1 : Blk w1 w.heap.size (.cells #[.string tn, .slice A1 cols.length c1, .slice A2 key.length c2, .slice A3 fg.length c3, .slice A4 ch.length c4] 27) := inferInstance
    have HU2 := Lib.hid (show usedV key fg ch c = (anyF fg c || anyE ch c) by rw [HU.out, (by assumption : b0 = false)]; rfl)
    clear hc1 hs1
    try rw [(by assumption : b0 = false)]
    go_loopw [5] (fun i wr => ∃ (k : Nat), k ≤ fg.length ∧ i = .int .i64 k ∧ Below w1.heap.size w1 wr ∧ anyF (fg.drop k) c = anyF fg c) (fun i wr => fg.length - (intOf i).toNat)
    case atStart => exact ⟨0, by omega, rfl, Below.refl _ _, rfl⟩
    case round =>
      obtain ⟨wo, hwo⟩ : ∃ wo, wo = wr := ⟨_, rfl⟩
      subst hwo
      obtain ⟨k, hk, rfl, hbw, hall⟩ := hrel
      have hst : Step w1 wo := ⟨hbw⟩
      have HA := Lib.hid hall; clear hall hbw
      have i2 : Blk wo w.heap.size (.cells #[.string tn, .slice A1 cols.length c1, .slice A2 key.length c2, .slice A3 fg.length c3, .slice A4 ch.length c4] 27) := inferInstance
      obtain ⟨t0, t1, t2, t3, t4⟩ := blk5T i2
      by_cases hlt : k < fg.length
      · obtain ⟨ad, B, cB, e, hi, x0, x1, hl2, hr⟩ := fg_at h.r3 (inferInstance : Bel w wo) k hlt
        subst e
        have HRx := Rc.mk hr hl2
        have HS := Lib.hid (anyF_at fg c k hlt)
        obtain ⟨b1, hb1⟩ : ∃ b, hasB fg[k].f0 c = b := ⟨_, rfl⟩
        have HB1 := Lib.hid hb1; clear hb1
        go_wp2_with (go_at_call 49; (with_reducible refine (has14_calls _ _ fg[k].f0 _ _ ?g1).mono ?_); (case g1 => exact HRx.up); rintro e w2 ⟨rfl, hb⟩; rw [HB1.out]; have hs2 := Step.of hb; clear hb)
        · go_ret
          exact ⟨ret_bool (by rw [HU2.out, ← HA.out, HS.out, HB1.out, (by assumption : b1 = true)]; rfl), Bel.out⟩
        · exact ⟨⟨k + 1, by omega, by go_num, Bel.out, by rw [← HA.out, HS.out, HB1.out, (by assumption : b1 = false)]; rfl⟩, by simp [intOf]; omega⟩
      · have hf : anyF fg c = false := by rw [← HA.out, List.drop_eq_nil_of_le (by omega)]; rfl
        have HU3 := Lib.hid (show usedV key fg ch c = anyE ch c by rw [HU2.out, hf]; rfl)
        clear hf
        go_wp2
        go_loopw [6] (fun i wr => ∃ (j : Nat), j ≤ ch.length ∧ i = .int .i64 j ∧ Below wo.heap.size wo wr ∧ anyE (ch.drop j) c = anyE ch c) (fun i wr => ch.length - (intOf i).toNat)
        case atStart => exact ⟨0, by omega, rfl, Below.refl _ _, rfl⟩
        case round =>
          obtain ⟨j, hj, rfl, hbw2, hall2⟩ := hrel
          have hst2 : Step wo wr := ⟨hbw2⟩
          have HA2 := Lib.hid hall2; clear hall2 hbw2 t0 t1 t2 t3 t4
          have i3 : Blk wr w.heap.size (.cells #[.string tn, .slice A1 cols.length c1, .slice A2 key.length c2, .slice A3 fg.length c3, .slice A4 ch.length c4] 27) := inferInstance
          obtain ⟨t0, t1, t2, t3, t4⟩ := blk5T i3
          by_cases hlt2 : j < ch.length
          · obtain ⟨ad, B, cB, e, hi, x0, x1, x2, x3, x4, x5, x6, hl2, hr⟩ := ex_at h.r4 (inferInstance : Bel w wr) j hlt2
            subst e
            have HRx := Rc.mk hr hl2
            have HS := Lib.hid (anyE_at ch c j hlt2)
            have hnx := HN.out ch[j] (List.getElem_mem _)
            obtain ⟨b1, hb1⟩ : ∃ b, hasB (occ ch[j]) c = b := ⟨_, rfl⟩
            have HB1 := Lib.hid hb1; clear hb1
            go_wp2_with (first
              | (go_at_call 50; (with_reducible refine (rcols_calls _ _ _ _ _ _ _ _ _ ch[j].f4 _ ?g1 (Nat.le_refl _) ?g3).mono ?_); (case g1 => rw [exV_eta]; exact hnx); (case g3 => exact HRx.up); rintro e w3 ⟨v3, ls, rfl, hR3, hS3, hL3, hb⟩; rw [exV_eta] at hS3; have hs3 := Step.of hb; obtain ⟨A3, c3, rfl, hl3, hC3⟩ := Kd.R_reads hR3; have HC3 := Lib.hid (Rc.mk hC3 hl3); have HB3 := Lib.hid ((hasB_same hS3 c).trans HB1.out); clear hb hR3 hS3 hC3 hl3)
              | (go_at_call 49; (with_reducible refine (has14_calls _ _ ls _ _ HC3.out).mono ?_); rintro e w2 ⟨rfl, hb⟩; rw [HB3.out]; have hs2 := Step.of hb; clear hb))
            · go_ret
              exact ⟨ret_bool (by rw [HU3.out, ← HA2.out, HS.out, HB1.out, (by assumption : b1 = true)]; rfl), Bel.out⟩
            · exact ⟨⟨j + 1, by omega, by go_num, Bel.out, by rw [← HA2.out, HS.out, HB1.out, (by assumption : b1 = false)]; rfl⟩, by simp [intOf]; omega⟩
          · go_wp2
            go_ret
            exact ⟨ret_bool (by rw [HU3.out, ← HA2.out, List.drop_eq_nil_of_le (by omega)]; rfl), Bel.out⟩
end Go.Proofs.Ytjceeengnnjipaa.PAll
