/- GIVEN BY HAND for the told texts: evolve.Check. -/
import Derived.Test.YtjceeengnnjipaaGiv3
import Derived.Test.YtjceeengnnjipaaGiv8
import Derived.Test.YtjceeengnnjipaaGivS
import Derived.Test.YtjceeengnnjipaaH14c
namespace Go.Proofs.Ytjceeengnnjipaa.PAll
open Go.RowKit Go.Proofs.Ytjceeengnnjipaa.Kit Go.Proofs.Ytjceeengnnjipaa.L13 Go.Proofs.YtjceeengnnjipaaW.PrintWords
set_option linter.unusedVariables false
attribute [local go_sem] allocCell allocFrozen setFar setFrozen allocAny allocAdd

theorem tbl0 {tn : ByteArray} {cols : List Cl} {key : List Int} {fg : List Fg} {ch : List Ex} (h : tblErr tn cols key fg ch = 0) : 1 ≤ cols.length ∧ cols.length ≤ 12 ∧ fg.length ≤ 4 ∧ ch.length ≤ 4 := by
  unfold tblErr at h
  split at h
  · cases h
  split at h
  · rename_i hcols
    split at h
    · unfold consErr at h
      split at h
      · rename_i hf
        have a1 : 1 ≤ cols.length ∧ cols.length ≤ 12 := by
          unfold colsErr at hcols
          split at hcols
          · cases hcols
          · omega
        refine ⟨a1.1, a1.2, ?_, ?_⟩
        · unfold foreignsErr at hf
          split at hf
          · cases hf
          · omega
        · unfold chksErr at h
          split at h
          · cases h
          · omega
      · contradiction
    · contradiction
  · contradiction
theorem used_count {key zs : List Int} {fg : List Fg} {ch : List Ex} {i : Int} (h : ∀ c, c ∈ zs ↔ (c ∈ key ∨ (∃ f ∈ fg, c ∈ f.f0) ∨ ∃ x ∈ ch, c ∈ occ x)) : 0 < (cntL zs (keyI i) : Int) ↔ usedB key fg ch i = true := by
  rw [usedB_iff, ← h i]
  simp only [cntL, keyI]
  rw [← List.count_pos_iff]
  omega
theorem find_calls (a0 : ByteArray) (A1 : Option Addr) (c1 : Nat) (cols : List Cl) (A2 : Option Addr) (n2 c2 : Nat) (A3 : Option Addr) (n3 c3 : Nat) (A4 : Option Addr) (n4 c4 : Nat) (nm : ByteArray) (w : World) (hr1 : Kd.C k29 w A1 cols.length cols) (hc1 : cols.length ≤ c1) :
    Calls Try.prog 18 #[.agg #[.string a0, .slice A1 cols.length c1, .slice A2 n2 c2, .slice A3 n3 c3, .slice A4 n4 c4], .string nm] w fun e w' => e = .returned (.int .i64 (findIx cols nm)) ∧ Below w.heap.size w w' := by
  have HR := Lib.hid hr1; have HC := Lib.hid hc1
  clear hr1 hc1
  have hu := Try.underlying27
  have hmf : ∀ (fn : Fn) (first cap : Array Value) (w : World), (Instr.makeFunc fn first cap).run Try.prog w = .ok (.func fn first cap) w := fun _ _ _ _ => rfl
  go_enter Try.func18, Try.ntmps18
  go_wp2_with (go_at_call 41; (with_reducible refine (index_calls _ _ _ _ nm _ ?g1 HC.out ?g2).mono ?_); (case g1 => exact up HR.out); (case g2 => first | (go_simp; done) | (go_simp; rfl)); rintro e w1 ⟨rfl, hb⟩; have hs := Step.of hb; clear hb)
  go_ret
  exact ⟨rfl, Bel.out⟩
set_option maxRecDepth 20000 in
set_option maxHeartbeats 4000000 in
theorem ev_bad (tn : ByteArray) (A1 : Option Addr) (c1 : Nat) (cols : List Cl) (A2 : Option Addr) (c2 : Nat) (key : List Int) (A3 : Option Addr) (c3 : Nat) (fg : List Fg) (A4 : Option Addr) (c4 : Nat) (ch : List Ex) (k : Int) (nm nt cn : ByteArray) (ck : Int) (cb : Bool) (dk dn : Int) (dt : ByteArray) (w : World) (hr1 : Kd.C k29 w A1 cols.length cols) (hc1 : cols.length ≤ c1) (hr2 : Kd.C (Kd.int .i64) w A2 key.length key) (hc2 : key.length ≤ c2) (hr3 : Kd.C k62 w A3 fg.length fg) (hc3 : fg.length ≤ c3) (hr4 : Kd.C k70 w A4 ch.length ch) (hc4 : ch.length ≤ c4) (hF : Fits cols key fg ch) (hO : ∀ x ∈ ch, ∀ c ∈ occ x, okI c) (h : tblErr tn cols key fg ch ≠ 0) :
    Calls Try.prog 7 #[.agg #[.string tn, .slice A1 cols.length c1, .slice A2 key.length c2, .slice A3 fg.length c3, .slice A4 ch.length c4], .agg #[.int .i64 k, .string nm, .string nt, .string cn, .int .i64 ck, .bool cb, .int .i64 dk, .int .i64 dn, .string dt]] w fun e w' => e = .returned (.int .i64 (evErr tn cols key fg ch k nm nt cn ck cb dk dn dt)) ∧ Below w.heap.size w w' := by
  have HR1 := Lib.hid hr1; have HC1 := Lib.hid hc1; have HR2 := Lib.hid hr2; have HC2 := Lib.hid hc2; have HR3 := Lib.hid hr3; have HC3 := Lib.hid hc3; have HR4 := Lib.hid hr4; have HC4 := Lib.hid hc4; have HFT := Lib.hid hF; have HOC := Lib.hid hO
  have HCK := Lib.hid (show schema_Check.f tn cols key fg ch = some (tblErr tn cols key fg ch) by unfold schema_Check.f; rw [if_pos hF])
  have HH := Lib.hid h; clear h
  clear hr1 hc1 hr2 hc2 hr3 hc3 hr4 hc4 hF hO
  have hu := Try.underlying27
  have hu1 := Try.underlying33
  have hu2 := Try.underlying29
  go_enter Try.func7, Try.ntmps7
  go_wp2_with (go_at_call 15; (with_reducible refine (schema_Check.calls _ _ _ cols _ _ key _ _ fg _ _ ch _ _ ?g1 HC1.out ?g2 HC2.out ?g3 HC3.out ?g4 HC4.out HCK.out).mono ?_); (case g1 => exact up HR1.out); (case g2 => exact up HR2.out); (case g3 => exact up HR3.out); (case g4 => exact up HR4.out); rintro e w1 ⟨rfl, hb⟩; have hs1 := Step.of hb; clear hb; have hc1 := hs1.cell; have hf1 := hs1.frozen)
  · go_ret
    exact ⟨ret_int (by unfold evErr; rw [if_neg HH.out]), Bel.out⟩
  all_goals
    exfalso
    have h := (by assumption : (tblErr tn cols key fg ch != 0) = false)
    simp at h
    exact HH.out h
set_option maxRecDepth 20000 in
set_option maxHeartbeats 4000000 in
theorem ev_range (tn : ByteArray) (A1 : Option Addr) (c1 : Nat) (cols : List Cl) (A2 : Option Addr) (c2 : Nat) (key : List Int) (A3 : Option Addr) (c3 : Nat) (fg : List Fg) (A4 : Option Addr) (c4 : Nat) (ch : List Ex) (k : Int) (nm nt cn : ByteArray) (ck : Int) (cb : Bool) (dk dn : Int) (dt : ByteArray) (w : World) (hr1 : Kd.C k29 w A1 cols.length cols) (hc1 : cols.length ≤ c1) (hr2 : Kd.C (Kd.int .i64) w A2 key.length key) (hc2 : key.length ≤ c2) (hr3 : Kd.C k62 w A3 fg.length fg) (hc3 : fg.length ≤ c3) (hr4 : Kd.C k70 w A4 ch.length ch) (hc4 : ch.length ≤ c4) (hF : Fits cols key fg ch) (hO : ∀ x ∈ ch, ∀ c ∈ occ x, okI c) (h : tblErr tn cols key fg ch = 0) (hk : k < 1 ∨ k > 4) :
    Calls Try.prog 7 #[.agg #[.string tn, .slice A1 cols.length c1, .slice A2 key.length c2, .slice A3 fg.length c3, .slice A4 ch.length c4], .agg #[.int .i64 k, .string nm, .string nt, .string cn, .int .i64 ck, .bool cb, .int .i64 dk, .int .i64 dn, .string dt]] w fun e w' => e = .returned (.int .i64 (evErr tn cols key fg ch k nm nt cn ck cb dk dn dt)) ∧ Below w.heap.size w w' := by
  have HR1 := Lib.hid hr1; have HC1 := Lib.hid hc1; have HR2 := Lib.hid hr2; have HC2 := Lib.hid hc2; have HR3 := Lib.hid hr3; have HC3 := Lib.hid hc3; have HR4 := Lib.hid hr4; have HC4 := Lib.hid hc4; have HFT := Lib.hid hF; have HOC := Lib.hid hO
  have HCK := Lib.hid (show schema_Check.f tn cols key fg ch = some (tblErr tn cols key fg ch) by unfold schema_Check.f; rw [if_pos hF])
  have HH := Lib.hid h; have HK := Lib.hid hk; clear hk
  have h0 : (tblErr tn cols key fg ch != 0) = false := by simp [h]
  clear h
  clear hr1 hc1 hr2 hc2 hr3 hc3 hr4 hc4 hF hO
  have hu := Try.underlying27
  have hu1 := Try.underlying33
  have hu2 := Try.underlying29
  go_enter Try.func7, Try.ntmps7
  rcases HK.out with hk | hk
  all_goals
    go_wp2_with (go_at_call 15; (with_reducible refine (schema_Check.calls _ _ _ cols _ _ key _ _ fg _ _ ch _ _ ?g1 HC1.out ?g2 HC2.out ?g3 HC3.out ?g4 HC4.out HCK.out).mono ?_); (case g1 => exact up HR1.out); (case g2 => exact up HR2.out); (case g3 => exact up HR3.out); (case g4 => exact up HR4.out); rintro e w1 ⟨rfl, hb⟩; have hs1 := Step.of hb; clear hb; have hc1 := hs1.cell; have hf1 := hs1.frozen)
    all_goals first
      | (go_ret; exact ⟨ret_int (by unfold evErr; rw [if_pos HH.out, if_pos HK.out]), Bel.out⟩)
      | (exfalso; omega)
set_option maxRecDepth 20000 in
set_option maxHeartbeats 4000000 in
theorem ev_spare (tn : ByteArray) (A1 : Option Addr) (c1 : Nat) (cols : List Cl) (A2 : Option Addr) (c2 : Nat) (key : List Int) (A3 : Option Addr) (c3 : Nat) (fg : List Fg) (A4 : Option Addr) (c4 : Nat) (ch : List Ex) (k : Int) (nm nt cn : ByteArray) (ck : Int) (cb : Bool) (dk dn : Int) (dt : ByteArray) (w : World) (hr1 : Kd.C k29 w A1 cols.length cols) (hc1 : cols.length ≤ c1) (hr2 : Kd.C (Kd.int .i64) w A2 key.length key) (hc2 : key.length ≤ c2) (hr3 : Kd.C k62 w A3 fg.length fg) (hc3 : fg.length ≤ c3) (hr4 : Kd.C k70 w A4 ch.length ch) (hc4 : ch.length ≤ c4) (hF : Fits cols key fg ch) (hO : ∀ x ∈ ch, ∀ c ∈ occ x, okI c) (h : tblErr tn cols key fg ch = 0) (hk : ¬ (k < 1 ∨ k > 4)) (hs : spareS k nm nt cn ck cb dk dn dt = true) :
    Calls Try.prog 7 #[.agg #[.string tn, .slice A1 cols.length c1, .slice A2 key.length c2, .slice A3 fg.length c3, .slice A4 ch.length c4], .agg #[.int .i64 k, .string nm, .string nt, .string cn, .int .i64 ck, .bool cb, .int .i64 dk, .int .i64 dn, .string dt]] w fun e w' => e = .returned (.int .i64 (evErr tn cols key fg ch k nm nt cn ck cb dk dn dt)) ∧ Below w.heap.size w w' := by
  have HR1 := Lib.hid hr1; have HC1 := Lib.hid hc1; have HR2 := Lib.hid hr2; have HC2 := Lib.hid hc2; have HR3 := Lib.hid hr3; have HC3 := Lib.hid hc3; have HR4 := Lib.hid hr4; have HC4 := Lib.hid hc4; have HFT := Lib.hid hF; have HOC := Lib.hid hO
  have HCK := Lib.hid (show schema_Check.f tn cols key fg ch = some (tblErr tn cols key fg ch) by unfold schema_Check.f; rw [if_pos hF])
  have HH := Lib.hid h; have HK := Lib.hid hk; clear hk
  have h0 : (tblErr tn cols key fg ch != 0) = false := by simp [h]
  clear h
  clear hr1 hc1 hr2 hc2 hr3 hc3 hr4 hc4 hF hO
  have hu := Try.underlying27
  have hu1 := Try.underlying33
  have hu2 := Try.underlying29
  go_enter Try.func7, Try.ntmps7
  go_wp2_with (first | (go_at_call 15; (with_reducible refine (schema_Check.calls _ _ _ cols _ _ key _ _ fg _ _ ch _ _ ?g1 HC1.out ?g2 HC2.out ?g3 HC3.out ?g4 HC4.out HCK.out).mono ?_); (case g1 => exact up HR1.out); (case g2 => exact up HR2.out); (case g3 => exact up HR3.out); (case g4 => exact up HR4.out); rintro e w1 ⟨rfl, hb⟩; have hs1 := Step.of hb; clear hb; have hc1 := hs1.cell; have hf1 := hs1.frozen) | (go_at_call 16; (with_reducible refine (spare_calls _ _ _ _ _ _ _ _ _ _).mono ?_); rintro e w2 ⟨rfl, hb⟩; have hs2 := Step.of hb; clear hb; have hc2 := hs2.cell; have hf2 := hs2.frozen))
  all_goals first
    | (exfalso; have := HK.out; omega)
    | (go_ret; exact ⟨ret_int (by unfold evErr; rw [if_pos HH.out, if_neg HK.out, if_pos hs]), Bel.out⟩)
set_option maxRecDepth 20000 in
set_option maxHeartbeats 4000000 in
theorem ev_add (tn : ByteArray) (A1 : Option Addr) (c1 : Nat) (cols : List Cl) (A2 : Option Addr) (c2 : Nat) (key : List Int) (A3 : Option Addr) (c3 : Nat) (fg : List Fg) (A4 : Option Addr) (c4 : Nat) (ch : List Ex) (nm nt cn : ByteArray) (ck : Int) (cb : Bool) (dk dn : Int) (dt : ByteArray) (w : World) (hr1 : Kd.C k29 w A1 cols.length cols) (hc1 : cols.length ≤ c1) (hr2 : Kd.C (Kd.int .i64) w A2 key.length key) (hc2 : key.length ≤ c2) (hr3 : Kd.C k62 w A3 fg.length fg) (hc3 : fg.length ≤ c3) (hr4 : Kd.C k70 w A4 ch.length ch) (hc4 : ch.length ≤ c4) (hF : Fits cols key fg ch) (hO : ∀ x ∈ ch, ∀ c ∈ occ x, okI c) (h : tblErr tn cols key fg ch = 0) (hs : spareS 1 nm nt cn ck cb dk dn dt = false) :
    Calls Try.prog 7 #[.agg #[.string tn, .slice A1 cols.length c1, .slice A2 key.length c2, .slice A3 fg.length c3, .slice A4 ch.length c4], .agg #[.int .i64 1, .string nm, .string nt, .string cn, .int .i64 ck, .bool cb, .int .i64 dk, .int .i64 dn, .string dt]] w fun e w' => e = .returned (.int .i64 (evErr tn cols key fg ch 1 nm nt cn ck cb dk dn dt)) ∧ Below w.heap.size w w' := by
  have HR1 := Lib.hid hr1; have HC1 := Lib.hid hc1; have HR2 := Lib.hid hr2; have HC2 := Lib.hid hc2; have HR3 := Lib.hid hr3; have HC3 := Lib.hid hc3; have HR4 := Lib.hid hr4; have HC4 := Lib.hid hc4; have HFT := Lib.hid hF; have HOC := Lib.hid hO
  have HCK := Lib.hid (show schema_Check.f tn cols key fg ch = some (tblErr tn cols key fg ch) by unfold schema_Check.f; rw [if_pos hF])
  have HH := Lib.hid h
  have h0 : (tblErr tn cols key fg ch != 0) = false := by simp [h]
  clear h
  clear hr1 hc1 hr2 hc2 hr3 hc3 hr4 hc4 hF hO
  have hu := Try.underlying27
  have hu1 := Try.underlying33
  have hu2 := Try.underlying29
  go_enter Try.func7, Try.ntmps7
  go_wp2_with (first | (go_at_call 15; (with_reducible refine (schema_Check.calls _ _ _ cols _ _ key _ _ fg _ _ ch _ _ ?g1 HC1.out ?g2 HC2.out ?g3 HC3.out ?g4 HC4.out HCK.out).mono ?_); (case g1 => exact up HR1.out); (case g2 => exact up HR2.out); (case g3 => exact up HR3.out); (case g4 => exact up HR4.out); rintro e w1 ⟨rfl, hb⟩; have hs1 := Step.of hb; clear hb; have hc1 := hs1.cell; have hf1 := hs1.frozen) | (go_at_call 16; (with_reducible refine (spare_calls _ _ _ _ _ _ _ _ _ _).mono ?_); rintro e w2 ⟨rfl, hb⟩; have hs2 := Step.of hb; clear hb; have hc2 := hs2.cell; have hf2 := hs2.frozen) | (go_at_call 17; (with_reducible refine (cadd_calls _ _ _ cols _ _ key _ _ fg _ _ ch _ _ _ _ _ _ _ _ _ _ ?g1).mono ?_); (case g1 => exact ⟨up HR1.out, HC1.out, up HR2.out, HC2.out, up HR3.out, HC3.out, up HR4.out, HC4.out⟩); rintro e w3 ⟨rfl, hb⟩; have hs3 := Step.of hb; clear hb))
  go_ret
  exact ⟨ret_int (by unfold evErr; rw [if_pos HH.out, if_neg (by decide), if_neg (by rw [hs]; decide), if_pos rfl]), Bel.out⟩
set_option maxRecDepth 20000 in
set_option maxHeartbeats 4000000 in
theorem ev_none2 (tn : ByteArray) (A1 : Option Addr) (c1 : Nat) (cols : List Cl) (A2 : Option Addr) (c2 : Nat) (key : List Int) (A3 : Option Addr) (c3 : Nat) (fg : List Fg) (A4 : Option Addr) (c4 : Nat) (ch : List Ex) (nm nt cn : ByteArray) (ck : Int) (cb : Bool) (dk dn : Int) (dt : ByteArray) (w : World) (hr1 : Kd.C k29 w A1 cols.length cols) (hc1 : cols.length ≤ c1) (hr2 : Kd.C (Kd.int .i64) w A2 key.length key) (hc2 : key.length ≤ c2) (hr3 : Kd.C k62 w A3 fg.length fg) (hc3 : fg.length ≤ c3) (hr4 : Kd.C k70 w A4 ch.length ch) (hc4 : ch.length ≤ c4) (hF : Fits cols key fg ch) (hO : ∀ x ∈ ch, ∀ c ∈ occ x, okI c) (h : tblErr tn cols key fg ch = 0) (hs : spareS 2 nm nt cn ck cb dk dn dt = false) (hi : findIx cols nm < 0) :
    Calls Try.prog 7 #[.agg #[.string tn, .slice A1 cols.length c1, .slice A2 key.length c2, .slice A3 fg.length c3, .slice A4 ch.length c4], .agg #[.int .i64 2, .string nm, .string nt, .string cn, .int .i64 ck, .bool cb, .int .i64 dk, .int .i64 dn, .string dt]] w fun e w' => e = .returned (.int .i64 (evErr tn cols key fg ch 2 nm nt cn ck cb dk dn dt)) ∧ Below w.heap.size w w' := by
  have HR1 := Lib.hid hr1; have HC1 := Lib.hid hc1; have HR2 := Lib.hid hr2; have HC2 := Lib.hid hc2; have HR3 := Lib.hid hr3; have HC3 := Lib.hid hc3; have HR4 := Lib.hid hr4; have HC4 := Lib.hid hc4; have HFT := Lib.hid hF; have HOC := Lib.hid hO
  have HCK := Lib.hid (show schema_Check.f tn cols key fg ch = some (tblErr tn cols key fg ch) by unfold schema_Check.f; rw [if_pos hF])
  have HH := Lib.hid h
  have h0 : (tblErr tn cols key fg ch != 0) = false := by simp [h]
  clear h
  clear hr1 hc1 hr2 hc2 hr3 hc3 hr4 hc4 hF hO
  have hu := Try.underlying27
  have hu1 := Try.underlying33
  have hu2 := Try.underlying29
  go_enter Try.func7, Try.ntmps7
  go_wp2_with (first | (go_at_call 15; (with_reducible refine (schema_Check.calls _ _ _ cols _ _ key _ _ fg _ _ ch _ _ ?g1 HC1.out ?g2 HC2.out ?g3 HC3.out ?g4 HC4.out HCK.out).mono ?_); (case g1 => exact up HR1.out); (case g2 => exact up HR2.out); (case g3 => exact up HR3.out); (case g4 => exact up HR4.out); rintro e w1 ⟨rfl, hb⟩; have hs1 := Step.of hb; clear hb; have hc1 := hs1.cell; have hf1 := hs1.frozen) | (go_at_call 16; (with_reducible refine (spare_calls _ _ _ _ _ _ _ _ _ _).mono ?_); rintro e w2 ⟨rfl, hb⟩; have hs2 := Step.of hb; clear hb; have hc2 := hs2.cell; have hf2 := hs2.frozen) | (go_at_call 18; (with_reducible refine (find_calls _ _ _ cols _ _ _ _ _ _ _ _ _ _ _ ?g1 HC1.out).mono ?_); (case g1 => exact up HR1.out); rintro e w4 ⟨rfl, hb⟩; have hs4 := Step.of hb; clear hb; have hc4 := hs4.cell; have hf4 := hs4.frozen))
  all_goals first
    | (go_ret; exact ⟨ret_int (by unfold evErr; rw [if_pos HH.out, if_neg (by decide), if_neg (by rw [hs]; decide), if_neg (by decide), if_pos hi]), Bel.out⟩)
    | (exfalso; omega)
set_option maxRecDepth 20000 in
set_option maxHeartbeats 4000000 in
theorem ev_none3 (tn : ByteArray) (A1 : Option Addr) (c1 : Nat) (cols : List Cl) (A2 : Option Addr) (c2 : Nat) (key : List Int) (A3 : Option Addr) (c3 : Nat) (fg : List Fg) (A4 : Option Addr) (c4 : Nat) (ch : List Ex) (nm nt cn : ByteArray) (ck : Int) (cb : Bool) (dk dn : Int) (dt : ByteArray) (w : World) (hr1 : Kd.C k29 w A1 cols.length cols) (hc1 : cols.length ≤ c1) (hr2 : Kd.C (Kd.int .i64) w A2 key.length key) (hc2 : key.length ≤ c2) (hr3 : Kd.C k62 w A3 fg.length fg) (hc3 : fg.length ≤ c3) (hr4 : Kd.C k70 w A4 ch.length ch) (hc4 : ch.length ≤ c4) (hF : Fits cols key fg ch) (hO : ∀ x ∈ ch, ∀ c ∈ occ x, okI c) (h : tblErr tn cols key fg ch = 0) (hs : spareS 3 nm nt cn ck cb dk dn dt = false) (hi : findIx cols nm < 0) :
    Calls Try.prog 7 #[.agg #[.string tn, .slice A1 cols.length c1, .slice A2 key.length c2, .slice A3 fg.length c3, .slice A4 ch.length c4], .agg #[.int .i64 3, .string nm, .string nt, .string cn, .int .i64 ck, .bool cb, .int .i64 dk, .int .i64 dn, .string dt]] w fun e w' => e = .returned (.int .i64 (evErr tn cols key fg ch 3 nm nt cn ck cb dk dn dt)) ∧ Below w.heap.size w w' := by
  have HR1 := Lib.hid hr1; have HC1 := Lib.hid hc1; have HR2 := Lib.hid hr2; have HC2 := Lib.hid hc2; have HR3 := Lib.hid hr3; have HC3 := Lib.hid hc3; have HR4 := Lib.hid hr4; have HC4 := Lib.hid hc4; have HFT := Lib.hid hF; have HOC := Lib.hid hO
  have HCK := Lib.hid (show schema_Check.f tn cols key fg ch = some (tblErr tn cols key fg ch) by unfold schema_Check.f; rw [if_pos hF])
  have HH := Lib.hid h
  have h0 : (tblErr tn cols key fg ch != 0) = false := by simp [h]
  clear h
  clear hr1 hc1 hr2 hc2 hr3 hc3 hr4 hc4 hF hO
  have hu := Try.underlying27
  have hu1 := Try.underlying33
  have hu2 := Try.underlying29
  go_enter Try.func7, Try.ntmps7
  go_wp2_with (first | (go_at_call 15; (with_reducible refine (schema_Check.calls _ _ _ cols _ _ key _ _ fg _ _ ch _ _ ?g1 HC1.out ?g2 HC2.out ?g3 HC3.out ?g4 HC4.out HCK.out).mono ?_); (case g1 => exact up HR1.out); (case g2 => exact up HR2.out); (case g3 => exact up HR3.out); (case g4 => exact up HR4.out); rintro e w1 ⟨rfl, hb⟩; have hs1 := Step.of hb; clear hb; have hc1 := hs1.cell; have hf1 := hs1.frozen) | (go_at_call 16; (with_reducible refine (spare_calls _ _ _ _ _ _ _ _ _ _).mono ?_); rintro e w2 ⟨rfl, hb⟩; have hs2 := Step.of hb; clear hb; have hc2 := hs2.cell; have hf2 := hs2.frozen) | (go_at_call 18; (with_reducible refine (find_calls _ _ _ cols _ _ _ _ _ _ _ _ _ _ _ ?g1 HC1.out).mono ?_); (case g1 => exact up HR1.out); rintro e w4 ⟨rfl, hb⟩; have hs4 := Step.of hb; clear hb; have hc4 := hs4.cell; have hf4 := hs4.frozen))
  all_goals first
    | (go_ret; exact ⟨ret_int (by unfold evErr; rw [if_pos HH.out, if_neg (by decide), if_neg (by rw [hs]; decide), if_neg (by decide), if_pos hi]), Bel.out⟩)
    | (exfalso; omega)
set_option maxRecDepth 20000 in
set_option maxHeartbeats 4000000 in
theorem ev_none4 (tn : ByteArray) (A1 : Option Addr) (c1 : Nat) (cols : List Cl) (A2 : Option Addr) (c2 : Nat) (key : List Int) (A3 : Option Addr) (c3 : Nat) (fg : List Fg) (A4 : Option Addr) (c4 : Nat) (ch : List Ex) (nm nt cn : ByteArray) (ck : Int) (cb : Bool) (dk dn : Int) (dt : ByteArray) (w : World) (hr1 : Kd.C k29 w A1 cols.length cols) (hc1 : cols.length ≤ c1) (hr2 : Kd.C (Kd.int .i64) w A2 key.length key) (hc2 : key.length ≤ c2) (hr3 : Kd.C k62 w A3 fg.length fg) (hc3 : fg.length ≤ c3) (hr4 : Kd.C k70 w A4 ch.length ch) (hc4 : ch.length ≤ c4) (hF : Fits cols key fg ch) (hO : ∀ x ∈ ch, ∀ c ∈ occ x, okI c) (h : tblErr tn cols key fg ch = 0) (hs : spareS 4 nm nt cn ck cb dk dn dt = false) (hi : findIx cols nm < 0) :
    Calls Try.prog 7 #[.agg #[.string tn, .slice A1 cols.length c1, .slice A2 key.length c2, .slice A3 fg.length c3, .slice A4 ch.length c4], .agg #[.int .i64 4, .string nm, .string nt, .string cn, .int .i64 ck, .bool cb, .int .i64 dk, .int .i64 dn, .string dt]] w fun e w' => e = .returned (.int .i64 (evErr tn cols key fg ch 4 nm nt cn ck cb dk dn dt)) ∧ Below w.heap.size w w' := by
  have HR1 := Lib.hid hr1; have HC1 := Lib.hid hc1; have HR2 := Lib.hid hr2; have HC2 := Lib.hid hc2; have HR3 := Lib.hid hr3; have HC3 := Lib.hid hc3; have HR4 := Lib.hid hr4; have HC4 := Lib.hid hc4; have HFT := Lib.hid hF; have HOC := Lib.hid hO
  have HCK := Lib.hid (show schema_Check.f tn cols key fg ch = some (tblErr tn cols key fg ch) by unfold schema_Check.f; rw [if_pos hF])
  have HH := Lib.hid h
  have h0 : (tblErr tn cols key fg ch != 0) = false := by simp [h]
  clear h
  clear hr1 hc1 hr2 hc2 hr3 hc3 hr4 hc4 hF hO
  have hu := Try.underlying27
  have hu1 := Try.underlying33
  have hu2 := Try.underlying29
  go_enter Try.func7, Try.ntmps7
  go_wp2_with (first | (go_at_call 15; (with_reducible refine (schema_Check.calls _ _ _ cols _ _ key _ _ fg _ _ ch _ _ ?g1 HC1.out ?g2 HC2.out ?g3 HC3.out ?g4 HC4.out HCK.out).mono ?_); (case g1 => exact up HR1.out); (case g2 => exact up HR2.out); (case g3 => exact up HR3.out); (case g4 => exact up HR4.out); rintro e w1 ⟨rfl, hb⟩; have hs1 := Step.of hb; clear hb; have hc1 := hs1.cell; have hf1 := hs1.frozen) | (go_at_call 16; (with_reducible refine (spare_calls _ _ _ _ _ _ _ _ _ _).mono ?_); rintro e w2 ⟨rfl, hb⟩; have hs2 := Step.of hb; clear hb; have hc2 := hs2.cell; have hf2 := hs2.frozen) | (go_at_call 18; (with_reducible refine (find_calls _ _ _ cols _ _ _ _ _ _ _ _ _ _ _ ?g1 HC1.out).mono ?_); (case g1 => exact up HR1.out); rintro e w4 ⟨rfl, hb⟩; have hs4 := Step.of hb; clear hb; have hc4 := hs4.cell; have hf4 := hs4.frozen))
  all_goals first
    | (go_ret; exact ⟨ret_int (by unfold evErr; rw [if_pos HH.out, if_neg (by decide), if_neg (by rw [hs]; decide), if_neg (by decide), if_pos hi]), Bel.out⟩)
    | (exfalso; omega)
set_option maxRecDepth 20000 in
set_option maxHeartbeats 4000000 in
theorem ev_three (tn : ByteArray) (A1 : Option Addr) (c1 : Nat) (cols : List Cl) (A2 : Option Addr) (c2 : Nat) (key : List Int) (A3 : Option Addr) (c3 : Nat) (fg : List Fg) (A4 : Option Addr) (c4 : Nat) (ch : List Ex) (nm nt cn : ByteArray) (ck : Int) (cb : Bool) (dk dn : Int) (dt : ByteArray) (w : World) (hr1 : Kd.C k29 w A1 cols.length cols) (hc1 : cols.length ≤ c1) (hr2 : Kd.C (Kd.int .i64) w A2 key.length key) (hc2 : key.length ≤ c2) (hr3 : Kd.C k62 w A3 fg.length fg) (hc3 : fg.length ≤ c3) (hr4 : Kd.C k70 w A4 ch.length ch) (hc4 : ch.length ≤ c4) (hF : Fits cols key fg ch) (hO : ∀ x ∈ ch, ∀ c ∈ occ x, okI c) (h : tblErr tn cols key fg ch = 0) (hs : spareS 3 nm nt cn ck cb dk dn dt = false) (hi : 0 ≤ findIx cols nm) :
    Calls Try.prog 7 #[.agg #[.string tn, .slice A1 cols.length c1, .slice A2 key.length c2, .slice A3 fg.length c3, .slice A4 ch.length c4], .agg #[.int .i64 3, .string nm, .string nt, .string cn, .int .i64 ck, .bool cb, .int .i64 dk, .int .i64 dn, .string dt]] w fun e w' => e = .returned (.int .i64 (evErr tn cols key fg ch 3 nm nt cn ck cb dk dn dt)) ∧ Below w.heap.size w w' := by
  have HR1 := Lib.hid hr1; have HC1 := Lib.hid hc1; have HR2 := Lib.hid hr2; have HC2 := Lib.hid hc2; have HR3 := Lib.hid hr3; have HC3 := Lib.hid hc3; have HR4 := Lib.hid hr4; have HC4 := Lib.hid hc4; have HFT := Lib.hid hF; have HOC := Lib.hid hO
  have HCK := Lib.hid (show schema_Check.f tn cols key fg ch = some (tblErr tn cols key fg ch) by unfold schema_Check.f; rw [if_pos hF])
  have HH := Lib.hid h
  have h0 : (tblErr tn cols key fg ch != 0) = false := by simp [h]
  clear h
  clear hr1 hc1 hr2 hc2 hr3 hc3 hr4 hc4 hF hO
  have hu := Try.underlying27
  have hu1 := Try.underlying33
  have hu2 := Try.underlying29
  go_enter Try.func7, Try.ntmps7
  go_wp2_with (first | (go_at_call 15; (with_reducible refine (schema_Check.calls _ _ _ cols _ _ key _ _ fg _ _ ch _ _ ?g1 HC1.out ?g2 HC2.out ?g3 HC3.out ?g4 HC4.out HCK.out).mono ?_); (case g1 => exact up HR1.out); (case g2 => exact up HR2.out); (case g3 => exact up HR3.out); (case g4 => exact up HR4.out); rintro e w1 ⟨rfl, hb⟩; have hs1 := Step.of hb; clear hb; have hc1 := hs1.cell; have hf1 := hs1.frozen) | (go_at_call 16; (with_reducible refine (spare_calls _ _ _ _ _ _ _ _ _ _).mono ?_); rintro e w2 ⟨rfl, hb⟩; have hs2 := Step.of hb; clear hb; have hc2 := hs2.cell; have hf2 := hs2.frozen) | (go_at_call 18; (with_reducible refine (find_calls _ _ _ cols _ _ _ _ _ _ _ _ _ _ _ ?g1 HC1.out).mono ?_); (case g1 => exact up HR1.out); rintro e w4 ⟨rfl, hb⟩; have hs4 := Step.of hb; clear hb; have hc4 := hs4.cell; have hf4 := hs4.frozen) | (go_at_call 20; (with_reducible refine (name_calls _ _).mono ?_); rintro e w5 ⟨rfl, hb⟩; have hs5 := Step.of hb; clear hb; have hc5 := hs5.cell; have hf5 := hs5.frozen))
  · have hq : ¬ nameOk nt = true := by simpa using (by assumption : (!nameOk nt) = true)
    go_ret
    exact ⟨ret_int (by unfold evErr; rw [if_pos HH.out, if_neg (by decide), if_neg (by rw [hs]; decide), if_neg (by decide), if_neg (by omega), if_pos rfl, if_neg hq]), Bel.out⟩
  · have hq : nameOk nt = true := by simpa using (by assumption : (!nameOk nt) = false)
    have hp : findIx cols nt ≥ 0 := by omega
    go_ret
    exact ⟨ret_int (by unfold evErr; rw [if_pos HH.out, if_neg (by decide), if_neg (by rw [hs]; decide), if_neg (by decide), if_neg (by omega), if_pos rfl, if_pos hq, if_pos hp]), Bel.out⟩
  · have hq : nameOk nt = true := by simpa using (by assumption : (!nameOk nt) = false)
    have hp : ¬ findIx cols nt ≥ 0 := by omega
    go_ret
    exact ⟨ret_int (by unfold evErr; rw [if_pos HH.out, if_neg (by decide), if_neg (by rw [hs]; decide), if_neg (by decide), if_neg (by omega), if_pos rfl, if_pos hq, if_neg hp]), Bel.out⟩
set_option maxRecDepth 20000 in
set_option maxHeartbeats 4000000 in
theorem ev_two (tn : ByteArray) (A1 : Option Addr) (c1 : Nat) (cols : List Cl) (A2 : Option Addr) (c2 : Nat) (key : List Int) (A3 : Option Addr) (c3 : Nat) (fg : List Fg) (A4 : Option Addr) (c4 : Nat) (ch : List Ex) (nm nt cn : ByteArray) (ck : Int) (cb : Bool) (dk dn : Int) (dt : ByteArray) (w : World) (hr1 : Kd.C k29 w A1 cols.length cols) (hc1 : cols.length ≤ c1) (hr2 : Kd.C (Kd.int .i64) w A2 key.length key) (hc2 : key.length ≤ c2) (hr3 : Kd.C k62 w A3 fg.length fg) (hc3 : fg.length ≤ c3) (hr4 : Kd.C k70 w A4 ch.length ch) (hc4 : ch.length ≤ c4) (hF : Fits cols key fg ch) (hO : ∀ x ∈ ch, ∀ c ∈ occ x, okI c) (h : tblErr tn cols key fg ch = 0) (hs : spareS 2 nm nt cn ck cb dk dn dt = false) (hi : 0 ≤ findIx cols nm) :
    Calls Try.prog 7 #[.agg #[.string tn, .slice A1 cols.length c1, .slice A2 key.length c2, .slice A3 fg.length c3, .slice A4 ch.length c4], .agg #[.int .i64 2, .string nm, .string nt, .string cn, .int .i64 ck, .bool cb, .int .i64 dk, .int .i64 dn, .string dt]] w fun e w' => e = .returned (.int .i64 (evErr tn cols key fg ch 2 nm nt cn ck cb dk dn dt)) ∧ Below w.heap.size w w' := by
  have HR1 := Lib.hid hr1; have HC1 := Lib.hid hc1; have HR2 := Lib.hid hr2; have HC2 := Lib.hid hc2; have HR3 := Lib.hid hr3; have HC3 := Lib.hid hc3; have HR4 := Lib.hid hr4; have HC4 := Lib.hid hc4; have HFT := Lib.hid hF; have HOC := Lib.hid hO
  have HCK := Lib.hid (show schema_Check.f tn cols key fg ch = some (tblErr tn cols key fg ch) by unfold schema_Check.f; rw [if_pos hF])
  have HH := Lib.hid h
  have h0 : (tblErr tn cols key fg ch != 0) = false := by simp [h]
  have HL := Lib.hid (tbl0 h)
  have hlt := findIx_lt cols nm hi
  obtain ⟨ad, eA, x0, x1, x2⟩ := at_T29 hr1 (findIx cols nm) hi hlt
  subst eA
  have X1 := Lib.hid x1
  have HKI := Lib.hid (keyI_of (c := findIx cols nm) ⟨by omega, by have := (tbl0 h).2.1; omega⟩)
  clear h x0 x1 x2
  clear hr1 hc1 hr2 hc2 hr3 hc3 hr4 hc4 hF hO
  have hu := Try.underlying27
  have hu1 := Try.underlying33
  have hu2 := Try.underlying29
  go_enter Try.func7, Try.ntmps7
  go_wp2_with (first | (go_at_call 15; (with_reducible refine (schema_Check.calls _ _ _ cols _ _ key _ _ fg _ _ ch _ _ ?g1 HC1.out ?g2 HC2.out ?g3 HC3.out ?g4 HC4.out HCK.out).mono ?_); (case g1 => exact up HR1.out); (case g2 => exact up HR2.out); (case g3 => exact up HR3.out); (case g4 => exact up HR4.out); rintro e w1 ⟨rfl, hb⟩; have hs1 := Step.of hb; clear hb; have hc1 := hs1.cell; have hf1 := hs1.frozen) | (go_at_call 16; (with_reducible refine (spare_calls _ _ _ _ _ _ _ _ _ _).mono ?_); rintro e w2 ⟨rfl, hb⟩; have hs2 := Step.of hb; clear hb; have hc2 := hs2.cell; have hf2 := hs2.frozen) | (go_at_call 18; (with_reducible refine (find_calls _ _ _ cols _ _ _ _ _ _ _ _ _ _ _ ?g1 HC1.out).mono ?_); (case g1 => exact up HR1.out); rintro e w4 ⟨rfl, hb⟩; have hs4 := Step.of hb; clear hb; have hc4 := hs4.cell; have hf4 := hs4.frozen) | (go_at_call 19; (with_reducible refine (used_calls _ _ _ _ _ _ key _ _ fg _ _ ch _ ?g2 HC2.out ?g3 HC3.out ?g4 HC4.out ?g7 ?g5 ?g8 ?g9 ?g6 ?g10 ?g11 ?g12).mono ?_); (case g2 => exact up HR2.out); (case g3 => exact up HR3.out); (case g4 => exact up HR4.out); (case g5 => exact HFT.out.hkeys); (case g6 => exact HFT.out.hints); (case g7 => exact HFT.out.hkey); (case g8 => exact HL.out.2.2.1); (case g9 => exact HFT.out.hfgs); (case g10 => exact HL.out.2.2.2); (case g11 => exact HFT.out.hnodes); (case g12 => exact HOC.out); rintro e w6 ⟨B, m, zs, rfl, hcn, hmem, hb⟩; have hs6 := Step.of hb; clear hb; have hc6 := hs6.cell; have hf6 := hs6.frozen; have hlk := hcn.run 49 lawI Try.underlying49 Try.underlying3 (zeroI _) HKI.out trivial; have HU := Lib.hid (used_count (i := findIx cols nm) hmem); clear hcn hmem; have x1 := ((Bel.out : Below w.heap.size w w6).cell (World.block_lt_of_cell? w _ X1.out)).trans X1.out))
  · have hu9 := HU.out
    have hp : 0 < (cntL zs (keyI (findIx cols nm)) : Int) := by omega
    go_ret
    exact ⟨ret_int (by unfold evErr; rw [if_pos HH.out, if_neg (by decide), if_neg (by rw [hs]; decide), if_neg (by decide), if_neg (by omega), if_neg (by decide), if_pos (hu9.1 hp)]), Bel.out⟩
  · have hu9 := HU.out
    have hp : ¬ 0 < (cntL zs (keyI (findIx cols nm)) : Int) := by omega
    go_ret
    exact ⟨ret_int (by unfold evErr; rw [if_pos HH.out, if_neg (by decide), if_neg (by rw [hs]; decide), if_neg (by decide), if_neg (by omega), if_neg (by decide), if_neg (fun hh => hp (hu9.2 hh)), if_neg (by decide)]), Bel.out⟩
set_option maxRecDepth 20000 in
set_option maxHeartbeats 4000000 in
theorem ev_four (tn : ByteArray) (A1 : Option Addr) (c1 : Nat) (cols : List Cl) (A2 : Option Addr) (c2 : Nat) (key : List Int) (A3 : Option Addr) (c3 : Nat) (fg : List Fg) (A4 : Option Addr) (c4 : Nat) (ch : List Ex) (nm nt cn : ByteArray) (ck : Int) (cb : Bool) (dk dn : Int) (dt : ByteArray) (w : World) (hr1 : Kd.C k29 w A1 cols.length cols) (hc1 : cols.length ≤ c1) (hr2 : Kd.C (Kd.int .i64) w A2 key.length key) (hc2 : key.length ≤ c2) (hr3 : Kd.C k62 w A3 fg.length fg) (hc3 : fg.length ≤ c3) (hr4 : Kd.C k70 w A4 ch.length ch) (hc4 : ch.length ≤ c4) (hF : Fits cols key fg ch) (hO : ∀ x ∈ ch, ∀ c ∈ occ x, okI c) (h : tblErr tn cols key fg ch = 0) (hs : spareS 4 nm nt cn ck cb dk dn dt = false) (hi : 0 ≤ findIx cols nm) :
    Calls Try.prog 7 #[.agg #[.string tn, .slice A1 cols.length c1, .slice A2 key.length c2, .slice A3 fg.length c3, .slice A4 ch.length c4], .agg #[.int .i64 4, .string nm, .string nt, .string cn, .int .i64 ck, .bool cb, .int .i64 dk, .int .i64 dn, .string dt]] w fun e w' => e = .returned (.int .i64 (evErr tn cols key fg ch 4 nm nt cn ck cb dk dn dt)) ∧ Below w.heap.size w w' := by
  have HR1 := Lib.hid hr1; have HC1 := Lib.hid hc1; have HR2 := Lib.hid hr2; have HC2 := Lib.hid hc2; have HR3 := Lib.hid hr3; have HC3 := Lib.hid hc3; have HR4 := Lib.hid hr4; have HC4 := Lib.hid hc4; have HFT := Lib.hid hF; have HOC := Lib.hid hO
  have HCK := Lib.hid (show schema_Check.f tn cols key fg ch = some (tblErr tn cols key fg ch) by unfold schema_Check.f; rw [if_pos hF])
  have HH := Lib.hid h
  have h0 : (tblErr tn cols key fg ch != 0) = false := by simp [h]
  have HL := Lib.hid (tbl0 h)
  have hlt := findIx_lt cols nm hi
  obtain ⟨ad, eA, x0, x1, x2⟩ := at_T29 hr1 (findIx cols nm) hi hlt
  subst eA
  have X1 := Lib.hid x1
  have HKI := Lib.hid (keyI_of (c := findIx cols nm) ⟨by omega, by have := (tbl0 h).2.1; omega⟩)
  clear h x0 x1 x2
  clear hr1 hc1 hr2 hc2 hr3 hc3 hr4 hc4 hF hO
  have hu := Try.underlying27
  have hu1 := Try.underlying33
  have hu2 := Try.underlying29
  go_enter Try.func7, Try.ntmps7
  go_wp2_with (first | (go_at_call 15; (with_reducible refine (schema_Check.calls _ _ _ cols _ _ key _ _ fg _ _ ch _ _ ?g1 HC1.out ?g2 HC2.out ?g3 HC3.out ?g4 HC4.out HCK.out).mono ?_); (case g1 => exact up HR1.out); (case g2 => exact up HR2.out); (case g3 => exact up HR3.out); (case g4 => exact up HR4.out); rintro e w1 ⟨rfl, hb⟩; have hs1 := Step.of hb; clear hb; have hc1 := hs1.cell; have hf1 := hs1.frozen) | (go_at_call 16; (with_reducible refine (spare_calls _ _ _ _ _ _ _ _ _ _).mono ?_); rintro e w2 ⟨rfl, hb⟩; have hs2 := Step.of hb; clear hb; have hc2 := hs2.cell; have hf2 := hs2.frozen) | (go_at_call 18; (with_reducible refine (find_calls _ _ _ cols _ _ _ _ _ _ _ _ _ _ _ ?g1 HC1.out).mono ?_); (case g1 => exact up HR1.out); rintro e w4 ⟨rfl, hb⟩; have hs4 := Step.of hb; clear hb; have hc4 := hs4.cell; have hf4 := hs4.frozen) | (go_at_call 19; (with_reducible refine (used_calls _ _ _ _ _ _ key _ _ fg _ _ ch _ ?g2 HC2.out ?g3 HC3.out ?g4 HC4.out ?g7 ?g5 ?g8 ?g9 ?g6 ?g10 ?g11 ?g12).mono ?_); (case g2 => exact up HR2.out); (case g3 => exact up HR3.out); (case g4 => exact up HR4.out); (case g5 => exact HFT.out.hkeys); (case g6 => exact HFT.out.hints); (case g7 => exact HFT.out.hkey); (case g8 => exact HL.out.2.2.1); (case g9 => exact HFT.out.hfgs); (case g10 => exact HL.out.2.2.2); (case g11 => exact HFT.out.hnodes); (case g12 => exact HOC.out); rintro e w6 ⟨B, m, zs, rfl, hcn, hmem, hb⟩; have hs6 := Step.of hb; clear hb; have hc6 := hs6.cell; have hf6 := hs6.frozen; have hlk := hcn.run 49 lawI Try.underlying49 Try.underlying3 (zeroI _) HKI.out trivial; have HU := Lib.hid (used_count (i := findIx cols nm) hmem); clear hcn hmem; have x1 := ((Bel.out : Below w.heap.size w w6).cell (World.block_lt_of_cell? w _ X1.out)).trans X1.out))
  · have hu9 := HU.out
    have hp : 0 < (cntL zs (keyI (findIx cols nm)) : Int) := by omega
    go_ret
    exact ⟨ret_int (by unfold evErr; rw [if_pos HH.out, if_neg (by decide), if_neg (by rw [hs]; decide), if_neg (by decide), if_neg (by omega), if_neg (by decide), if_pos (hu9.1 hp)]), Bel.out⟩
  · have hu9 := HU.out
    have hp : ¬ 0 < (cntL zs (keyI (findIx cols nm)) : Int) := by omega
    have hq : (rd_T29 cols (findIx cols nm)).f1 = 2 := by simpa using (by assumption : ((rd_T29 cols (findIx cols nm)).f1 == 2) = true)
    go_ret
    exact ⟨ret_int (by unfold evErr; rw [if_pos HH.out, if_neg (by decide), if_neg (by rw [hs]; decide), if_neg (by decide), if_neg (by omega), if_neg (by decide), if_neg (fun hh => hp (hu9.2 hh)), if_pos rfl, if_pos hq]), Bel.out⟩
  · have hu9 := HU.out
    have hp : ¬ 0 < (cntL zs (keyI (findIx cols nm)) : Int) := by omega
    have hq : ¬ (rd_T29 cols (findIx cols nm)).f1 = 2 := by simpa using (by assumption : ((rd_T29 cols (findIx cols nm)).f1 == 2) = false)
    go_ret
    exact ⟨ret_int (by unfold evErr; rw [if_pos HH.out, if_neg (by decide), if_neg (by rw [hs]; decide), if_neg (by decide), if_neg (by omega), if_neg (by decide), if_neg (fun hh => hp (hu9.2 hh)), if_pos rfl, if_neg hq]), Bel.out⟩
theorem ev_calls (tn : ByteArray) (A1 : Option Addr) (c1 : Nat) (cols : List Cl) (A2 : Option Addr) (c2 : Nat) (key : List Int) (A3 : Option Addr) (c3 : Nat) (fg : List Fg) (A4 : Option Addr) (c4 : Nat) (ch : List Ex) (k : Int) (nm nt cn : ByteArray) (ck : Int) (cb : Bool) (dk dn : Int) (dt : ByteArray) (w : World) (hr1 : Kd.C k29 w A1 cols.length cols) (hc1 : cols.length ≤ c1) (hr2 : Kd.C (Kd.int .i64) w A2 key.length key) (hc2 : key.length ≤ c2) (hr3 : Kd.C k62 w A3 fg.length fg) (hc3 : fg.length ≤ c3) (hr4 : Kd.C k70 w A4 ch.length ch) (hc4 : ch.length ≤ c4) (hF : Fits cols key fg ch) (hO : ∀ x ∈ ch, ∀ c ∈ occ x, okI c) :
    Calls Try.prog 7 #[.agg #[.string tn, .slice A1 cols.length c1, .slice A2 key.length c2, .slice A3 fg.length c3, .slice A4 ch.length c4], .agg #[.int .i64 k, .string nm, .string nt, .string cn, .int .i64 ck, .bool cb, .int .i64 dk, .int .i64 dn, .string dt]] w fun e w' => e = .returned (.int .i64 (evErr tn cols key fg ch k nm nt cn ck cb dk dn dt)) ∧ Below w.heap.size w w' := by
  by_cases h : tblErr tn cols key fg ch = 0
  · by_cases hk : k < 1 ∨ k > 4
    · exact ev_range tn A1 c1 cols A2 c2 key A3 c3 fg A4 c4 ch k nm nt cn ck cb dk dn dt w hr1 hc1 hr2 hc2 hr3 hc3 hr4 hc4 hF hO h hk
    · cases hs : spareS k nm nt cn ck cb dk dn dt with
      | true => exact ev_spare tn A1 c1 cols A2 c2 key A3 c3 fg A4 c4 ch k nm nt cn ck cb dk dn dt w hr1 hc1 hr2 hc2 hr3 hc3 hr4 hc4 hF hO h hk hs
      | false =>
        have h4 : k = 1 ∨ k = 2 ∨ k = 3 ∨ k = 4 := by omega
        rcases h4 with rfl | rfl | rfl | rfl
        · exact ev_add tn A1 c1 cols A2 c2 key A3 c3 fg A4 c4 ch nm nt cn ck cb dk dn dt w hr1 hc1 hr2 hc2 hr3 hc3 hr4 hc4 hF hO h hs
        · by_cases hi : 0 ≤ findIx cols nm
          · exact ev_two tn A1 c1 cols A2 c2 key A3 c3 fg A4 c4 ch nm nt cn ck cb dk dn dt w hr1 hc1 hr2 hc2 hr3 hc3 hr4 hc4 hF hO h hs hi
          · exact ev_none2 tn A1 c1 cols A2 c2 key A3 c3 fg A4 c4 ch nm nt cn ck cb dk dn dt w hr1 hc1 hr2 hc2 hr3 hc3 hr4 hc4 hF hO h hs (by omega)
        · by_cases hi : 0 ≤ findIx cols nm
          · exact ev_three tn A1 c1 cols A2 c2 key A3 c3 fg A4 c4 ch nm nt cn ck cb dk dn dt w hr1 hc1 hr2 hc2 hr3 hc3 hr4 hc4 hF hO h hs hi
          · exact ev_none3 tn A1 c1 cols A2 c2 key A3 c3 fg A4 c4 ch nm nt cn ck cb dk dn dt w hr1 hc1 hr2 hc2 hr3 hc3 hr4 hc4 hF hO h hs (by omega)
        · by_cases hi : 0 ≤ findIx cols nm
          · exact ev_four tn A1 c1 cols A2 c2 key A3 c3 fg A4 c4 ch nm nt cn ck cb dk dn dt w hr1 hc1 hr2 hc2 hr3 hc3 hr4 hc4 hF hO h hs hi
          · exact ev_none4 tn A1 c1 cols A2 c2 key A3 c3 fg A4 c4 ch nm nt cn ck cb dk dn dt w hr1 hc1 hr2 hc2 hr3 hc3 hr4 hc4 hF hO h hs (by omega)
  · exact ev_bad tn A1 c1 cols A2 c2 key A3 c3 fg A4 c4 ch k nm nt cn ck cb dk dn dt w hr1 hc1 hr2 hc2 hr3 hc3 hr4 hc4 hF hO h
end Go.Proofs.Ytjceeengnnjipaa.PAll
