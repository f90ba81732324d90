/- Layer 14: the reference's plain and Check. -/
import Derived.Test.YtjceeengnnjipaaH14b
namespace Go.Proofs.Ytjceeengnnjipaa.PAll
open Go.RowKit Go.Proofs.Ytjceeengnnjipaa.Kit Go.Proofs.Ytjceeengnnjipaa.L13 Go.Proofs.YtjceeengnnjipaaW.PrintWords
set_option linter.unusedVariables false
set_option linter.unusedSimpArgs false
attribute [local go_sem] allocCell allocFrozen setFar setFrozen allocAny allocAdd
attribute [local go_sem ↓] Go.wp_at_zero Go.wp_at_succ

def bE : ByteArray := ⟨#[]⟩
def colEq (a : ByteArray) (k : Int) (b : Bool) (a' : ByteArray) (k' : Int) (b' : Bool) : Bool := (a.toList == a'.toList) && ((k == k') && (b == b'))
def valEq (a b : Int) (c : ByteArray) (a' b' : Int) (c' : ByteArray) : Bool := (a == a') && ((b == b') && (c.toList == c'.toList))
def chgEq (k : Int) (nm nt cn : ByteArray) (ck : Int) (cb : Bool) (dk dn : Int) (dt : ByteArray) (k' : Int) (nm' nt' cn' : ByteArray) (ck' : Int) (cb' : Bool) (dk' dn' : Int) (dt' : ByteArray) : Bool :=
  (k == k') && ((nm.toList == nm'.toList) && ((nt.toList == nt'.toList) && (colEq cn ck cb cn' ck' cb' && valEq dk dn dt dk' dn' dt')))
theorem eqCol (d : Nat) (w : World) (a a' : ByteArray) (k k' : Int) (b b' : Bool) :
    (Op.equalIn (d + 2) 29 (.agg #[.string a, .int .i64 k, .bool b]) (.agg #[.string a', .int .i64 k', .bool b'])).run Try.prog w = .ok (colEq a k b a' k' b') w := by
  refine eqA_of Try.underlying29 (by kernel_rfl) ?_
  refine eqf_cons (by rfl) (by go_simp; rfl) (by go_simp; rfl) (by go_simp) ?_
  refine eqf_cons (by rfl) (by go_simp; rfl) (by go_simp; rfl) (by go_simp) ?_
  exact eqf_last (by rfl) (by go_simp; rfl) (by go_simp; rfl) (by go_simp)
theorem eqVal (d : Nat) (w : World) (a a' b b' : Int) (c c' : ByteArray) :
    (Op.equalIn (d + 2) 31 (.agg #[.int .i64 a, .int .i64 b, .string c]) (.agg #[.int .i64 a', .int .i64 b', .string c'])).run Try.prog w = .ok (valEq a b c a' b' c') w := by
  refine eqA_of Try.underlying31 (by kernel_rfl) ?_
  refine eqf_cons (by rfl) (by go_simp; rfl) (by go_simp; rfl) (by go_simp) ?_
  refine eqf_cons (by rfl) (by go_simp; rfl) (by go_simp; rfl) (by go_simp) ?_
  exact eqf_last (by rfl) (by go_simp; rfl) (by go_simp; rfl) (by go_simp)
set_option maxRecDepth 20000 in
theorem eqChg (d : Nat) (w : World) (k : Int) (nm nt cn : ByteArray) (ck : Int) (cb : Bool) (dk dn : Int) (dt : ByteArray) (k' : Int) (nm' nt' cn' : ByteArray) (ck' : Int) (cb' : Bool) (dk' dn' : Int) (dt' : ByteArray) :
    (Op.equalIn (d + 3) 33 (.agg #[.int .i64 k, .string nm, .string nt, .string cn, .int .i64 ck, .bool cb, .int .i64 dk, .int .i64 dn, .string dt]) (.agg #[.int .i64 k', .string nm', .string nt', .string cn', .int .i64 ck', .bool cb', .int .i64 dk', .int .i64 dn', .string dt'])).run Try.prog w = .ok (chgEq k nm nt cn ck cb dk dn dt k' nm' nt' cn' ck' cb' dk' dn' dt') w := by
  refine eqA_of Try.underlying33 (by kernel_rfl) ?_
  refine eqf_cons (by rfl) (by go_simp; rfl) (by go_simp; rfl) (by go_simp) ?_
  refine eqf_cons (by rfl) (by go_simp; rfl) (by go_simp; rfl) (by go_simp) ?_
  refine eqf_cons (by rfl) (by go_simp; rfl) (by go_simp; rfl) (by go_simp) ?_
  refine eqf_cons (by rfl) (by go_simp) (by go_simp) (eqCol d _ _ _ _ _ _ _) ?_
  exact eqf_last (by rfl) (by go_simp) (by go_simp) (eqVal d _ _ _ _ _ _ _)
attribute [local go_sem high] eqChg
set_option maxRecDepth 20000 in
set_option maxHeartbeats 2000000 in
theorem plain_calls (k : Int) (nm nt cn : ByteArray) (ck : Int) (cb : Bool) (dk dn : Int) (dt : ByteArray) (w : World) :
    Calls Try.prog 21 #[.agg #[.int .i64 k, .string nm, .string nt, .string cn, .int .i64 ck, .bool cb, .int .i64 dk, .int .i64 dn, .string dt]] w fun e w' => e = .returned (.agg #[.int .i64 k, .string (if k = 1 then bE else nm), .string (if k = 3 then nt else bE), .string (if k = 1 then cn else bE), .int .i64 (if k = 1 then ck else 0), .bool (if k = 1 then cb else false), .int .i64 (if k = 1 then dk else 0), .int .i64 (if k = 1 then dn else 0), .string (if k = 1 then dt else bE)]) ∧ Below w.heap.size w w' := by
  have hu := Try.underlying33
  have hu1 := Try.underlying29
  have hu2 := Try.underlying31
  by_cases h1 : k = 1
  · subst h1
    go_enter Try.func21, Try.ntmps21
    go_wp2
    exact bodyPost_ret (v := .agg #[.int .i64 1, .string bE, .string bE, .string cn, .int .i64 ck, .bool cb, .int .i64 dk, .int .i64 dn, .string dt]) (by simp [results, Try.results21, go_sem, bE]) rfl ⟨by simp, Bel.out⟩
  · by_cases h3 : k = 3
    · subst h3
      go_enter Try.func21, Try.ntmps21
      go_wp2
      exact bodyPost_ret (v := .agg #[.int .i64 3, .string nm, .string nt, .string bE, .int .i64 0, .bool false, .int .i64 0, .int .i64 0, .string bE]) (by simp [results, Try.results21, go_sem, bE]) rfl ⟨by simp, Bel.out⟩
    · have b1 : (k == 1) = false := beq_eq_false_iff_ne.2 h1
      have b3 : (k == 3) = false := beq_eq_false_iff_ne.2 h3
      have H1 := Lib.hid h1; have H3 := Lib.hid h3
      clear h1 h3
      go_enter Try.func21, Try.ntmps21
      go_wp2
      exact bodyPost_ret (v := .agg #[.int .i64 k, .string nm, .string bE, .string bE, .int .i64 0, .bool false, .int .i64 0, .int .i64 0, .string bE]) (by simp [results, Try.results21, go_sem, bE]) rfl ⟨by simp [H1.out, H3.out], Bel.out⟩
theorem plain_spare (k : Int) (nm nt cn : ByteArray) (ck : Int) (cb : Bool) (dk dn : Int) (dt : ByteArray) : chgEq k nm nt cn ck cb dk dn dt k (if k = 1 then bE else nm) (if k = 3 then nt else bE) (if k = 1 then cn else bE) (if k = 1 then ck else 0) (if k = 1 then cb else false) (if k = 1 then dk else 0) (if k = 1 then dn else 0) (if k = 1 then dt else bE) = !spareS k nm nt cn ck cb dk dn dt := by
  have ez : bE.toList = [] := ByteArray.toList_mk []
  unfold chgEq spareS colEq valEq
  by_cases h1 : k = 1
  · subst h1; simp [ez, Bool.and_assoc]
  · by_cases h3 : k = 3
    · subst h3; simp [ez, Bool.and_assoc]
    · simp [h1, h3, ez, Bool.and_assoc]
theorem plain_some (k : Int) (nm nt cn : ByteArray) (ck : Int) (cb : Bool) (dk dn : Int) (dt : ByteArray) (w : World) :
    Calls Try.prog 21 #[.agg #[.int .i64 k, .string nm, .string nt, .string cn, .int .i64 ck, .bool cb, .int .i64 dk, .int .i64 dn, .string dt]] w fun e w' => ∃ (k' : Int) (nm' nt' cn' : ByteArray) (ck' : Int) (cb' : Bool) (dk' dn' : Int) (dt' : ByteArray), e = .returned (.agg #[.int .i64 k', .string nm', .string nt', .string cn', .int .i64 ck', .bool cb', .int .i64 dk', .int .i64 dn', .string dt']) ∧ chgEq k nm nt cn ck cb dk dn dt k' nm' nt' cn' ck' cb' dk' dn' dt' = (!spareS k nm nt cn ck cb dk dn dt) ∧ Below w.heap.size w w' :=
  (plain_calls k nm nt cn ck cb dk dn dt w).mono fun e w' ⟨he, hb⟩ => ⟨_, _, _, _, _, _, _, _, _, he, plain_spare k nm nt cn ck cb dk dn dt, hb⟩
theorem blk9C {w : World} {g : Nat} {a b c d e f h i j : Value} {t : TypeId} (k : Blk w g (.cells #[a, b, c, d, e, f, h, i, j] t (0, 0))) : w.cell? ⟨g, 0, none⟩ = some a ∧ w.cell? ⟨g, 1, none⟩ = some b ∧ w.cell? ⟨g, 2, none⟩ = some c ∧ w.cell? ⟨g, 3, none⟩ = some d ∧ w.cell? ⟨g, 4, none⟩ = some e ∧ w.cell? ⟨g, 5, none⟩ = some f ∧ w.cell? ⟨g, 6, none⟩ = some h ∧ w.cell? ⟨g, 7, none⟩ = some i ∧ w.cell? ⟨g, 8, none⟩ = some j :=
  ⟨(blk_cell k.out 0).trans rfl, (blk_cell k.out 1).trans rfl, (blk_cell k.out 2).trans rfl, (blk_cell k.out 3).trans rfl, (blk_cell k.out 4).trans rfl, (blk_cell k.out 5).trans rfl, (blk_cell k.out 6).trans rfl, (blk_cell k.out 7).trans rfl, (blk_cell k.out 8).trans rfl⟩
def evTree (te k : Int) (sp : Bool) (ae fi : Int) (no : Bool) (fj : Int) (ub : Bool) (c2 : Int) : Int :=
  if te = 0 then (if k < 1 ∨ k > 4 then 7 else if sp = true then 8 else if k = 1 then ae else if fi < 0 then 11 else if k = 3 then (if no = true then (if fj ≥ 0 then 10 else 0) else 1) else if ub = true then 25 else if k = 4 then (if c2 = 2 then 7 else 0) else 0) else te
section
variable {te k : Int} {sp : Bool} {ae fi : Int} {no : Bool} {fj : Int} {ub : Bool} {c2 : Int}
theorem et_sp (h0 : (te != 0) = false) (h1 : 1 ≤ k) (h2 : k ≤ 4) (hs : (!!sp) = true) : 8 = evTree te k sp ae fi no fj ub c2 := by
  unfold evTree; rw [if_pos (by simpa using h0), if_neg (by omega), if_pos (by simpa using hs)]
theorem et_add (h0 : (te != 0) = false) (h1 : 1 ≤ k) (h2 : k ≤ 4) (hs : (!!sp) = false) (hk : (k == 1) = true) : ae = evTree te k sp ae fi no fj ub c2 := by
  unfold evTree; rw [if_pos (by simpa using h0), if_neg (by omega), if_neg (by simpa using hs), if_pos (by simpa using hk)]
theorem et_none (h0 : (te != 0) = false) (h1 : 1 ≤ k) (h2 : k ≤ 4) (hs : (!!sp) = false) (hk : (k == 1) = false) (hf : fi < 0) : 11 = evTree te k sp ae fi no fj ub c2 := by
  unfold evTree; rw [if_pos (by simpa using h0), if_neg (by omega), if_neg (by simpa using hs), if_neg (by simpa using hk), if_pos hf]
theorem et_syn (h0 : (te != 0) = false) (h1 : 1 ≤ k) (h2 : k ≤ 4) (hs : (!!sp) = false) (hk : (k == 1) = false) (hf : 0 ≤ fi) (h3 : (k == 3) = true) (hn : (!no) = true) : 1 = evTree te k sp ae fi no fj ub c2 := by
  unfold evTree; rw [if_pos (by simpa using h0), if_neg (by omega), if_neg (by simpa using hs), if_neg (by simpa using hk), if_neg (by omega), if_pos (by simpa using h3), if_neg (by simpa using hn)]
theorem et_dup (h0 : (te != 0) = false) (h1 : 1 ≤ k) (h2 : k ≤ 4) (hs : (!!sp) = false) (hk : (k == 1) = false) (hf : 0 ≤ fi) (h3 : (k == 3) = true) (hn : (!no) = false) (hj : 0 ≤ fj) : 10 = evTree te k sp ae fi no fj ub c2 := by
  unfold evTree; rw [if_pos (by simpa using h0), if_neg (by omega), if_neg (by simpa using hs), if_neg (by simpa using hk), if_neg (by omega), if_pos (by simpa using h3), if_pos (by simpa using hn), if_pos (by omega)]
theorem et_ren (h0 : (te != 0) = false) (h1 : 1 ≤ k) (h2 : k ≤ 4) (hs : (!!sp) = false) (hk : (k == 1) = false) (hf : 0 ≤ fi) (h3 : (k == 3) = true) (hn : (!no) = false) (hj : fj < 0) : 0 = evTree te k sp ae fi no fj ub c2 := by
  unfold evTree; rw [if_pos (by simpa using h0), if_neg (by omega), if_neg (by simpa using hs), if_neg (by simpa using hk), if_neg (by omega), if_pos (by simpa using h3), if_pos (by simpa using hn), if_neg (by omega)]
theorem et_used (h0 : (te != 0) = false) (h1 : 1 ≤ k) (h2 : k ≤ 4) (hs : (!!sp) = false) (hk : (k == 1) = false) (hf : 0 ≤ fi) (h3 : (k == 3) = false) (hu : ub = true) : 25 = evTree te k sp ae fi no fj ub c2 := by
  unfold evTree; rw [if_pos (by simpa using h0), if_neg (by omega), if_neg (by simpa using hs), if_neg (by simpa using hk), if_neg (by omega), if_neg (by simpa using h3), if_pos hu]
theorem et_text (h0 : (te != 0) = false) (h1 : 1 ≤ k) (h2 : k ≤ 4) (hs : (!!sp) = false) (hk : (k == 1) = false) (hf : 0 ≤ fi) (h3 : (k == 3) = false) (hu : ub = false) (h4 : k = 4) (hc : c2 = 2) : 7 = evTree te k sp ae fi no fj ub c2 := by
  unfold evTree; rw [if_pos (by simpa using h0), if_neg (by omega), if_neg (by simpa using hs), if_neg (by simpa using hk), if_neg (by omega), if_neg (by simpa using h3), if_neg (by rw [hu]; decide), if_pos h4, if_pos hc]
theorem et_ok (h0 : (te != 0) = false) (h1 : 1 ≤ k) (h2 : k ≤ 4) (hs : (!!sp) = false) (hk : (k == 1) = false) (hf : 0 ≤ fi) (h3 : (k == 3) = false) (hu : ub = false) (h4 : ¬ (k = 4 ∧ c2 = 2)) : 0 = evTree te k sp ae fi no fj ub c2 := by
  unfold evTree; rw [if_pos (by simpa using h0), if_neg (by omega), if_neg (by simpa using hs), if_neg (by simpa using hk), if_neg (by omega), if_neg (by simpa using h3), if_neg (by rw [hu]; decide)]
  by_cases e : k = 4
  · rw [if_pos e, if_neg (fun g => h4 ⟨e, g⟩)]
  · rw [if_neg e]
end
set_option maxRecDepth 20000 in
set_option maxHeartbeats 8000000 in
theorem rev_calls (tn : ByteArray) (A1 : Option Addr) (c1 : Nat) (cols : List Cl) (A2 : Option Addr) (c2 : Nat) (key : List Int) (A3 : Option Addr) (c3 : Nat) (fg : List Fg) (A4 : Option Addr) (c4 : Nat) (ch : List Ex) (k : Int) (nm nt cn : ByteArray) (ck : Int) (cb : Bool) (dk dn : Int) (dt : ByteArray) (w : World) (h : Tc w A1 c1 cols A2 c2 key A3 c3 fg A4 c4 ch) (hF : Fits cols key fg ch) :
    Calls Try.prog 8 #[.agg #[.string tn, .slice A1 cols.length c1, .slice A2 key.length c2, .slice A3 fg.length c3, .slice A4 ch.length c4], .agg #[.int .i64 k, .string nm, .string nt, .string cn, .int .i64 ck, .bool cb, .int .i64 dk, .int .i64 dn, .string dt]] w fun e w' => e = .returned (.int .i64 (evErr tn cols key fg ch k nm nt cn ck cb dk dn dt)) ∧ Below w.heap.size w w' := by
  have hu := Try.underlying27
  have hu1 := Try.underlying33
  have hu2 := Try.underlying29
  have hu3 := Try.underlying31
  have hm1 := h.r1.2.1
  obtain ⟨te, hte⟩ : ∃ x, tblErr tn cols key fg ch = x := ⟨_, rfl⟩
  obtain ⟨sp, hsp⟩ : ∃ x, spareS k nm nt cn ck cb dk dn dt = x := ⟨_, rfl⟩
  obtain ⟨ae, hae⟩ : ∃ x, addErr cols cn ck cb dk dn dt = x := ⟨_, rfl⟩
  obtain ⟨fi, hfi⟩ : ∃ x, findIx cols nm = x := ⟨_, rfl⟩
  obtain ⟨no, hno⟩ : ∃ x, nameOk nt = x := ⟨_, rfl⟩
  obtain ⟨fj, hfj⟩ : ∃ x, findIx cols nt = x := ⟨_, rfl⟩
  obtain ⟨ub, hub⟩ : ∃ x, usedV key fg ch fi = x := ⟨_, rfl⟩
  have hfl := findIx_lt cols nm
  have HR := Lib.hid (show evErr tn cols key fg ch k nm nt cn ck cb dk dn dt = evTree te k sp ae fi no fj ub (rd_T29 cols fi).f1 by unfold evErr evTree; rw [hte, hsp, hae, hfi, hno, hfj, ← usedV_eq, hub])
  rw [hfi] at hfl
  have HTE := Lib.hid hte; have HSP := Lib.hid hsp; have HAE := Lib.hid hae; have HFI := Lib.hid hfi; have HNO := Lib.hid hno; have HFJ := Lib.hid hfj; have HUB := Lib.hid hub
  have HPL := Lib.hid (plain_spare k nm nt cn ck cb dk dn dt)
  have HF := Lib.hid hF
  clear hte hsp hae hfi hno hfj hub hF
  by_cases hneg : fi < 0
  · go_enter Try.func8, Try.ntmps8
    go_wp2_with (go_at_call 12; (with_reducible refine (rtbl_calls _ _ _ cols _ _ key _ _ fg _ _ ch _ ?g1 HF.out).mono ?_); (case g1 => exact h.up); rintro e w1 ⟨rfl, hb⟩; rw [HTE.out]; have hs1 := Step.of hb; clear hb; have hc1 := hs1.cell)
    · go_ret
      exact ⟨ret_int (by rw [HR.out, evTree]; simp_all), Bel.out⟩
    · go_ret
      exact ⟨ret_int (by rw [HR.out, evTree, if_pos (by simpa using (by assumption : (te != 0) = false)), if_pos (by omega)]), Bel.out⟩
    · have i0 : Bel w w1 := inferInstance
      have i1 : Blk w1 w.heap.size (.cells #[.string tn, .slice A1 cols.length c1, .slice A2 key.length c2, .slice A3 fg.length c3, .slice A4 ch.length c4] 27) := inferInstance
      have i2 : Blk w1 (w.heap.size + 1) (.cells #[.int .i64 k, .string nm, .string nt, .string cn, .int .i64 ck, .bool cb, .int .i64 dk, .int .i64 dn, .string dt] 33) := inferInstance
      clear hc1 hs1
      obtain ⟨t0, t1, t2, t3, t4⟩ := blk5T i1
      obtain ⟨u0, u1, u2, u3, u4, u5, u6, u7, u8⟩ := blk9C i2
      refine wp_region_held_drew (S := (fun w' => Bel w1 w' ∧ (∀ (b o : Nat) [InHeap w1 b], w'.cell? ⟨b, o, none⟩ = w1.cell? ⟨b, o, none⟩) ∧ (∀ (a : Addr) (k : Nat) [InHeap w1 a.block], w'.cell? (a.add k) = w1.cell? (a.add k)) ∧ (∀ (a : Addr) [InHeap w1 a.block], w'.cell? a = w1.cell? a))) (by kernel_rfl) ?_ (fun hHeld => ?_)
      · exact keepC
      first | (refine takeN (i := 0) (N := (some 20)) (v := ?_) rfl rfl (by kernel_rfl) (by kernel_rfl) (by kernel_rfl) (fun _ _ _ h => h) (Or.inl ⟨by rfl, ?_⟩) (by assumption) ?_; rotate_left; focus ((intro w hSw; (try dsimp only at hSw); go_simp); (try with_reducible rfl))) | (refine takeN (i := 0) (N := (some 20)) (v := undef) rfl rfl (by kernel_rfl) (by kernel_rfl) (by kernel_rfl) (fun _ _ _ h => h) (Or.inr ⟨by rfl, rfl⟩) (by assumption) ?_)
      try simp only [Act.put, List.setIfInBounds_toArray, List.set_cons_zero, List.set_cons_succ]
      first | (refine takeN (i := 1) (N := (some 21)) (v := ?_) rfl rfl (by kernel_rfl) (by kernel_rfl) (by kernel_rfl) (fun _ _ _ h => h) (Or.inl ⟨by rfl, ?_⟩) (by assumption) ?_; rotate_left; focus ((intro w hSw; (try dsimp only at hSw); go_simp); (try with_reducible rfl))) | (refine takeN (i := 1) (N := (some 21)) (v := undef) rfl rfl (by kernel_rfl) (by kernel_rfl) (by kernel_rfl) (fun _ _ _ h => h) (Or.inr ⟨by rfl, rfl⟩) (by assumption) ?_)
      try simp only [Act.put, List.setIfInBounds_toArray, List.set_cons_zero, List.set_cons_succ]
      refine wpAnyH_ready (rs := [2]) (by kernel_rfl) (by simp) ?_
      refine AllReadyH.cons rfl (fun K hK => ?_) AllReadyH.nil
      go_simp
      (go_at_call 21; (with_reducible refine (plain_some _ _ _ _ _ _ _ _ _ _).mono ?_); rintro e w2 ⟨k', nm', nt', cn', ck', cb', dk', dn', dt', rfl, hq, hb⟩; rw [HSP.out] at hq; have HQ := Lib.hid hq; have hs2 := Step.of hb; clear hb hq)
      clear hHeld
      refine hK.out _ _ ?_ (fun hHeld => ?_)
      · (try dsimp only); exact keepC
      try simp only [Act.put, List.setIfInBounds_toArray, List.set_cons_zero, List.set_cons_succ]
      first | (refine takeN (i := 3) (N := (some 23)) (v := ?_) rfl rfl (by kernel_rfl) (by kernel_rfl) (by kernel_rfl) (fun _ _ _ h => h) (Or.inl ⟨by rfl, ?_⟩) (by assumption) ?_; rotate_left; focus ((intro w hSw; (try dsimp only at hSw); go_simp); (try with_reducible rfl))) | (refine takeN (i := 3) (N := (some 23)) (v := undef) rfl rfl (by kernel_rfl) (by kernel_rfl) (by kernel_rfl) (fun _ _ _ h => h) (Or.inr ⟨by rfl, rfl⟩) (by assumption) ?_)
      try simp only [Act.put, List.setIfInBounds_toArray, List.set_cons_zero, List.set_cons_succ]
      refine wpAnyH_done (by kernel_rfl) ?_ _
      rw [HQ.out]
      clear hHeld t0 t1 t2 t3 t4 u0 u1 u2 u3 u4 u5 u6 u7 u8
      have i3 : Blk w2 w.heap.size (.cells #[.string tn, .slice A1 cols.length c1, .slice A2 key.length c2, .slice A3 fg.length c3, .slice A4 ch.length c4] 27) := inferInstance
      have i4 : Blk w2 (w.heap.size + 1) (.cells #[.int .i64 k, .string nm, .string nt, .string cn, .int .i64 ck, .bool cb, .int .i64 dk, .int .i64 dn, .string dt] 33) := inferInstance
      obtain ⟨t0, t1, t2, t3, t4⟩ := blk5T i3
      obtain ⟨u0, u1, u2, u3, u4, u5, u6, u7, u8⟩ := blk9C i4
      go_wp2_with (first
        | (go_at_call 22; (with_reducible refine (radd_calls _ _ _ cols _ _ key _ _ fg _ _ ch _ _ _ _ _ _ _ _ _ _ ?g1).mono ?_); (case g1 => exact h.up); rintro e w3 ⟨rfl, hb⟩; rw [HAE.out]; have hs3 := Step.of hb; clear hb; have hc3 := hs3.cell; have hd3 := hs3.add)
        | (go_at_call 23; (with_reducible refine (rfind_calls _ _ _ cols _ _ key _ _ fg _ _ ch nm _ ?g1).mono ?_); (case g1 => exact h.up); rintro e w4 ⟨rfl, hb⟩; rw [HFI.out]; have hs4 := Step.of hb; clear hb; have hc4 := hs4.cell; have hd4 := hs4.add)
        | (go_at_call 23; (with_reducible refine (rfind_calls _ _ _ cols _ _ key _ _ fg _ _ ch nt _ ?g1).mono ?_); (case g1 => exact h.up); rintro e w5 ⟨rfl, hb⟩; rw [HFJ.out]; have hs5 := Step.of hb; clear hb; have hc5 := hs5.cell; have hd5 := hs5.add)
        | (go_at_call 24; (with_reducible refine (rname_calls _ _).mono ?_); rintro e w6 ⟨rfl, hb⟩; rw [HNO.out]; have hs6 := Step.of hb; clear hb; have hc6 := hs6.cell; have hd6 := hs6.add)
        | (go_at_call 25; (with_reducible refine (rused_calls _ _ _ cols _ _ key _ _ fg _ _ ch _ _ ?g1 HF.out.hnodes).mono ?_); (case g1 => exact h.up); rintro e w7 ⟨rfl, hb⟩; rw [HUB.out]; have hs7 := Step.of hb; clear hb; have hc7 := hs7.cell; have hd7 := hs7.add))
      all_goals
        go_ret
        refine ⟨ret_int ?_, Bel.out⟩
        rw [HR.out]
        first
          | exact et_sp (by assumption) (by omega) (by omega) (by assumption)
          | exact et_add (by assumption) (by omega) (by omega) (by assumption) (by assumption)
          | exact et_none (by assumption) (by omega) (by omega) (by assumption) (by assumption) (by assumption)
          | exact et_syn (by assumption) (by omega) (by omega) (by assumption) (by assumption) (by omega) (by assumption) (by assumption)
          | exact et_dup (by assumption) (by omega) (by omega) (by assumption) (by assumption) (by omega) (by assumption) (by assumption) (by omega)
          | exact et_ren (by assumption) (by omega) (by omega) (by assumption) (by assumption) (by omega) (by assumption) (by assumption) (by omega)
          | exact et_used (by assumption) (by omega) (by omega) (by assumption) (by assumption) (by omega) (by assumption) (by assumption)
          | exact et_text (by assumption) (by omega) (by omega) (by assumption) (by assumption) (by omega) (by assumption) (by assumption) (by simp_all) (by simp_all)
          | exact et_ok (by assumption) (by omega) (by omega) (by assumption) (by assumption) (by omega) (by assumption) (by assumption) (by simp_all)
    · go_ret
      exact ⟨ret_int (by rw [HR.out, evTree, if_pos (by simpa using (by assumption : (te != 0) = false)), if_pos (by omega)]), Bel.out⟩
  · obtain ⟨m, rfl⟩ : ∃ m : Nat, fi = m := ⟨fi.toNat, by omega⟩
    have hml : m < cols.length := by have := hfl (by omega); omega
    obtain ⟨ad0, e0, hw0⟩ := col_at h.r1 (belRefl w) m hml
    clear hw0
    subst e0
    have HR := Lib.hid (HR.out.trans (by rw [rdC_at hml]) : evErr tn cols key fg ch k nm nt cn ck cb dk dn dt = evTree te k sp ae m no fj ub cols[m].f1)
    go_enter Try.func8, Try.ntmps8
    go_wp2_with (go_at_call 12; (with_reducible refine (rtbl_calls _ _ _ cols _ _ key _ _ fg _ _ ch _ ?g1 HF.out).mono ?_); (case g1 => exact h.up); rintro e w1 ⟨rfl, hb⟩; rw [HTE.out]; have hs1 := Step.of hb; clear hb; have hc1 := hs1.cell)
    · go_ret
      exact ⟨ret_int (by rw [HR.out, evTree]; simp_all), Bel.out⟩
    · go_ret
      exact ⟨ret_int (by rw [HR.out, evTree, if_pos (by simpa using (by assumption : (te != 0) = false)), if_pos (by omega)]), Bel.out⟩
    · have i0 : Bel w w1 := inferInstance
      have i1 : Blk w1 w.heap.size (.cells #[.string tn, .slice (some ad0) cols.length c1, .slice A2 key.length c2, .slice A3 fg.length c3, .slice A4 ch.length c4] 27) := inferInstance
      have i2 : Blk w1 (w.heap.size + 1) (.cells #[.int .i64 k, .string nm, .string nt, .string cn, .int .i64 ck, .bool cb, .int .i64 dk, .int .i64 dn, .string dt] 33) := inferInstance
      clear hc1 hs1
      obtain ⟨t0, t1, t2, t3, t4⟩ := blk5T i1
      obtain ⟨u0, u1, u2, u3, u4, u5, u6, u7, u8⟩ := blk9C i2
      refine wp_region_held_drew (S := (fun w' => Bel w1 w' ∧ (∀ (b o : Nat) [InHeap w1 b], w'.cell? ⟨b, o, none⟩ = w1.cell? ⟨b, o, none⟩) ∧ (∀ (a : Addr) (k : Nat) [InHeap w1 a.block], w'.cell? (a.add k) = w1.cell? (a.add k)) ∧ (∀ (a : Addr) [InHeap w1 a.block], w'.cell? a = w1.cell? a))) (by kernel_rfl) ?_ (fun hHeld => ?_)
      · exact keepC
      first | (refine takeN (i := 0) (N := (some 20)) (v := ?_) rfl rfl (by kernel_rfl) (by kernel_rfl) (by kernel_rfl) (fun _ _ _ h => h) (Or.inl ⟨by rfl, ?_⟩) (by assumption) ?_; rotate_left; focus ((intro w hSw; (try dsimp only at hSw); go_simp); (try with_reducible rfl))) | (refine takeN (i := 0) (N := (some 20)) (v := undef) rfl rfl (by kernel_rfl) (by kernel_rfl) (by kernel_rfl) (fun _ _ _ h => h) (Or.inr ⟨by rfl, rfl⟩) (by assumption) ?_)
      try simp only [Act.put, List.setIfInBounds_toArray, List.set_cons_zero, List.set_cons_succ]
      first | (refine takeN (i := 1) (N := (some 21)) (v := ?_) rfl rfl (by kernel_rfl) (by kernel_rfl) (by kernel_rfl) (fun _ _ _ h => h) (Or.inl ⟨by rfl, ?_⟩) (by assumption) ?_; rotate_left; focus ((intro w hSw; (try dsimp only at hSw); go_simp); (try with_reducible rfl))) | (refine takeN (i := 1) (N := (some 21)) (v := undef) rfl rfl (by kernel_rfl) (by kernel_rfl) (by kernel_rfl) (fun _ _ _ h => h) (Or.inr ⟨by rfl, rfl⟩) (by assumption) ?_)
      try simp only [Act.put, List.setIfInBounds_toArray, List.set_cons_zero, List.set_cons_succ]
      refine wpAnyH_ready (rs := [2]) (by kernel_rfl) (by simp) ?_
      refine AllReadyH.cons rfl (fun K hK => ?_) AllReadyH.nil
      go_simp
      (go_at_call 21; (with_reducible refine (plain_some _ _ _ _ _ _ _ _ _ _).mono ?_); rintro e w2 ⟨k', nm', nt', cn', ck', cb', dk', dn', dt', rfl, hq, hb⟩; rw [HSP.out] at hq; have HQ := Lib.hid hq; have hs2 := Step.of hb; clear hb hq)
      clear hHeld
      refine hK.out _ _ ?_ (fun hHeld => ?_)
      · (try dsimp only); exact keepC
      try simp only [Act.put, List.setIfInBounds_toArray, List.set_cons_zero, List.set_cons_succ]
      first | (refine takeN (i := 3) (N := (some 23)) (v := ?_) rfl rfl (by kernel_rfl) (by kernel_rfl) (by kernel_rfl) (fun _ _ _ h => h) (Or.inl ⟨by rfl, ?_⟩) (by assumption) ?_; rotate_left; focus ((intro w hSw; (try dsimp only at hSw); go_simp); (try with_reducible rfl))) | (refine takeN (i := 3) (N := (some 23)) (v := undef) rfl rfl (by kernel_rfl) (by kernel_rfl) (by kernel_rfl) (fun _ _ _ h => h) (Or.inr ⟨by rfl, rfl⟩) (by assumption) ?_)
      try simp only [Act.put, List.setIfInBounds_toArray, List.set_cons_zero, List.set_cons_succ]
      refine wpAnyH_done (by kernel_rfl) ?_ _
      rw [HQ.out]
      clear hHeld t0 t1 t2 t3 t4 u0 u1 u2 u3 u4 u5 u6 u7 u8
      have i3 : Blk w2 w.heap.size (.cells #[.string tn, .slice (some ad0) cols.length c1, .slice A2 key.length c2, .slice A3 fg.length c3, .slice A4 ch.length c4] 27) := inferInstance
      have i4 : Blk w2 (w.heap.size + 1) (.cells #[.int .i64 k, .string nm, .string nt, .string cn, .int .i64 ck, .bool cb, .int .i64 dk, .int .i64 dn, .string dt] 33) := inferInstance
      obtain ⟨t0, t1, t2, t3, t4⟩ := blk5T i3
      obtain ⟨u0, u1, u2, u3, u4, u5, u6, u7, u8⟩ := blk9C i4
      obtain ⟨ad, e, hi, y0, y1, y2⟩ := col_at h.r1 (inferInstance : Bel w w2) m hml
      injection e with e
      subst e
      go_wp2_with (first
        | (go_at_call 22; (with_reducible refine (radd_calls _ _ _ cols _ _ key _ _ fg _ _ ch _ _ _ _ _ _ _ _ _ _ ?g1).mono ?_); (case g1 => exact h.up); rintro e w3 ⟨rfl, hb⟩; rw [HAE.out]; have hs3 := Step.of hb; clear hb; have hc3 := hs3.cell; have hd3 := hs3.add)
        | (go_at_call 23; (with_reducible refine (rfind_calls _ _ _ cols _ _ key _ _ fg _ _ ch nm _ ?g1).mono ?_); (case g1 => exact h.up); rintro e w4 ⟨rfl, hb⟩; rw [HFI.out]; have hs4 := Step.of hb; clear hb; have hc4 := hs4.cell; have hd4 := hs4.add)
        | (go_at_call 23; (with_reducible refine (rfind_calls _ _ _ cols _ _ key _ _ fg _ _ ch nt _ ?g1).mono ?_); (case g1 => exact h.up); rintro e w5 ⟨rfl, hb⟩; rw [HFJ.out]; have hs5 := Step.of hb; clear hb; have hc5 := hs5.cell; have hd5 := hs5.add)
        | (go_at_call 24; (with_reducible refine (rname_calls _ _).mono ?_); rintro e w6 ⟨rfl, hb⟩; rw [HNO.out]; have hs6 := Step.of hb; clear hb; have hc6 := hs6.cell; have hd6 := hs6.add)
        | (go_at_call 25; (with_reducible refine (rused_calls _ _ _ cols _ _ key _ _ fg _ _ ch _ _ ?g1 HF.out.hnodes).mono ?_); (case g1 => exact h.up); rintro e w7 ⟨rfl, hb⟩; rw [HUB.out]; have hs7 := Step.of hb; clear hb; have hc7 := hs7.cell; have hd7 := hs7.add))
      all_goals
        go_ret
        refine ⟨ret_int ?_, Bel.out⟩
        rw [HR.out]
        first
          | exact et_sp (by assumption) (by omega) (by omega) (by assumption)
          | exact et_add (by assumption) (by omega) (by omega) (by assumption) (by assumption)
          | exact et_none (by assumption) (by omega) (by omega) (by assumption) (by assumption) (by assumption)
          | exact et_syn (by assumption) (by omega) (by omega) (by assumption) (by assumption) (by omega) (by assumption) (by assumption)
          | exact et_dup (by assumption) (by omega) (by omega) (by assumption) (by assumption) (by omega) (by assumption) (by assumption) (by omega)
          | exact et_ren (by assumption) (by omega) (by omega) (by assumption) (by assumption) (by omega) (by assumption) (by assumption) (by omega)
          | exact et_used (by assumption) (by omega) (by omega) (by assumption) (by assumption) (by omega) (by assumption) (by assumption)
          | exact et_text (by assumption) (by omega) (by omega) (by assumption) (by assumption) (by omega) (by assumption) (by assumption) (by simp_all) (by simp_all)
          | exact et_ok (by assumption) (by omega) (by omega) (by assumption) (by assumption) (by omega) (by assumption) (by assumption) (by simp_all)
    · go_ret
      exact ⟨ret_int (by rw [HR.out, evTree, if_pos (by simpa using (by assumption : (te != 0) = false)), if_pos (by omega)]), Bel.out⟩
end Go.Proofs.Ytjceeengnnjipaa.PAll
