/- evolve.Apply of a table without foreign keys and checks: a column is added, a column is dropped. -/
import Derived.Test.YtjceeengnnjipaaAwd
import Derived.Test.YtjceeengnnjipaaGiv9
namespace Go.Proofs.Ytjceeengnnjipaa.PAll
open Go.RowKit Go.Proofs.Ytjceeengnnjipaa.Kit Go.Proofs.Ytjceeengnnjipaa.L13 Go.Proofs.YtjceeengnnjipaaW.PrintWords
set_option linter.unusedVariables false
attribute [local go_sem] allocCell allocFrozen setFar setFrozen allocAny
attribute [local go_sem ↓] Go.wp_at_zero Go.wp_at_succ

theorem ret_cell2 {P : Program} {fn : Func} {R : Ending → World → Prop} {a : Act} {w : World} {g p q : Nat} {ty t : TypeId} {cs cs' : Array Value} {v : Value} {d : TypeDesc} (h : fn.results = #[.cell p ty, .tmp q]) (hp : a.tmps.getD p undef = .pointer (some ⟨g, 0, none⟩)) (hq : a.tmps.getD q undef = v) (hb : w.heap[g]? = some (.cells cs t (0, 0))) (he : cs = cs')
    (hu : P.underlying ty = some d) (hd : (match d with | .struct _ | .array _ _ => true | _ => false) = true) (hi : (P.info? ty).map (·.size) = some cs'.size) (hdf : a.defers = []) (hR : R (.returned (.tuple #[.agg cs', v])) w) : bodyPost P fn R .ret a w := by
  subst he
  refine bodyPost_ret ?_ hdf hR
  have hp' : a.tmps[p]?.getD undef = .pointer (some ⟨g, 0, none⟩) := by simpa using hp
  have hq' : a.tmps[q]?.getD undef = v := by simpa using hq
  simp [results, h, hp', hq', asAddr, run_loadVar_row w g t ty cs (0, 0) d hb hu hd hi]
theorem blk5 {w : World} {g : Nat} {a b c d e : Value} {t : TypeId} (h : Blk w g (.cells #[a, b, c, d, e] t (0, 0))) : (w.cell? ⟨g, 0, none⟩ = some a ∧ w.cell? ⟨g, 1, none⟩ = some b ∧ w.cell? ⟨g, 2, none⟩ = some c ∧ w.cell? ⟨g, 3, none⟩ = some d ∧ w.cell? ⟨g, 4, none⟩ = some e) ∧ ∀ i, w.frozen? ⟨g, i, none⟩ = false :=
  ⟨⟨(blk_cell h.out 0).trans rfl, (blk_cell h.out 1).trans rfl, (blk_cell h.out 2).trans rfl, (blk_cell h.out 3).trans rfl, (blk_cell h.out 4).trans rfl⟩, fun i => blk_frozen h.out i⟩
theorem Kd.R_some {α : Type} {d : Kd α} {e base n c : Nat} {ok : Nat → Prop} {W : World} {A : Option Addr} {xs : List α} (h : d.R e W base ok (.slice A n c) xs) (hn : 0 < n) : ∃ g, A = some ⟨g, 0, none⟩ := by
  obtain ⟨inner, ho⟩ := Kd.R_own h
  rcases ho.2 with ⟨hv, h0⟩ | ⟨g, cap, cur, hv, _⟩
  · injection hv with _ h1 _; omega
  · injection hv with ha _ _; exact ⟨g, ha⟩
theorem find_x (a0 : ByteArray) (A1 : Option Addr) (c1 : Nat) (cols : List Cl) (A2 : Option Addr) (n2 c2 : Nat) (A3 : Option Addr) (n3 c3 : Nat) (A4 : Option Addr) (n4 c4 : Nat) (nm : ByteArray) (w : World) (hr1 : Kd.C k29 w A1 cols.length cols) (hc1 : cols.length ≤ c1) {r : Int} (h : findIx cols nm = r) :
    Calls Try.prog 18 #[.agg #[.string a0, .slice A1 cols.length c1, .slice A2 n2 c2, .slice A3 n3 c3, .slice A4 n4 c4], .string nm] w fun e w' => e = .returned (.int .i64 r) ∧ Below w.heap.size w w' := by subst h; exact find_calls a0 A1 c1 cols A2 n2 c2 A3 n3 c3 A4 n4 c4 nm w hr1 hc1
section
variable (tn : ByteArray) (A1 : Option Addr) (c1 : Nat) (cols : List Cl) (A2 : Option Addr) (c2 : Nat) (key : List Int) (k : Int) (nm nt cn : ByteArray) (ck : Int) (cb : Bool) (dk dn : Int) (dt : ByteArray) (w : World)
theorem ev0_calls (hr1 : Kd.C k29 w A1 cols.length cols) (hc1 : cols.length ≤ c1) (hr2 : Kd.C (Kd.int .i64) w A2 key.length key) (hc2 : key.length ≤ c2) (hF : Fits cols key [] []) (r : Int) (h : evErr tn cols key [] [] k nm nt cn ck cb dk dn dt = r) :
    Calls Try.prog 7 #[.agg #[.string tn, .slice A1 cols.length c1, .slice A2 key.length c2, .slice none 0 0, .slice none 0 0], .agg #[.int .i64 k, .string nm, .string nt, .string cn, .int .i64 ck, .bool cb, .int .i64 dk, .int .i64 dn, .string dt]] w fun e w' => e = .returned (.int .i64 r) ∧ Below w.heap.size w w' := by
  subst h
  exact ev_calls tn A1 c1 cols A2 c2 key none 0 [] none 0 [] k nm nt cn ck cb dk dn dt w hr1 hc1 hr2 hc2 ⟨rfl, by simp, fun h => absurd h (Nat.lt_irrefl 0)⟩ (Nat.le_refl _) ⟨rfl, by simp, fun h => absurd h (Nat.lt_irrefl 0)⟩ (Nat.le_refl _) hF (by simp)
end
set_option maxRecDepth 20000 in
set_option maxHeartbeats 2000000 in
theorem apply_add (tn : ByteArray) (A1 : Option Addr) (c1 : Nat) (cols : List Cl) (A2 : Option Addr) (c2 : Nat) (key : List Int) (nm nt cn : ByteArray) (ck : Int) (cb : Bool) (dk dn : Int) (dt : ByteArray) (w : World) (hr1 : Kd.C k29 w A1 cols.length cols) (hc1 : cols.length ≤ c1) (hr2 : Kd.C (Kd.int .i64) w A2 key.length key) (hc2 : key.length ≤ c2) (hF : Fits cols key [] []) (hl : cols.length ≤ 12) (hl2 : key.length ≤ 12) (h : evErr tn cols key [] [] 1 nm nt cn ck cb dk dn dt = 0) :
    Calls Try.prog 10 #[.agg #[.string tn, .slice A1 cols.length c1, .slice A2 key.length c2, .slice none 0 0, .slice none 0 0], .agg #[.int .i64 1, .string nm, .string nt, .string cn, .int .i64 ck, .bool cb, .int .i64 dk, .int .i64 dn, .string dt]] w fun e w' => (∃ B1 d1 B2 d2, e = .returned (.tuple #[.agg #[.string tn, .slice B1 (cols.length + 1) d1, .slice B2 key.length d2, .slice none 0 0, .slice none 0 0], .int .i64 0])) ∧ Below w.heap.size w w' := by
  have HR1 := Lib.hid hr1; have HC1 := Lib.hid hc1; have HR2 := Lib.hid hr2; have HC2 := Lib.hid hc2; have HFT := Lib.hid hF; have HH := Lib.hid h
  clear hr1 hc1 hr2 hc2 hF h
  have hu := Try.underlying27
  have hu1 := Try.underlying33
  have hu2 := Try.underlying29
  have hu3 := Try.underlying22
  have i29 : (Try.prog.info? 29).map (fun i => (i.zero, i.size, i.bytes)) = some (some (.agg #[(.string ⟨#[]⟩), (.int .i64 0), (.bool false)]), 3, 32) := by kernel_rfl
  go_enter Try.func10, Try.ntmps10
  go_wp2_with (first
    | (go_at_call 7; (with_reducible refine (ev0_calls tn A1 c1 cols A2 c2 key 1 nm nt cn ck cb dk dn dt _ ?g1 HC1.out ?g2 HC2.out HFT.out _ HH.out).mono ?_); (case g1 => exact up HR1.out); (case g2 => exact up HR2.out); rintro e w1 ⟨rfl, hb⟩; have hs1 := Step.of hb; clear hb; have hc1 := hs1.cell; have hf1 := hs1.frozen)
    | (go_at_call 28; (with_reducible refine (clone0_calls tn A1 c1 cols A2 c2 key _ ?g1 HC1.out ?g3 ?g2 HC2.out ?g4).mono ?_); (case g1 => exact up HR1.out); (case g3 => omega); (case g2 => exact up HR2.out); (case g4 => omega); rintro e w2 ⟨B1, d1, B2, d2, rfl, hx1, hx2, hb⟩; have hs2 := Step.of hb; clear hb; have hc2 := hs2.cell; have hf2 := hs2.frozen; have y1 : Row k29 29 w2 _ _ _ := ⟨hx1⟩; have y2 : Row (Kd.int .i64) 3 w2 _ _ _ := ⟨hx2⟩; clear hx1 hx2)
    | (go_at_call 18; (with_reducible refine (find_calls _ _ _ cols _ _ _ _ _ _ _ _ _ _ _ ?g1 HC1.out).mono ?_); (case g1 => exact up HR1.out); rintro e w3 ⟨rfl, hb⟩; have hs3 := Step.of hb; clear hb; have hc3 := hs3.cell; have hf3 := hs3.frozen; have hz1 : Kd.R k29 29 w3 w.heap.size (fun _ => True) (.slice B1 cols.length d1) cols := Row.down)
    | (at_builtin; go_loud (refine Kd.R_append k29 (w0 := w) w.heap.size rfl (.tmp 27) (.tmp 30) 22 29 (.agg #[(.string ⟨#[]⟩), (.int .i64 0), (.bool false)]) 32 rfl hu3 i29 rfl (by decide) (by omega) (.slice B1 cols.length d1) cols ⟨cn, ck, cb⟩ [.string cn, .int .i64 ck, .bool cb] (fun _ => True) (fun _ => False) rfl (by first | rfl | simp [Act.eval]) (k29_mkM _ _ _ ⟨cn, ck, cb⟩) (fun _ h => h.elim) (fun _ _ => trivial) hz1 Bel.out (Bel.out (w := w)).size ?aL ?_); (case aL => omega); intro v1 w4 hv1 hb1 hg1 hat1; obtain ⟨A4, c4, rfl, _, _⟩ := Kd.R_reads hv1; have bz : Blk w4 (w.heap.size + 1 + 1) (.cells #[.string ⟨#[]⟩, .slice none 0 0, .slice none 0 0, .slice none 0 0, .slice none 0 0] 27) := ⟨blk_app Blk.out hz1 (by decide) hg1⟩; have bo : Blk w4 w2.heap.size (.cells #[.string tn, .slice B1 cols.length d1, .slice B2 key.length d2, .slice none 0 0, .slice none 0 0] 27) := ⟨blk_app Blk.out hz1 (by decide) hg1⟩; have bw : Bel w w4 := ⟨hb1⟩; obtain ⟨⟨z0, z1, z2, z3, z4⟩, zf⟩ := blk5 bz; obtain ⟨⟨o0, o1, o2, o3, o4⟩, of⟩ := blk5 bo; clear hv1 hb1 hg1 hat1 hz1))
  exact ret_cell2 (v := .int .i64 0) (cs' := #[.string tn, .slice A4 (cols.length + 1) c4, .slice B2 key.length d2, .slice none 0 0, .slice none 0 0]) rfl rfl rfl Blk.out rfl hu rfl (by kernel_rfl) rfl ⟨⟨A4, c4, B2, d2, rfl⟩, Bel.out⟩
set_option maxRecDepth 20000 in
set_option maxHeartbeats 2000000 in
theorem apply_drop (tn : ByteArray) (A1 : Option Addr) (c1 : Nat) (cols : List Cl) (A2 : Option Addr) (c2 : Nat) (key : List Int) (nm nt cn : ByteArray) (ck : Int) (cb : Bool) (dk dn : Int) (dt : ByteArray) (w : World) (hr1 : Kd.C k29 w A1 cols.length cols) (hc1 : cols.length ≤ c1) (hr2 : Kd.C (Kd.int .i64) w A2 key.length key) (hc2 : key.length ≤ c2) (hF : Fits cols key [] []) (hl : cols.length ≤ 12) (hl2 : key.length ≤ 12) (hk : 0 < key.length) (h : evErr tn cols key [] [] 2 nm nt cn ck cb dk dn dt = 0) (i : Nat) (hi : i < cols.length) (hx : findIx cols nm = i) :
    Calls Try.prog 10 #[.agg #[.string tn, .slice A1 cols.length c1, .slice A2 key.length c2, .slice none 0 0, .slice none 0 0], .agg #[.int .i64 2, .string nm, .string nt, .string cn, .int .i64 ck, .bool cb, .int .i64 dk, .int .i64 dn, .string dt]] w fun e w' => ∃ g1 d1 g2 d2, e = .returned (.tuple #[.agg #[.string tn, .slice (some ⟨g1, 0, none⟩) (cols.length - 1) d1, .slice (some ⟨g2, 0, none⟩) key.length d2, .slice none 0 0, .slice none 0 0], .int .i64 0]) ∧ Kd.R (Kd.int .i64) 3 w' w.heap.size (fun _ => True) (.slice (some ⟨g2, 0, none⟩) key.length d2) (key.map fun c => blw c i) ∧ Below w.heap.size w w' := by
  have HR1 := Lib.hid hr1; have HC1 := Lib.hid hc1; have HR2 := Lib.hid hr2; have HC2 := Lib.hid hc2; have HFT := Lib.hid hF; have HH := Lib.hid h
  have HKO := Lib.hid (fun c hc => (hF.hkeys c hc).2)
  clear hr1 hc1 hr2 hc2 hF h
  have hu := Try.underlying27
  have hu1 := Try.underlying33
  have hu2 := Try.underlying29
  go_enter Try.func10, Try.ntmps10
  go_wp2_with (first
    | (go_at_call 7; (with_reducible refine (ev0_calls tn A1 c1 cols A2 c2 key 2 nm nt cn ck cb dk dn dt _ ?g1 HC1.out ?g2 HC2.out HFT.out _ HH.out).mono ?_); (case g1 => exact up HR1.out); (case g2 => exact up HR2.out); rintro e w1 ⟨rfl, hb⟩; have hs1 := Step.of hb; clear hb; have hc1 := hs1.cell; have hf1 := hs1.frozen)
    | (go_at_call 28; (with_reducible refine (clone0_calls tn A1 c1 cols A2 c2 key _ ?g1 HC1.out ?g3 ?g2 HC2.out ?g4).mono ?_); (case g1 => exact up HR1.out); (case g3 => omega); (case g2 => exact up HR2.out); (case g4 => omega); rintro e w2 ⟨B1, d1, B2, d2, rfl, hx1, hx2, hb⟩; have hs2 := Step.of hb; clear hb; have hc2 := hs2.cell; have hf2 := hs2.frozen; obtain ⟨g1, rfl⟩ := Kd.R_some hx1 (by omega); obtain ⟨g2, rfl⟩ := Kd.R_some hx2 hk; have y1 : Row k29 29 w2 _ _ _ := ⟨hx1⟩; have y2 : Row (Kd.int .i64) 3 w2 _ _ _ := ⟨hx2⟩; clear hx1 hx2)
    | (go_at_call 18; (with_reducible refine (find_x _ _ _ cols _ _ _ _ _ _ _ _ _ _ _ ?g1 HC1.out hx).mono ?_); (case g1 => exact up HR1.out); rintro e w3 ⟨rfl, hb⟩; have hs3 := Step.of hb; clear hb; have hc3 := hs3.cell; have hf3 := hs3.frozen)
    | (go_at_call 29; (with_reducible refine (drop0_calls w1 _ w2.heap.size tn g1 d1 cols g2 d2 key i ?e1 ?e2 ?e3 ?e4 ?e5 hi hl HKO.out).mono ?_); (case e1 => exact (Bel.out (w := w1) (W := w2)).size); (case e2 => exact Blk.out); (case e3 => exact Row.down); (case e4 => exact Row.down); (case e5 => exact Bel.out); rintro e w4 ⟨rfl, hb1, hb2, hb3, hb4⟩; have bo : Blk w4 w2.heap.size _ := ⟨hb2⟩; have hs4 : Step w1 w4 := ⟨hb1⟩; have bz : Blk w4 (w.heap.size + 1 + 1) (.cells #[.string ⟨#[]⟩, .slice none 0 0, .slice none 0 0, .slice none 0 0, .slice none 0 0] 27) := (by infer_instance); obtain ⟨⟨z0, z1, z2, z3, z4⟩, zf⟩ := blk5 bz; have y4 : Row (Kd.int .i64) 3 w4 _ _ _ := ⟨hb4⟩; obtain ⟨⟨o0, o1, o2, o3, o4⟩, of⟩ := blk5 bo; clear hb1 hb2 hb3 hb4))
  exact ret_cell2 (v := .int .i64 0) (cs' := #[.string tn, .slice (some ⟨g1, 0, none⟩) (cols.length - 1) d1, .slice (some ⟨g2, 0, none⟩) key.length d2, .slice none 0 0, .slice none 0 0]) rfl rfl rfl Blk.out rfl hu rfl (by kernel_rfl) rfl ⟨g1, d1, g2, d2, rfl, Row.down, Bel.out⟩
end Go.Proofs.Ytjceeengnnjipaa.PAll
