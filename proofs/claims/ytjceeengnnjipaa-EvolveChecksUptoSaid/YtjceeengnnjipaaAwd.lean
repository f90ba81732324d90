/- evolve.drop of a table without foreign keys and checks. -/
import Derived.Test.YtjceeengnnjipaaAwb
import Derived.Test.YtjceeengnnjipaaAwc
namespace Go.Proofs.Ytjceeengnnjipaa.PAll
open Go.RowKit Go.Proofs.Ytjceeengnnjipaa.Kit Go.Proofs.Ytjceeengnnjipaa.L13 Go.Proofs.YtjceeengnnjipaaW.PrintWords
set_option linter.unusedVariables false
attribute [local go_sem] allocCell allocFrozen setFar setFrozen allocAny
attribute [local go_sem ↓] Go.wp_at_zero Go.wp_at_succ

def blw (c r : Int) : Int := if r < c then c - 1 else c
theorem below_calls (c r : Int) (w : World) (h0 : -9223372036854775808 ≤ r) (h1 : c ≤ 9223372036854775807) :
    Calls Try.prog 35 #[.int .i64 c, .int .i64 r] w fun e w' => e = .returned (.int .i64 (blw c r)) ∧ Below w.heap.size w w' := by
  go_enter Try.func35, Try.ntmps35
  go_wp2
  · go_ret
    refine ⟨ret_int ?_, Bel.out⟩
    unfold blw
    rw [if_pos (by omega)]
  · go_ret
    refine ⟨ret_int ?_, Bel.out⟩
    unfold blw
    rw [if_neg (by omega)]
theorem row_app {α β : Type} {d : Kd α} {d' : Kd β} {e e' b b' : Nat} {W w1 : World} {u v : Value} {xs : List α} {ys : List β} (h : d.R e W b (fun _ => True) u xs) (hv : d'.R e' W b' (fun _ => True) v ys) (ht : ∀ q, q ∈ e :: d.E → q ≠ e') (hg : W.grownBy w1 v.ownBlock) : d.R e w1 b (fun _ => True) u xs := Kd.R_over h hv ht hg
theorem blk_app {β : Type} {d' : Kd β} {e' b' p t : Nat} {cs : Array Value} {W w1 : World} {v : Value} {ys : List β} (h : W.heap[p]? = some (.cells cs t (0, 0))) (hv : d'.R e' W b' (fun _ => True) v ys) (ht : ∀ q, q ∈ e' :: d'.E → q ≠ t) (hg : W.grownBy w1 v.ownBlock) : w1.heap[p]? = some (.cells cs t (0, 0)) :=
  blk_grown h hg (fun he => ((Kd.R_types hv h ht).1 p he.symm).2 rfl)
/-- The expressions that replace the columns. -/
def mvd (r : Int) (k : Nat) : List S70 := (List.range k).map fun (j : Nat) => ⟨2, blw (j : Int) r, ⟨0, 0, ⟨#[]⟩⟩, ⟨#[]⟩, []⟩
theorem mvd_succ (r : Int) (k : Nat) : mvd r (k + 1) = mvd r k ++ [⟨2, blw k r, ⟨0, 0, ⟨#[]⟩⟩, ⟨#[]⟩, []⟩] := by unfold mvd; rw [List.range_succ, List.map_append]; rfl
theorem mvd_len (r : Int) (k : Nat) : (mvd r k).length = k := by simp [mvd]
theorem held_k {W w' : World} {p : Nat} {v : Value} [h : Bel W w'] [i1 : InHeap W p] (c0 : W.cell? ⟨p, 2, none⟩ = some v) : w'.cell? ⟨p, 2, none⟩ = some v := (h.out.cell (p := ⟨p, 2, none⟩) i1.out).trans c0
/-- The key behind m rounds. -/
def dn (key : List Int) (i : Nat) (m : Nat) : List Int := (key.take m).map (fun c => blw c i) ++ key.drop m
theorem dn_len (key : List Int) (i m : Nat) : (dn key i m).length = key.length := by simp [dn]; omega
theorem dn_get (key : List Int) (i m : Nat) (h : m < key.length) : (dn key i m)[m]'(by rw [dn_len]; exact h) = key[m] := by
  unfold dn
  rw [List.getElem_append_right (by rw [List.length_map, List.length_take]; omega)]
  simp [Nat.min_eq_left (Nat.le_of_lt h)]
theorem dn_succ (key : List Int) (i m : Nat) (h : m < key.length) : (dn key i m).set m (blw key[m] i) = dn key i (m + 1) := by
  unfold dn
  rw [List.set_append_right _ _ (by rw [List.length_map, List.length_take]; omega), List.take_succ_eq_append_getElem h, List.map_append, List.length_map, List.length_take, Nat.min_eq_left (Nat.le_of_lt h), Nat.sub_self, List.drop_eq_getElem_cons h]
  simp only [List.set_cons_zero, List.map_cons, List.map_nil, List.append_assoc, List.cons_append, List.nil_append]
theorem key_cell {W : World} {base g c i m : Nat} {key : List Int} (h : Kd.R (Kd.int .i64) 3 W base (fun _ => True) (.slice (some ⟨g, 0, none⟩) key.length c) (dn key i m)) (hm : m < key.length) : W.cell? ⟨g, m, none⟩ = some (.int .i64 key[m]) ∧ W.frozen? ⟨g, m, none⟩ = false := by
  obtain ⟨cs, h1, h2, h3, h4⟩ := Kd.R_elem h 0 (m : Int) (by omega) (by omega)
  have h5 : cs = [.int .i64 ((dn key i m).getD (m : Int).toNat 0)] := h2
  subst h5
  have h6 := h3 0 _ rfl
  have h7 := h4 0
  simp only [Int.toNat_natCast] at h6 h7
  have e : (dn key i m).getD m 0 = key[m] := by
    rw [List.getD_eq_getElem?_getD, List.getElem?_eq_getElem (by rw [dn_len]; exact hm), Option.getD_some]
    exact dn_get key i m hm
  rw [e] at h6
  have e1 : m * (Kd.int .i64).sz + 0 = m := Nat.mul_one m
  rw [e1] at h6 h7
  exact ⟨h6, h7⟩
theorem Kd.R_blk {α : Type} {d : Kd α} {e base g n c : Nat} {ok : Nat → Prop} {W : World} {xs : List α} (h : d.R e W base ok (.slice (some ⟨g, 0, none⟩) n c) xs) : ∃ cs, W.heap[g]? = some (.cells cs e (0, 0)) := by
  obtain ⟨inner, ho⟩ := Kd.R_own h
  exact own_typed ho g rfl
theorem key_set {W : World} {base g c i m : Nat} {key : List Int} (h : Kd.R (Kd.int .i64) 3 W base (fun _ => True) (.slice (some ⟨g, 0, none⟩) key.length c) (dn key i m)) (hm : m < key.length) (x : Int) : Kd.R (Kd.int .i64) 3 (W.setCell ⟨g, m, none⟩ (.int .i64 x)) base (fun _ => True) (.slice (some ⟨g, 0, none⟩) key.length c) ((dn key i m).set m x) := by
  obtain ⟨cs, h1, h2, h3, h4⟩ := Kd.R_elem h 0 (m : Int) (by omega) (by omega)
  have h5 : cs = [.int .i64 ((dn key i m).getD (m : Int).toNat 0)] := h2
  have h6 := (Kd.R_seg (okp := fun _ => False) h (m : Int) (by omega) (by omega) h1 h3 (j := 0) (seg := [.int .i64 x]) (Nat.le_refl 1) (x' := x) (by rw [h5]; rfl) (fun _ hk => hk.elim)).1
  have e1 : (m : Int).toNat * (Kd.int .i64).sz + 0 = m := by rw [Int.toNat_natCast]; exact Nat.mul_one m
  rw [e1, Int.toNat_natCast] at h6
  exact h6
theorem key_lt {W : World} {base g c : Nat} {key : List Int} (h : Kd.R (Kd.int .i64) 3 W base (fun _ => True) (.slice (some ⟨g, 0, none⟩) key.length c) key) : key.length ≤ 9223372036854775807 := by
  obtain ⟨A, c, e, hl, hC⟩ := Kd.R_reads h
  exact hC.2.1
set_option maxRecDepth 20000 in
set_option maxHeartbeats 2000000 in
theorem drop0_calls (w0 W : World) (p : Nat) (tn : ByteArray) (g1 d1 : Nat) (cols : List S29) (g2 d2 : Nat) (key : List Int) (i : Nat) (hp0 : w0.heap.size ≤ p)
    (hp : W.heap[p]? = some (.cells #[.string tn, .slice (some ⟨g1, 0, none⟩) cols.length d1, .slice (some ⟨g2, 0, none⟩) key.length d2, .slice none 0 0, .slice none 0 0] 27 (0, 0)))
    (hR1 : Kd.R k29 29 W w0.heap.size (fun _ => True) (.slice (some ⟨g1, 0, none⟩) cols.length d1) cols) (hR2 : Kd.R (Kd.int .i64) 3 W w0.heap.size (fun _ => True) (.slice (some ⟨g2, 0, none⟩) key.length d2) key) (hB : Below w0.heap.size w0 W) (hi : i < cols.length) (hc : cols.length ≤ 12) (hko : ∀ c ∈ key, c ≤ 9223372036854775807) :
    Calls Try.prog 29 #[.pointer (some ⟨p, 0, none⟩), .int .i64 i] W fun e W' => e = .returned (.tuple #[]) ∧ Below w0.heap.size w0 W' ∧ W'.heap[p]? = some (.cells #[.string tn, .slice (some ⟨g1, 0, none⟩) (cols.length - 1) d1, .slice (some ⟨g2, 0, none⟩) key.length d2, .slice none 0 0, .slice none 0 0] 27 (0, 0)) ∧
      Kd.R k29 29 W' w0.heap.size (fun _ => True) (.slice (some ⟨g1, 0, none⟩) (cols.length - 1) d1) (cols.take i ++ cols.drop (i + 1)) ∧ Kd.R (Kd.int .i64) 3 W' w0.heap.size (fun _ => True) (.slice (some ⟨g2, 0, none⟩) key.length d2) (key.map fun c => blw c i) := by
  have HP := Lib.hid hp; have HR1 := Lib.hid hR1; have HR2 := Lib.hid hR2; have HB := Lib.hid hB
  have hbp : Blk W p (.cells #[.string tn, .slice (some ⟨g1, 0, none⟩) cols.length d1, .slice (some ⟨g2, 0, none⟩) key.length d2, .slice none 0 0, .slice none 0 0] 27) := ⟨hp⟩
  have t1 : W.cell? ⟨p, 1, none⟩ = _ := (blk_cell hp 1).trans rfl
  clear hp hR1 hR2 hB
  have hu := Try.underlying27
  have hu1 := Try.underlying22
  have hu2 := Try.underlying23
  have hu3 := Try.underlying25
  have i70 : (Try.prog.info? 70).map (fun i => (i.zero, i.size, i.bytes)) = some (some (.agg #[.int .i64 0, .int .i64 0, .int .i64 0, .int .i64 0, .string ⟨#[]⟩, .string ⟨#[]⟩, .slice none 0 0]), 7, 88) := by kernel_rfl
  go_enter Try.func29, Try.ntmps29
  go_wp2
  go_loopw [19, 4] (fun j mv wr => ∃ k : Nat, k ≤ cols.length ∧ j = .int .i64 k ∧ Below w0.heap.size w0 wr ∧ wr.heap[p]? = some (.cells #[.string tn, .slice (some ⟨g1, 0, none⟩) cols.length d1, .slice (some ⟨g2, 0, none⟩) key.length d2, .slice none 0 0, .slice none 0 0] 27 (0, 0)) ∧ Kd.R k29 29 wr w0.heap.size (fun _ => True) (.slice (some ⟨g1, 0, none⟩) cols.length d1) cols ∧ Kd.R (Kd.int .i64) 3 wr w0.heap.size (fun _ => True) (.slice (some ⟨g2, 0, none⟩) key.length d2) key ∧ Kd.R k70 70 wr w0.heap.size (fun _ => True) mv (mvd i k)) (fun j mv wr => cols.length - (intOf j).toNat)
  case atStart => exact ⟨0, by omega, rfl, HB.out, HP.out, HR1.out, HR2.out, by rw [show mvd (i : Int) 0 = [] from rfl]; exact Kd.R_nil _ _ _ _ _⟩
  case round =>
    obtain ⟨k, hk, rfl, hbw, hpr, hr1, hr2, hr3⟩ := hrel
    have HBw := Lib.hid hbw; have HPr := Lib.hid hpr; have HS1 := Lib.hid hr1; have HS2 := Lib.hid hr2; have HS3 := Lib.hid hr3
    clear hpr hr1 hr2 hr3
    have hbel : Bel w0 wr := ⟨hbw⟩
    clear hbw
    by_cases hlt : k < cols.length
    · go_wp2_with (first
        | (go_at_call 35; (with_reducible refine (below_calls _ _ _ ?g1 ?g2).mono ?_); (case g1 => omega); (case g2 => omega); rintro e w2 ⟨rfl, hb⟩; have hs := Step.of hb; have HBS := Lib.hid hb; clear hb; have HS3' := Lib.hid (Kd.R_below HS3.out HBS.out))
        | (at_builtin; go_loud (refine Kd.R_append k70 (w0 := w0) w0.heap.size rfl (.tmp 22) (.tmp 27) 25 70 (.agg #[.int .i64 0, .int .i64 0, .int .i64 0, .int .i64 0, .string ⟨#[]⟩, .string ⟨#[]⟩, .slice none 0 0]) 88 rfl hu3 i70 rfl (by decide) (by omega) _ (mvd i k) ⟨2, blw k i, ⟨0, 0, ⟨#[]⟩⟩, ⟨#[]⟩, []⟩ [.int .i64 2, .int .i64 (blw k i), .int .i64 0, .int .i64 0, .string ⟨#[]⟩, .string ⟨#[]⟩, .slice none 0 0] (fun _ => True) (fun _ => False) rfl (by first | rfl | simp [Act.eval]) (k70_mkM _ _ _ ⟨2, blw k i, ⟨0, 0, ⟨#[]⟩⟩, ⟨#[]⟩, []⟩ (Kd.R_nil _ _ _ _ _)) (fun _ h => h.elim) (fun _ _ => trivial) HS3'.out Bel.out (Bel.out (w := w0)).size ?aL ?_); (case aL => rw [mvd_len]; omega); intro v1 w1 hv1 hb1 hg1 hat1))
      refine ⟨⟨k + 1, by omega, by go_num, hb1, ?_, ?_, ?_, ?_⟩, by simp [intOf]; omega⟩
      · exact blk_app (HBS.out.block p (blk_lt HPr.out) |>.trans HPr.out) HS3'.out (by decide) hg1
      · exact row_app (Kd.R_below HS1.out HBS.out) HS3'.out (by decide) hg1
      · exact row_app (Kd.R_below HS2.out HBS.out) HS3'.out (by decide) hg1
      · rw [mvd_succ]; exact hv1
    · obtain rfl : k = cols.length := by omega
      have p1 : wr.cell? ⟨p, 1, none⟩ = _ := (blk_cell HPr.out 1).trans rfl
      have q1 := blk_frozen HPr.out 1
      have hbp2 : InHeap wr p := ⟨blk_lt HPr.out⟩
      clear HR1 HR2 HB HP hbp t1
      go_wp2_with (go_at_call 55; go_loud (with_reducible refine (delete_calls _ w0.heap.size g1 d1 i cols ?g1 hi).mono ?_); (case g1 => exact HS1.out); rintro e w2 ⟨rfl, hd1, hd2⟩; have HP2 := Lib.hid (blk_app HPr.out HS1.out (by decide) hd2); have HD := Lib.hid hd1; have HS2' := Lib.hid (row_app HS2.out HS1.out (by decide) hd2); have HBd := Lib.hid (Below.grown HBw.out hd2 HBw.out.size (fun j hj => by cases hj; exact Kd.R_base HS1.out g1 rfl)); have p2 : w2.cell? ⟨p, 1, none⟩ = _ := (blk_cell HP2.out 1).trans rfl; have q2 := blk_frozen HP2.out 1; have p3 : w2.cell? ⟨p, 2, none⟩ = _ := (blk_cell HP2.out 2).trans rfl; have p4 : w2.cell? ⟨p, 3, none⟩ = _ := (blk_cell HP2.out 3).trans rfl; have p5 : w2.cell? ⟨p, 4, none⟩ = _ := (blk_cell HP2.out 4).trans rfl; clear hd1 hd2)
      have HKl := Lib.hid (key_lt HS2.out)
      go_loopw [46] (fun j wq => ∃ m : Nat, m ≤ key.length ∧ j = .int .i64 m ∧ Below w0.heap.size w0 wq ∧ wq.heap[p]? = some (.cells #[.string tn, .slice (some ⟨g1, 0, none⟩) (cols.length - 1) d1, .slice (some ⟨g2, 0, none⟩) key.length d2, .slice none 0 0, .slice none 0 0] 27 (0, 0)) ∧ Kd.R k29 29 wq w0.heap.size (fun _ => True) (.slice (some ⟨g1, 0, none⟩) (cols.length - 1) d1) (cols.take i ++ cols.drop (i + 1)) ∧ Kd.R (Kd.int .i64) 3 wq w0.heap.size (fun _ => True) (.slice (some ⟨g2, 0, none⟩) key.length d2) (dn key i m)) (fun j wq => key.length - (intOf j).toNat)
      case atStart =>
        refine ⟨0, by omega, rfl, HBd.out.setCell hp0 _, ?_, ?_, ?_⟩
        · exact blk_set HP2.out 1 _
        · exact Kd.R_mono (Kd.R_far (p := ⟨p, 1, none⟩) (Kd.R_types HD.out HP2.out (by decide)) (fun _ hk => hk.2) _) (fun _ _ => trivial)
        · exact Kd.R_mono (Kd.R_far (p := ⟨p, 1, none⟩) (Kd.R_types HS2'.out HP2.out (by decide)) (fun _ hk => hk.2) _) (fun _ _ => trivial)
      case round =>
        clear HP2 HS2' HBd HD HBw HPr HS1 HS2 HS3 p1 q1 p2 q2 p3 p4 p5
        obtain ⟨m, hm, rfl, hbw, hpr, hr1, hr2⟩ := hrel
        have HBw := Lib.hid hbw; have HPr := Lib.hid hpr; have HS1 := Lib.hid hr1; have HS2 := Lib.hid hr2
        have hbel : Bel w0 wr := ⟨hbw⟩
        have p3 : wr.cell? ⟨p, 2, none⟩ = _ := (blk_cell hpr 2).trans rfl
        have p4 : wr.cell? ⟨p, 3, none⟩ = _ := (blk_cell hpr 3).trans rfl
        have p5 : wr.cell? ⟨p, 4, none⟩ = _ := (blk_cell hpr 4).trans rfl
        clear hpr hr1 hr2 hbw
        by_cases hlt : m < key.length
        · obtain ⟨y0, y1⟩ := key_cell HS2.out hlt
          have HKM := Lib.hid (hko _ (List.getElem_mem hlt))
          have iw : InHeap wr p := ⟨blk_lt HPr.out⟩
          have ig : InHeap wr g2 := InHeap.ofCell y0
          go_wp2_with fail
          have npg : NeB p g2 := ⟨fun e => ((Kd.R_types HS2.out HPr.out (by decide)).1 g2 rfl).2 e.symm⟩
          go_region_held3 (fun w' => w'.cell? ⟨p, 2, none⟩ = some (.slice (some ⟨g2, 0, none⟩) key.length d2)) (first | exact held_k p3 | exact (setFar _ p 2 g2 m _).trans (by assumption))
            (first
            | (go_at_call 35; with_reducible refine (below_calls _ _ _ ?g1 ?g2).mono ?_; (case g1 => omega); (case g2 => exact HKM.out); rintro e w2 ⟨rfl, hb⟩; have HBS := Lib.hid hb; have hs2 := Step.of hb; clear hb; have hc2 := hs2.cell; have hf2 := hs2.frozen))
          have hkl := HKl.out
          go_wp2_with fail
          have HS2' : Kd.R (Kd.int .i64) 3 w2 w0.heap.size (fun _ => True) (.slice (some ⟨g2, 0, none⟩) key.length d2) (dn key i m) := Kd.R_below (Kd.R_drew HS2.out) HBS.out
          have HP2 : w2.heap[p]? = _ := (HBS.out.block p (blk_lt HPr.out)).trans HPr.out
          obtain ⟨gc, hgc⟩ := Kd.R_blk HS2'
          have h2 := key_set HS2' hlt (blw key[m] i)
          refine ⟨⟨m + 1, by omega, by go_num, Below.setCell (Bel.out (w := w0) (W := w2)) (Kd.R_base HS2' g2 rfl) _, ?_, ?_, ?_⟩, by simp [intOf]; omega⟩
          · exact blk_far HP2 (p := ⟨g2, m, none⟩) npg.out _
          · exact Kd.R_mono (Kd.R_far (p := ⟨g2, m, none⟩) (Kd.R_types (Kd.R_below (Kd.R_drew HS1.out) HBS.out) hgc (by decide)) (fun _ hk => hk.2) _) (fun _ _ => trivial)
          · rw [← dn_succ key i m hlt]; exact h2
        · obtain rfl : m = key.length := by omega
          go_wp2_with fail
          refine wp_loop_once ?_
          go_wp2_with fail
          refine wp_loop_once ?_
          go_wp2_with fail
          go_end0
          refine ⟨rfl, HBw.out, HPr.out, HS1.out, ?_⟩
          have h := HS2.out
          unfold dn at h
          rw [List.take_of_length_le (Nat.le_refl _), List.drop_eq_nil_of_le (Nat.le_refl _), List.append_nil] at h
          exact h
end Go.Proofs.Ytjceeengnnjipaa.PAll
