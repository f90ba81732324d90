/- A TABLE AND A CHANGE THAT COME IN, OPENED: what a reading gives, as facts on rows. -/
import Derived.Test.YtjceeengnnjipaaRows
import Derived.Test.YtjceeengnnjipaaGiv5
import Derived.Test.YtjceeengnnjipaaGiv6
import Derived.Test.YtjceeengnnjipaaRdr
import Derived.WalkKit
import Derived.ProofKit
import Derived.OpenShut
import Derived.ShutString
import Derived.ChangeOld
import Derived.Below
import Derived.Carry
import Derived.SizedLaws
import Derived.JoinedCond
namespace Go.Proofs.Ytjceeengnnjipaa.PAll
open Go.ChangeShapes Go.WideShapes Go.ChangeAt Go.RowKit Go.Proofs.Ytjceeengnnjipaa.Kit Go.Proofs.Ytjceeengnnjipaa.L13 Go.Proofs.YtjceeengnnjipaaW.PrintWords
set_option linter.unusedVariables false
section
variable {H : Type} {enc : TypeId × Value → H} {w : World} {sp : Nat → Bool} {hd : Bool}
/-- One after the other. -/
def All2 {α β : Type} (Q : α → β → Prop) : List α → List β → Prop
  | [], [] => True
  | a :: l, b :: m => Q a b ∧ All2 Q l m
  | _, _ => False
theorem All2.of {α β : Type} {Q : α → β → Prop} : ∀ (xs : List α) (ds : List β), xs.length = ds.length → (∀ (i : Nat) a b, xs[i]? = some a → ds[i]? = some b → Q a b) → All2 Q xs ds
  | [], [], _, _ => trivial
  | a :: l, b :: m, hl, h => ⟨h 0 a b rfl rfl, All2.of l m (by simpa using hl) (fun i x y hx hy => h (i + 1) x y (by simpa using hx) (by simpa using hy))⟩
  | [], _ :: _, hl, _ => by simp at hl
  | _ :: _, [], hl, _ => by simp at hl
theorem All2.mem {α β : Type} {Q : α → β → Prop} : ∀ {xs : List α} {ds : List β}, All2 Q xs ds → ∀ a ∈ xs, ∃ b ∈ ds, Q a b
  | [], [], _, a, ha => by cases ha
  | x :: xs, d :: ds, h, a, ha => by
    rcases List.mem_cons.1 ha with rfl | ha
    · exact ⟨d, List.mem_cons_self, h.1⟩
    · obtain ⟨b, hb, hq⟩ := All2.mem h.2 a ha
      exact ⟨b, List.mem_cons_of_mem _ hb, hq⟩
  | [], _ :: _, h, a, ha => by cases ha
  | _ :: _, [], h, _, _ => h.elim
theorem All2.len {α β : Type} {Q : α → β → Prop} : ∀ {xs : List α} {ds : List β}, All2 Q xs ds → xs.length = ds.length
  | [], [], _ => rfl
  | x :: xs, d :: ds, h => by simp [All2.len h.2]
  | [], _ :: _, h => h.elim
  | _ :: _, [], h => h.elim
theorem choose_list {α : Type} (R : Nat → α → Prop) : ∀ n, (∀ i, i < n → ∃ a, R i a) → ∃ xs : List α, xs.length = n ∧ ∀ i a, xs[i]? = some a → R i a
  | 0, _ => ⟨[], rfl, fun i a h => by simp at h⟩
  | n + 1, h => by
    obtain ⟨xs, hl, hx⟩ := choose_list R n (fun i hi => h i (by omega))
    obtain ⟨a, ha⟩ := h n (by omega)
    refine ⟨xs ++ [a], by simp [hl], fun i b hb => ?_⟩
    rcases Nat.lt_or_ge i xs.length with hi | hi
    · rw [List.getElem?_append_left hi] at hb; exact hx i b hb
    · rw [List.getElem?_append_right hi] at hb
      have : i = n := by
        rcases Nat.lt_or_ge (i - xs.length) 1 with h1 | h1
        · omega
        · rw [List.getElem?_eq_none (by simpa using h1)] at hb; cases hb
      subst this
      simp [hl] at hb
      exact hb ▸ ha
theorem bulk_one (d : DataW H) : 1 ≤ Rows.uptoBulk d := by
  cases d with
  | lit l => cases l <;> simp [Rows.uptoBulk]
  | nil => simp [Rows.uptoBulk]
  | ptr d => simp [Rows.uptoBulk]
  | slice elems spare => simp [Rows.uptoBulk]
  | agg parts => simp [Rows.uptoBulk]
  | iface t d => simp [Rows.uptoBulk]
  | map entries => simp [Rows.uptoBulk]
  | held h => simp [Rows.uptoBulk]
theorem bulk_part {d : DataW H} {l : List (DataW H)} (h : d ∈ l) : Rows.uptoBulk d ≤ Rows.uptoBulkAll l := by
  induction l with
  | nil => cases h
  | cons x r ih =>
    simp only [Rows.uptoBulkAll]
    cases List.mem_cons.1 h with
    | inl e => subst e; omega
    | inr e => have := ih e; omega
theorem bulk_len (l : List (DataW H)) : l.length ≤ Rows.uptoBulkAll l := by
  induction l with
  | nil => simp [Rows.uptoBulkAll]
  | cons x r ih => have := bulk_one x; simp only [Rows.uptoBulkAll, List.length_cons]; omega
theorem open_rowK {P : Program} {α : Type} (d : Kd α) {t e : TypeId} (ht : P.underlying t = some (.slice e)) (hs : P.cellsOf e = d.sz) (N : Nat) (Q : α → DataW H → Prop)
    (hel : ∀ n cs x, n < N → DataW.trod enc P w 0 sp hd n e cs = some x → ∃ a, d.K w a cs ∧ Q a x.1) {cs : List Value} {x : DataW H × List MemPlace} (h : DataW.trod enc P w 0 sp hd N t cs = some x) :
    ∃ (A : Option Addr) (c : Nat) (xs : List α) (ds : List (DataW H)), cs = [.slice A xs.length c] ∧ xs.length ≤ c ∧ d.C w A xs.length xs ∧ All2 Q xs ds ∧ Rows.uptoBulkAll ds + 1 ≤ Rows.uptoBulk x.1 := by
  rcases DataW.trod_slice ht h with ⟨rfl, rfl⟩ | ⟨a, len, cap, elems, rest, n, hN, rfl, rfl, _, hl, hm, hlen, hel2, _, _⟩
  · exact ⟨none, 0, [], [], rfl, Nat.le_refl _, ⟨rfl, by simp, fun h => absurd h (Nat.lt_irrefl 0)⟩, trivial, by simp [Rows.uptoBulk, Rows.uptoBulkAll]⟩
  · obtain ⟨xs, hxl, hx⟩ := choose_list (fun i (q : α) => ∃ cs' y, elems[i]? = some y ∧ cs'.length = d.sz ∧ d.K w q cs' ∧ Q q y.1 ∧ ∀ j u, cs'[j]? = some u → w.cell? (a.add (i * d.sz + j)) = some u) len (fun i hi => by
      have h1 := hel2 i hi
      rw [List.getElem?_eq_getElem (by omega)] at h1
      obtain ⟨cs', h2, h3⟩ := Option.bind_eq_some_iff.1 h1
      obtain ⟨q, hq1, hq2⟩ := hel n cs' _ (by omega) h3
      obtain ⟨_, hcl, hcc⟩ := World.cells?_some h2
      refine ⟨q, cs', _, List.getElem?_eq_getElem (by omega), hcl.trans hs, hq1, hq2, fun j u hu => ?_⟩
      have hj : j < cs'.length := (List.getElem?_eq_some_iff.1 hu).1
      have h4 := hcc j (by omega)
      rw [hu, hs, add_add] at h4
      exact h4)
    refine ⟨some a, cap, xs, elems.map (·.1), by rw [hxl], by omega, ⟨rfl, by rw [hxl]; exact Nat.le_trans hl hm, fun _ => ⟨a, rfl, fun j p hj => ?_⟩⟩, ?_, ?_⟩
    · obtain ⟨cs', y, _, h2, h3, _, h5⟩ := hx j p hj
      exact ⟨cs', h2, h3, h5⟩
    · refine All2.of _ _ (by rw [List.length_map, hxl, hlen]) (fun i q b hq hb => ?_)
      obtain ⟨cs', y, h1, _, _, h4, _⟩ := hx i q hq
      rw [List.getElem?_map, h1] at hb
      simp at hb
      exact hb ▸ h4
    · simp only [Rows.uptoBulk]; omega
theorem wf_okI {n : Int} (h : (Lit.int .i64 n).wf = true) : okI n := by
  simpa [okI, Lit.wf, IntKind.min, IntKind.max, IntKind.signed, IntKind.bits] using h
theorem open_int1 (n : Nat) (cs : List Value) (x : DataW H × List MemPlace) (h : DataW.trod enc Try.prog w 0 sp hd n 3 cs = some x) : ∃ a, cs = [.int .i64 a] ∧ okI a := by
  obtain ⟨a, rfl, rfl, hw⟩ := DataW.trod_int Try.underlying3 h
  exact ⟨a, rfl, wf_okI hw⟩
theorem open_str1 (n : Nat) (cs : List Value) (x : DataW H × List MemPlace) (h : DataW.trod enc Try.prog w 0 sp hd n 9 cs = some x) : ∃ a : ByteArray, cs = [.string a] ∧ a.size + 1 = Rows.uptoBulk x.1 := by
  obtain ⟨a, rfl, rfl, hw⟩ := DataW.trod_string Try.underlying9 h
  exact ⟨a, rfl, by simp [Rows.uptoBulk]⟩
theorem open_bool1 (n : Nat) (cs : List Value) (x : DataW H × List MemPlace) (h : DataW.trod enc Try.prog w 0 sp hd n 4 cs = some x) : ∃ a, cs = [.bool a] := by
  obtain ⟨a, rfl, rfl⟩ := DataW.trod_bool Try.underlying4 h
  exact ⟨a, rfl⟩
theorem c3 : Try.prog.cellsOf 3 = 1 := by kernel_rfl
theorem c4 : Try.prog.cellsOf 4 = 1 := by kernel_rfl
theorem c9 : Try.prog.cellsOf 9 = 1 := by kernel_rfl
theorem c22 : Try.prog.cellsOf 22 = 1 := by kernel_rfl
theorem c23 : Try.prog.cellsOf 23 = 1 := by kernel_rfl
theorem c24 : Try.prog.cellsOf 24 = 1 := by kernel_rfl
theorem c25 : Try.prog.cellsOf 25 = 1 := by kernel_rfl
theorem c27 : Try.prog.cellsOf 27 = 5 := by kernel_rfl
theorem c29 : Try.prog.cellsOf 29 = 3 := by kernel_rfl
theorem c31 : Try.prog.cellsOf 31 = 3 := by kernel_rfl
theorem c33 : Try.prog.cellsOf 33 = 9 := by kernel_rfl
theorem c62 : Try.prog.cellsOf 62 = 2 := by kernel_rfl
theorem c70 : Try.prog.cellsOf 70 = 7 := by kernel_rfl
set_option maxRecDepth 20000 in
theorem open_col (n : Nat) (cs : List Value) (x : DataW H × List MemPlace) (h : DataW.trod enc Try.prog w 0 sp hd n 29 cs = some x) : ∃ c : Cl, cs = [.string c.f0, .int .i64 c.f1, .bool c.f2] ∧ c.f0.size ≤ Rows.uptoBulk x.1 := by
  obtain ⟨xs, m, _, rfl, hl, hlen, hf⟩ := DataW.trod_struct Try.underlying29 h
  rw [c29] at hl
  match cs, hl, xs, hlen with
  | [v0, v1, v2], _, [y0, y1, y2], _ =>
    have h0 : DataW.trod enc Try.prog w 0 sp hd m 9 (([v0, v1, v2].drop 0).take (Try.prog.cellsOf 9)) = some y0 := hf 0 _ rfl
    have h1 : DataW.trod enc Try.prog w 0 sp hd m 3 (([v0, v1, v2].drop 1).take (Try.prog.cellsOf 3)) = some y1 := hf 1 _ rfl
    have h2 : DataW.trod enc Try.prog w 0 sp hd m 4 (([v0, v1, v2].drop 2).take (Try.prog.cellsOf 4)) = some y2 := hf 2 _ rfl
    rw [c9] at h0
    rw [c3] at h1
    rw [c4] at h2
    obtain ⟨a0, e0, b0⟩ := open_str1 m _ _ h0
    obtain ⟨a1, e1, b1⟩ := open_int1 m _ _ h1
    obtain ⟨a2, e2⟩ := open_bool1 m _ _ h2
    simp at e0 e1 e2
    subst e0 e1 e2
    exact ⟨⟨a0, a1, a2⟩, rfl, by simp only [List.map_cons, List.map_nil, Rows.uptoBulk, Rows.uptoBulkAll]; omega⟩
set_option maxRecDepth 20000 in
theorem open_val (n : Nat) (cs : List Value) (x : DataW H × List MemPlace) (h : DataW.trod enc Try.prog w 0 sp hd n 31 cs = some x) : ∃ c : Vl, cs = [.int .i64 c.f0, .int .i64 c.f1, .string c.f2] := by
  obtain ⟨xs, m, _, rfl, hl, hlen, hf⟩ := DataW.trod_struct Try.underlying31 h
  rw [c31] at hl
  match cs, hl, xs, hlen with
  | [v0, v1, v2], _, [y0, y1, y2], _ =>
    have h0 : DataW.trod enc Try.prog w 0 sp hd m 3 (([v0, v1, v2].drop 0).take (Try.prog.cellsOf 3)) = some y0 := hf 0 _ rfl
    have h1 : DataW.trod enc Try.prog w 0 sp hd m 3 (([v0, v1, v2].drop 1).take (Try.prog.cellsOf 3)) = some y1 := hf 1 _ rfl
    have h2 : DataW.trod enc Try.prog w 0 sp hd m 9 (([v0, v1, v2].drop 2).take (Try.prog.cellsOf 9)) = some y2 := hf 2 _ rfl
    rw [c3] at h0
    rw [c3] at h1
    rw [c9] at h2
    obtain ⟨a0, e0, b0⟩ := open_int1 m _ _ h0
    obtain ⟨a1, e1, b1⟩ := open_int1 m _ _ h1
    obtain ⟨a2, e2, b2⟩ := open_str1 m _ _ h2
    simp at e0 e1 e2
    subst e0 e1 e2
    exact ⟨⟨a0, a1, a2⟩, rfl⟩
set_option maxRecDepth 20000 in
theorem open_fg (n : Nat) (cs : List Value) (x : DataW H × List MemPlace) (h : DataW.trod enc Try.prog w 0 sp hd n 62 cs = some x) : ∃ f : Fg, k62.K w f cs ∧ f.f0.length ≤ Rows.uptoBulk x.1 ∧ ∀ c ∈ f.f0, okI c := by
  obtain ⟨xs, m, _, rfl, hl, hlen, hf⟩ := DataW.trod_struct Try.underlying62 h
  rw [c62] at hl
  match cs, hl, xs, hlen with
  | [v0, v1], _, [y0, y1], _ =>
    have h0 : DataW.trod enc Try.prog w 0 sp hd m 23 (([v0, v1].drop 0).take (Try.prog.cellsOf 23)) = some y0 := hf 0 _ rfl
    have h1 : DataW.trod enc Try.prog w 0 sp hd m 9 (([v0, v1].drop 1).take (Try.prog.cellsOf 9)) = some y1 := hf 1 _ rfl
    rw [c23] at h0
    rw [c9] at h1
    obtain ⟨A, c, l, ds, e0, g0, g1, g2, g3⟩ := open_rowK (Kd.int .i64) Try.underlying23 c3 m (fun a _ => okI a) (fun n cs x _ h => by obtain ⟨a, e, o⟩ := open_int1 n cs x h; exact ⟨a, e, o⟩) h0
    obtain ⟨a1, e1, b1⟩ := open_str1 m _ _ h1
    simp at e0 e1
    subst e0 e1
    refine ⟨⟨l, a1⟩, k62_mk w ⟨l, a1⟩ g0 g1, ?_, fun c hc => ?_⟩
    · have h4 := bulk_len ds
      have h5 := g2.len
      simp only [List.map_cons, List.map_nil, Rows.uptoBulk, Rows.uptoBulkAll]
      omega
    · obtain ⟨_, _, o⟩ := g2.mem c hc
      exact o
theorem nodesL_bulk {xs : List Ex} {ds : List (DataW H)} (h : All2 (fun (e : Ex) (d : DataW H) => nodes e ≤ Rows.uptoBulk d ∧ ∀ c ∈ occ e, okI c) xs ds) : nodesL xs ≤ Rows.uptoBulkAll ds ∧ ∀ c ∈ occL xs, okI c := by
  induction xs generalizing ds with
  | nil => exact ⟨by simp [nodesL], by simp [occL]⟩
  | cons x xs ih =>
    cases ds with
    | nil => exact h.elim
    | cons d ds =>
      obtain ⟨h1, h2⟩ := ih h.2
      refine ⟨by simp only [nodesL, Rows.uptoBulkAll]; have := h.1.1; omega, fun c hc => ?_⟩
      simp only [occL, List.mem_append] at hc
      rcases hc with hc | hc
      · exact h.1.2 c hc
      · exact h2 c hc
set_option maxRecDepth 20000 in
theorem open_ex : ∀ (n : Nat) (cs : List Value) (x : DataW H × List MemPlace), DataW.trod enc Try.prog w 0 sp hd n 70 cs = some x → ∃ e : Ex, k70.K w e cs ∧ nodes e ≤ Rows.uptoBulk x.1 ∧ ∀ c ∈ occ e, okI c := by
  intro n
  induction n using Nat.strongRecOn with
  | _ n ih =>
    intro cs x h
    obtain ⟨xs, m, hm, rfl, hl, hlen, hf⟩ := DataW.trod_struct Try.underlying70 h
    rw [c70] at hl
    match cs, hl, xs, hlen with
    | [v0, v1, v2, v3, v4, v5, v6], _, [y0, y1, y2, y3, y4], _ =>
      have h0 : DataW.trod enc Try.prog w 0 sp hd m 3 (([v0, v1, v2, v3, v4, v5, v6].drop 0).take (Try.prog.cellsOf 3)) = some y0 := hf 0 _ rfl
      have h1 : DataW.trod enc Try.prog w 0 sp hd m 3 (([v0, v1, v2, v3, v4, v5, v6].drop 1).take (Try.prog.cellsOf 3)) = some y1 := hf 1 _ rfl
      have h2 : DataW.trod enc Try.prog w 0 sp hd m 31 (([v0, v1, v2, v3, v4, v5, v6].drop 2).take (Try.prog.cellsOf 31)) = some y2 := hf 2 _ rfl
      have h3 : DataW.trod enc Try.prog w 0 sp hd m 9 (([v0, v1, v2, v3, v4, v5, v6].drop 5).take (Try.prog.cellsOf 9)) = some y3 := hf 3 _ rfl
      have h4 : DataW.trod enc Try.prog w 0 sp hd m 25 (([v0, v1, v2, v3, v4, v5, v6].drop 6).take (Try.prog.cellsOf 25)) = some y4 := hf 4 _ rfl
      rw [c3] at h0
      rw [c3] at h1
      rw [c31] at h2
      rw [c9] at h3
      rw [c25] at h4
      obtain ⟨a0, e0, b0⟩ := open_int1 m _ _ h0
      obtain ⟨a1, e1, b1⟩ := open_int1 m _ _ h1
      obtain ⟨a2, e2⟩ := open_val m _ _ h2
      obtain ⟨a3, e3, b3⟩ := open_str1 m _ _ h3
      obtain ⟨A, c, l, ds, e4, g0, g1, g2, g3⟩ := open_rowK k70 Try.underlying25 c70 m (fun e d => nodes e ≤ Rows.uptoBulk d ∧ ∀ c ∈ occ e, okI c) (fun n' cs x hn h => ih n' (by omega) cs x h) h4
      simp at e0 e1 e2 e3 e4
      obtain ⟨q0, q1, q2⟩ := e2
      subst e0 e1 e3 e4 q0 q1 q2
      obtain ⟨d1, d2⟩ := nodesL_bulk g2
      refine ⟨⟨a0, a1, a2, a3, l⟩, k70_mk w ⟨a0, a1, a2, a3, l⟩ g0 g1, ?_, fun c hc => ?_⟩
      · simp only [List.map_cons, List.map_nil, Rows.uptoBulk, Rows.uptoBulkAll, nodes]
        omega
      · simp only [occ, List.mem_append] at hc
        rcases hc with hc | hc
        · split at hc
          · rw [List.mem_singleton] at hc; exact hc ▸ b1
          · cases hc
        · exact d2 c hc
set_option maxRecDepth 20000 in
/-- A TABLE. -/
theorem open_table (n : Nat) (cs : List Value) (x : DataW H × List MemPlace) (h : DataW.trod enc Try.prog w 0 sp hd n 27 cs = some x) (hb : Rows.uptoBulk x.1 ≤ 1048576) :
    ∃ (tn : ByteArray) (A1 : Option Addr) (c1 : Nat) (cols : List Cl) (A2 : Option Addr) (c2 : Nat) (key : List Int) (A3 : Option Addr) (c3 : Nat) (fg : List Fg) (A4 : Option Addr) (c4 : Nat) (ch : List Ex),
      cs = [.string tn, .slice A1 cols.length c1, .slice A2 key.length c2, .slice A3 fg.length c3, .slice A4 ch.length c4] ∧ Kd.C k29 w A1 cols.length cols ∧ cols.length ≤ c1 ∧ Kd.C (Kd.int .i64) w A2 key.length key ∧ key.length ≤ c2 ∧ Kd.C k62 w A3 fg.length fg ∧ fg.length ≤ c3 ∧ Kd.C k70 w A4 ch.length ch ∧ ch.length ≤ c4 ∧ Fits cols key fg ch ∧ ∀ x ∈ ch, ∀ c ∈ occ x, okI c := by
  obtain ⟨xs, m, _, rfl, hl, hlen, hf⟩ := DataW.trod_struct Try.underlying27 h
  rw [c27] at hl
  match cs, hl, xs, hlen with
  | [v0, v1, v2, v3, v4], _, [y0, y1, y2, y3, y4], _ =>
    have h0 : DataW.trod enc Try.prog w 0 sp hd m 9 (([v0, v1, v2, v3, v4].drop 0).take (Try.prog.cellsOf 9)) = some y0 := hf 0 _ rfl
    have h1 : DataW.trod enc Try.prog w 0 sp hd m 22 (([v0, v1, v2, v3, v4].drop 1).take (Try.prog.cellsOf 22)) = some y1 := hf 1 _ rfl
    have h2 : DataW.trod enc Try.prog w 0 sp hd m 23 (([v0, v1, v2, v3, v4].drop 2).take (Try.prog.cellsOf 23)) = some y2 := hf 2 _ rfl
    have h3 : DataW.trod enc Try.prog w 0 sp hd m 24 (([v0, v1, v2, v3, v4].drop 3).take (Try.prog.cellsOf 24)) = some y3 := hf 3 _ rfl
    have h4 : DataW.trod enc Try.prog w 0 sp hd m 25 (([v0, v1, v2, v3, v4].drop 4).take (Try.prog.cellsOf 25)) = some y4 := hf 4 _ rfl
    rw [c9] at h0
    rw [c22] at h1
    rw [c23] at h2
    rw [c24] at h3
    rw [c25] at h4
    obtain ⟨tn, e0, b0⟩ := open_str1 m _ _ h0
    obtain ⟨A1, d1, cols, x1, e1, p1, q1, r1, s1⟩ := open_rowK k29 Try.underlying22 c29 m (fun c d => c.f0.size ≤ Rows.uptoBulk d) (fun n cs x _ h => by obtain ⟨a, rfl, o⟩ := open_col n cs x h; exact ⟨a, k29_mk w a, o⟩) h1
    obtain ⟨A2, d2, key, x2, e2, p2, q2, r2, s2⟩ := open_rowK (Kd.int .i64) Try.underlying23 c3 m (fun a _ => okI a) (fun n cs x _ h => by obtain ⟨a, e, o⟩ := open_int1 n cs x h; exact ⟨a, e, o⟩) h2
    obtain ⟨A3, d3, fg, x3, e3, p3, q3, r3, s3⟩ := open_rowK k62 Try.underlying24 c62 m (fun f d => f.f0.length ≤ Rows.uptoBulk d ∧ ∀ c ∈ f.f0, okI c) (fun n cs x _ h => by obtain ⟨a, e, o1, o2⟩ := open_fg n cs x h; exact ⟨a, e, o1, o2⟩) h3
    obtain ⟨A4, d4, ch, x4, e4, p4, q4, r4, s4⟩ := open_rowK k70 Try.underlying25 c70 m (fun e d => nodes e ≤ Rows.uptoBulk d ∧ ∀ c ∈ occ e, okI c) (fun n cs x _ h => by obtain ⟨a, e, o1, o2⟩ := open_ex n cs x h; exact ⟨a, e, o1, o2⟩) h4
    simp at e0 e1 e2 e3 e4
    subst e0 e1 e2 e3 e4
    simp only [List.map_cons, List.map_nil, Rows.uptoBulk, Rows.uptoBulkAll] at hb
    have l1 := bulk_len x1
    have l2 := bulk_len x2
    have l3 := bulk_len x3
    have l4 := bulk_len x4
    have n1 := r1.len
    have n2 := r2.len
    have n3 := r3.len
    have n4 := r4.len
    refine ⟨tn, A1, d1, cols, A2, d2, key, A3, d3, fg, A4, d4, ch, rfl, q1, p1, q2, p2, q3, p3, q4, p4, ⟨by omega, by omega, by omega, fun f hf => ?_, by omega, fun e he => ?_, fun c hc => ?_, fun c hc => ?_, fun f hf => ?_⟩, fun e he => ?_⟩
    · obtain ⟨d, hd1, hd2, _⟩ := r3.mem f hf
      have := bulk_part hd1
      omega
    · obtain ⟨d, hd1, hd2, _⟩ := r4.mem e he
      have := bulk_part hd1
      omega
    · obtain ⟨d, hd1, hd2⟩ := r1.mem c hc
      have := bulk_part hd1
      omega
    · obtain ⟨d, _, hd2⟩ := r2.mem c hc
      exact hd2
    · obtain ⟨d, _, _, hd2⟩ := r3.mem f hf
      exact hd2
    · obtain ⟨d, _, _, hd2⟩ := r4.mem e he
      exact hd2
set_option maxRecDepth 20000 in
/-- A CHANGE. -/
theorem open_change (n : Nat) (cs : List Value) (x : DataW H × List MemPlace) (h : DataW.trod enc Try.prog w 0 sp hd n 33 cs = some x) :
    ∃ (k : Int) (nm nt cn : ByteArray) (ck : Int) (cb : Bool) (dk dn : Int) (dt : ByteArray), cs = [.int .i64 k, .string nm, .string nt, .string cn, .int .i64 ck, .bool cb, .int .i64 dk, .int .i64 dn, .string dt] := by
  obtain ⟨xs, m, _, rfl, hl, hlen, hf⟩ := DataW.trod_struct Try.underlying33 h
  rw [c33] at hl
  match cs, hl, xs, hlen with
  | [v0, v1, v2, v3, v4, v5, v6, v7, v8], _, [y0, y1, y2, y3, y4], _ =>
    have h0 : DataW.trod enc Try.prog w 0 sp hd m 3 (([v0, v1, v2, v3, v4, v5, v6, v7, v8].drop 0).take (Try.prog.cellsOf 3)) = some y0 := hf 0 _ rfl
    have h1 : DataW.trod enc Try.prog w 0 sp hd m 9 (([v0, v1, v2, v3, v4, v5, v6, v7, v8].drop 1).take (Try.prog.cellsOf 9)) = some y1 := hf 1 _ rfl
    have h2 : DataW.trod enc Try.prog w 0 sp hd m 9 (([v0, v1, v2, v3, v4, v5, v6, v7, v8].drop 2).take (Try.prog.cellsOf 9)) = some y2 := hf 2 _ rfl
    have h3 : DataW.trod enc Try.prog w 0 sp hd m 29 (([v0, v1, v2, v3, v4, v5, v6, v7, v8].drop 3).take (Try.prog.cellsOf 29)) = some y3 := hf 3 _ rfl
    have h4 : DataW.trod enc Try.prog w 0 sp hd m 31 (([v0, v1, v2, v3, v4, v5, v6, v7, v8].drop 6).take (Try.prog.cellsOf 31)) = some y4 := hf 4 _ rfl
    rw [c3] at h0
    rw [c9] at h1
    rw [c9] at h2
    rw [c29] at h3
    rw [c31] at h4
    obtain ⟨a0, e0, _⟩ := open_int1 m _ _ h0
    obtain ⟨a1, e1, _⟩ := open_str1 m _ _ h1
    obtain ⟨a2, e2, _⟩ := open_str1 m _ _ h2
    obtain ⟨a3, e3, _⟩ := open_col m _ _ h3
    obtain ⟨a4, e4⟩ := open_val m _ _ h4
    simp at e0 e1 e2 e3 e4
    obtain ⟨r0, r1, r2⟩ := e3
    obtain ⟨q0, q1, q2⟩ := e4
    subst e0 e1 e2 r0 r1 r2 q0 q1 q2
    exact ⟨_, _, _, _, _, _, _, _, _, rfl⟩
end
end Go.Proofs.Ytjceeengnnjipaa.PAll
