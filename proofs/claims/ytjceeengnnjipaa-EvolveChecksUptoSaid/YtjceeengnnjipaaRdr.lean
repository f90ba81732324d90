/- READING ROWS of what came in, in a later world. -/
import Derived.Test.YtjceeengnnjipaaSpe2
import Derived.Test.YtjceeengnnjipaaKdg
import Derived.Test.YtjceeengnnjipaaMapKit
namespace Go.Proofs.Ytjceeengnnjipaa.PAll
open Go.RowKit Go.Proofs.Ytjceeengnnjipaa.Kit Go.Proofs.Ytjceeengnnjipaa.L13 Go.Proofs.YtjceeengnnjipaaW.PrintWords
set_option linter.unusedVariables false
section
variable {w W : World} {A : Option Addr} {n : Nat}
theorem upCell {w W : World} (h : Below w.heap.size w W) {a : Addr} {v : Value} (x : w.cell? a = some v) : W.cell? a = some v := (h.cell (World.block_lt_of_cell? w _ x)).trans x
theorem inAt {W : World} {a : Addr} {k : Nat} {v : Value} (x : W.cell? (a.add k) = some v) : InHeap W a.block := ⟨by have := World.block_lt_of_cell? W _ x; rwa [addBlock] at this⟩
theorem int_at {xs : List Int} (h : Kd.C (Kd.int .i64) w A n xs) (b : Bel w W) (k : Nat) (hk : k < xs.length) : ∃ ad, A = some ad ∧ InHeap W ad.block ∧ W.cell? (ad.add k) = some (.int .i64 xs[k]) := by
  have hn := h.1
  obtain ⟨ad, e, hi, hx⟩ := at_int h k (by omega)
  have hx2 := upCell b.out hx
  exact ⟨ad, e, inAt hx2, by rw [hx2]; simp [hk]⟩
theorem col_at {xs : List Cl} (h : Kd.C k29 w A n xs) (b : Bel w W) (k : Nat) (hk : k < xs.length) : ∃ ad, A = some ad ∧ InHeap W ad.block ∧ W.cell? (ad.add (k * 3)) = some (.string xs[k].f0) ∧ W.cell? ⟨(ad.add (k * 3)).block, (ad.add (k * 3)).off + 1, none⟩ = some (.int .i64 xs[k].f1) ∧ W.cell? ⟨(ad.add (k * 3)).block, (ad.add (k * 3)).off + 2, none⟩ = some (.bool xs[k].f2) := by
  have hn := h.1
  obtain ⟨ad, e, x0, x1, x2⟩ := at_T29 h (k : Int) (by omega) (by omega)
  simp only [Int.toNat_natCast, rdC_at hk] at x0 x1 x2
  have y0 := upCell b.out x0
  exact ⟨ad, e, inAt y0, y0, upCell b.out x1, upCell b.out x2⟩
theorem fg_at {xs : List Fg} (h : Kd.C k62 w A n xs) (b : Bel w W) (k : Nat) (hk : k < xs.length) : ∃ ad B cp, A = some ad ∧ InHeap W ad.block ∧ W.cell? (ad.add (k * 2)) = some (.slice B xs[k].f0.length cp) ∧ W.cell? ⟨(ad.add (k * 2)).block, (ad.add (k * 2)).off + 1, none⟩ = some (.string xs[k].f1) ∧ xs[k].f0.length ≤ cp ∧ Kd.C (Kd.int .i64) w B xs[k].f0.length xs[k].f0 := by
  have hn := h.1
  obtain ⟨ad, B, cp, e, x0, x1, hl, hr⟩ := at_T62 h (k : Int) (by omega) (by omega)
  simp only [Int.toNat_natCast, rdF_at hk] at x0 x1 hl hr
  have y0 := upCell b.out x0
  exact ⟨ad, B, cp, e, inAt y0, y0, upCell b.out x1, hl, hr⟩
theorem ex_at {xs : List Ex} (h : Kd.C k70 w A n xs) (b : Bel w W) (k : Nat) (hk : k < xs.length) : ∃ ad B cp, A = some ad ∧ InHeap W ad.block ∧ W.cell? (ad.add (k * 7)) = some (.int .i64 xs[k].f0) ∧ W.cell? ⟨(ad.add (k * 7)).block, (ad.add (k * 7)).off + 1, none⟩ = some (.int .i64 xs[k].f1) ∧ W.cell? ⟨(ad.add (k * 7)).block, (ad.add (k * 7)).off + 2, none⟩ = some (.int .i64 xs[k].f2.f0) ∧ W.cell? ⟨(ad.add (k * 7)).block, (ad.add (k * 7)).off + 3, none⟩ = some (.int .i64 xs[k].f2.f1) ∧ W.cell? ⟨(ad.add (k * 7)).block, (ad.add (k * 7)).off + 4, none⟩ = some (.string xs[k].f2.f2) ∧ W.cell? ⟨(ad.add (k * 7)).block, (ad.add (k * 7)).off + 5, none⟩ = some (.string xs[k].f3) ∧ W.cell? ⟨(ad.add (k * 7)).block, (ad.add (k * 7)).off + 6, none⟩ = some (.slice B xs[k].f4.length cp) ∧ xs[k].f4.length ≤ cp ∧ Kd.C k70 w B xs[k].f4.length xs[k].f4 := by
  have hn := h.1
  obtain ⟨ad, B, cp, e, x0, x1, x2, x3, x4, x5, x6, hl, hr⟩ := at_T70 h (k : Int) (by omega) (by omega)
  simp only [Int.toNat_natCast, rdE_at hk] at x0 x1 x2 x3 x4 x5 x6 hl hr
  have y0 := upCell b.out x0
  exact ⟨ad, B, cp, e, inAt y0, y0, upCell b.out x1, upCell b.out x2, upCell b.out x3, upCell b.out x4, upCell b.out x5, upCell b.out x6, hl, hr⟩
end
/-- A definition that can be read. -/
structure Tc (w : World) (A1 : Option Addr) (c1 : Nat) (cols : List Cl) (A2 : Option Addr) (c2 : Nat) (key : List Int) (A3 : Option Addr) (c3 : Nat) (fg : List Fg) (A4 : Option Addr) (c4 : Nat) (ch : List Ex) : Prop where
  r1 : Kd.C k29 w A1 cols.length cols
  h1 : cols.length ≤ c1
  r2 : Kd.C (Kd.int .i64) w A2 key.length key
  h2 : key.length ≤ c2
  r3 : Kd.C k62 w A3 fg.length fg
  h3 : fg.length ≤ c3
  r4 : Kd.C k70 w A4 ch.length ch
  h4 : ch.length ≤ c4
theorem Tc.up {w W : World} {A1 : Option Addr} {c1 : Nat} {cols : List Cl} {A2 : Option Addr} {c2 : Nat} {key : List Int} {A3 : Option Addr} {c3 : Nat} {fg : List Fg} {A4 : Option Addr} {c4 : Nat} {ch : List Ex} (h : Tc w A1 c1 cols A2 c2 key A3 c3 fg A4 c4 ch) [b : Bel w W] : Tc W A1 c1 cols A2 c2 key A3 c3 fg A4 c4 ch :=
  ⟨Kit.up h.r1, h.h1, Kit.up h.r2, h.h2, Kit.up h.r3, h.h3, Kit.up h.r4, h.h4⟩
/-- A row of expressions, of integers that can be read. -/
structure Rc {α : Type} (d : Kd α) (w : World) (A : Option Addr) (cp : Nat) (l : List α) : Prop where
  r : Kd.C d w A l.length l
  h : l.length ≤ cp
theorem Rc.up {α : Type} {d : Kd α} {w W : World} {A : Option Addr} {cp : Nat} {l : List α} (h : Rc d w A cp l) [b : Bel w W] : Rc d W A cp l := ⟨Kit.up h.r, h.h⟩
theorem Rc.len {α : Type} {d : Kd α} {w : World} {A : Option Addr} {cp : Nat} {l : List α} (h : Rc d w A cp l) : l.length ≤ 9223372036854775807 := by have := h.r.2.1; omega
end Go.Proofs.Ytjceeengnnjipaa.PAll
