/- THE VALUES' OWN TYPES and what is told of them in memory (kinds), by hand after kinds.py's form; small words on rows of the call's own. -/
import Derived.Test.YtajkbnfpnohdlaaDoorKit
import Derived.Test.YtajkbnfpnohdlaaDoorWWords
namespace Go.Proofs.YtajkbnfpnohdlaaDoor.Kit
open Go.RowKit Go.Proofs.YtajkbnfpnohdlaaDoorW.PrintWords
set_option linter.unusedVariables false

/-- What is told of a slice that came in, told of a later world. -/
theorem up {α : Type} {d : Kd α} {w W : World} {A : Option Addr} {n : Nat} {xs : List α} (h : d.C w A n xs) [b : Bel w W] : d.C W A n xs := Kd.C_below h b.out
theorem C_len {α : Type} {d : Kd α} {w : World} {A : Option Addr} {n : Nat} {xs : List α} (h : d.C w A n xs) : xs.length = n := h.1
/-- The block of a slice with an element is there. -/
theorem InHeap.ofCell {w : World} {b o : Nat} {v : Value} (h : w.cell? ⟨b, o, none⟩ = some v) : InHeap w b := ⟨World.block_lt_of_cell? w ⟨b, o, none⟩ h⟩

structure Period where
  lo : Int
  hi : Int
  deriving DecidableEq
def zPeriod : Period := ⟨0, 0⟩
def kPeriod : Kd Period := Kd.iso (Kd.pair (Kd.int .i64) (Kd.int .i64)) (fun x => (x.lo, x.hi))
theorem kPeriod_open {w : World} {x : Period} {cs : List Value} (h : kPeriod.K w x cs) : cs = [.int .i64 x.lo, .int .i64 x.hi] := by
  obtain ⟨_, _, rfl, rfl, rfl⟩ := h
  rfl
theorem kPeriod_mkM (w : World) (base : Nat) (ok : Nat → Prop) (x : Period) : kPeriod.M w base ok x [.int .i64 x.lo, .int .i64 x.hi] := ⟨[.int .i64 x.lo], [.int .i64 x.hi], rfl, rfl, rfl⟩

theorem at_Period {w : World} {A : Option Addr} {n : Nat} {xs : List Period} (h : Kd.C kPeriod w A n xs) (k : Nat) (hk : k < n) : ∃ ad, A = some ad ∧ InHeap w ad.block ∧ w.cell? (ad.add (k * 2)) = some (.int .i64 (xs.getD k zPeriod).lo) ∧ w.cell? ⟨(ad.add (k * 2)).block, (ad.add (k * 2)).off + 1, none⟩ = some (.int .i64 (xs.getD k zPeriod).hi) := by
  obtain ⟨ad, c, e, _, hK, hc0⟩ := Kd.C_get h zPeriod (k : Int) (by omega) (by omega)
  have hc : ∀ j u, c[j]? = some u → w.cell? (ad.add (k * 2 + j)) = some u := hc0
  obtain rfl := kPeriod_open hK
  have h0 := hc 0 _ rfl
  have h1 := hc 1 _ rfl
  rw [add_field _ _ 1 (by omega)] at h1
  refine ⟨ad, e, ⟨?_⟩, h0, h1⟩
  have := World.block_lt_of_cell? w _ h0
  rwa [addBlock] at this
/-- A literal's row, as the walk leaves it. -/
theorem R_litA {α : Type} {d : Kd α} {W : World} {base e g : Nat} {xs : List α} {inner : List Value} {okp : Nat → Prop} (hrep : Reps (d.M W base okp) d.sz xs inner) (hg : W.heap.size = g) (hbase : base ≤ W.heap.size) (hm : xs.length ≤ 9223372036854775807) :
    d.R e (W.alloc (.cells inner.toArray e)) base (fun _ => True) (.slice (some ⟨g, 0, none⟩) xs.length xs.length) xs := by
  subst hg
  refine ⟨fun _ _ => trivial, inner, ?_, ?_⟩
  · have h2 := World.ownsRow_lit (base := base) (e := e) (size := d.sz) W inner.toArray xs.length hbase (by simpa [maxLen] using hm) (by simpa using hrep.1)
    simpa using h2
  · refine hrep.imp_ (fun p c hp => d.M_mono (fun k hk => ⟨trivial, fun he => ?_⟩) (Kd.M_below (d.M_bound hp) (below_alloc (Below.refl _ _) _)))
    have h3 : k = W.heap.size := by simpa [Value.ownBlock] using he
    have := hk.2.2.1
    omega
theorem reps1 {α : Type} {R : α → List Value → Prop} {size : Nat} {p : α} {c : List Value} (hp : R p c) (hc : c.length = size) : Reps R size [p] c := by
  have h := (Reps.none R size).snoc hp hc
  simpa using h
/-- A row of the call's own, told of a later world (in which it was not written) and of an elder base. -/
theorem Rdown {α : Type} {d : Kd α} {e b : Nat} {w W W' : World} {ok : Nat → Prop} {v : Value} {xs : List α} (h : d.R e W b ok v xs) [f : Fresh w b] [g : Bel W W'] : d.R e W' w.heap.size (fun _ => True) v xs :=
  Kd.R_mono (Kd.R_lower (Kd.R_below h g.out) f.out) (fun _ _ => trivial)
end Go.Proofs.YtajkbnfpnohdlaaDoor.Kit
