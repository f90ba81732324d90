/- Small words on rows that are read and on rows of the call's own. -/
import Derived.Test.YtjceeengnnjipaaKit
import Derived.Test.YtjceeengnnjipaaWWords
namespace Go.Proofs.Ytjceeengnnjipaa.Kit
open Go.RowKit Go.Proofs.YtjceeengnnjipaaW.PrintWords
set_option linter.unusedVariables false

/-- What is told of a slice that came in, told of a later world. -/
theorem up {α : Type} {d : Kd α} {w W : World} {A : Option Addr} {n : Nat} {xs : List α} (h : d.C w A n xs) [b : Bel w W] : d.C W A n xs := Kd.C_below h b.out
theorem C_len {α : Type} {d : Kd α} {w : World} {A : Option Addr} {n : Nat} {xs : List α} (h : d.C w A n xs) : xs.length = n := h.1
/-- The block of a slice with an element is there. -/
theorem InHeap.ofCell {w : World} {b o : Nat} {v : Value} (h : w.cell? ⟨b, o, none⟩ = some v) : InHeap w b := ⟨World.block_lt_of_cell? w ⟨b, o, none⟩ h⟩

/-- An element of a row of strings that is read. -/
theorem at_string {w : World} {A : Option Addr} {n : Nat} {xs : List ByteArray} (h : Kd.C Kd.string w A n xs) (k : Nat) (hk : k < n) : ∃ ad, A = some ad ∧ InHeap w ad.block ∧ w.cell? (ad.add k) = some (.string (xs.getD k ⟨#[]⟩)) := by
  obtain ⟨ad, c, e, _, hK, hc0⟩ := Kd.C_get h ⟨#[]⟩ (k : Int) (by omega) (by omega)
  have hc : ∀ j u, c[j]? = some u → w.cell? (ad.add (k * 1 + j)) = some u := hc0
  obtain rfl : c = [.string (xs.getD k ⟨#[]⟩)] := hK
  have h0 := hc 0 _ rfl
  simp at h0
  refine ⟨ad, e, ⟨?_⟩, by simpa using h0⟩
  have := World.block_lt_of_cell? w _ h0
  rwa [addBlock] at this
theorem at_int {w : World} {A : Option Addr} {n : Nat} {xs : List Int} (h : Kd.C (Kd.int .i64) w A n xs) (k : Nat) (hk : k < n) : ∃ ad, A = some ad ∧ InHeap w ad.block ∧ w.cell? (ad.add k) = some (.int .i64 (xs.getD k 0)) := by
  obtain ⟨ad, c, e, _, hK, hc0⟩ := Kd.C_get h 0 (k : Int) (by omega) (by omega)
  have hc : ∀ j u, c[j]? = some u → w.cell? (ad.add (k * 1 + j)) = some u := hc0
  obtain rfl : c = [.int .i64 (xs.getD k 0)] := hK
  have h0 := hc 0 _ rfl
  simp at h0
  refine ⟨ad, e, ⟨?_⟩, by simpa using h0⟩
  have := World.block_lt_of_cell? w _ h0
  rwa [addBlock] at this
/-- A literal's row, as the walk leaves it. -/
theorem R_litA {α : Type} {d : Kd α} {W : World} {base e g : Nat} {xs : List α} {inner : List Value} {okp : Nat → Prop} (hrep : Reps (d.M W base okp) d.sz xs inner) (hg : W.heap.size = g) (hbase : base ≤ W.heap.size) (hm : xs.length ≤ 9223372036854775807) :
    d.R e (W.alloc (.cells inner.toArray e)) base (fun _ => True) (.slice (some ⟨g, 0, none⟩) xs.length xs.length) xs := by
  subst hg
  refine ⟨fun _ _ => trivial, inner, ?_, ?_⟩
  · have h2 := World.ownsRow_lit (base := base) (e := e) (size := d.sz) W inner.toArray xs.length hbase (by simpa [maxLen] using hm) (by simpa using hrep.1)
    simpa using h2
  · refine hrep.imp_ (fun p c hp => d.M_mono (fun k hk => ⟨trivial, fun he => ?_⟩) (Kd.M_below (d.M_bound hp) (below_alloc (Below.refl _ _) _)))
    have h3 : k = W.heap.size := by simpa [Value.ownBlock] using he
    have := hk.2.2.1
    omega
theorem reps1 {α : Type} {R : α → List Value → Prop} {size : Nat} {p : α} {c : List Value} (hp : R p c) (hc : c.length = size) : Reps R size [p] c := by
  have h := (Reps.none R size).snoc hp hc
  simpa using h
/-- A row of the call's own, told of a later world (in which it was not written) and of an elder base. -/
theorem Rdown {α : Type} {d : Kd α} {e b : Nat} {w W W' : World} {ok : Nat → Prop} {v : Value} {xs : List α} (h : d.R e W b ok v xs) [f : Fresh w b] [g : Bel W W'] : d.R e W' w.heap.size (fun _ => True) v xs :=
  Kd.R_mono (Kd.R_lower (Kd.R_below h g.out) f.out) (fun _ _ => trivial)
end Go.Proofs.Ytjceeengnnjipaa.Kit
