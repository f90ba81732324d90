/- WORDS: a result that lies in a block of its own. -/
import Derived.Test.YtjceeengnnjipaaMapKit
import Derived.Test.YtjceeengnnjipaaKdg
import Derived.Laws.Rows
namespace Go.Proofs.Ytjceeengnnjipaa.Kit
open Go.RowKit Go.Proofs.YtjceeengnnjipaaW.PrintWords
set_option linter.unusedVariables false
instance (priority := high) blkNewAt (w : World) (o : Obj) (n : Nat) [h : HSize w n] : Blk (w.alloc o) n o := ⟨by have := h.out; subst this; simpa using heap_alloc_new w o⟩
instance ltHeap (w : World) (b : Nat) [h : InHeap w b] : LtS b w.heap.size := ⟨h.out⟩
instance (priority := low) neLt (b n : Nat) [h : LtS b n] : NeB b n := ⟨Nat.ne_of_lt h.out⟩
instance (priority := low) neGt (b n : Nat) [h : LtS b n] : NeB n b := ⟨(Nat.ne_of_lt h.out).symm⟩
/-- A block that is stored into. -/
instance blkSame (w : World) (b i : Nat) (v : Value) (cs : Array Value) (t : TypeId) [h : Blk w b (.cells cs t (0, 0))] : Blk (w.setCell ⟨b, i, none⟩ v) b (.cells (cs.setIfInBounds i v) t (0, 0)) := ⟨blk_set h.out i v⟩
theorem ret_cell {P : Program} {fn : Func} {R : Ending → World → Prop} {a : Act} {w : World} {g p : Nat} {ty t : TypeId} {cs cs' : Array Value} {d : TypeDesc} (h : fn.results = #[.cell p ty]) (hp : a.tmps.getD p undef = .pointer (some ⟨g, 0, none⟩)) (hb : w.heap[g]? = some (.cells cs t (0, 0))) (he : cs = cs')
    (hu : P.underlying ty = some d) (hd : (match d with | .struct _ | .array _ _ => true | _ => false) = true) (hi : (P.info? ty).map (·.size) = some cs'.size) (hdf : a.defers = []) (hR : R (.returned (.agg cs')) w) : bodyPost P fn R .ret a w := by
  subst he
  exact bodyPost_ret (results_cell_row h a.tmps w g t cs (0, 0) d hp hb hu hd hi) hdf hR
/-- A row of the call's own, told of later worlds by instances: blocks of other types may be written. -/
class Row {α : Type} (d : Kd α) (e : Nat) (W : World) (base : outParam Nat) (v : Value) (xs : outParam (List α)) : Prop where out : d.R e W base (fun _ => True) v xs
class Apart {α : Type} (d : Kd α) (e t : Nat) : Prop where out : ∀ q, q ∈ e :: d.E → q ≠ t
instance rowAlloc {α : Type} (d : Kd α) (e : Nat) (W : World) (base : Nat) (v : Value) (xs : List α) (o : Obj) [h : Row d e W base v xs] : Row d e (W.alloc o) base v xs := ⟨Kd.R_below h.out (below_alloc (Below.refl _ _) _)⟩
instance rowStep {α : Type} (d : Kd α) (e : Nat) (W w7 : World) (base : Nat) (v : Value) (xs : List α) [s : Step W w7] [h : Row d e W base v xs] : Row d e w7 base v xs := ⟨Kd.R_below h.out s.out⟩
instance rowDrewN {α : Type} (d : Kd α) (e : Nat) (W : World) (base : Nat) (v : Value) (xs : List α) (n : Nat) [h : Row d e W base v xs] : Row d e (W.drewN n) base v xs := ⟨Kd.R_drewN h.out n⟩
instance rowDrew {α : Type} (d : Kd α) (e : Nat) (W : World) (base : Nat) (v : Value) (xs : List α) [h : Row d e W base v xs] : Row d e W.drew base v xs := ⟨Kd.R_drew h.out⟩
instance rowSet {α : Type} (d : Kd α) (e : Nat) (W : World) (base : Nat) (v : Value) (xs : List α) (g i : Nat) (u : Value) (cs : Array Value) (t : TypeId) [b : Blk W g (.cells cs t (0, 0))] [a : Apart d e t] [h : Row d e W base v xs] : Row d e (W.setCell ⟨g, i, none⟩ u) base v xs :=
  ⟨Kd.R_mono (Kd.R_far (p := ⟨g, i, none⟩) (Kd.R_types h.out b.out a.out) (fun _ hk => hk.2) u) (fun _ _ => trivial)⟩
theorem Row.down {α : Type} {d : Kd α} {e : Nat} {w W : World} {base : Nat} {v : Value} {xs : List α} [h : Row d e W base v xs] [f : Fresh w base] : d.R e W w.heap.size (fun _ => True) v xs := Kd.R_lower h.out f.out
end Go.Proofs.Ytjceeengnnjipaa.Kit
