/- WORDS OF THE WALKS: worlds behind a call (Step), blocks that are there (InHeap), what was below stands (Bel), all found by instances. -/
import Derived.Test.YtjceeengnnjipaaProg
import Derived.WalkKit
import Derived.OwnWalk
import Derived.Below
import Derived.Deep.QuietTactic
import Derived.BigQuiet
import Derived.Outline
import Derived.Lib.Hide
namespace Go.Proofs.Ytjceeengnnjipaa.Kit
open Go.RowKit
set_option linter.unusedVariables false

theorem ret_bool {a b : Bool} (h : a = b) : Ending.returned (.bool a) = .returned (.bool b) := by rw [h]
theorem ret_int {k : IntKind} {a b : Int} (h : a = b) : Ending.returned (.int k a) = .returned (.int k b) := by rw [h]
theorem ret_str {a b : ByteArray} (h : a = b) : Ending.returned (.string a) = .returned (.string b) := by rw [h]
theorem ret_eq {a b : Value} (h : a = b) : Ending.returned a = .returned b := by rw [h]

/-- w7 is the world behind an event that began in W. -/
class Step (W : outParam World) (w7 : World) : Prop where out : Below W.heap.size W w7
class InHeap (W : World) (b : Nat) : Prop where out : b < W.heap.size
class Bel (w W : World) : Prop where out : Below w.heap.size w W
class HSize (W : World) (n : outParam Nat) : Prop where out : W.heap.size = n
class LtS (b n : Nat) : Prop where out : b < n
class Fresh (w : World) (b : Nat) : Prop where out : w.heap.size ≤ b
instance (priority := low) sizeBase (W : World) : HSize W W.heap.size := ⟨rfl⟩
instance sizeAlloc (W : World) (o : Obj) (n : Nat) [h : HSize W n] : HSize (W.alloc o) (n + 1) := ⟨by have := h.out; simp; omega⟩
instance sizeDrewN (W : World) (k : Nat) (n : Nat) [h : HSize W n] : HSize (W.drewN k) n := ⟨h.out⟩
instance sizeDrew (W : World) (n : Nat) [h : HSize W n] : HSize W.drew n := ⟨h.out⟩
instance sizeSet (W : World) (a : Addr) (v : Value) (n : Nat) [h : HSize W n] : HSize (W.setCell a v) n := ⟨by have := h.out; simpa using this⟩
instance ltNew (n : Nat) : LtS n (n + 1) := ⟨by omega⟩
instance ltOld (b n : Nat) [h : LtS b n] : LtS b (n + 1) := ⟨by have := h.out; omega⟩
instance inSize (W : World) (n b : Nat) [s : HSize W n] [h : LtS b n] : InHeap W b := ⟨by have := s.out; have := h.out; omega⟩
instance inAlloc (W : World) (o : Obj) (b : Nat) [h : InHeap W b] : InHeap (W.alloc o) b := ⟨by have := h.out; simp; omega⟩
instance inDrewN (W : World) (n : Nat) (b : Nat) [h : InHeap W b] : InHeap (W.drewN n) b := ⟨h.out⟩
instance inDrew (W : World) (b : Nat) [h : InHeap W b] : InHeap W.drew b := ⟨h.out⟩
instance inSet (W : World) (a : Addr) (v : Value) (b : Nat) [h : InHeap W b] : InHeap (W.setCell a v) b := ⟨by have := h.out; simpa using this⟩
instance inStep (W w7 : World) (b : Nat) [s : Step W w7] [h : InHeap W b] : InHeap w7 b := ⟨Nat.lt_of_lt_of_le h.out s.out.size⟩
instance belRefl (w : World) : Bel w w := ⟨Below.refl _ _⟩
instance belAlloc (w W : World) (o : Obj) [h : Bel w W] : Bel w (W.alloc o) := ⟨h.out.alloc h.out.size _⟩
instance belDrew (w W : World) [h : Bel w W] : Bel w W.drew := ⟨h.out.drew⟩
theorem below_drewN {B : Nat} {w W : World} (h : Below B w W) (n : Nat) : Below B w (W.drewN n) := ⟨h.os, h.tape, h.output, h.size, h.block⟩
instance belDrewN (w W : World) (n : Nat) [h : Bel w W] : Bel w (W.drewN n) := ⟨below_drewN h.out n⟩
instance belStep (w W w7 : World) [s : Step W w7] [h : Bel w W] : Bel w w7 := ⟨h.out.trans (s.out.mono h.out.size)⟩
instance freshSelf (w : World) : Fresh w w.heap.size := ⟨Nat.le_refl _⟩
instance freshSucc (w : World) (n : Nat) [h : Fresh w n] : Fresh w (n + 1) := ⟨Nat.le_succ_of_le h.out⟩
instance freshBel (w W : World) [h : Bel w W] : Fresh w W.heap.size := ⟨h.out.size⟩
instance belSet (w W : World) (g o : Nat) (v : Value) [h : Bel w W] [f : Fresh w g] : Bel w (W.setCell ⟨g, o, none⟩ v) := ⟨h.out.setCell f.out _⟩
theorem Step.cell {W w7 : World} (s : Step W w7) : ∀ (b o : Nat) [InHeap W b], w7.cell? ⟨b, o, none⟩ = W.cell? ⟨b, o, none⟩ := fun b o h => s.out.cell (p := ⟨b, o, none⟩) h.out
theorem Step.frozen {W w7 : World} (s : Step W w7) : ∀ (b o : Nat) [InHeap W b], w7.frozen? ⟨b, o, none⟩ = W.frozen? ⟨b, o, none⟩ := fun b o h => s.out.frozen (p := ⟨b, o, none⟩) h.out
class NeB (b g : Nat) : Prop where out : b ≠ g
instance neNew (W : World) (b : Nat) [h : InHeap W b] : NeB b W.heap.size := ⟨Nat.ne_of_lt h.out⟩
instance neNew' (W : World) (b : Nat) [h : InHeap W b] : NeB W.heap.size b := ⟨(Nat.ne_of_lt h.out).symm⟩
theorem allocCell (W : World) (o : Obj) (b i : Nat) [h : InHeap W b] : (W.alloc o).cell? ⟨b, i, none⟩ = W.cell? ⟨b, i, none⟩ := (Below.refl W.heap.size W |>.alloc (Nat.le_refl _) o).cell (p := ⟨b, i, none⟩) h.out
theorem allocFrozen (W : World) (o : Obj) (b i : Nat) [h : InHeap W b] : (W.alloc o).frozen? ⟨b, i, none⟩ = W.frozen? ⟨b, i, none⟩ := (Below.refl W.heap.size W |>.alloc (Nat.le_refl _) o).frozen (p := ⟨b, i, none⟩) h.out
theorem setFar (W : World) (b i g o : Nat) (v : Value) [h : NeB b g] : (W.setCell ⟨g, o, none⟩ v).cell? ⟨b, i, none⟩ = W.cell? ⟨b, i, none⟩ := by
  have := Below.heap_setCell W ⟨g, o, none⟩ v b h.out
  simp only [World.cell?]
  rw [this]
theorem setFrozen (W : World) (b i g o : Nat) (v : Value) [h : NeB b g] : (W.setCell ⟨g, o, none⟩ v).frozen? ⟨b, i, none⟩ = W.frozen? ⟨b, i, none⟩ := by
  have := Below.heap_setCell W ⟨g, o, none⟩ v b h.out
  simp only [World.frozen?]
  rw [this]
theorem addBlock (a : Addr) (i : Nat) : (a.add i).block = a.block := by unfold Addr.add; split <;> rfl
instance inAdd (W : World) (a : Addr) (k : Nat) [h : InHeap W a.block] : InHeap W (a.add k).block := ⟨by rw [addBlock]; exact h.out⟩
theorem Step.add {W w7 : World} (s : Step W w7) : ∀ (a : Addr) (k : Nat) [InHeap W a.block], w7.cell? (a.add k) = W.cell? (a.add k) := fun a k h => s.out.cell (by rw [addBlock]; exact h.out)
theorem Step.any {W w7 : World} (s : Step W w7) : ∀ (a : Addr) [InHeap W a.block], w7.cell? a = W.cell? a := fun a h => s.out.cell h.out
theorem allocAny (W : World) (o : Obj) (a : Addr) [h : InHeap W a.block] : (W.alloc o).cell? a = W.cell? a := (Below.refl W.heap.size W |>.alloc (Nat.le_refl _) o).cell h.out
theorem allocAdd (W : World) (o : Obj) (a : Addr) (k : Nat) [h : InHeap W a.block] : (W.alloc o).cell? (a.add k) = W.cell? (a.add k) := (Below.refl W.heap.size W |>.alloc (Nat.le_refl _) o).cell (by rw [addBlock]; exact h.out)
theorem Step.of {W w7 : World} (h : Below W.heap.size W w7) : Step W w7 := ⟨h⟩

end Go.Proofs.Ytjceeengnnjipaa.Kit
