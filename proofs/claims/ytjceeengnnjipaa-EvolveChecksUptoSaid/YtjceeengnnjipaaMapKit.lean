/- WORDS ON A MAP OF COUNTS that the call makes: 'm[k]++', 'm[k]'. -/
import Derived.Test.YtjceeengnnjipaaKit
import Derived.Maps.Own
import Derived.Maps.OwnOps
import Derived.Maps.OwnSet
import Derived.Maps.Views
import Derived.Deep.AppendLies
namespace Go.Proofs.Ytjceeengnnjipaa.Kit
open Go.RowKit Go.Maps
set_option linter.unusedVariables false

/-- Block B of w is a map of at most n entries; under a key it holds the key's count (0 where it is not there). -/
class Counts (P : outParam Program) (K E B n : outParam Nat) (cnt : outParam (Lit → Nat)) (w : World) : Prop where
  out : ∃ D : DataW Unit, w.ownsMap P K (plainElem P E) B n D ∧ ∀ kl, WideAt.IsKeyLit kl → D.atKey kl (.lit (.int .i64 0)) = .lit (.int .i64 (cnt kl))
theorem grownNone {w w1 : World} (h : Below w.heap.size w w1) : w.grownBy w1 none := ⟨h.os, h.tape, h.output, h.size, fun i hi _ => h.block i hi⟩
section
variable {P : Program} {K E B n : Nat} {cnt : Lit → Nat}
theorem Counts.made (w : World) : Counts P K E w.heap.size 0 (fun _ => 0) (w.alloc (.map #[] 0)) :=
  ⟨.map [], World.ownsMap_made _ _ _ _, fun kl _ => rfl⟩
theorem Counts.madeAt {w : World} {b : Nat} (h : w.heap.size = b) : Counts P K E b 0 (fun _ => 0) (w.alloc (.map #[] 0)) := h ▸ Counts.made w
theorem Counts.kept {w w1 : World} {row : Option Nat} (h : Counts P K E B n cnt w) (hg : w.grownBy w1 row) (hne : some B ≠ row) : Counts P K E B n cnt w1 := by
  obtain ⟨D, h1, h2⟩ := h.out
  exact ⟨D, h1.kept hg hne, h2⟩
theorem Counts.lt {w : World} (h : Counts P K E B n cnt w) : B < w.heap.size := by
  obtain ⟨D, h1, h2⟩ := h.out
  exact h1.lt
instance countsIn (w : World) [h : Counts P K E B n cnt w] : InHeap w B := ⟨h.lt⟩
instance countsStep (w w1 : World) [s : Step w w1] [h : Counts P K E B n cnt w] : Counts P K E B n cnt w1 := h.kept (grownNone s.out) (by simp)
instance countsAlloc (w : World) (o : Obj) [h : Counts P K E B n cnt w] : Counts P K E B n cnt (w.alloc o) := h.kept (World.grownBy_alloc w o none) (by simp)
instance countsDrewN (w : World) (m : Nat) [h : Counts P K E B n cnt w] : Counts P K E B n cnt (w.drewN m) := ⟨h.out⟩
instance countsDrew (w : World) [h : Counts P K E B n cnt w] : Counts P K E B n cnt w.drew := ⟨h.out⟩
instance countsSet (w : World) (g o : Nat) (v : Value) [h : Counts P K E B n cnt w] [f : NeB B g] : Counts P K E B n cnt (w.setCell ⟨g, o, none⟩ v) := by
  obtain ⟨D, h1, h2⟩ := h.out
  exact ⟨D, h1.setCell f.out v, h2⟩
/-- w1 is w but for block B and new ones. -/
class Turn (W : outParam World) (B : outParam Nat) (w1 : World) : Prop where out : W.grownBy w1 (some B)
instance turnIn (W w1 : World) (b : Nat) [s : Turn W B w1] [h : InHeap W b] : InHeap w1 b := ⟨Nat.lt_of_lt_of_le h.out s.out.size⟩
instance turnBel (w W w1 : World) [s : Turn W B w1] [h : Bel w W] [f : Fresh w B] : Bel w w1 := ⟨h.out.grown s.out h.out.size (fun j hj => by cases hj; exact f.out)⟩
theorem Turn.cell {W w1 : World} (s : Turn W B w1) : ∀ (b o : Nat) [InHeap W b] [NeB b B], w1.cell? ⟨b, o, none⟩ = W.cell? ⟨b, o, none⟩ := fun b o h f => s.out.cell_far ⟨b, o, none⟩ h.out (fun e => f.out (by injection e))
theorem Turn.frozen {W w1 : World} (s : Turn W B w1) : ∀ (b o : Nat) [InHeap W b] [NeB b B], w1.frozen? ⟨b, o, none⟩ = W.frozen? ⟨b, o, none⟩ := fun b o h f => s.out.frozen_far ⟨b, o, none⟩ h.out (fun e => f.out (by injection e))
section
variable {ops : Array Oper} {rest : List Oper} {o : Oper} {a : Act} {Q : Exit → Act → World → Prop}
theorem Counts.run {P : Program} {k e b n : Nat} {cnt : Lit → Nat} {w : World} (hown : Counts P k e b n cnt w) (t : TypeId) (Ky : Keyed P k) (ht : P.underlying t = some (.map k e)) (he : P.underlying e = some (.int .i64)) (hz : (zeroValue e).run P w = .ok (.int .i64 0) w) {key : Value} {kl : Lit} (hkey : keyOf P k key = some kl) (hk : WideAt.IsKeyLit kl) :
    (Instr.lookup t (.map (some b)) key false).run P w = .ok (.int .i64 (cnt kl)) w := by
  obtain ⟨D, h1, h2⟩ := hown.out
  obtain ⟨c, hrun, hat, hwc⟩ := h1.lookup_int Ky ht he hz hkey
  rw [h2 kl hk] at hat
  injection hat with hat
  injection hat with _ hat
  rw [hrun, ← hat]
theorem wpList_count (w : World) (hg : o.guard = none) (m x : Operand) (t : TypeId) (hop : o.op = Op.lookup t m x false)
    (k e : TypeId) (Ky : Keyed P k) (ht : P.underlying t = some (.map k e)) (he : P.underlying e = some (.int .i64)) (hz : (zeroValue e).run P w = .ok (.int .i64 0) w) (b n : Nat) (cnt : Lit → Nat)
    (hm : a.eval m = .map (some b)) (hown : Counts P k e b n cnt w) (key : Value) (kl : Lit) (hx : a.eval x = key) (hkey : keyOf P k key = some kl) (hk : WideAt.IsKeyLit kl)
    (hK : wpList P ops Q rest (a.put o.dst (.int .i64 (cnt kl))) w) :
    wpList P ops Q (o :: rest) a w := by
  obtain ⟨D, h1, h2⟩ := hown.out
  refine wpList_lookup_own_int w hg m x t hop k e .i64 Ky ht he hz b n D hm h1 key kl hx hkey ?_
  intro c hat hwc
  rw [h2 kl hk] at hat
  injection hat with hat
  injection hat with _ hat
  rw [← hat]
  exact hK
theorem wpList_countUp (w : World) (hg : o.guard = none) (m x v : Operand) (t : TypeId) (hop : o.op = Op.mapUpdate t m x v)
    (k e : TypeId) (Ky : Keyed P k) (ht : P.underlying t = some (.map k e)) (he : P.underlying e = some (.int .i64)) (b n : Nat) (cnt : Lit → Nat)
    (hm : a.eval m = .map (some b)) (hown : Counts P k e b n cnt w) (hn : n < maxLen) (key : Value) (kl : Lit) (c : Nat) (hx : a.eval x = key) (hv : a.eval v = .int .i64 c) (hc : c ≤ 9223372036854775807) (hkey : keyOf P k key = some kl) (hk : WideAt.IsKeyLit kl) (cnt2 : Lit → Nat) (c1 : cnt2 kl = c) (c2 : ∀ l, l ≠ kl → cnt2 l = cnt l)
    (hK : ∀ w', Counts P k e b (n + 1) cnt2 w' → w.grownBy w' (some b) → wpList P ops Q rest (a.put o.dst undef) w') :
    wpList P ops Q (o :: rest) a w := by
  obtain ⟨D, h1, h2⟩ := hown.out
  refine wpList_mapUpdate_own w hg m x v t hop k e Ky ht _ b n D hm h1 hn key _ kl hx hv hkey _ [] (plainElem_int he (WalkArith.wf_i64 (by omega))) ?_
  intro w1 h3 h4
  refine hK w1 ⟨_, h3, fun l hl => ?_⟩ h4
  by_cases e : l = kl
  · subst e
    rw [c1]
    exact atKey_put_same h1.isMap hk _ _
  · rw [c2 l e]
    exact (atKey_put_other e _ _).trans (h2 l hl)
end
end
/-- Block b of w is o. -/
class Blk (w : World) (b : Nat) (o : outParam Obj) : Prop where out : w.heap[b]? = some o
instance blkIn (w : World) (b : Nat) (o : Obj) [h : Blk w b o] : InHeap w b := ⟨(Array.getElem?_eq_some_iff.1 h.out).1⟩
instance (priority := high) blkNew (w : World) (o : Obj) : Blk (w.alloc o) w.heap.size o := ⟨by simpa using heap_alloc_new w o⟩
instance blkAlloc (w : World) (o o' : Obj) (b : Nat) [h : Blk w b o] : Blk (w.alloc o') b o := ⟨by
  have := (Array.getElem?_eq_some_iff.1 h.out).1
  exact ((Below.refl w.heap.size w).alloc (Nat.le_refl _) o').block b this |>.trans h.out⟩
instance blkDrewN (w : World) (o : Obj) (b m : Nat) [h : Blk w b o] : Blk (w.drewN m) b o := ⟨h.out⟩
instance blkDrew (w : World) (o : Obj) (b : Nat) [h : Blk w b o] : Blk w.drew b o := ⟨h.out⟩
instance blkSet (w : World) (o : Obj) (b g i : Nat) (v : Value) [h : Blk w b o] [f : NeB b g] : Blk (w.setCell ⟨g, i, none⟩ v) b o := ⟨(Below.heap_setCell w ⟨g, i, none⟩ v b f.out).trans h.out⟩
instance blkStep (w w1 : World) (o : Obj) (b : Nat) [s : Step w w1] [h : Blk w b o] : Blk w1 b o := ⟨(s.out.block b (Array.getElem?_eq_some_iff.1 h.out).1).trans h.out⟩
instance blkTurn (w w1 : World) (o : Obj) (b B : Nat) [s : Turn w B w1] [h : Blk w b o] [f : NeB b B] : Blk w1 b o := ⟨(s.out.block b (Array.getElem?_eq_some_iff.1 h.out).1 (fun e => f.out (by injection e))).trans h.out⟩
end Go.Proofs.Ytjceeengnnjipaa.Kit
