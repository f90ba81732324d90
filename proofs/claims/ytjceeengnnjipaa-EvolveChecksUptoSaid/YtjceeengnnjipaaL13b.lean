/- LAYER 13: the reserved words. -/
import Derived.Test.YtjceeengnnjipaaL07a
import Derived.Laws.Strings
namespace Go.Proofs.Ytjceeengnnjipaa.L13
open Go.RowKit Go.Proofs.Ytjceeengnnjipaa.Kit Go.Proofs.Ytjceeengnnjipaa.L07
set_option linter.unusedVariables false
attribute [local go_sem] allocCell allocFrozen setFar setFrozen allocAny

def words : List (List UInt8) := [[97, 100, 100], [97, 102, 116, 101, 114], [97, 108, 108], [97, 108, 116, 101, 114], [97, 110, 100], [97, 115], [98, 101, 102, 111, 114, 101], [98, 101, 103, 105, 110], [98, 101, 116, 119, 101, 101, 110], [98, 111, 111, 108], [98, 121], [99, 104, 101, 99, 107], [99, 111, 97, 108, 101, 115, 99, 101], [99, 111, 109, 109, 105, 116], [99, 111, 110, 116, 97, 105, 110, 115], [99, 111, 117, 110, 116], [99, 114, 101, 97, 116, 101], [100, 101, 102, 97, 117, 108, 116], [100, 101, 108, 101, 116, 101], [100, 101, 115, 99], [100, 105, 115, 116, 105, 110, 99, 116], [100, 114, 111, 112], [100, 117, 114, 105, 110, 103], [101, 113, 117, 97, 108, 115], [101, 120, 99, 101, 112, 116], [102, 97, 108, 115, 101], [102, 105, 110, 105, 115, 104, 101, 100, 98, 121], [102, 105, 110, 105, 115, 104, 101, 115], [102, 111, 114, 101, 105, 103, 110], [102, 111, 114, 101, 118, 101, 114], [102, 114, 111, 109], [103, 114, 111, 117, 112], [104, 111, 108, 100], [105, 102], [105, 110, 115, 101, 114, 116], [105, 110, 116], [105, 110, 116, 101, 114, 115, 101, 99, 116], [105, 110, 116, 111], [105, 115], [106, 111, 105, 110], [107, 101, 121], [108, 101, 102, 116], [108, 101, 110, 103, 116, 104], [108, 105, 109, 105, 116], [109, 97, 120], [109, 101, 101, 116, 115], [109, 101, 116, 98, 121], [109, 105, 110], [110, 111, 110, 115, 101, 113, 117, 101, 110, 99, 101, 100], [110, 111, 116], [110, 111, 119], [110, 117, 108, 108], [111, 102], [111, 110], [111, 114], [111, 114, 100, 101, 114], [111, 118, 101, 114, 108, 97, 112, 112, 101, 100, 98, 121], [111, 118, 101, 114, 108, 97, 112, 115], [112, 114, 105, 109, 97, 114, 121], [112, 114, 117, 110, 101], [114, 101, 102, 101, 114, 101, 110, 99, 101, 115], [114, 101, 108, 101, 97, 115, 101], [114, 101, 110, 97, 109, 101], [114, 101, 116, 97, 105, 110], [114, 111, 108, 108, 98, 97, 99, 107], [115, 101, 108, 101, 99, 116], [115, 101, 113, 117, 101, 110, 99, 101, 100], [115, 101, 116], [115, 116, 97, 114, 116, 101, 100, 98, 121], [115, 116, 97, 114, 116, 115], [115, 117, 109], [115, 121, 115, 116, 101, 109], [115, 121, 115, 116, 101, 109, 102, 114, 111, 109], [115, 121, 115, 116, 101, 109, 116, 111], [116, 97, 98, 108, 101], [116, 101, 120, 116], [116, 111], [116, 114, 117, 101], [116, 120], [117, 110, 100, 101, 114], [117, 110, 105, 111, 110], [117, 112, 100, 97, 116, 101], [118, 97, 108, 105, 100], [118, 97, 108, 105, 100, 102, 114, 111, 109], [118, 97, 108, 105, 100, 116, 111], [118, 97, 108, 117, 101, 115], [119, 104, 101, 114, 101]]
def isWord (s : ByteArray) : Bool := words.any fun l => s.toList == l
/-- What a frame of the walk holds: the word, no defers. -/
def Fr (s : ByteArray) (a : Act) : Prop := a.tmps.size = 94 ∧ a.tmps[3]? = some (.string s) ∧ a.defers = []
theorem link (id d b : Nat) (lit s : ByteArray) (p1 p2 : String) (X : Code) (Q : Exit → Act → World → Prop) (a : Act) (w : World) (hd : b < d) (hb : 3 < b) (hd2 : d < 94) (hf : Fr s a)
    (h : ∀ a', Fr s a' → a'.eval (.tmp b) = .bool (s.toList == lit.toList) → X.wp Try.prog Q a' w) :
    ((Code.region id #[{ dst := some d, op := .binOp .eql 9 (.tmp 3) (.const (.string lit)) 9, type := 4, pos := p1, after := #[], guard := none }, { dst := some b, op := .assign (.tmp d), type := 4, pos := p2, after := #[{ on := 0, ground := .data }], guard := none }] false).seq X).wp Try.prog Q a w := by
  refine wp_seq_k fun K hK => ?_
  generalize hW : Exit.then K Q = Q2
  obtain ⟨h1, h2, h3⟩ := hf
  have h4 : a.tmps[3]'(by omega) = .string s := by simpa [Array.getElem?_eq_getElem, h1] using h2
  go_wp2
  subst hW
  refine hK _ _ (h _ ⟨by simp [h1], ?_, rfl⟩ ?_)
  · rw [Array.getElem?_setIfInBounds_ne (by omega), Array.getElem?_setIfInBounds_ne (by omega)]; exact h2
  · have : b < 94 := by omega
    simp [Act.eval, Array.getD, h1, this]
theorem link_cond (id d b : Nat) (lit s : ByteArray) (p1 p2 : String) (X : Code) (Q : Exit → Act → World → Prop) (a : Act) (w : World) (hd : b < d) (hb : 3 < b) (hd2 : d < 94) (hf : Fr s a)
    (hit : (s.toList == lit.toList) = true → ∀ a', Fr s a' → a'.eval (.tmp b) = .bool true → Q .normal a' w)
    (h : (s.toList == lit.toList) = false → ∀ a', Fr s a' → a'.eval (.tmp b) = .bool false → X.wp Try.prog Q a' w) :
    ((Code.region id #[{ dst := some d, op := .binOp .eql 9 (.tmp 3) (.const (.string lit)) 9, type := 4, pos := p1, after := #[], guard := none }, { dst := some b, op := .assign (.tmp d), type := 4, pos := p2, after := #[{ on := 0, ground := .data }], guard := none }] false).seq (.cond (.tmp b) .skip X)).wp Try.prog Q a w := by
  refine link id d b lit s p1 p2 _ Q a w hd hb hd2 hf fun a' hf' he => ?_
  refine wp_cond_split he (fun e => wp_skip (hit e a' hf' (by rw [he, e]))) (fun e => h e a' hf' (by rw [he, e]))
theorem first0 (p0 : String) (X : Code) (Q : Exit → Act → World → Prop) (s : ByteArray) (w : World) (a : Act) (h1 : a.tmps.size = 94) (h2 : a.tmps[0]? = some (.string s)) (h3 : a.defers = [])
    (h : ∀ a' : Act, a'.tmps.size = 94 → a'.tmps[0]? = some (.string s) → a'.defers = [] → X.wp Try.prog Q a' w) :
    ((Code.region 0 #[{ dst := some 2, op := .assign (.const (.bool false)), type := 4, pos := p0, after := #[], guard := none }] false).seq X).wp Try.prog Q a w := by
  refine wp_seq_k fun K hK => ?_
  generalize hW : Exit.then K Q = Q2
  go_wp2
  subst hW
  exact hK _ _ (h _ (by simp [h1]) (by rw [Array.getElem?_setIfInBounds_ne (by omega)]; exact h2) rfl)
theorem first1 (p1 : String) (X : Code) (Q : Exit → Act → World → Prop) (s : ByteArray) (w : World) (a : Act) (h1 : a.tmps.size = 94) (h2 : a.tmps[0]? = some (.string s)) (h3 : a.defers = [])
    (h : ∀ a', Fr s a' → X.wp Try.prog Q a' w) :
    ((Code.region 1 #[{ dst := some 3, op := .move (.tmp 0), type := 9, pos := p1, after := #[], guard := none }] false).seq X).wp Try.prog Q a w := by
  have h4 : a.tmps[0]'(by omega) = .string s := by simpa [Array.getElem?_eq_getElem, h1] using h2
  refine wp_seq_k fun K hK => ?_
  generalize hW : Exit.then K Q = Q2
  go_wp2
  subst hW
  exact hK _ _ (h _ ⟨by simp [h1], by simp [h1], rfl⟩)
theorem ret_link (id : Nat) (b : Bool) (p : String) (s : ByteArray) (w : World) (Q : Exit → Act → World → Prop) (a : Act) (hf : Fr s a) (hQ : ∀ a' : Act, a'.tmps.getD 2 undef = .bool b → a'.defers = [] → Q .ret a' w) :
    ((Code.region id #[{ dst := some 2, op := .assign (.const (.bool b)), type := 4, pos := p, after := #[], guard := none }] false).seq .ret).wp Try.prog Q a w := by
  obtain ⟨h1, h2, h3⟩ := hf
  refine wp_seq_k fun K hK => ?_
  generalize hW : Exit.then K Q = Q2
  go_wp2
  subst hW
  exact hK _ _ (wp_ret (hQ _ (by simp [Array.getD, h1]) rfl))
/-- One word of a group: a hit ends the group, else the chain goes on. -/
theorem acc_succ {s : ByteArray} {n : Nat} {l : List UInt8} (hn : words[n]? = some l) (h : (words.take n).any (fun x => s.toList == x) = false) (hf : (s.toList == l) = false) : (words.take (n + 1)).any (fun x => s.toList == x) = false := by
  rw [List.take_add_one, hn, List.any_append, h]; simpa using hf
theorem isWord_of {s : ByteArray} {n : Nat} {l : List UInt8} (hn : words[n]? = some l) (h : (s.toList == l) = true) : isWord s = true :=
  List.any_eq_true.2 ⟨l, List.mem_of_getElem? hn, h⟩
theorem lk (n : Nat) (id d b : Nat) (lit s : ByteArray) (p1 p2 : String) (X : Code) (Q : Exit → Act → World → Prop) (a : Act) (w : World) (hd : b < d) (hb : 3 < b) (hd2 : d < 94) (hn : words[n]? = some lit.data.toList) (hf : Fr s a) (hacc : (words.take n).any (fun x => s.toList == x) = false)
    (hit : isWord s = true → ∀ a', Fr s a' → a'.eval (.tmp b) = .bool true → Q .normal a' w)
    (h : (words.take (n + 1)).any (fun x => s.toList == x) = false → ∀ a', Fr s a' → X.wp Try.prog Q a' w) :
    ((Code.region id #[{ dst := some d, op := .binOp .eql 9 (.tmp 3) (.const (.string lit)) 9, type := 4, pos := p1, after := #[], guard := none }, { dst := some b, op := .assign (.tmp d), type := 4, pos := p2, after := #[{ on := 0, ground := .data }], guard := none }] false).seq (.cond (.tmp b) .skip X)).wp Try.prog Q a w := by
  have e : lit.toList = lit.data.toList := ByteArray.toList_eq lit
  refine link_cond id d b lit s p1 p2 X Q a w hd hb hd2 hf (fun ht => hit (isWord_of hn (by rw [← e]; exact ht))) (fun ht a' hf' _ => h (acc_succ hn hacc (by rw [← e]; exact ht)) a' hf')
theorem lkLast (n : Nat) (id d b : Nat) (lit s : ByteArray) (p1 p2 : String) (Q : Exit → Act → World → Prop) (a : Act) (w : World) (hd : b < d) (hb : 3 < b) (hd2 : d < 94) (hn : words[n]? = some lit.data.toList) (hf : Fr s a) (hacc : (words.take n).any (fun x => s.toList == x) = false)
    (hit : isWord s = true → ∀ a', Fr s a' → a'.eval (.tmp b) = .bool true → Q .normal a' w)
    (h : (words.take (n + 1)).any (fun x => s.toList == x) = false → ∀ a', Fr s a' → a'.eval (.tmp b) = .bool false → Q .normal a' w) :
    (Code.region id #[{ dst := some d, op := .binOp .eql 9 (.tmp 3) (.const (.string lit)) 9, type := 4, pos := p1, after := #[], guard := none }, { dst := some b, op := .assign (.tmp d), type := 4, pos := p2, after := #[{ on := 0, ground := .data }], guard := none }] false).wp Try.prog Q a w := by
  obtain ⟨h1, h2, h3⟩ := hf
  have h4 : a.tmps[3]'(by omega) = .string s := by simpa [Array.getElem?_eq_getElem, h1] using h2
  generalize hW : Q = Q2
  go_wp2
  subst hW
  have e : lit.toList = lit.data.toList := ByteArray.toList_eq lit
  have hfr : Fr s ({ tmps := (a.tmps.setIfInBounds d (.bool (s.toList == lit.toList))).setIfInBounds b (.bool (s.toList == lit.toList)), defers := [] } : Act) := ⟨by simp [h1], by rw [Array.getElem?_setIfInBounds_ne (by omega), Array.getElem?_setIfInBounds_ne (by omega)]; exact h2, rfl⟩
  have hev : ({ tmps := (a.tmps.setIfInBounds d (.bool (s.toList == lit.toList))).setIfInBounds b (.bool (s.toList == lit.toList)), defers := [] } : Act).eval (.tmp b) = .bool (s.toList == lit.toList) := by
    have : b < 94 := by omega
    simp [Act.eval, Array.getD, h1, this]
  cases hc : (s.toList == lit.toList) with
  | true => rw [hc] at hfr hev; exact hit (isWord_of hn (by rw [← e]; exact hc)) _ hfr hev
  | false => rw [hc] at hfr hev; exact h (acc_succ hn hacc (by rw [← e]; exact hc)) _ hfr hev
theorem end_ret (s : ByteArray) (w : World) (b : Bool) (hb : isWord s = b) (a : Act) (h3 : a.tmps.getD 2 undef = .bool b) (h4 : a.defers = []) :
    bodyPost Try.prog Try.f45 (fun e w' => e = .returned (.bool (isWord s)) ∧ Below w.heap.size w w') .ret a w := by
  refine bodyPost_ret (results_tmp Try.results45 _ _ _) h4 ⟨?_, Bel.out⟩
  rw [hb]; exact congrArg Ending.returned h3
set_option maxRecDepth 100000 in
set_option maxHeartbeats 4000000 in
theorem reserved_calls (s : ByteArray) (w : World) :
    Calls Try.prog 45 #[.string s] w fun e w' => e = .returned (.bool (isWord s)) ∧ Below w.heap.size w w' := by
  go_enter Try.func45, Try.ntmps45
  refine first0 _ _ _ s w _ rfl rfl rfl fun a h1 h2 h3 => ?_
  refine wp_seq_k fun K hK => ?_
  refine first1 _ _ _ s w a h1 h2 h3 fun a hf => ?_
  refine wp_block ?_
  have acc : (words.take 0).any (fun x => s.toList == x) = false := rfl
  refine wp_seq_k fun K0 hK0 => ?_
  have hit0 : isWord s = true → ∀ a', Fr s a' → a'.eval (.tmp 4) = .bool true → K0 a' w := fun hi a' hf' he => hK0 _ _ (wp_cond_split he (fun _ => ret_link _ true _ s w _ _ hf' (fun a3 h3 h4 => end_ret s w true hi a3 h3 h4)) (fun e => by cases e))
  refine lk 0 _ _ _ _ s _ _ _ _ a w (by decide) (by decide) (by decide) rfl hf acc hit0 (fun acc a hf => ?_)
  refine lk 1 _ _ _ _ s _ _ _ _ a w (by decide) (by decide) (by decide) rfl hf acc hit0 (fun acc a hf => ?_)
  refine lk 2 _ _ _ _ s _ _ _ _ a w (by decide) (by decide) (by decide) rfl hf acc hit0 (fun acc a hf => ?_)
  refine lk 3 _ _ _ _ s _ _ _ _ a w (by decide) (by decide) (by decide) rfl hf acc hit0 (fun acc a hf => ?_)
  refine lk 4 _ _ _ _ s _ _ _ _ a w (by decide) (by decide) (by decide) rfl hf acc hit0 (fun acc a hf => ?_)
  refine lk 5 _ _ _ _ s _ _ _ _ a w (by decide) (by decide) (by decide) rfl hf acc hit0 (fun acc a hf => ?_)
  refine lk 6 _ _ _ _ s _ _ _ _ a w (by decide) (by decide) (by decide) rfl hf acc hit0 (fun acc a hf => ?_)
  refine lk 7 _ _ _ _ s _ _ _ _ a w (by decide) (by decide) (by decide) rfl hf acc hit0 (fun acc a hf => ?_)
  refine lk 8 _ _ _ _ s _ _ _ _ a w (by decide) (by decide) (by decide) rfl hf acc hit0 (fun acc a hf => ?_)
  refine lk 9 _ _ _ _ s _ _ _ _ a w (by decide) (by decide) (by decide) rfl hf acc hit0 (fun acc a hf => ?_)
  refine lk 10 _ _ _ _ s _ _ _ _ a w (by decide) (by decide) (by decide) rfl hf acc hit0 (fun acc a hf => ?_)
  refine lk 11 _ _ _ _ s _ _ _ _ a w (by decide) (by decide) (by decide) rfl hf acc hit0 (fun acc a hf => ?_)
  refine lk 12 _ _ _ _ s _ _ _ _ a w (by decide) (by decide) (by decide) rfl hf acc hit0 (fun acc a hf => ?_)
  refine lk 13 _ _ _ _ s _ _ _ _ a w (by decide) (by decide) (by decide) rfl hf acc hit0 (fun acc a hf => ?_)
  refine lk 14 _ _ _ _ s _ _ _ _ a w (by decide) (by decide) (by decide) rfl hf acc hit0 (fun acc a hf => ?_)
  refine lk 15 _ _ _ _ s _ _ _ _ a w (by decide) (by decide) (by decide) rfl hf acc hit0 (fun acc a hf => ?_)
  refine lk 16 _ _ _ _ s _ _ _ _ a w (by decide) (by decide) (by decide) rfl hf acc hit0 (fun acc a hf => ?_)
  refine lk 17 _ _ _ _ s _ _ _ _ a w (by decide) (by decide) (by decide) rfl hf acc hit0 (fun acc a hf => ?_)
  refine lk 18 _ _ _ _ s _ _ _ _ a w (by decide) (by decide) (by decide) rfl hf acc hit0 (fun acc a hf => ?_)
  refine lk 19 _ _ _ _ s _ _ _ _ a w (by decide) (by decide) (by decide) rfl hf acc hit0 (fun acc a hf => ?_)
  refine lk 20 _ _ _ _ s _ _ _ _ a w (by decide) (by decide) (by decide) rfl hf acc hit0 (fun acc a hf => ?_)
  refine lk 21 _ _ _ _ s _ _ _ _ a w (by decide) (by decide) (by decide) rfl hf acc hit0 (fun acc a hf => ?_)
  refine lk 22 _ _ _ _ s _ _ _ _ a w (by decide) (by decide) (by decide) rfl hf acc hit0 (fun acc a hf => ?_)
  refine lk 23 _ _ _ _ s _ _ _ _ a w (by decide) (by decide) (by decide) rfl hf acc hit0 (fun acc a hf => ?_)
  refine lk 24 _ _ _ _ s _ _ _ _ a w (by decide) (by decide) (by decide) rfl hf acc hit0 (fun acc a hf => ?_)
  refine lk 25 _ _ _ _ s _ _ _ _ a w (by decide) (by decide) (by decide) rfl hf acc hit0 (fun acc a hf => ?_)
  refine lk 26 _ _ _ _ s _ _ _ _ a w (by decide) (by decide) (by decide) rfl hf acc hit0 (fun acc a hf => ?_)
  refine lk 27 _ _ _ _ s _ _ _ _ a w (by decide) (by decide) (by decide) rfl hf acc hit0 (fun acc a hf => ?_)
  refine lk 28 _ _ _ _ s _ _ _ _ a w (by decide) (by decide) (by decide) rfl hf acc hit0 (fun acc a hf => ?_)
  refine lk 29 _ _ _ _ s _ _ _ _ a w (by decide) (by decide) (by decide) rfl hf acc hit0 (fun acc a hf => ?_)
  refine lk 30 _ _ _ _ s _ _ _ _ a w (by decide) (by decide) (by decide) rfl hf acc hit0 (fun acc a hf => ?_)
  refine lk 31 _ _ _ _ s _ _ _ _ a w (by decide) (by decide) (by decide) rfl hf acc hit0 (fun acc a hf => ?_)
  refine lk 32 _ _ _ _ s _ _ _ _ a w (by decide) (by decide) (by decide) rfl hf acc hit0 (fun acc a hf => ?_)
  refine lk 33 _ _ _ _ s _ _ _ _ a w (by decide) (by decide) (by decide) rfl hf acc hit0 (fun acc a hf => ?_)
  refine lk 34 _ _ _ _ s _ _ _ _ a w (by decide) (by decide) (by decide) rfl hf acc hit0 (fun acc a hf => ?_)
  refine lk 35 _ _ _ _ s _ _ _ _ a w (by decide) (by decide) (by decide) rfl hf acc hit0 (fun acc a hf => ?_)
  refine lk 36 _ _ _ _ s _ _ _ _ a w (by decide) (by decide) (by decide) rfl hf acc hit0 (fun acc a hf => ?_)
  refine lk 37 _ _ _ _ s _ _ _ _ a w (by decide) (by decide) (by decide) rfl hf acc hit0 (fun acc a hf => ?_)
  refine lk 38 _ _ _ _ s _ _ _ _ a w (by decide) (by decide) (by decide) rfl hf acc hit0 (fun acc a hf => ?_)
  refine lk 39 _ _ _ _ s _ _ _ _ a w (by decide) (by decide) (by decide) rfl hf acc hit0 (fun acc a hf => ?_)
  refine lkLast 40 _ _ _ _ s _ _ _ a w (by decide) (by decide) (by decide) rfl hf acc hit0 (fun acc a hf he => hK0 _ _ (wp_cond_split he (fun e => by cases e) (fun _ => ?_)))
  refine wp_seq_k fun K1 hK1 => ?_
  have hit1 : isWord s = true → ∀ a', Fr s a' → a'.eval (.tmp 46) = .bool true → K1 a' w := fun hi a' hf' he => hK1 _ _ (wp_cond_split he (fun _ => ret_link _ true _ s w _ _ hf' (fun a3 h3 h4 => end_ret s w true hi a3 h3 h4)) (fun e => by cases e))
  refine lk 41 _ _ _ _ s _ _ _ _ a w (by decide) (by decide) (by decide) rfl hf acc hit1 (fun acc a hf => ?_)
  refine lk 42 _ _ _ _ s _ _ _ _ a w (by decide) (by decide) (by decide) rfl hf acc hit1 (fun acc a hf => ?_)
  refine lk 43 _ _ _ _ s _ _ _ _ a w (by decide) (by decide) (by decide) rfl hf acc hit1 (fun acc a hf => ?_)
  refine lk 44 _ _ _ _ s _ _ _ _ a w (by decide) (by decide) (by decide) rfl hf acc hit1 (fun acc a hf => ?_)
  refine lk 45 _ _ _ _ s _ _ _ _ a w (by decide) (by decide) (by decide) rfl hf acc hit1 (fun acc a hf => ?_)
  refine lk 46 _ _ _ _ s _ _ _ _ a w (by decide) (by decide) (by decide) rfl hf acc hit1 (fun acc a hf => ?_)
  refine lk 47 _ _ _ _ s _ _ _ _ a w (by decide) (by decide) (by decide) rfl hf acc hit1 (fun acc a hf => ?_)
  refine lk 48 _ _ _ _ s _ _ _ _ a w (by decide) (by decide) (by decide) rfl hf acc hit1 (fun acc a hf => ?_)
  refine lk 49 _ _ _ _ s _ _ _ _ a w (by decide) (by decide) (by decide) rfl hf acc hit1 (fun acc a hf => ?_)
  refine lk 50 _ _ _ _ s _ _ _ _ a w (by decide) (by decide) (by decide) rfl hf acc hit1 (fun acc a hf => ?_)
  refine lk 51 _ _ _ _ s _ _ _ _ a w (by decide) (by decide) (by decide) rfl hf acc hit1 (fun acc a hf => ?_)
  refine lk 52 _ _ _ _ s _ _ _ _ a w (by decide) (by decide) (by decide) rfl hf acc hit1 (fun acc a hf => ?_)
  refine lk 53 _ _ _ _ s _ _ _ _ a w (by decide) (by decide) (by decide) rfl hf acc hit1 (fun acc a hf => ?_)
  refine lk 54 _ _ _ _ s _ _ _ _ a w (by decide) (by decide) (by decide) rfl hf acc hit1 (fun acc a hf => ?_)
  refine lk 55 _ _ _ _ s _ _ _ _ a w (by decide) (by decide) (by decide) rfl hf acc hit1 (fun acc a hf => ?_)
  refine lk 56 _ _ _ _ s _ _ _ _ a w (by decide) (by decide) (by decide) rfl hf acc hit1 (fun acc a hf => ?_)
  refine lk 57 _ _ _ _ s _ _ _ _ a w (by decide) (by decide) (by decide) rfl hf acc hit1 (fun acc a hf => ?_)
  refine lk 58 _ _ _ _ s _ _ _ _ a w (by decide) (by decide) (by decide) rfl hf acc hit1 (fun acc a hf => ?_)
  refine lk 59 _ _ _ _ s _ _ _ _ a w (by decide) (by decide) (by decide) rfl hf acc hit1 (fun acc a hf => ?_)
  refine lk 60 _ _ _ _ s _ _ _ _ a w (by decide) (by decide) (by decide) rfl hf acc hit1 (fun acc a hf => ?_)
  refine lk 61 _ _ _ _ s _ _ _ _ a w (by decide) (by decide) (by decide) rfl hf acc hit1 (fun acc a hf => ?_)
  refine lk 62 _ _ _ _ s _ _ _ _ a w (by decide) (by decide) (by decide) rfl hf acc hit1 (fun acc a hf => ?_)
  refine lk 63 _ _ _ _ s _ _ _ _ a w (by decide) (by decide) (by decide) rfl hf acc hit1 (fun acc a hf => ?_)
  refine lk 64 _ _ _ _ s _ _ _ _ a w (by decide) (by decide) (by decide) rfl hf acc hit1 (fun acc a hf => ?_)
  refine lk 65 _ _ _ _ s _ _ _ _ a w (by decide) (by decide) (by decide) rfl hf acc hit1 (fun acc a hf => ?_)
  refine lk 66 _ _ _ _ s _ _ _ _ a w (by decide) (by decide) (by decide) rfl hf acc hit1 (fun acc a hf => ?_)
  refine lk 67 _ _ _ _ s _ _ _ _ a w (by decide) (by decide) (by decide) rfl hf acc hit1 (fun acc a hf => ?_)
  refine lk 68 _ _ _ _ s _ _ _ _ a w (by decide) (by decide) (by decide) rfl hf acc hit1 (fun acc a hf => ?_)
  refine lk 69 _ _ _ _ s _ _ _ _ a w (by decide) (by decide) (by decide) rfl hf acc hit1 (fun acc a hf => ?_)
  refine lk 70 _ _ _ _ s _ _ _ _ a w (by decide) (by decide) (by decide) rfl hf acc hit1 (fun acc a hf => ?_)
  refine lk 71 _ _ _ _ s _ _ _ _ a w (by decide) (by decide) (by decide) rfl hf acc hit1 (fun acc a hf => ?_)
  refine lk 72 _ _ _ _ s _ _ _ _ a w (by decide) (by decide) (by decide) rfl hf acc hit1 (fun acc a hf => ?_)
  refine lkLast 73 _ _ _ _ s _ _ _ a w (by decide) (by decide) (by decide) rfl hf acc hit1 (fun acc a hf he => hK1 _ _ (wp_cond_split he (fun e => by cases e) (fun _ => ?_)))
  refine wp_seq_k fun K2 hK2 => ?_
  have hit2 : isWord s = true → ∀ a', Fr s a' → a'.eval (.tmp 80) = .bool true → K2 a' w := fun hi a' hf' he => hK2 _ _ (wp_cond_split he (fun _ => ret_link _ true _ s w _ _ hf' (fun a3 h3 h4 => end_ret s w true hi a3 h3 h4)) (fun e => by cases e))
  refine lk 74 _ _ _ _ s _ _ _ _ a w (by decide) (by decide) (by decide) rfl hf acc hit2 (fun acc a hf => ?_)
  refine lk 75 _ _ _ _ s _ _ _ _ a w (by decide) (by decide) (by decide) rfl hf acc hit2 (fun acc a hf => ?_)
  refine lk 76 _ _ _ _ s _ _ _ _ a w (by decide) (by decide) (by decide) rfl hf acc hit2 (fun acc a hf => ?_)
  refine lk 77 _ _ _ _ s _ _ _ _ a w (by decide) (by decide) (by decide) rfl hf acc hit2 (fun acc a hf => ?_)
  refine lk 78 _ _ _ _ s _ _ _ _ a w (by decide) (by decide) (by decide) rfl hf acc hit2 (fun acc a hf => ?_)
  refine lk 79 _ _ _ _ s _ _ _ _ a w (by decide) (by decide) (by decide) rfl hf acc hit2 (fun acc a hf => ?_)
  refine lk 80 _ _ _ _ s _ _ _ _ a w (by decide) (by decide) (by decide) rfl hf acc hit2 (fun acc a hf => ?_)
  refine lk 81 _ _ _ _ s _ _ _ _ a w (by decide) (by decide) (by decide) rfl hf acc hit2 (fun acc a hf => ?_)
  refine lk 82 _ _ _ _ s _ _ _ _ a w (by decide) (by decide) (by decide) rfl hf acc hit2 (fun acc a hf => ?_)
  refine lk 83 _ _ _ _ s _ _ _ _ a w (by decide) (by decide) (by decide) rfl hf acc hit2 (fun acc a hf => ?_)
  refine lk 84 _ _ _ _ s _ _ _ _ a w (by decide) (by decide) (by decide) rfl hf acc hit2 (fun acc a hf => ?_)
  refine lk 85 _ _ _ _ s _ _ _ _ a w (by decide) (by decide) (by decide) rfl hf acc hit2 (fun acc a hf => ?_)
  refine lkLast 86 _ _ _ _ s _ _ _ a w (by decide) (by decide) (by decide) rfl hf acc hit2 (fun acc a hf he => hK2 _ _ (wp_cond_split he (fun e => by cases e) (fun _ => ?_)))
  have hno : isWord s = false := by
    have h := acc
    rw [show words.take (86 + 1) = words from rfl] at h
    exact h
  refine wp_skip ?_
  refine hK _ _ ?_
  refine ret_link _ false _ s w _ _ hf (fun a3 h3 h4 => end_ret s w false hno a3 h3 h4)
end Go.Proofs.Ytjceeengnnjipaa.L13
