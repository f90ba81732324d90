/- THE PLAIN LAW's WORDS, 2: keys, expressions, checks, changes, in plain Lean. -/
import Derived.Test.YtjceeengnnjipaaSpec
import Derived.Test.YtjceeengnnjipaaL07a
namespace Go.Proofs.Ytjceeengnnjipaa.PAll
open Go.RowKit Go.Proofs.Ytjceeengnnjipaa.Kit Go.Proofs.Ytjceeengnnjipaa.L13 Go.Proofs.YtjceeengnnjipaaW.PrintWords
set_option linter.unusedVariables false
set_option linter.unusedSimpArgs false
theorem wrapS {i : Nat} (h : i < 4611686018427387904) : wrap64 ((i : Int) + 1) = ((i + 1 : Nat) : Int) := by unfold wrap64; omega
theorem wrapP {i : Nat} (h : i < 4611686018427387904) : wrap64 (((i + 1 : Nat) : Int) - 1) = (i : Int) := by unfold wrap64; omega
theorem rd_at {xs : List Int} {i : Nat} (h : i < xs.length) : rd xs (i : Int) = xs[i] := by simp [rd, h]
theorem rdC_at {xs : List Cl} {i : Nat} (h : i < xs.length) : rd_T29 xs (i : Int) = xs[i] := by simp [rd_T29, h]
theorem rdF_at {xs : List Fg} {i : Nat} (h : i < xs.length) : rd_T62 xs (i : Int) = xs[i] := by simp [rd_T62, h]
theorem rdE_at {xs : List Ex} {i : Nat} (h : i < xs.length) : rd_T70 xs (i : Int) = xs[i] := by simp [rd_T70, h]
/-- The key's columns in order, each above the one before it. -/
def keyFrom (cols : List Cl) (key : List Int) : Nat → List Int → Int
  | _, [] => 0
  | i, c :: cs => if ¬ (0 ≤ c ∧ c < cols.length) ∨ (0 < i ∧ c ≤ rd key ((i : Int) - 1)) then 25 else if (rd_T29 cols c).f2 = true then 12 else keyFrom cols key (i + 1) cs
def keyErr (cols : List Cl) (key : List Int) : Int := if key.length = 0 then 25 else keyFrom cols key 0 key
/-- The kind of kinds that must be equal. -/
def uni : Int → List Int → Int × Bool
  | acc, [] => (acc, true)
  | acc, x :: xs => if x = 0 then uni acc xs else if acc = 0 ∨ acc = x then uni x xs else (0, false)
def fit (l : List Int) (kind : Int) : Bool := l.all fun x => x == kind || x == 0
theorem uni_fit (kind : Int) (hk : kind ≠ 0) : ∀ (l : List Int) (acc : Int), ((uni acc (l ++ [kind])).2 && (uni acc (l ++ [kind])).1 == kind) = ((acc == 0 || acc == kind) && fit l kind)
  | [], acc => by
    simp only [List.nil_append, uni, if_neg hk, fit, List.all_nil, Bool.and_true]
    by_cases c1 : acc = 0
    · simp [c1]
    · by_cases c2 : acc = kind
      · simp [c2]
      · simp [c1, c2]
  | x :: l, acc => by
    simp only [List.cons_append, uni]
    by_cases c1 : x = 0
    · rw [if_pos c1, uni_fit kind hk l acc]
      simp [fit, c1]
    · rw [if_neg c1]
      by_cases c2 : acc = 0 ∨ acc = x
      · rw [if_pos c2, uni_fit kind hk l x]
        simp only [fit, List.all_cons]
        rcases c2 with c2 | c2
        · subst c2
          simp only [beq_self_eq_true, Bool.true_or, Bool.true_and]
          rw [Bool.or_comm (x == kind)]
        · rw [c2]
          by_cases c3 : x = kind
          · simp [c3]
          · have e1 : (x == 0) = false := beq_eq_false_iff_ne.2 c1
            have e2 : (x == kind) = false := beq_eq_false_iff_ne.2 c3
            rw [e1, e2]; rfl
      · rw [if_neg c2]
        simp only [fit, List.all_cons]
        by_cases c3 : acc = kind
        · have : x ≠ kind := fun e => c2 (.inr (c3.trans e.symm))
          simp [c1, this]
        · have : acc ≠ 0 := fun e => c2 (.inl e)
          simp [this, c3]
/-- Whether an operator can have n arguments, and whether it is known. -/
def cnts (op n : Int) : Bool × Bool :=
  if op = 1 ∨ op = 2 then (n == 0, true) else if op = 4 ∨ op = 18 ∨ op = 20 ∨ op = 21 then (n == 1, true) else if op = 22 then (n == 3, true) else if op = 23 then (decide (n ≥ 1), true)
  else if op = 24 then (n == 4, true) else if op = 5 ∨ op = 6 then (decide (n ≥ 2), true) else if (7 ≤ op ∧ op ≤ 17) ∨ op = 19 then (n == 2, true) else (false, false)
def arity (op : Int) : Int × Int :=
  if op = 1 ∨ op = 2 then (0, 0) else if op = 4 ∨ op = 18 ∨ op = 20 ∨ op = 21 then (1, 1) else if op = 22 then (3, 3) else if op = 23 then (1, 1099511627776)
  else if op = 24 then (4, 4) else if op = 5 ∨ op = 6 then (2, 1099511627776) else if (7 ≤ op ∧ op ≤ 17) ∨ op = 19 then (2, 2) else (-1, 0)
theorem op_cases (op : Int) : op = 1 ∨ op = 2 ∨ op = 4 ∨ op = 5 ∨ op = 6 ∨ op = 7 ∨ op = 8 ∨ op = 9 ∨ op = 10 ∨ op = 11 ∨ op = 12 ∨ op = 13 ∨ op = 14 ∨ op = 15 ∨ op = 16 ∨ op = 17 ∨ op = 18 ∨ op = 19 ∨ op = 20 ∨ op = 21 ∨ op = 22 ∨ op = 23 ∨ op = 24 ∨ (op < 1 ∨ op = 3 ∨ 24 < op) := by omega
theorem arity_cnts (op : Int) (n : Nat) (hn : n < 1099511627776) : (cnts op n).1 = (decide (0 ≤ (arity op).1) && decide ((arity op).1 ≤ n) && decide ((n : Int) ≤ (arity op).2)) ∧ (cnts op n).2 = decide (0 ≤ (arity op).1) := by
  unfold cnts arity
  repeat' split
  all_goals
    refine ⟨?_, by simp⟩
    rw [Bool.eq_iff_iff]
    simp
    try omega
def vOk (v : Vl) : Bool := L07.valOk ⟨v.f0, v.f1, v.f2⟩
def vZero (v : Vl) : Bool := v.f0 == 0 && (v.f1 == 0 && (v.f2.toList == ([] : List UInt8)))
def formedOk (op n : Int) (v : Vl) (nm : ByteArray) (len : Nat) : Bool :=
  (cnts op len).1 && nm.toList.isEmpty && (if op = 1 then n == 0 && vOk v else if op = 2 then vZero v else if op = 24 then (decide (0 ≤ n) && decide (n < 13)) && vZero v else (n == 0) && vZero v)
/-- The kind of an expression whose arguments have these kinds, and whether they fit. -/
def resK (op vk : Int) (l : List Int) : Int × Bool :=
  if op = 1 then (vk, true) else if op = 4 ∨ op = 5 ∨ op = 6 then (3, fit l 3) else if 7 ≤ op ∧ op ≤ 12 then (3, (uni 0 l).2) else if op = 19 then (2, fit l 2) else if op = 20 then (1, fit l 2)
  else if op = 21 then (3, true) else if op = 22 then ((uni 0 (l.drop 1)).1, (uni 0 (l.drop 1)).2 && fit (l.take 1) 3) else if op = 23 then uni 0 l else if op = 24 then (3, fit l 1) else (1, fit l 1)
mutual
/-- How many expressions there are within one. -/
def nodes : Ex → Nat
  | ⟨_, _, _, _, l⟩ => 1 + nodesL l
def nodesL : List Ex → Nat
  | [] => 0
  | x :: xs => nodes x + nodesL xs
end
mutual
def dep : Ex → Nat
  | ⟨_, _, _, _, l⟩ => 1 + depL l
def depL : List Ex → Nat
  | [] => 0
  | x :: xs => max (dep x) (depL xs)
end
mutual
/-- The kind of an expression over columns of these kinds, and its error. -/
def chk (kinds : List Int) : Ex → Int × Int
  | ⟨op, n, v, nm, l⟩ =>
    if (cnts op l.length).2 = false then (0, 7) else if formedOk op n v nm l.length = false then (0, 8)
    else if op = 2 then (if n < 0 ∨ n ≥ kinds.length then (0, 13) else (rd kinds n, 0))
    else match chkL kinds l with
      | .error e => (0, e)
      | .ok ks => if (resK op v.f0 ks).2 = true then ((resK op v.f0 ks).1, 0) else (0, 7)
def chkL (kinds : List Int) : List Ex → Except Int (List Int)
  | [] => .ok []
  | x :: xs => if (chk kinds x).2 = 0 then (match chkL kinds xs with | .error e => .error e | .ok ks => .ok ((chk kinds x).1 :: ks)) else .error (chk kinds x).2
end
theorem nodes_pos (e : Ex) : 0 < nodes e := by cases e; simp only [nodes]; omega
theorem nodesL_mem : ∀ (l : List Ex) (x : Ex), x ∈ l → nodes x ≤ nodesL l
  | y :: ys, x, h => by
    simp only [nodesL]
    rcases List.mem_cons.1 h with h | h
    · subst h; omega
    · have := nodesL_mem ys x h; omega
theorem nodesL_len : ∀ l : List Ex, l.length ≤ nodesL l
  | [] => by simp [nodesL]
  | y :: ys => by
    have := nodesL_len ys
    have := nodes_pos y
    simp only [nodesL, List.length_cons]; omega
theorem chkL_len (kinds : List Int) : ∀ (l : List Ex) (ks : List Int), chkL kinds l = .ok ks → ks.length = l.length
  | [], ks, h => by simp only [chkL] at h; injection h with h; subst h; rfl
  | x :: xs, ks, h => by
    simp only [chkL] at h
    split at h
    · split at h
      · cases h
      · rename_i ks2 he
        injection h with h
        subst h
        simp [chkL_len kinds xs ks2 he]
    · cases h
theorem dep_pos (e : Ex) : 1 ≤ dep e := by cases e; simp only [dep]; omega
theorem dep_nodes : ∀ N : Nat, (∀ e : Ex, nodes e ≤ N → dep e ≤ nodes e) := by
  intro N
  induction N with
  | zero => intro e h; have := nodes_pos e; omega
  | succ N ih =>
    have hL : ∀ l : List Ex, nodesL l ≤ N → depL l ≤ nodesL l := by
      intro l
      induction l with
      | nil => intro _; simp [depL]
      | cons x xs ihl =>
        intro h
        simp only [nodesL] at h
        have h1 := ih x (by omega)
        have h2 := ihl (by omega)
        simp only [depL, nodesL]; omega
    rintro ⟨op, n, v, nm, l⟩ h
    simp only [nodes] at h
    have := hL l (by omega)
    simp only [dep, nodes]; omega
theorem chk_mk (kinds : List Int) (op n : Int) (v : Vl) (nm : ByteArray) (l : List Ex) : chk kinds ⟨op, n, v, nm, l⟩ =
    if (cnts op l.length).2 = false then (0, 7) else if formedOk op n v nm l.length = false then (0, 8)
    else if op = 2 then (if n < 0 ∨ n ≥ kinds.length then (0, 13) else (rd kinds n, 0))
    else match chkL kinds l with
      | .error e => (0, e)
      | .ok ks => if (resK op v.f0 ks).2 = true then ((resK op v.f0 ks).1, 0) else (0, 7) := by rw [chk]
def fin (op a : Int) (pre : List Int) : Except Int (List Int) → Int × Int
  | .error e => (0, e)
  | .ok ks => if (resK op a (pre ++ ks)).2 = true then ((resK op a (pre ++ ks)).1, 0) else (0, 7)
theorem formed_cnts {op n : Int} {v : Vl} {nm : ByteArray} {len : Nat} (h : formedOk op n v nm len = true) : (cnts op len).1 = true := by
  unfold formedOk at h
  simp only [Bool.and_eq_true] at h
  exact h.1.1
/-- The check of an expression that may be too deep. -/
def chkD (kinds : List Int) (e : Ex) : Int × Int := if 24 < dep e then (0, 26) else chk kinds e
/-- The error of the checks. -/
def chksFrom (kinds : List Int) : List Ex → Int
  | [] => 0
  | x :: xs => if (chkD kinds x).2 = 0 then (if (chkD kinds x).1 = 3 ∨ (chkD kinds x).1 = 0 then chksFrom kinds xs else 7) else (chkD kinds x).2
def chksErr (kinds : List Int) (l : List Ex) : Int := if 4 < l.length then 5 else chksFrom kinds l
/-- The error of the foreign keys and checks. -/
def consErr (cols : List Cl) (fg : List Fg) (ch : List Ex) : Int := if foreignsErr cols.length fg = 0 then chksErr (cols.map (·.f1)) ch else foreignsErr cols.length fg
/-- The first column with a name stands before another with that name just if one does. -/
theorem findFrom_lt (n0 : ByteArray) : ∀ (l : List Cl) (j i : Nat), i < l.length → (l[i]?.map fun x => x.f0.toList) = some n0.toList → (findFrom n0 j l < ((j + i : Nat) : Int) ↔ (l.take i).any (fun x => x.f0.toList == n0.toList) = true) ∧ 0 ≤ findFrom n0 j l
  | [], j, i, h, _ => by simp at h
  | c :: cs, j, i, h, hn => by
    simp only [findFrom]
    by_cases e : c.f0.toList = n0.toList
    · rw [if_pos e]
      refine ⟨?_, by omega⟩
      cases i with
      | zero => simp
      | succ i =>
        rw [List.take_succ_cons, List.any_cons, beq_iff_eq.2 e]
        simp
        omega
    · rw [if_neg e]
      cases i with
      | zero => simp at hn; exact absurd hn e
      | succ i =>
        have ih := findFrom_lt n0 cs (j + 1) i (by simpa using h) (by simpa using hn)
        rw [List.take_succ_cons, List.any_cons, beq_eq_false_iff_ne.2 e, Bool.false_or, ← ih.1]
        refine ⟨?_, ih.2⟩
        rw [show j + 1 + i = j + (i + 1) by omega]
theorem find_lt (cols : List Cl) (i : Nat) (h : i < cols.length) : findIx cols cols[i].f0 < (i : Int) ↔ (cols.take i).any (fun x => x.f0.toList == cols[i].f0.toList) = true := by
  have := (findFrom_lt cols[i].f0 cols 0 i h (by simp [h])).1
  rw [Nat.zero_add] at this
  exact this
/-- The error of a definition. -/
def tblErr (nm : ByteArray) (cols : List Cl) (key : List Int) (fg : List Fg) (ch : List Ex) : Int :=
  if nameOk nm = false then 1 else if colsErr cols = 0 then (if keyErr cols key = 0 then consErr cols fg ch else keyErr cols key) else colsErr cols
/-- What fits a machine. -/
structure Fits (cols : List Cl) (key : List Int) (fg : List Fg) (ch : List Ex) : Prop where
  hcols : cols.length < 17592186044416
  hkey : key.length < 17592186044416
  hfg : fg.length < 17592186044416
  hfgs : ∀ f ∈ fg, f.f0.length < 17592186044416
  hch : ch.length < 17592186044416
  hnodes : ∀ x ∈ ch, nodes x ≤ 1048576
  hnames : ∀ c ∈ cols, c.f0.size ≤ 140737488355328
  hkeys : ∀ c ∈ key, -9223372036854775808 ≤ c ∧ c ≤ 9223372036854775807
  hints : ∀ f ∈ fg, ∀ c ∈ f.f0, -9223372036854775808 ≤ c ∧ c ≤ 9223372036854775807
mutual
/-- The columns that occur in an expression, in the order of the visit. -/
def occ : Ex → List Int
  | ⟨op, n, _, _, l⟩ => (if op = 2 then [n] else []) ++ occL l
def occL : List Ex → List Int
  | [] => []
  | x :: xs => occ x ++ occL xs
end
/-- Whether a field that the kind of a change does not use is not zero. -/
def spareS (k : Int) (nm nt cn : ByteArray) (ck : Int) (cb : Bool) (dk dn : Int) (dt : ByteArray) : Bool :=
  if k = 1 then (!(nm.toList == ([] : List UInt8)) || !(nt.toList == ([] : List UInt8)))
  else (if k = 3 then false else !(nt.toList == ([] : List UInt8))) || ((!(cn.toList == ([] : List UInt8)) || (!(ck == 0) || cb)) || (!(dk == 0) || (!(dn == 0) || !(dt.toList == ([] : List UInt8)))))
def addErr (cols : List Cl) (cn : ByteArray) (ck : Int) (cb : Bool) (dk dn : Int) (dt : ByteArray) : Int :=
  if (cols.length : Int) ≥ 12 then 13 else if nameOk cn = false then 1 else if kindOk ck = false then 7 else if findIx cols cn ≥ 0 then 10 else if L07.valOk ⟨dk, dn, dt⟩ = false then 8
  else if dk = 0 then (if cb = true then 0 else 12) else if dk = ck then 0 else 7
/-- Whether a column is used. -/
def usedB (key : List Int) (fg : List Fg) (ch : List Ex) (i : Int) : Bool := key.contains i || (fg.any (fun f => f.f0.contains i) || ch.any (fun x => (occ x).contains i))
theorem usedB_iff (key : List Int) (fg : List Fg) (ch : List Ex) (i : Int) : usedB key fg ch i = true ↔ (i ∈ key ∨ (∃ f ∈ fg, i ∈ f.f0) ∨ ∃ x ∈ ch, i ∈ occ x) := by
  unfold usedB
  simp only [Bool.or_eq_true, List.any_eq_true, List.contains_iff_mem]
/-- The error of a change. -/
def evErr (tn : ByteArray) (cols : List Cl) (key : List Int) (fg : List Fg) (ch : List Ex) (k : Int) (nm nt cn : ByteArray) (ck : Int) (cb : Bool) (dk dn : Int) (dt : ByteArray) : Int :=
  if tblErr tn cols key fg ch = 0 then
    (if k < 1 ∨ k > 4 then 7 else if spareS k nm nt cn ck cb dk dn dt = true then 8 else if k = 1 then addErr cols cn ck cb dk dn dt
     else if findIx cols nm < 0 then 11 else if k = 3 then (if nameOk nt = true then (if findIx cols nt ≥ 0 then 10 else 0) else 1)
     else if usedB key fg ch (findIx cols nm) = true then 25 else if k = 4 then (if (rd_T29 cols (findIx cols nm)).f1 = 2 then 7 else 0) else 0)
  else tblErr tn cols key fg ch
theorem find_bound (n0 : ByteArray) : ∀ (l : List Cl) (j : Nat), 0 ≤ findFrom n0 j l → findFrom n0 j l < ((j + l.length : Nat) : Int)
  | [], j, h => by simp only [findFrom] at h; omega
  | c :: cs, j, h => by
    simp only [findFrom] at h ⊢
    split at h
    · rename_i e; rw [if_pos e]; simp; omega
    · rename_i e
      rw [if_neg e]
      have := find_bound n0 cs (j + 1) h
      simp only [List.length_cons]; omega
theorem findIx_lt (cols : List Cl) (n0 : ByteArray) (h : 0 ≤ findIx cols n0) : findIx cols n0 < cols.length := by
  have := find_bound n0 cols 0 h
  simpa [findIx] using this
end Go.Proofs.Ytjceeengnnjipaa.PAll
