
/-
  Plain laws of trees: names that ascend; a tree less one file is a tree; a tree with a file twice is none. No program in sight.
-/
import Derived.Test.YtldnpfkgehgfpaaDoorSibMem
import Derived.Test.YtldnpfkgehgfpaaDoorPlainSib2
namespace Go.Proofs.YtldnpfkgehgfpaaDoor
open Go.RowKit Go.PlainAid

/-- A file, plainly. -/
structure Fl where
  name : ByteArray
  sibs : List Sb
def nameOk (t : ByteArray) : Bool := decide (t.size = 1) && (decide (65 ≤ bt t 0) && decide (bt t 0 ≤ 70))
def lessN (a b : ByteArray) : Bool := Op.bytesLess a.toList b.toList
theorem lessN_iff {a b : ByteArray} : lessN a b = true ↔ cmpT a b = -1 := by
  unfold lessN
  rw [less_cmpT, decide_eq_true_eq]
theorem lessN_trans {a b c : ByteArray} (h : lessN a b = true) (k : lessN b c = true) : lessN a c = true :=
  lessN_iff.2 (cmpT_good.trans _ _ _ (lessN_iff.1 h) (lessN_iff.1 k))
theorem lessN_irrefl (a : ByteArray) : lessN a a = false := by
  rw [Bool.eq_false_iff]
  intro h
  have h1 := lessN_iff.1 h
  rw [cmpT_good.same] at h1
  cases h1
/-- The file at j is ok, and its name stands behind the one ahead of it. -/
def okAt (l : List Fl) (j : Nat) : Bool := match l[j]? with
  | none => true
  | some f => nameOk f.name && sibsOk f.sibs && match j with
    | 0 => true
    | i + 1 => match l[i]? with
      | none => true
      | some e => lessN e.name f.name
def treeOk (l : List Fl) : Bool := (List.range l.length).all (okAt l) && decide (l.length ≤ 6)
theorem treeOk_bad {l : List Fl} {j : Nat} (hj : j < l.length) (h : okAt l j = false) : treeOk l = false := by
  unfold treeOk
  rw [Bool.and_eq_false_iff]
  left
  rw [Bool.eq_false_iff]
  intro hall
  have := List.all_eq_true.1 hall j (by simpa using hj)
  rw [h] at this
  cases this
theorem treeOk_all {l : List Fl} (h : ∀ j, j < l.length → okAt l j = true) : treeOk l = decide (l.length ≤ 6) := by
  unfold treeOk
  rw [show (List.range l.length).all (okAt l) = true by
    rw [List.all_eq_true]; intro j hj; exact h j (by simpa using hj)]
  simp
theorem treeOk_iff {l : List Fl} : treeOk l = true ↔ (∀ j, j < l.length → okAt l j = true) ∧ l.length ≤ 6 := by
  unfold treeOk
  rw [Bool.and_eq_true, List.all_eq_true, decide_eq_true_eq]
  constructor
  · rintro ⟨h1, h2⟩
    exact ⟨fun j hj => h1 j (by simpa using hj), h2⟩
  · rintro ⟨h1, h2⟩
    exact ⟨fun j hj => h1 j (by simpa using hj), h2⟩
theorem okAt_zero {l : List Fl} {f : Fl} (h : l[0]? = some f) : okAt l 0 = (nameOk f.name && sibsOk f.sibs) := by
  unfold okAt
  rw [h]
  simp
theorem okAt_succ {l : List Fl} {i : Nat} {e f : Fl} (he : l[i]? = some e) (hf : l[i + 1]? = some f) : okAt l (i + 1) = (nameOk f.name && sibsOk f.sibs && lessN e.name f.name) := by
  unfold okAt
  rw [hf]
  simp only [he]
theorem okAt_own {l : List Fl} {j : Nat} {f : Fl} (h : l[j]? = some f) (hok : okAt l j = true) : nameOk f.name = true ∧ sibsOk f.sibs = true := by
  match j with
  | 0 =>
    rw [okAt_zero h, Bool.and_eq_true] at hok
    exact hok
  | i + 1 =>
    have hl := (List.getElem?_eq_some_iff.1 h).1
    have he : l[i]? = some (l[i]'(by omega)) := List.getElem?_eq_getElem _
    rw [okAt_succ he h, Bool.and_eq_true, Bool.and_eq_true] at hok
    exact hok.1
theorem okAt_of {l : List Fl} {j : Nat} {f : Fl} (h : l[j]? = some f) (h1 : nameOk f.name = true) (h2 : sibsOk f.sibs = true) (h3 : ∀ i e, j = i + 1 → l[i]? = some e → lessN e.name f.name = true) : okAt l j = true := by
  match j with
  | 0 => rw [okAt_zero h, h1, h2]; rfl
  | i + 1 =>
    have hl := (List.getElem?_eq_some_iff.1 h).1
    have he : l[i]? = some (l[i]'(by omega)) := List.getElem?_eq_getElem _
    rw [okAt_succ he h, h1, h2, h3 i _ rfl he]
    rfl
theorem tree_asc {l : List Fl} (h : ∀ j, j < l.length → okAt l j = true) : ∀ {j i : Nat} {e f : Fl}, i < j → l[i]? = some e → l[j]? = some f → lessN e.name f.name = true
  | 0, i, e, f, hij, _, _ => by omega
  | j + 1, i, e, f, hij, he, hf => by
    have hl := (List.getElem?_eq_some_iff.1 hf).1
    have hd : l[j]? = some (l[j]'(by omega)) := List.getElem?_eq_getElem _
    have h1 := h (j + 1) hl
    rw [okAt_succ hd hf, Bool.and_eq_true] at h1
    by_cases hi : i = j
    · subst hi
      rw [he] at hd
      injection hd with hd
      rw [hd]
      exact h1.2
    · exact lessN_trans (tree_asc h (show i < j by omega) he hd) h1.2
/-- A tree less one file. -/
theorem treeOk_less {l : List Fl} (h : treeOk l = true) (k : Nat) : treeOk (l.take k ++ l.drop (k + 1)) = true := by
  obtain ⟨h1, h2⟩ := treeOk_iff.1 h
  have hlen : (l.take k ++ l.drop (k + 1)).length ≤ l.length := by
    rw [List.length_append, List.length_take, List.length_drop]; omega
  have hat : ∀ {j : Nat} {f : Fl}, (l.take k ++ l.drop (k + 1))[j]? = some f → l[if j < k then j else j + 1]? = some f := by
    intro j f hj
    rw [← List.eraseIdx_eq_take_drop_succ, List.getElem?_eraseIdx] at hj
    split at hj
    · rename_i hlt; rw [if_pos hlt]; exact hj
    · rename_i hlt; rw [if_neg hlt]; exact hj
  refine treeOk_iff.2 ⟨fun j hj => ?_, by omega⟩
  have hf : (l.take k ++ l.drop (k + 1))[j]? = some ((l.take k ++ l.drop (k + 1))[j]'hj) := List.getElem?_eq_getElem _
  generalize (l.take k ++ l.drop (k + 1))[j]'hj = f at hf
  have hf' := hat hf
  obtain ⟨o1, o2⟩ := okAt_own hf' (h1 _ (List.getElem?_eq_some_iff.1 hf').1)
  refine okAt_of hf o1 o2 fun i e hji he => ?_
  have he' := hat he
  refine tree_asc h1 ?_ he' hf'
  subst hji
  split <;> split <;> omega
/-- A file twice. -/
theorem treeOk_twice {l : List Fl} {k : Nat} {f : Fl} (hk : l[k]? = some f) : treeOk (l ++ [f]) = false := by
  rw [Bool.eq_false_iff]
  intro h
  obtain ⟨h1, _⟩ := treeOk_iff.1 h
  have hl := (List.getElem?_eq_some_iff.1 hk).1
  have e1 : (l ++ [f])[k]? = some f := by rw [List.getElem?_append_left hl]; exact hk
  have e2 : (l ++ [f])[l.length]? = some f := by rw [List.getElem?_append_right (Nat.le_refl _), Nat.sub_self]; rfl
  have := tree_asc h1 hl e1 e2
  rw [lessN_irrefl] at this
  cases this
/-- A file that is nothing. -/
theorem treeOk_bare (t : ByteArray) : treeOk [⟨t, []⟩] = false := by
  refine treeOk_bad (j := 0) (by simp) ?_
  rw [okAt_zero (f := ⟨t, []⟩) rfl]
  have : sibsOk [] = false := by simp [sibsOk]
  rw [this, Bool.and_false]

end Go.Proofs.YtldnpfkgehgfpaaDoor
