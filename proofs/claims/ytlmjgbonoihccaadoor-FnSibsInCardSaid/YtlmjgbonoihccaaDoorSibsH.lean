
/-
  Contracts of markSibS and heldSibS.
-/
import Derived.Test.YtlmjgbonoihccaaDoorSibsG
namespace Go.Proofs.YtlmjgbonoihccaaDoor
open Go.RowKit Go.PlainAid

/-- Behind a mark: the list in the same places, of whatever content. -/
theorem OwnSibs.len' {w : World} {lo hi n c : Nat} {A : Option Addr} {ks : List Kv} (h : OwnSibs w lo hi A n c ks) : ks.length = n := h.len
theorem own_head {w : World} {lo hi n c : Nat} {A : Option Addr} {ks : List Kv} (h : OwnSibs w lo hi A n c ks) (hn : 0 < n) : ∃ g, A = some ⟨g, 0, none⟩ ∧ lo ≤ g ∧ g < hi := by
  obtain ⟨g, cap, hv, hb, _⟩ := h.row.form hn
  have hA : A = some ⟨g, 0, none⟩ := by injection hv
  subst hA
  exact ⟨g, rfl, hb, h.lt g rfl⟩
theorem own_at {w : World} {lo hi n c g : Nat} {ks : List Kv} (h : OwnSibs w lo hi (some ⟨g, 0, none⟩) n c ks) {j : Nat} {k : Kv} (hk : ks[j]? = some k) :
    w.cell? ⟨g, j * 3, none⟩ = some (.slice k.A k.n k.c) ∧ w.cell? ⟨g, j * 3 + 1, none⟩ = some (.bool k.s.gone) ∧ w.cell? ⟨g, j * 3 + 2, none⟩ = some (.string k.s.text) := by
  have hj : j < n := by
    have := h.len
    have := (List.getElem?_eq_some_iff.1 hk).1
    omega
  obtain ⟨f0, f1, f2⟩ := flat_at hk
  exact ⟨(h.row.cellAt _ (by omega)).trans f0, (h.row.cellAt _ (by omega)).trans f1, (h.row.cellAt _ (by omega)).trans f2⟩
theorem flat_set1 : ∀ {ks : List Kv} {j : Nat} {k : Kv}, ks[j]? = some k → ∀ b : Bool, (flat ks).set (j * 3 + 1) (.bool b) = flat (ks.set j ⟨k.A, k.n, k.c, k.s.vv, b, k.s.text⟩)
  | [], j, k, h, _ => by simp at h
  | a :: r, 0, k, h, b => by simp at h; subst h; rfl
  | a :: r, j + 1, k, h, b => by
    have ih := flat_set1 (ks := r) (j := j) (k := k) (by simpa using h) b
    have e : flat (a :: r) = .slice a.A a.n a.c :: .bool a.s.gone :: .string a.s.text :: flat r := rfl
    rw [e, show (j + 1) * 3 + 1 = j * 3 + 1 + 3 by omega]
    show _ :: _ :: _ :: (flat r).set (j * 3 + 1) _ = _
    rw [ih]; rfl
theorem flat_set2 : ∀ {ks : List Kv} {j : Nat} {k : Kv}, ks[j]? = some k → ∀ t : ByteArray, (flat ks).set (j * 3 + 2) (.string t) = flat (ks.set j ⟨k.A, k.n, k.c, k.s.vv, k.s.gone, t⟩)
  | [], j, k, h, _ => by simp at h
  | a :: r, 0, k, h, b => by simp at h; subst h; rfl
  | a :: r, j + 1, k, h, b => by
    have ih := flat_set2 (ks := r) (j := j) (k := k) (by simpa using h) b
    have e : flat (a :: r) = .slice a.A a.n a.c :: .bool a.s.gone :: .string a.s.text :: flat r := rfl
    rw [e, show (j + 1) * 3 + 2 = j * 3 + 2 + 3 by omega]
    show _ :: _ :: _ :: (flat r).set (j * 3 + 2) _ = _
    rw [ih]; rfl
theorem flat_set0 : ∀ {ks : List Kv} {j : Nat} {k : Kv}, ks[j]? = some k → ∀ xs : List Int, flat ks = flat (ks.set j ⟨k.A, k.n, k.c, xs, k.s.gone, k.s.text⟩)
  | [], j, k, h, _ => by simp at h
  | a :: r, 0, k, h, b => by simp at h; subst h; rfl
  | a :: r, j + 1, k, h, b => by
    have ih := flat_set0 (ks := r) (j := j) (k := k) (by simpa using h) b
    have e : flat (a :: r) = .slice a.A a.n a.c :: .bool a.s.gone :: .string a.s.text :: flat r := rfl
    rw [e, ih]; rfl
theorem mem_set_of {ks : List Kv} {j : Nat} {k' : Kv} {x : Kv} (h : x ∈ ks.set j k') : x = k' ∨ ∃ i, i ≠ j ∧ ks[i]? = some x := by
  obtain ⟨i, hi, rfl⟩ := List.getElem_of_mem h
  by_cases e : i = j
  · subst e; left; simp
  · right
    refine ⟨i, e, ?_⟩
    rw [List.getElem_set_ne (Ne.symm e)]
    exact List.getElem?_eq_getElem _
theorem sep_set {ks : List Kv} {j : Nat} {k k' : Kv} (hk : ks[j]? = some k) (h : ks.Pairwise Apart) (hb : k'.blk = k.blk) : (ks.set j k').Pairwise Apart := by
  rw [List.pairwise_iff_getElem] at h ⊢
  obtain ⟨hj, rfl⟩ := List.getElem?_eq_some_iff.1 hk
  intro a b ha hb' hab
  rw [List.length_set] at ha hb'
  have := h a b ha hb' hab
  rw [List.getElem_set, List.getElem_set]
  split
  · rename_i e
    subst e
    split
    · omega
    · intro g hg; rw [hb] at hg; exact this g hg
  · split
    · rename_i e
      subst e
      intro g hg; rw [hb]; exact this g hg
    · exact this
theorem sep_at {ks : List Kv} {i j : Nat} {x k : Kv} (h : ks.Pairwise Apart) (hx : ks[i]? = some x) (hk : ks[j]? = some k) (hij : i ≠ j) : Apart x k := by
  obtain ⟨hi, rfl⟩ := List.getElem?_eq_some_iff.1 hx
  obtain ⟨hj, rfl⟩ := List.getElem?_eq_some_iff.1 hk
  rcases Nat.lt_or_gt_of_ne hij with h1 | h1
  · exact List.pairwise_iff_getElem.1 h i j hi hj h1
  · intro g hg he
    exact List.pairwise_iff_getElem.1 h j i hj hi h1 g he hg

section
variable {w w' : World} {lo hi n c g : Nat} {ks : List Kv} {j : Nat} {k : Kv}
/-- The counts of element j turn, in their own block. -/
theorem OwnSibs.setV {A : Option Addr} (h : OwnSibs w lo hi A n c ks) (hk : ks[j]? = some k) {xs : List Int} (hO : OwnInts w' lo hi k.A k.n k.c xs) (hb : ∀ b, k.blk ≠ some b → w'.heap[b]? = w.heap[b]?) :
    OwnSibs w' lo hi A n c (ks.set j ⟨k.A, k.n, k.c, xs, k.s.gone, k.s.text⟩) := by
  have hkm := List.mem_of_getElem? hk
  refine ⟨?_, h.lt, fun x hx => ?_, fun x hx => ?_, sep_set hk h.sep rfl⟩
  · rw [← flat_set0 hk]
    exact row_keep h.row fun g hg => hb g (h.off k hkm g hg)
  · rcases mem_set_of hx with rfl | ⟨i, hij, hi⟩
    · exact ⟨hO, (h.own k hkm).2⟩
    · have ho := h.own x (List.mem_of_getElem? hi)
      exact ⟨⟨row_keep ho.1.1 fun g hg => hb g (sep_at h.sep hi hk hij g hg), ho.1.2⟩, ho.2⟩
  · rcases mem_set_of hx with rfl | ⟨i, hij, hi⟩
    · exact h.off k hkm
    · exact h.off x (List.mem_of_getElem? hi)
theorem OwnSibs.setG (h : OwnSibs w lo hi (some ⟨g, 0, none⟩) n c ks) (hk : ks[j]? = some k) (b : Bool) :
    OwnSibs (w.setCell ⟨g, j * 3 + 1, none⟩ (.bool b)) lo hi (some ⟨g, 0, none⟩) n c (ks.set j ⟨k.A, k.n, k.c, k.s.vv, b, k.s.text⟩) := by
  have hkm := List.mem_of_getElem? hk
  have hoth : ∀ x ∈ ks, ∀ q, x.blk = some q → (w.setCell ⟨g, j * 3 + 1, none⟩ (.bool b)).heap[q]? = w.heap[q]? := fun x hx q hq =>
    Below.heap_setCell w _ _ q (fun e => h.off x hx g rfl (by rw [hq, e]))
  refine ⟨?_, h.lt, fun x hx => ?_, fun x hx => ?_, sep_set hk h.sep rfl⟩
  · rw [← flat_set1 hk]
    exact (h.row.stored _ _).1
  · rcases mem_set_of hx with rfl | ⟨i, hij, hi⟩
    · have ho := h.own k hkm
      exact ⟨⟨row_keep ho.1.1 fun q hq => hoth k hkm q hq, ho.1.2⟩, ho.2⟩
    · have hm := List.mem_of_getElem? hi
      have ho := h.own x hm
      exact ⟨⟨row_keep ho.1.1 fun q hq => hoth x hm q hq, ho.1.2⟩, ho.2⟩
  · rcases mem_set_of hx with rfl | ⟨i, hij, hi⟩
    · exact h.off k hkm
    · exact h.off x (List.mem_of_getElem? hi)
theorem OwnSibs.setT (h : OwnSibs w lo hi (some ⟨g, 0, none⟩) n c ks) (hk : ks[j]? = some k) (t : ByteArray) (ht : t.size ≤ maxLen) :
    OwnSibs (w.setCell ⟨g, j * 3 + 2, none⟩ (.string t)) lo hi (some ⟨g, 0, none⟩) n c (ks.set j ⟨k.A, k.n, k.c, k.s.vv, k.s.gone, t⟩) := by
  have hkm := List.mem_of_getElem? hk
  have hoth : ∀ x ∈ ks, ∀ q, x.blk = some q → (w.setCell ⟨g, j * 3 + 2, none⟩ (.string t)).heap[q]? = w.heap[q]? := fun x hx q hq =>
    Below.heap_setCell w _ _ q (fun e => h.off x hx g rfl (by rw [hq, e]))
  refine ⟨?_, h.lt, fun x hx => ?_, fun x hx => ?_, sep_set hk h.sep rfl⟩
  · rw [← flat_set2 hk]
    exact (h.row.stored _ _).1
  · rcases mem_set_of hx with rfl | ⟨i, hij, hi⟩
    · have ho := h.own k hkm
      exact ⟨⟨row_keep ho.1.1 fun q hq => hoth k hkm q hq, ho.1.2⟩, ho.2.1, ht⟩
    · have hm := List.mem_of_getElem? hi
      have ho := h.own x hm
      exact ⟨⟨row_keep ho.1.1 fun q hq => hoth x hm q hq, ho.1.2⟩, ho.2⟩
  · rcases mem_set_of hx with rfl | ⟨i, hij, hi⟩
    · exact h.off k hkm
    · exact h.off x (List.mem_of_getElem? hi)
end

end Go.Proofs.YtlmjgbonoihccaaDoor
