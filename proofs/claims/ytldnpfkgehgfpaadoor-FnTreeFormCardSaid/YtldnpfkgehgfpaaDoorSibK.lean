
/-
  Lists of versions in memory: Kv (where the counts of one lie, and what it says), Sibs (a slice that reads as such a list).
-/
import Derived.Test.YtldnpfkgehgfpaaDoorSibMem
import Derived.Test.YtldnpfkgehgfpaaDoorPlainSib2
namespace Go.Proofs.YtldnpfkgehgfpaaDoor
open Go.RowKit Go.PlainAid

/-- One version in memory. -/
structure Kv where
  A : Option Addr
  n : Nat
  c : Nat
  s : Sb
def Kv.enc (k : Kv) : List Value := [.slice k.A k.n k.c, .bool k.s.gone, .string k.s.text]
def flat (ks : List Kv) : List Value := ks.flatMap Kv.enc
def sbs (ks : List Kv) : List Sb := ks.map (·.s)
def Kv.Ok (w : World) (lo hi : Nat) (k : Kv) : Prop := Ints w lo hi k.A k.n k.s.vv ∧ k.n ≤ maxLen ∧ k.s.text.size ≤ maxLen

theorem flat_len (ks : List Kv) : (flat ks).length = ks.length * 3 := by
  induction ks with
  | nil => rfl
  | cons k r ih => simp only [flat, List.flatMap_cons, List.length_append, List.length_cons] at ih ⊢; rw [ih]; simp only [Kv.enc, List.length_cons, List.length_nil]; omega
theorem flat_append (a b : List Kv) : flat (a ++ b) = flat a ++ flat b := by simp [flat]
theorem flat_one (k : Kv) : flat [k] = [.slice k.A k.n k.c, .bool k.s.gone, .string k.s.text] := by simp [flat, Kv.enc]
theorem flat_at : ∀ {ks : List Kv} {j : Nat} {k : Kv}, ks[j]? = some k →
    (flat ks)[j * 3]? = some (.slice k.A k.n k.c) ∧ (flat ks)[j * 3 + 1]? = some (.bool k.s.gone) ∧ (flat ks)[j * 3 + 2]? = some (.string k.s.text)
  | [], j, k, h => by simp at h
  | a :: r, 0, k, h => by
    simp at h; subst h
    exact ⟨rfl, rfl, rfl⟩
  | a :: r, j + 1, k, h => by
    have ih := flat_at (ks := r) (j := j) (by simpa using h)
    have e : flat (a :: r) = .slice a.A a.n a.c :: .bool a.s.gone :: .string a.s.text :: flat r := rfl
    rw [e, show (j + 1) * 3 = j * 3 + 3 by omega]
    exact ih
theorem sbs_len (ks : List Kv) : (sbs ks).length = ks.length := by simp [sbs]
theorem sbs_at {ks : List Kv} {j : Nat} {k : Kv} (h : ks[j]? = some k) : (sbs ks)[j]? = some k.s := by simp [sbs, h]
theorem sbs_append (a b : List Kv) : sbs (a ++ b) = sbs a ++ sbs b := by simp [sbs]

/-- The slice reads as the list; all lies in blocks lo .. hi-1. -/
def Sibs (w : World) (lo hi : Nat) (A : Option Addr) (n : Nat) (ks : List Kv) : Prop := Row w lo hi A n 3 (flat ks) ∧ ∀ k ∈ ks, k.Ok w lo hi

section
variable {w w' : World} {lo hi lo' hi' n : Nat} {A : Option Addr} {ks : List Kv} {k : Kv}
theorem Kv.Ok.keep (h : k.Ok w lo hi) (q : Keep lo hi w w') : k.Ok w' lo hi := ⟨h.1.keep q, h.2⟩
theorem Kv.Ok.wide (h : k.Ok w lo hi) (h1 : lo' ≤ lo) (h2 : hi ≤ hi') : k.Ok w lo' hi' := ⟨h.1.wide h1 h2, h.2⟩
theorem Kv.Ok.below {B : Nat} (h : k.Ok w lo hi) (hb : Below B w w') (hB : hi ≤ B) : k.Ok w' lo hi := ⟨h.1.below hb hB, h.2⟩
theorem Kv.Ok.step (h : k.Ok w 0 w.heap.size) (hb : Below w.heap.size w w') : k.Ok w' 0 w'.heap.size := (h.below hb (Nat.le_refl _)).wide (Nat.le_refl _) hb.size
theorem Sibs.len (h : Sibs w lo hi A n ks) : ks.length = n := by have := h.1.1; rw [flat_len] at this; omega
theorem Sibs.keep (h : Sibs w lo hi A n ks) (q : Keep lo hi w w') : Sibs w' lo hi A n ks := ⟨Row.keep h.1 q, fun k hk => (h.2 k hk).keep q⟩
theorem Sibs.wide (h : Sibs w lo hi A n ks) (h1 : lo' ≤ lo) (h2 : hi ≤ hi') : Sibs w lo' hi' A n ks := ⟨Row.wide h.1 h1 h2, fun k hk => (h.2 k hk).wide h1 h2⟩
theorem Sibs.below {B : Nat} (h : Sibs w lo hi A n ks) (hb : Below B w w') (hB : hi ≤ B) : Sibs w' lo hi A n ks := ⟨Row.below h.1 hb hB, fun k hk => (h.2 k hk).below hb hB⟩
theorem Sibs.nil (w : World) (lo hi : Nat) (A : Option Addr) : Sibs w lo hi A 0 [] := ⟨Row.nil w lo hi A 3, by simp⟩
theorem Sibs.at_ (h : Sibs w lo hi A n ks) {j : Nat} (hj : j < n) : ∃ b off A' n' c' vv g t, A = some ⟨b, off, none⟩ ∧ lo ≤ b ∧ b < hi ∧
    w.cell? ⟨b, off + j * 3, none⟩ = some (.slice A' n' c') ∧ w.cell? ⟨b, off + j * 3 + 1, none⟩ = some (.bool g) ∧ w.cell? ⟨b, off + j * 3 + 2, none⟩ = some (.string t) ∧
    Ints w lo hi A' n' vv ∧ n' ≤ maxLen ∧ t.size ≤ maxLen ∧ Hid (ks[j]? = some ⟨A', n', c', vv, g, t⟩) := by
  have hl := h.len
  have hk : ks[j]? = some ks[j] := List.getElem?_eq_getElem (by omega)
  obtain ⟨b, off, e, h1, h2, hc⟩ := h.1.2 (by omega)
  obtain ⟨f0, f1, f2⟩ := flat_at hk
  obtain ⟨o0, o1, o2⟩ := h.2 _ (List.getElem_mem (l := ks) (n := j) (by omega))
  refine ⟨b, off, ks[j].A, ks[j].n, ks[j].c, ks[j].s.vv, ks[j].s.gone, ks[j].s.text, e, h1, h2, hc _ _ f0, ?_, ?_, o0, o1, o2, hk⟩
  · exact hc _ _ f1
  · exact hc _ _ f2
theorem Sibs.own {base : Nat} {e : TypeId} {c : Nat} (h : w.ownsRow base e 3 (.slice A n c) n (flat ks)) (hlo : lo ≤ base) (hhi : w.heap.size ≤ hi) (hk : ∀ k ∈ ks, k.Ok w lo hi) : Sibs w lo hi A n ks := ⟨Row.own h hlo hhi, hk⟩
end

/-- The slice reads as the list. -/
def HasS (w : World) (A : Option Addr) (n : Nat) (ks : List Kv) : Prop := Sibs w 0 w.heap.size A n ks
section
variable {w w' : World} {lo hi n : Nat} {A : Option Addr} {ks : List Kv}
theorem HasS.len (h : HasS w A n ks) : ks.length = n := Sibs.len h
theorem HasS.step (h : HasS w A n ks) (hb : Below w.heap.size w w') : HasS w' A n ks := (h.below hb (Nat.le_refl _)).wide (Nat.le_refl _) hb.size
theorem HasS.of (h : Sibs w lo hi A n ks) (hi' : hi ≤ w.heap.size) : HasS w A n ks := h.wide (Nat.zero_le _) hi'
theorem HasS.at_ (h : HasS w A n ks) {j : Nat} (hj : j < n) : ∃ b off A' n' c' vv g t, A = some ⟨b, off, none⟩ ∧ b < w.heap.size ∧
    w.cell? ⟨b, off + j * 3, none⟩ = some (.slice A' n' c') ∧ w.cell? ⟨b, off + j * 3 + 1, none⟩ = some (.bool g) ∧ w.cell? ⟨b, off + j * 3 + 2, none⟩ = some (.string t) ∧
    Has w A' n' vv ∧ n' ≤ maxLen ∧ t.size ≤ maxLen ∧ Hid (ks[j]? = some ⟨A', n', c', vv, g, t⟩) := by
  obtain ⟨b, off, A', n', c', vv, g, t, e, _, h2, c0, c1, c2, o0, o1, o2, hk⟩ := Sibs.at_ h hj
  exact ⟨b, off, A', n', c', vv, g, t, e, h2, c0, c1, c2, o0, o1, o2, hk⟩
end

end Go.Proofs.YtldnpfkgehgfpaaDoor
