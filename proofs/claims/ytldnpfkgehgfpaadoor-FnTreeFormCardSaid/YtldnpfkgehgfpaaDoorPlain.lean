
/-
  Plain facts on counts (lists of integers), on versions of a file (Sb), on their order and on merged lists. No program in sight.
-/
import GoSem.Op.String
namespace Go.Proofs.YtldnpfkgehgfpaaDoor

/-! ## Counts -/
def vvOk (v : List Int) : Bool := v.length == 3 && v.all fun n => decide (0 ≤ n) && decide (n ≤ 30)
def vvIn (a b : List Int) : Bool := (a.zip b).all fun p => decide (p.1 ≤ p.2)
def vvJoin (a b : List Int) : List Int := (a.zip b).map fun p => max p.1 p.2

theorem vvOk_form {v : List Int} (h : vvOk v = true) : ∃ a b c : Int, v = [a, b, c] ∧ 0 ≤ a ∧ a ≤ 30 ∧ 0 ≤ b ∧ b ≤ 30 ∧ 0 ≤ c ∧ c ≤ 30 := by
  simp only [vvOk, Bool.and_eq_true, beq_iff_eq] at h
  obtain ⟨hl, ha⟩ := h
  match v, hl with
  | [a, b, c], _ =>
    simp at ha
    exact ⟨a, b, c, rfl, by omega, by omega, by omega, by omega, by omega, by omega⟩
theorem vvOk_mk {a b c : Int} (h : 0 ≤ a ∧ a ≤ 30 ∧ 0 ≤ b ∧ b ≤ 30 ∧ 0 ≤ c ∧ c ≤ 30) : vvOk [a, b, c] = true := by
  simp [vvOk]; omega
theorem vvOk_len {v : List Int} (h : vvOk v = true) : v.length = 3 := by
  obtain ⟨a, b, c, rfl, _⟩ := vvOk_form h; rfl
theorem vvOk_at {v : List Int} (h : vvOk v = true) {k : Nat} (hk : k < 3) : 0 ≤ v.getD k 0 ∧ v.getD k 0 ≤ 30 := by
  obtain ⟨a, b, c, rfl, _⟩ := vvOk_form h
  match k, hk with
  | 0, _ => simp; omega
  | 1, _ => simp; omega
  | 2, _ => simp; omega
theorem vvOk_bad {v : List Int} {k : Nat} (hk : k < v.length) (h : v.getD k 0 < 0 ∨ 30 < v.getD k 0) : vvOk v = false := by
  rw [Bool.eq_false_iff]
  intro hv
  have h3 := vvOk_len hv
  have := vvOk_at hv (k := k) (by omega)
  omega
theorem vvOk_len_ne {v : List Int} (h : v.length ≠ 3) : vvOk v = false := by
  rw [Bool.eq_false_iff]; intro hv; exact h (vvOk_len hv)
theorem vvOk_all {v : List Int} (h : ∀ k, k < v.length → 0 ≤ v.getD k 0 ∧ v.getD k 0 ≤ 30) : vvOk v = decide (v.length = 3) := by
  have ha : (v.all fun n => decide (0 ≤ n) && decide (n ≤ 30)) = true := by
    rw [List.all_eq_true]
    intro x hx
    obtain ⟨k, hk, rfl⟩ := List.getElem_of_mem hx
    have := h k hk
    rw [List.getD_eq_getElem?_getD, List.getElem?_eq_getElem hk] at this
    simpa using this
  unfold vvOk
  rw [ha, Bool.and_true]
  rfl
theorem vvOk_eq (v : List Int) : vvOk v = true ↔ v.length = 3 ∧ ∀ k, k < v.length → 0 ≤ v.getD k 0 ∧ v.getD k 0 ≤ 30 := by
  constructor
  · intro h
    exact ⟨vvOk_len h, fun k hk => vvOk_at h (by rw [vvOk_len h] at hk; exact hk)⟩
  · rintro ⟨h1, h2⟩
    rw [vvOk_all h2]; simpa using h1

theorem vvIn_iff {a b : List Int} (h : a.length = b.length) : vvIn a b = true ↔ ∀ k, k < a.length → a.getD k 0 ≤ b.getD k 0 := by
  induction a generalizing b with
  | nil => cases b <;> simp_all [vvIn]
  | cons x a ih =>
    match b, h with
    | y :: b, h =>
      have h' : a.length = b.length := by simpa using h
      have := ih h'
      simp only [vvIn, List.zip_cons_cons, List.all_cons, Bool.and_eq_true, decide_eq_true_eq] at this ⊢
      rw [this]
      constructor
      · rintro ⟨h1, h2⟩ k hk
        match k with
        | 0 => simpa using h1
        | k + 1 => simpa using h2 k (by simpa using hk)
      · intro h
        refine ⟨by simpa using h 0 (by simp), fun k hk => by simpa using h (k + 1) (by simpa using hk)⟩
theorem vvIn_no {a b : List Int} (h : a.length = b.length) {k : Nat} (hk : k < a.length) (hlt : b.getD k 0 < a.getD k 0) : vvIn a b = false := by
  rw [Bool.eq_false_iff]
  intro hv
  have := (vvIn_iff h).1 hv k hk
  omega

theorem vvJoin_len {a b : List Int} (h : a.length = b.length) : (vvJoin a b).length = a.length := by simp [vvJoin, h]
theorem vvJoin_at {a b : List Int} (h : a.length = b.length) {k : Nat} (hk : k < a.length) : (vvJoin a b).getD k 0 = max (a.getD k 0) (b.getD k 0) := by
  have hb : k < b.length := by omega
  have hz : k < (a.zip b).length := by simp; omega
  simp [vvJoin, List.getD_eq_getElem?_getD, List.getElem?_eq_getElem hz, hk, hb]

theorem list_eq_iff {xs ys : List Int} : xs = ys ↔ xs.length = ys.length ∧ ∀ k, k < xs.length → xs.getD k 0 = ys.getD k 0 := by
  constructor
  · rintro rfl; exact ⟨rfl, fun _ _ => rfl⟩
  · rintro ⟨hl, h⟩
    apply List.ext_getElem hl
    intro k h1 h2
    have := h k h1
    simpa [List.getD_eq_getElem?_getD, List.getElem?_eq_getElem h1, List.getElem?_eq_getElem h2] using this
theorem list_ne {xs ys : List Int} {k : Nat} (h : xs.getD k 0 ≠ ys.getD k 0) : xs ≠ ys := by rintro rfl; exact h rfl

end Go.Proofs.YtldnpfkgehgfpaaDoor
