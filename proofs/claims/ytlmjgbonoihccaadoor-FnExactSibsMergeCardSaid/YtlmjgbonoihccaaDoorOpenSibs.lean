
/-
  A list of versions that came in as an argument: what its reading tells of memory.
-/
import Derived.Test.YtlmjgbonoihccaaDoorSibK
import Derived.Lib.SmallJoins
namespace Go.Proofs.YtlmjgbonoihccaaDoor
open Go.RowKit Go.ChangeShapes Go.WideShapes Go.ChangeAt Go.Joins Go.Deep

theorem one_of {cs' : List Value} {W : World} {base n : Nat} {a : Addr} (h : W.cells? base a n = some cs') : cs'.length = n ∧ ∀ j, j < n → ∃ v, cs'[j]? = some v ∧ W.cell? (a.add j) = some v := by
  obtain ⟨_, hlen, hcell⟩ := World.cells?_some h
  exact ⟨hlen, fun j hj => ⟨_, List.getElem?_eq_getElem (by omega), (hcell j hj).trans (List.getElem?_eq_getElem (by omega))⟩⟩

set_option maxRecDepth 100000 in
/-- One element, from its three cells. -/
theorem open_sibCells {H : Type} {enc : TypeId × Value → H} {W : World} {base fuel : Nat} {held : Bool} {v0 v1 v2 : Value} {x : DataW H × List MemPlace}
    (h : DataW.trod enc Tryd.prog W base (fun _ => true) held fuel 68 [v0, v1, v2] = some x) :
    ∃ (A : Option Addr) (n c : Nat) (xs : List Int) (g : Bool) (t : ByteArray), v0 = .slice A n c ∧ v1 = .bool g ∧ v2 = .string t ∧ Has W A n xs ∧ n ≤ maxLen ∧ t.size ≤ maxLen := by
  obtain ⟨y0, y1, y2, n, hx, _, h0, h1, h2⟩ := trod_struct3 Tryd.underlying68 h
  have k0 : DataW.trod enc Tryd.prog W base (fun _ => true) held n 25 [v0] = some y0 := h0
  have k1 : DataW.trod enc Tryd.prog W base (fun _ => true) held n 4 [v1] = some y1 := h1
  have k2 : DataW.trod enc Tryd.prog W base (fun _ => true) held n 9 [v2] = some y2 := h2
  obtain ⟨b, e1, _⟩ := DataW.trod_bool Tryd.underlying4 k1
  obtain ⟨t, e2, _, ht⟩ := DataW.trod_string Tryd.underlying9 k2
  simp only [List.cons.injEq, and_true] at e1 e2
  rcases open_ints Tryd.underlying25 Tryd.underlying3 (by kernel_rfl) k0 with ⟨e0, _⟩ | ⟨x, l, c, zs, e0, _, hl, hm, hz, _, hcell, hwz⟩
  · simp only [List.cons.injEq, and_true] at e0
    exact ⟨none, 0, 0, [], b, t, e0, e1, e2, Ints.nil _ _ _ _, Nat.zero_le _, ht⟩
  · simp only [List.cons.injEq, and_true] at e0
    have hr := ints_of_row (w := W) (a := some x) (len := l) (cap := c) (zs := zs) (.inr ⟨x, rfl, hl, hm, by simpa using hz, hcell, hwz⟩)
    exact ⟨some x, l, c, zs.take l, b, t, e0, e1, e2, hr.1, hr.2, ht⟩

theorem flat_get : ∀ {ks : List Kv} {j : Nat} {u : Value}, (flat ks)[j]? = some u → ∃ k, ks[j / 3]? = some k ∧ (k.enc)[j % 3]? = some u
  | [], j, u, h => by simp [flat] at h
  | a :: r, j, u, h => by
    have e : flat (a :: r) = .slice a.A a.n a.c :: .bool a.s.gone :: .string a.s.text :: flat r := rfl
    rw [e] at h
    match j, h with
    | 0, h => exact ⟨a, rfl, h⟩
    | 1, h => exact ⟨a, rfl, h⟩
    | 2, h => exact ⟨a, rfl, h⟩
    | j + 3, h =>
      obtain ⟨k, h1, h2⟩ := flat_get (ks := r) (j := j) (by simpa using h)
      rw [show (j + 3) / 3 = j / 3 + 1 by omega, show (j + 3) % 3 = j % 3 by omega]
      exact ⟨k, by simpa using h1, h2⟩

set_option maxRecDepth 100000 in
/-- A list of versions that came in. -/
theorem open_sibs {H : Type} {enc : TypeId × Value → H} {W : World} {base b0 : Nat} {held : Bool} {v : Value} {d : DataW H} {p : List MemPlace} (hv : Value.okWide Tryd.prog W .any b0 38 v)
    (h : DataW.Trod enc Tryd.prog W base (fun _ => true) held 38 v d p) :
    ∃ (A : Option Addr) (n c : Nat) (ks : List Kv), v = .slice A n c ∧ HasS W A n ks ∧ n ≤ maxLen := by
  obtain ⟨fuel, hf⟩ := h
  obtain ⟨A, n, c, rfl⟩ := okWide_slice Tryd.underlying38 hv
  rcases open_slice Tryd.underlying38 hf with ⟨e0, _⟩ | ⟨a, len, cap, m, n', D, Pl, e0, hb, hl, hm, hmm, _, hx⟩
  · simp only [Value.cells, List.cons.injEq, and_true, Value.slice.injEq] at e0
    obtain ⟨rfl, rfl, rfl⟩ := e0
    exact ⟨_, _, _, [], rfl, Sibs.nil _ _ _ _, Nat.zero_le _⟩
  · simp only [Value.cells, List.cons.injEq, and_true, Value.slice.injEq] at e0
    obtain ⟨rfl, rfl, rfl⟩ := e0
    have hC : Tryd.prog.cellsOf 68 = 3 := by kernel_rfl
    rw [hC] at hx
    simp only [if_true] at hmm
    subst hmm
    have each : ∀ i, i < n → ∃ k : Kv, (W.cell? (a.add (i * 3)) = some (.slice k.A k.n k.c) ∧ W.cell? (a.add (i * 3 + 1)) = some (.bool k.s.gone) ∧ W.cell? (a.add (i * 3 + 2)) = some (.string k.s.text)) ∧ k.Ok W 0 W.heap.size := by
      intro i hi
      obtain ⟨cs', h1, h2⟩ := hx i (by omega)
      obtain ⟨hlen, hcell⟩ := one_of h1
      obtain ⟨v0, g0, w0⟩ := hcell 0 (by omega)
      obtain ⟨v1, g1, w1⟩ := hcell 1 (by omega)
      obtain ⟨v2, g2, w2⟩ := hcell 2 (by omega)
      match cs', hlen with
      | [u0, u1, u2], _ =>
        simp at g0 g1 g2
        subst g0 g1 g2
        obtain ⟨A', n1, c1, xs, g, t, rfl, rfl, rfl, hI, hn1, ht⟩ := open_sibCells h2
        rw [add_add] at w0 w1 w2
        exact ⟨⟨A', n1, c1, xs, g, t⟩, ⟨w0, w1, w2⟩, hI, hn1, ht⟩
    have hinh : Inhabited Kv := ⟨⟨none, 0, 0, [], false, ⟨#[]⟩⟩⟩
    obtain ⟨f, hf'⟩ := choose_lt each
    obtain ⟨b, off, spot⟩ := a
    have hks : ∀ j k, ((List.range n).map f)[j]? = some k → j < n ∧ k = f j := by
      intro j k h
      obtain ⟨h1, h2⟩ := List.getElem?_eq_some_iff.1 h
      simp at h1 h2
      exact ⟨h1, h2.symm⟩
    refine ⟨_, n, _, (List.range n).map f, rfl, ⟨⟨by rw [flat_len]; simp, fun hn => ?_⟩, fun k hk => ?_⟩, by omega⟩
    · have hc0 := (hf' 0 hn).1.1
      have hspot : spot = none := by simpa [Addr.add] using World.cell?_spot hc0
      subst hspot
      have hadd : ∀ j, (⟨b, off, none⟩ : Addr).add j = ⟨b, off + j, none⟩ := by intro j; unfold Addr.add; split <;> simp_all
      refine ⟨b, off, rfl, Nat.zero_le _, by rw [hadd] at hc0; exact World.block_lt_of_cell? W _ hc0, fun j u hu => ?_⟩
      obtain ⟨k, h1, h2⟩ := flat_get hu
      obtain ⟨hj, rfl⟩ := hks _ _ h1
      obtain ⟨⟨c0, c1, c2⟩, _⟩ := hf' _ hj
      rw [hadd] at c0 c1 c2
      have h3 : j % 3 = 0 ∨ j % 3 = 1 ∨ j % 3 = 2 := by omega
      rcases h3 with h3 | h3 | h3
      · rw [h3] at h2
        injection h2 with h2
        subst h2
        rw [show off + j = off + j / 3 * 3 by omega]
        exact c0
      · rw [h3] at h2
        injection h2 with h2
        subst h2
        rw [show off + j = off + (j / 3 * 3 + 1) by omega]
        exact c1
      · rw [h3] at h2
        injection h2 with h2
        subst h2
        rw [show off + j = off + (j / 3 * 3 + 2) by omega]
        exact c2
    · obtain ⟨j, hj, rfl⟩ := List.mem_map.1 hk
      exact (hf' j (by simpa using hj)).2

end Go.Proofs.YtlmjgbonoihccaaDoor
