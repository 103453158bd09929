
/-
  Contracts of the helpers of the exact laws on lists of versions: szSibS, toSibS, eqSibS.
-/
import Derived.Test.YtldnpfkgehgfpaaDoorSibK
import Derived.Test.YtldnpfkgehgfpaaDoorSibC
import Derived.Test.YtldnpfkgehgfpaaDoorSibE
namespace Go.Proofs.YtldnpfkgehgfpaaDoor
open Go.RowKit Go.PlainAid

/-! ## Lists of versions that a call has made -/
theorem row_keep {w w' : World} {base : Nat} {e : TypeId} {size n : Nat} {v : Value} {xs : List Value} (h : w.ownsRow base e size v n xs) (k : ∀ g, v.ownBlock = some g → w'.heap[g]? = w.heap[g]?) : w'.ownsRow base e size v n xs := by
  refine ⟨h.1, ?_⟩
  rcases h.2 with h2 | ⟨g, cap, cur, hv, hb, hh, rest⟩
  · exact .inl h2
  · exact .inr ⟨g, cap, cur, hv, hb, by rw [k g (by rw [hv]; rfl)]; exact hh, rest⟩
theorem row_mono {w : World} {base base' : Nat} {e : TypeId} {size n : Nat} {v : Value} {xs : List Value} (h : w.ownsRow base e size v n xs) (hb : base' ≤ base) : w.ownsRow base' e size v n xs := by
  refine ⟨h.1, ?_⟩
  rcases h.2 with h2 | ⟨g, cap, cur, hv, hg, rest⟩
  · exact .inl h2
  · exact .inr ⟨g, cap, cur, hv, Nat.le_trans hb hg, rest⟩
theorem OwnInts.wide {w : World} {lo hi lo' hi' n c : Nat} {A : Option Addr} {xs : List Int} (h : OwnInts w lo hi A n c xs) (h1 : lo' ≤ lo) (h2 : hi ≤ hi') : OwnInts w lo' hi' A n c xs :=
  ⟨row_mono h.1 h1, fun g hg => Nat.lt_of_lt_of_le (h.2 g hg) h2⟩
theorem OwnInts.setC {w : World} {lo hi n c : Nat} {A : Option Addr} {xs : List Int} {q : Addr} {u : Value} (h : OwnInts w lo hi A n c xs) (hq : q.block < lo ∨ hi ≤ q.block) : OwnInts (w.setCell q u) lo hi A n c xs :=
  h.keep fun b h1 h2 => Below.heap_setCell w q u b (by omega)

/-- The counts of one lie in a block of the call's own. -/
def Kv.Own (w : World) (lo hi : Nat) (k : Kv) : Prop := OwnInts w lo hi k.A k.n k.c k.s.vv ∧ k.n ≤ 1048576 ∧ k.s.text.size ≤ maxLen
/-- The block of one's counts. -/
def Kv.blk (k : Kv) : Option Nat := (Value.slice k.A k.n k.c).ownBlock
/-- The counts of two lie in blocks of their own. -/
def Apart (a b : Kv) : Prop := ∀ g, a.blk = some g → b.blk ≠ some g
/-- A list of versions that a call has made: its row and the counts of each lie in blocks of their own. -/
structure OwnSibs (w : World) (lo hi : Nat) (A : Option Addr) (n c : Nat) (ks : List Kv) : Prop where
  row : w.ownsRow lo 43 3 (.slice A n c) n (flat ks)
  lt : ∀ g, (Value.slice A n c).ownBlock = some g → g < hi
  own : ∀ k ∈ ks, k.Own w lo hi
  off : ∀ k ∈ ks, ∀ g, (Value.slice A n c).ownBlock = some g → k.blk ≠ some g
  sep : ks.Pairwise Apart
section
variable {w w' : World} {lo hi lo' hi' n c : Nat} {A : Option Addr} {ks : List Kv} {k : Kv}
theorem Kv.Own.keep (h : k.Own w lo hi) (q : Keep lo hi w w') : k.Own w' lo hi := ⟨h.1.keep q, h.2⟩
theorem Kv.Own.wide (h : k.Own w lo hi) (h1 : lo' ≤ lo) (h2 : hi ≤ hi') : k.Own w lo' hi' := ⟨h.1.wide h1 h2, h.2⟩
theorem Kv.Own.ok (h : k.Own w lo hi) : k.Ok w lo hi := ⟨h.1.ints, by have := h.2.1; unfold maxLen; omega, h.2.2⟩
theorem OwnSibs.keep (h : OwnSibs w lo hi A n c ks) (q : Keep lo hi w w') : OwnSibs w' lo hi A n c ks :=
  ⟨row_keep h.row fun g hg => q g (h.row.lt g hg).1 (h.lt g hg), h.lt, fun k hk => (h.own k hk).keep q, h.off, h.sep⟩
theorem OwnSibs.wide (h : OwnSibs w lo hi A n c ks) (h1 : lo' ≤ lo) (h2 : hi ≤ hi') : OwnSibs w lo' hi' A n c ks :=
  ⟨row_mono h.row h1, fun g hg => Nat.lt_of_lt_of_le (h.lt g hg) h2, fun k hk => (h.own k hk).wide h1 h2, h.off, h.sep⟩
theorem OwnSibs.below {B : Nat} (h : OwnSibs w lo hi A n c ks) (hb : Below B w w') (hB : hi ≤ B) : OwnSibs w' lo hi A n c ks := h.keep (.of_below hb hB)
theorem OwnSibs.sibs (h : OwnSibs w lo hi A n c ks) : Sibs w lo hi A n ks := by
  refine ⟨⟨h.row.1, fun hn => ?_⟩, fun k hk => (h.own k hk).ok⟩
  obtain ⟨g, cap, hv, hb, _⟩ := h.row.form hn
  have hA : A = some ⟨g, 0, none⟩ := by injection hv
  subst hA
  refine ⟨g, 0, rfl, hb, h.lt g rfl, fun j u hu => ?_⟩
  have hc := h.row.cells (g := g) rfl j u hu
  have hadd : (⟨g, 0, none⟩ : Addr).add j = ⟨g, 0 + j, none⟩ := by unfold Addr.add; split <;> simp_all
  rw [hadd] at hc
  exact hc
theorem OwnSibs.hasS (h : OwnSibs w lo hi A n c ks) (hhi : hi ≤ w.heap.size) : HasS w A n ks := HasS.of h.sibs hhi
theorem OwnSibs.len (h : OwnSibs w lo hi A n c ks) : ks.length = n := h.sibs.len
end

/-- How many counts there are in all. -/
def totS : List Sb → Nat
  | [] => 0
  | s :: r => s.vv.length + totS r
theorem totS_append : ∀ (a b : List Sb), totS (a ++ b) = totS a + totS b
  | [], b => by simp [totS]
  | s :: r, b => by simp [totS, totS_append r b]; omega
theorem totS_take {ss : List Sb} {k : Nat} {x : Sb} (hx : ss[k]? = some x) : totS (ss.take (k + 1)) = totS (ss.take k) + x.vv.length := by
  obtain ⟨hk, rfl⟩ := List.getElem?_eq_some_iff.1 hx
  rw [List.take_succ_eq_append_getElem hk, totS_append]
  simp [totS]

theorem infoSib : (Tryd.prog.info? 43).map (fun i => (i.zero, i.size, i.bytes)) = some (some (.agg #[.slice none 0 0, .bool false, .string ⟨#[]⟩]), 3, 48) := by kernel_rfl

/-- The first of a list of n, the others zero. -/
def rowTo (ks : List Kv) (n : Nat) : List Value := flat ks ++ (List.replicate (n - ks.length) [.slice none 0 0, .bool false, .string ⟨#[]⟩]).flatten
theorem zeros_at (z0 z1 z2 : Value) : ∀ (n j : Nat), j < n * 3 → ((List.replicate n [z0, z1, z2]).flatten)[j]? = some (#[z0, z1, z2][j % 3]!)
  | 0, j, h => by omega
  | n + 1, j, h => by
    rw [List.replicate_succ, List.flatten_cons]
    match j, h with
    | 0, _ => rfl
    | 1, _ => rfl
    | 2, _ => rfl
    | j + 3, h =>
      have := zeros_at z0 z1 z2 n j (by omega)
      rw [show (j + 3) % 3 = j % 3 by omega]
      simpa using this
theorem made3 (z0 z1 z2 : Value) (n : Nat) : (madeCells #[z0, z1, z2] (n * 3)).toList = (List.replicate n [z0, z1, z2]).flatten := by
  apply List.ext_getElem?
  intro j
  by_cases hj : j < n * 3
  · rw [zeros_at z0 z1 z2 n j hj]
    simp [madeCells, hj]
  · rw [List.getElem?_eq_none (by simp [size_madeCells]; omega), List.getElem?_eq_none (by simp; omega)]
theorem rowTo_nil (n : Nat) : rowTo [] n = (List.replicate n [.slice none 0 0, .bool false, .string ⟨#[]⟩]).flatten := by simp [rowTo, flat]
theorem rowTo_all {ks : List Kv} {n : Nat} (h : ks.length = n) : rowTo ks n = flat ks := by simp [rowTo, h]
theorem rowTo_cut {ks : List Kv} {n : Nat} (h : ks.length < n) : rowTo ks n = flat ks ++ .slice none 0 0 :: .bool false :: .string ⟨#[]⟩ :: (List.replicate (n - (ks.length + 1)) [.slice none 0 0, .bool false, .string ⟨#[]⟩]).flatten := by
  unfold rowTo
  rw [show n - ks.length = (n - (ks.length + 1)) + 1 by omega, List.replicate_succ, List.flatten_cons]
  rfl
theorem rowTo_at {ks : List Kv} {n : Nat} (h : ks.length < n) : (rowTo ks n)[ks.length * 3]? = some (.slice none 0 0) ∧ (rowTo ks n)[ks.length * 3 + 1]? = some (.bool false) ∧ (rowTo ks n)[ks.length * 3 + 2]? = some (.string ⟨#[]⟩) := by
  rw [rowTo_cut h, ← flat_len]
  refine ⟨?_, ?_, ?_⟩ <;> simp
theorem rowTo_set {ks : List Kv} {n : Nat} (h : ks.length < n) (k : Kv) :
    (((rowTo ks n).set (ks.length * 3) (.slice k.A k.n k.c)).set (ks.length * 3 + 1) (.bool k.s.gone)).set (ks.length * 3 + 2) (.string k.s.text) = rowTo (ks ++ [k]) n := by
  rw [rowTo_cut h, ← flat_len]
  simp [rowTo, flat_append, flat_one]

theorem cell_upE {w w' : World} {a : Addr} {v : Value} (hb : Below w.heap.size w w') (h : w.cell? a = some v) : w'.cell? a = some v := (hb.cell (World.block_lt_of_cell? w _ h)).trans h
theorem sbs_ne {a b : List Sb} {k : Nat} {x y : Sb} (hx : a[k]? = some x) (hy : b[k]? = some y) (h : x ≠ y) : a ≠ b := by
  rintro rfl
  rw [hx] at hy
  injection hy with hy
  exact h hy
instance : DecidableEq Sb := fun a b => if h : a.vv = b.vv ∧ a.gone = b.gone ∧ a.text = b.text then isTrue (Sb.ext_ h.1 h.2.1 h.2.2) else isFalse (fun e => h (by subst e; exact ⟨rfl, rfl, rfl⟩))
theorem eq_sb (xs ys : List Int) (g g' : Bool) (t u : ByteArray) : (decide (xs = ys) && (g == g') && (t.toList == u.toList)) = decide ((⟨xs, g, t⟩ : Sb) = ⟨ys, g', u⟩) := by
  rw [Bool.eq_iff_iff, Bool.and_eq_true, Bool.and_eq_true, decide_eq_true_eq, decide_eq_true_eq, beq_iff_eq, beq_iff_eq, Lib.toList_data, Lib.toList_data]
  constructor
  · rintro ⟨⟨h1, h2⟩, h3⟩
    exact Sb.ext_ h1 h2 (by cases t; cases u; simp at h3; simp [h3])
  · intro h
    injection h with h1 h2 h3
    exact ⟨⟨h1, h2⟩, by rw [h3]⟩
theorem sbs_eq {a b : List Sb} {n : Nat} (ha : a.length = n) (hb : b.length = n) (h : ∀ j x y, j < n → a[j]? = some x → b[j]? = some y → x = y) : a = b := by
  apply List.ext_getElem (by omega)
  intro j h1 h2
  exact h j _ _ (by omega) (List.getElem?_eq_getElem h1) (List.getElem?_eq_getElem h2)

end Go.Proofs.YtldnpfkgehgfpaaDoor
