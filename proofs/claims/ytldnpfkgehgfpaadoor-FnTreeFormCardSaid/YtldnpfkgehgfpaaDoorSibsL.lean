
/-
  Contracts of l2Put and l2Merge.
-/
import Derived.Test.YtldnpfkgehgfpaaDoorSibsA
import Derived.Test.YtldnpfkgehgfpaaDoorSibsE
import Derived.Test.YtldnpfkgehgfpaaDoorHeld
import Derived.Deep.AppendLies
namespace Go.Proofs.YtldnpfkgehgfpaaDoor
open Go.RowKit Go.PlainAid

/-! ## Putting one in a list -/
def putK (s : Kv) : List Kv → List Kv
  | [] => [s]
  | x :: r => if cmpS s.s x.s < 0 then s :: x :: r else if cmpS s.s x.s = 0 then x :: r else x :: putK s r
theorem sbs_putK (s : Kv) : ∀ ks : List Kv, sbs (putK s ks) = putL s.s (sbs ks)
  | [] => rfl
  | x :: r => by
    have ih := sbs_putK s r
    unfold putK
    show _ = putL s.s (x.s :: sbs r)
    unfold putL
    split
    · rfl
    · split
      · rfl
      · show x.s :: sbs (putK s r) = _
        rw [ih]
theorem mem_putK {s x : Kv} : ∀ {ks : List Kv}, x ∈ putK s ks → x = s ∨ x ∈ ks
  | [], h => by simp [putK] at h; exact .inl h
  | y :: r, h => by
    unfold putK at h
    split at h
    · simpa using h
    · split at h
      · exact .inr h
      · rcases List.mem_cons.1 h with h | h
        · exact .inr (by simp [h])
        · rcases mem_putK h with h | h
          · exact .inl h
          · exact .inr (by simp [h])
theorem len_putK (s : Kv) (ks : List Kv) : (putK s ks).length ≤ ks.length + 1 := by
  have := len_putL s.s (sbs ks)
  rw [← sbs_putK, sbs_len, sbs_len] at this
  exact this
def pstep (s : Kv) (st : List Kv × Bool) (x : Kv) : List Kv × Bool := (if !st.2 && decide (cmpS s.s x.s < 0) then st.1 ++ [s, x] else st.1 ++ [x], st.2 || decide (cmpS s.s x.s ≤ 0))
def pTo (s : Kv) (ks : List Kv) (k : Nat) : List Kv × Bool := (ks.take k).foldl (pstep s) ([], false)
theorem pTo_zero (s : Kv) (ks : List Kv) : pTo s ks 0 = ([], false) := rfl
theorem pTo_succ {s : Kv} {ks : List Kv} {k : Nat} {x : Kv} (hx : ks[k]? = some x) : pTo s ks (k + 1) = pstep s (pTo s ks k) x := by
  obtain ⟨hk, rfl⟩ := List.getElem?_eq_some_iff.1 hx
  unfold pTo
  rw [List.take_succ_eq_append_getElem hk, List.foldl_append]
  rfl
theorem fold_put (s : Kv) : ∀ (ks acc : List Kv), ks.foldl (pstep s) (acc, true) = (acc ++ ks, true) ∧
    (ks.foldl (pstep s) (acc, false)).1 ++ (if (ks.foldl (pstep s) (acc, false)).2 then [] else [s]) = acc ++ putK s ks
  | [], acc => by simp [putK]
  | x :: r, acc => by
    refine ⟨?_, ?_⟩
    · show r.foldl (pstep s) (pstep s (acc, true) x) = _
      have e : pstep s (acc, true) x = (acc ++ [x], true) := by simp [pstep]
      rw [e, (fold_put s r _).1]; simp
    · show (r.foldl (pstep s) (pstep s (acc, false) x)).1 ++ _ = _
      unfold putK
      by_cases h1 : cmpS s.s x.s < 0
      · have e : pstep s (acc, false) x = (acc ++ [s, x], true) := by simp [pstep, h1]; omega
        rw [List.foldl_cons, e, (fold_put s r _).1, if_pos h1]; simp
      · by_cases h2 : cmpS s.s x.s = 0
        · have e : pstep s (acc, false) x = (acc ++ [x], true) := by simp [pstep, h2]
          rw [List.foldl_cons, e, (fold_put s r _).1, if_neg h1, if_pos h2]; simp
        · have e : pstep s (acc, false) x = (acc ++ [x], false) := by simp [pstep, h1]; omega
          rw [List.foldl_cons, e, (fold_put s r _).2, if_neg h1, if_neg h2]; simp
theorem pTo_all {s : Kv} {ks : List Kv} {k : Nat} (h : ks.length = k) : (pTo s ks k).1 ++ (if (pTo s ks k).2 then [] else [s]) = putK s ks := by
  have := (fold_put s ks []).2
  unfold pTo
  rw [List.take_of_length_le (by omega)]
  exact this
theorem pTo_mem {s : Kv} {ks : List Kv} : ∀ {k : Nat} {x : Kv}, x ∈ (pTo s ks k).1 → x = s ∨ x ∈ ks := by
  intro k
  induction k with
  | zero => intro x h; simp [pTo_zero] at h
  | succ k ih =>
    intro x h
    rcases Nat.lt_or_ge k ks.length with hk | hk
    · rw [pTo_succ (List.getElem?_eq_getElem hk)] at h
      have hm : ks[k] ∈ ks := List.getElem_mem hk
      unfold pstep at h
      dsimp only at h
      split at h
      · rcases List.mem_append.1 h with h | h
        · exact ih h
        · simp at h
          rcases h with h | h
          · exact .inl h
          · rw [h]; exact .inr hm
      · rcases List.mem_append.1 h with h | h
        · exact ih h
        · simp at h
          rw [h]; exact .inr hm
    · have e : pTo s ks (k + 1) = pTo s ks k := by unfold pTo; rw [List.take_of_length_le (by omega), List.take_of_length_le hk]
      rw [e] at h; exact ih h
theorem pTo_len {s : Kv} {ks : List Kv} : ∀ k : Nat, (pTo s ks k).1.length ≤ 2 * k := by
  intro k
  induction k with
  | zero => simp [pTo_zero]
  | succ k ih =>
    rcases Nat.lt_or_ge k ks.length with hk | hk
    · rw [pTo_succ (List.getElem?_eq_getElem hk)]
      unfold pstep
      dsimp only
      split <;> simp <;> omega
    · have e : pTo s ks (k + 1) = pTo s ks k := by unfold pTo; rw [List.take_of_length_le (by omega), List.take_of_length_le hk]
      rw [e]; omega

/-! ## Appending one -/
theorem cell_three_new (w : World) (x y z : Value) (t : TypeId) : ∀ j u, [x, y, z][j]? = some u → (w.alloc (.cells #[x, y, z] t)).cell? ((⟨w.heap.size, 0, none⟩ : Addr).add j) = some u := by
  intro j u hj
  have hh := heap_alloc_new w (.cells #[x, y, z] t)
  generalize w.alloc (.cells #[x, y, z] t) = W at hh ⊢
  match j, hj with
  | 0, hj => simp at hj; subst hj; simp [World.cell?, hh, Addr.add]
  | 1, hj => simp at hj; subst hj; simp [World.cell?, hh, Addr.add]
  | 2, hj => simp at hj; subst hj; simp [World.cell?, hh, Addr.add]
  | j + 3, hj => simp at hj
/-- One version more, behind a row that the call has made. -/
theorem app_sib {ops : Array Oper} {rest : List Oper} {o : Oper} {a : Act} {Q : Exit → Act → World → Prop} (W : World) (hgd : o.guard = none) (s x : Operand)
    (ho : o.op = .call { callee := .builtin .append, args := #[s, x], argTypes := #[27, 27] }) (wb w0 : World) (base : Nat) (hbase : base ≤ w0.heap.size) (hB : Below base wb w0) (v : Value) (n : Nat) (ks : List Kv) (hs : a.eval s = v)
    (hown : w0.ownsRow base 43 3 v n (flat ks)) (hn : n ≤ 1000000) (k : Kv) (H : Nat) (hH : w0.heap.size = H) (hx : a.eval x = .slice (some ⟨H, 0, none⟩) 1 1)
    (hW : W = w0.alloc (.cells #[.slice k.A k.n k.c, .bool k.s.gone, .string k.s.text] 43))
    (h : ∀ v' w', w'.ownsRow base 43 3 v' (n + 1) (flat (ks ++ [k])) → Below base wb w' → w0.heap.size ≤ w'.heap.size → wpList Tryd.prog ops Q rest (a.put o.dst v') w') :
    wpList Tryd.prog ops Q (o :: rest) a W := by
  subst hW
  obtain ⟨i0, hi0, hz0, hz1, hz2⟩ := info_parts infoSib
  subst hH
  refine wpList_append_own _ hgd s x 27 ho base 43 i0 _ 3 48 Tryd.underlying27 hi0 hz0 hz1 hz2 rfl (by omega) v n (flat ks) hs (hown.alloc _) ⟨w0.heap.size, 0, none⟩ 1 1 [.slice k.A k.n k.c, .bool k.s.gone, .string k.s.text] hx rfl (cell_three_new _ _ _ _ _) ?_ (by unfold maxLen; omega) (by omega) (by simp; omega) (fun v' w' hown1 hg1 _ => ?_)
  · intro u hu
    simp at hu
    rcases hu with rfl | rfl | rfl <;> rfl
  · refine h v' w' ?_ ((hB.alloc hbase _).grown hg1 (by simp; omega) (fun g hg => (hown.lt g hg).1)) (by have := hg1.size; simp at this; omega)
    rw [flat_append, flat_one]
    exact hown1

/-- The same, and where the row lies behind it. -/
theorem app_sib2 {ops : Array Oper} {rest : List Oper} {o : Oper} {a : Act} {Q : Exit → Act → World → Prop} (W : World) (hgd : o.guard = none) (s x : Operand)
    (ho : o.op = .call { callee := .builtin .append, args := #[s, x], argTypes := #[27, 27] }) (w0 : World) (base : Nat) (hbase : base ≤ w0.heap.size) (v : Value) (n : Nat) (ks : List Kv) (hs : a.eval s = v)
    (hown : w0.ownsRow base 43 3 v n (flat ks)) (hn : n ≤ 1000000) (k : Kv) (H : Nat) (hH : w0.heap.size = H) (hx : a.eval x = .slice (some ⟨H, 0, none⟩) 1 1)
    (hW : W = w0.alloc (.cells #[.slice k.A k.n k.c, .bool k.s.gone, .string k.s.text] 43))
    (h : ∀ g cap w', w'.ownsRow base 43 3 (.slice (some ⟨g, 0, none⟩) (n + 1) cap) (n + 1) (flat (ks ++ [k])) → Below base w0 w' → w0.heap.size ≤ w'.heap.size → (v.ownBlock = some g ∨ w0.heap.size < g) → (∀ q, q < w0.heap.size → v.ownBlock ≠ some q → w'.heap[q]? = w0.heap[q]?) →
      wpList Tryd.prog ops Q rest (a.put o.dst (.slice (some ⟨g, 0, none⟩) (n + 1) cap)) w') :
    wpList Tryd.prog ops Q (o :: rest) a W := by
  subst hW
  obtain ⟨i0, hi0, hz0, hz1, hz2⟩ := info_parts infoSib
  subst hH
  refine wpList_append_lies _ hgd s x 27 ho base 43 i0 _ 3 48 Tryd.underlying27 hi0 hz0 hz1 hz2 rfl (by omega) v n (flat ks) hs (hown.alloc _) ⟨w0.heap.size, 0, none⟩ 1 1 [.slice k.A k.n k.c, .bool k.s.gone, .string k.s.text] hx rfl (cell_three_new _ _ _ _ _) ?_ (by omega) (by unfold maxLen; omega) (by omega) (by simp; omega) (w0.heap.size + 1) (by simp) (fun g cap w' hown1 hg1 hat hlt => ?_)
  · intro u hu
    simp at hu
    rcases hu with rfl | rfl | rfl <;> rfl
  · refine h g cap w' ?_ (((Below.refl base w0).alloc hbase _).grown hg1 (by simp; omega) (fun g hg => (hown.lt g hg).1)) (by have := hg1.size; simp at this; omega) (hat.imp id fun e => by omega) (fun q hq hne => ?_)
    · rw [flat_append, flat_one]
      exact hown1
    · rw [hg1.block q (by simp; omega) (fun e => hne e.symm)]
      exact Below.heap_alloc w0 _ q hq
/-- 'append([]int{}, x...)' of counts. -/
theorem app_ints {ops : Array Oper} {rest : List Oper} {o : Oper} {a : Act} {Q : Exit → Act → World → Prop} (W : World) (hgd : o.guard = none) (s x : Operand)
    (ho : o.op = .call { callee := .builtin .append, args := #[s, x], argTypes := #[41, 41] }) (w0 : World) (H : Nat) (hH : w0.heap.size = H) (hs : a.eval s = .slice (some ⟨H, 0, none⟩) 0 0) (A : Option Addr) (n c : Nat) (xs : List Int)
    (hI : Has w0 A n xs) (h0 : 0 < n) (hn : n ≤ 1000000) (hx : a.eval x = .slice A n c) (hW : W = w0.alloc (.cells #[] 3))
    (h : ∀ g cap w', OwnInts w' w0.heap.size w'.heap.size (some ⟨g, 0, none⟩) n cap xs → Below w0.heap.size w0 w' → wpList Tryd.prog ops Q rest (a.put o.dst (.slice (some ⟨g, 0, none⟩) n cap)) w') :
    wpList Tryd.prog ops Q (o :: rest) a W := by
  subst hW
  obtain ⟨i0, hi0, hz0, hz1, hz2⟩ := info_parts infoInt
  subst hH
  obtain ⟨b, off, rfl, _, _, _⟩ := hI.2 h0
  have E0 : (w0.alloc (.cells #[] 3)).ownsRow w0.heap.size 3 1 (.slice (some ⟨w0.heap.size, 0, none⟩) 0 0) 0 [] := World.ownsRow_lit w0 #[] 0 (Nat.le_refl _) (by unfold maxLen; omega) rfl
  refine wpList_append_lies _ hgd s x 41 ho w0.heap.size 3 i0 _ 1 8 Tryd.underlying41 hi0 hz0 hz1 hz2 rfl (by omega) _ 0 [] hs E0 ⟨b, off, none⟩ n c (xs.map (Value.int .i64)) hx (by rw [List.length_map, hI.len]; omega) (Row.news (Has.step hI (bel_alloc _ _))) (oneInts xs) h0 (by unfold maxLen; omega) (by omega) (by simp) (w0.heap.size + 1) (by simp) (fun g cap w' hown1 hg1 _ _ => ?_)
  have ho' : w'.ownsRow w0.heap.size 3 1 (.slice (some ⟨g, 0, none⟩) n cap) n (xs.map (Value.int .i64)) := by simpa using hown1
  have := h g cap w' (OwnInts.of ho' (Nat.le_refl _)) (((Below.refl _ w0).alloc (Nat.le_refl _) _).grown hg1 (by simp) (fun g hg => (E0.lt g hg).1))
  simpa using this

end Go.Proofs.YtldnpfkgehgfpaaDoor
