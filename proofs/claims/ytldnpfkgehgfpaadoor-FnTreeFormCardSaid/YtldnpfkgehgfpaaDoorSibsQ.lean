
/-
  Appending a list of versions behind a row that the call has made, at an operation.
-/
import Derived.Test.YtldnpfkgehgfpaaDoorSibsL
namespace Go.Proofs.YtldnpfkgehgfpaaDoor
open Go.RowKit Go.PlainAid

theorem one_flat (ks : List Kv) : ∀ u ∈ flat ks, u.oneCell' = true := by
  intro u hu
  obtain ⟨k, _, hk⟩ := List.mem_flatMap.1 hu
  simp [Kv.enc] at hk
  rcases hk with rfl | rfl | rfl <;> rfl

theorem appK_row {o : Oper} {a : Act} {K : Act → World → Prop} {Q : Exit → Act → World → Prop} (d : Nat) (hd : o.dst = some d) (s x : Operand)
    (ho : o.op = .call { callee := .builtin .append, args := #[s, x], argTypes := #[27, 27] }) (w : World) (base : Nat) (hbase : base ≤ w.heap.size) (v : Value) (n : Nat) (ks : List Kv) (hs : a.eval s = v)
    (hown : w.ownsRow base 43 3 v n (flat ks)) (hn : n ≤ 100000) (ad : Addr) (m c : Nat) (js : List Kv) (hx : a.eval x = .slice (some ad) m c) (hm : m ≤ 100000) (hl : js.length = m)
    (hnews : ∀ j u, (flat js)[j]? = some u → w.cell? (ad.add j) = some u)
    (h : ∀ v' w', w'.ownsRow base 43 3 v' (n + m) (flat (ks ++ js)) → Below base w w' → w.heap.size ≤ w'.heap.size → (∀ q, q < w.heap.size → v.ownBlock ≠ some q → w'.heap[q]? = w.heap[q]?) → K (a.put (some d) v') w') : o.wp Tryd.prog a w K Q := by
  rw [← hd] at h
  obtain ⟨i0, hi0, hz0, hz1, hz2⟩ := info_parts infoSib
  refine wp_append_own w s x 27 ho base 43 i0 _ 3 48 Tryd.underlying27 hi0 hz0 hz1 hz2 rfl (by omega) v n (flat ks) hs hown ad m c (flat js) hx (by rw [flat_len, hl]) hnews (one_flat js) (by unfold maxLen; omega) (by omega) hbase (fun v' w' hown1 hg1 _ => ?_)
  refine h v' w' ?_ ((Below.refl base w).grown hg1 hbase (fun g hg => (hown.lt g hg).1)) hg1.size (fun q hq hne => hg1.block q hq (fun e => hne e.symm))
  rw [flat_append]
  exact hown1
/-- The cells of a slice of versions, at its own address. -/
theorem Sibs.news {w : World} {lo hi n : Nat} {ad : Addr} {ks : List Kv} (h : Sibs w lo hi (some ad) n ks) : ∀ j u, (flat ks)[j]? = some u → w.cell? (ad.add j) = some u := by
  intro j u hu
  have hl := h.len
  have hn : 0 < n := by
    rcases Nat.eq_zero_or_pos n with h0 | h0
    · have : ks = [] := List.eq_nil_of_length_eq_zero (by omega)
      subst this
      simp [flat] at hu
    · exact h0
  obtain ⟨b, off, e, _, hbl, hc⟩ := h.1.2 (by omega)
  injection e with e
  subst e
  have hadd : (⟨b, off, none⟩ : Addr).add j = ⟨b, off + j, none⟩ := by unfold Addr.add; split <;> simp_all
  rw [hadd]
  exact hc j u hu
/-- The head of a list. -/
theorem Sibs.pre {w : World} {lo hi n : Nat} {A : Option Addr} {ks : List Kv} (h : Sibs w lo hi A n ks) {k : Nat} (hk : k ≤ n) : Sibs w lo hi A k (ks.take k) := by
  have hl := h.len
  refine ⟨⟨by rw [flat_len, List.length_take]; omega, fun hn => ?_⟩, fun x hx => h.2 x (List.mem_of_mem_take hx)⟩
  obtain ⟨b, off, e, h1, h2, hc⟩ := h.1.2 (by omega)
  refine ⟨b, off, e, h1, h2, fun j u hu => hc j u ?_⟩
  have e : flat ks = flat (ks.take k) ++ flat (ks.drop k) := by rw [← flat_append, List.take_append_drop]
  rw [e, List.getElem?_append_left (List.getElem?_eq_some_iff.1 hu).1]
  exact hu
/-- What stands behind it. -/
theorem Sibs.post {w : World} {lo hi n b off : Nat} {ks : List Kv} (h : Sibs w lo hi (some ⟨b, off, none⟩) n ks) {k : Nat} (hk : k ≤ n) : Sibs w lo hi (some ⟨b, off + k * 3, none⟩) (n - k) (ks.drop k) := by
  have hl := h.len
  refine ⟨⟨by rw [flat_len, List.length_drop, hl], fun hn => ?_⟩, fun x hx => h.2 x (List.mem_of_mem_drop hx)⟩
  obtain ⟨b', off', e, h1, h2, hc⟩ := h.1.2 (by omega)
  simp only [Option.some.injEq, Addr.mk.injEq, and_true] at e
  obtain ⟨rfl, rfl⟩ := e
  refine ⟨b, off + k * 3, rfl, h1, h2, fun j u hu => ?_⟩
  have e : flat ks = flat (ks.take k) ++ flat (ks.drop k) := by rw [← flat_append, List.take_append_drop]
  have := hc (k * 3 + j) u (by
    rw [e, List.getElem?_append_right (by rw [flat_len, List.length_take]; omega), flat_len, List.length_take, Nat.min_eq_left (by omega), Nat.add_sub_cancel_left]
    exact hu)
  rw [Nat.add_assoc]
  exact this
theorem Sibs.postAt {w : World} {lo hi n b c : Nat} {ks : List Kv} (h : Sibs w lo hi (some ⟨b, 0, none⟩) n ks) {k : Nat} (hk : k ≤ n) (hc : n ≤ c) {ad : Addr} (had : (if c = k then some (⟨b, 0, none⟩ : Addr) else some ⟨b, k * 3, none⟩) = some ad) :
    ∀ j u, (flat (ks.drop k))[j]? = some u → w.cell? (ad.add j) = some u := by
  by_cases e : c = k
  · intro j u hu
    have hl := h.len
    have : ks.drop k = [] := List.drop_eq_nil_of_le (by omega)
    rw [this] at hu
    simp [flat] at hu
  · rw [if_neg e] at had
    injection had with had
    subst had
    have := h.post hk
    rw [Nat.zero_add] at this
    exact this.news
theorem newsKeep {X Y : World} {h : Nat} {xs : List Value} (hf : Y.heap[h]? = X.heap[h]?) (NW : ∀ j u, xs[j]? = some u → X.cell? ((⟨h, 0, none⟩ : Addr).add j) = some u) : ∀ j u, xs[j]? = some u → Y.cell? ((⟨h, 0, none⟩ : Addr).add j) = some u := by
  intro j u hu
  have hadd : (⟨h, 0, none⟩ : Addr).add j = ⟨h, 0 + j, none⟩ := by unfold Addr.add; split <;> simp_all
  have := NW j u hu
  rw [hadd] at this ⊢
  exact (World.cell?_of_block (w := X) (w' := Y) (a := ⟨h, 0 + j, none⟩) hf).trans this
/-- Without one. -/
theorem less_sub (ks : List Kv) (k : Nat) : (sbs (ks.take k ++ ks.drop (k + 1))).Sublist (sbs ks) := by
  apply List.Sublist.map
  have h : (ks.take k ++ ks.drop (k + 1)).Sublist (ks.take k ++ ks.drop k) := List.Sublist.append_left (by
    rw [← List.drop_drop]
    exact List.drop_sublist _ _) _
  rwa [List.take_append_drop] at h

end Go.Proofs.YtldnpfkgehgfpaaDoor
