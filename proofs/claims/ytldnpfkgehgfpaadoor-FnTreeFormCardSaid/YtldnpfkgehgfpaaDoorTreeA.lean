
/-
  Appending files behind a row that the call has made.
-/
import Derived.Test.YtldnpfkgehgfpaaDoorTreeM
import Derived.Test.YtldnpfkgehgfpaaDoorVvC
import Derived.Deep.AppendLies
namespace Go.Proofs.YtldnpfkgehgfpaaDoor
open Go.RowKit Go.PlainAid

theorem infoFile : (Tryd.prog.info? 29).map (fun i => (i.zero, i.size, i.bytes)) = some (some (.agg #[.string ⟨#[]⟩, .slice none 0 0]), 2, 40) := by kernel_rfl
theorem one_flatF (fs : List Kf) : ∀ u ∈ flatF fs, u.oneCell' = true := by
  intro u hu
  obtain ⟨k, _, hk⟩ := List.mem_flatMap.1 hu
  simp [Kf.enc] at hk
  rcases hk with rfl | rfl <;> rfl
/-- At an operation of a drawn region. -/
theorem appF_row {o : Oper} {a : Act} {K : Act → World → Prop} {Q : Exit → Act → World → Prop} (d : Nat) (hd : o.dst = some d) (s x : Operand)
    (ho : o.op = .call { callee := .builtin .append, args := #[s, x], argTypes := #[23, 23] }) (w : World) (base : Nat) (hbase : base ≤ w.heap.size) (v : Value) (n : Nat) (fs : List Kf) (hs : a.eval s = v)
    (hown : w.ownsRow base 29 2 v n (flatF fs)) (hn : n ≤ 100000) (ad : Addr) (m c : Nat) (js : List Kf) (hx : a.eval x = .slice (some ad) m c) (hm : m ≤ 100000) (hl : js.length = m)
    (hnews : ∀ j u, (flatF js)[j]? = some u → w.cell? (ad.add j) = some u)
    (h : ∀ v' w', w'.ownsRow base 29 2 v' (n + m) (flatF (fs ++ js)) → Below base w w' → w.heap.size ≤ w'.heap.size → (∀ q, q < w.heap.size → v.ownBlock ≠ some q → w'.heap[q]? = w.heap[q]?) → K (a.put (some d) v') w') : o.wp Tryd.prog a w K Q := by
  rw [← hd] at h
  obtain ⟨i0, hi0, hz0, hz1, hz2⟩ := info_parts infoFile
  refine wp_append_own w s x 23 ho base 29 i0 _ 2 40 Tryd.underlying23 hi0 hz0 hz1 hz2 rfl (by omega) v n (flatF fs) hs hown ad m c (flatF js) hx (by rw [flatF_len, hl]) hnews (one_flatF js) (by unfold maxLen; omega) (by omega) hbase (fun v' w' hown1 hg1 _ => ?_)
  refine h v' w' ?_ ((Below.refl base w).grown hg1 hbase (fun g hg => (hown.lt g hg).1)) hg1.size (fun q hq hne => hg1.block q hq (fun e => hne e.symm))
  rw [flatF_append]
  exact hown1
/-- One more file, made on the spot. -/
theorem app_file {ops : Array Oper} {rest : List Oper} {o : Oper} {a : Act} {Q : Exit → Act → World → Prop} (W : World) (hgd : o.guard = none) (s x : Operand)
    (ho : o.op = .call { callee := .builtin .append, args := #[s, x], argTypes := #[23, 23] }) (w0 : World) (base : Nat) (hbase : base ≤ w0.heap.size) (v : Value) (n : Nat) (fs : List Kf) (hs : a.eval s = v)
    (hown : w0.ownsRow base 29 2 v n (flatF fs)) (hn : n ≤ 1000000) (f : Kf) (H : Nat) (hH : w0.heap.size = H) (hx : a.eval x = .slice (some ⟨H, 0, none⟩) 1 1)
    (hW : W = w0.alloc (.cells #[.string f.name, .slice f.A f.n f.c] 29))
    (h : ∀ g cap w', w'.ownsRow base 29 2 (.slice (some ⟨g, 0, none⟩) (n + 1) cap) (n + 1) (flatF (fs ++ [f])) → Below base w0 w' → w0.heap.size ≤ w'.heap.size → (v.ownBlock = some g ∨ w0.heap.size < g) → (∀ q, q < w0.heap.size → v.ownBlock ≠ some q → w'.heap[q]? = w0.heap[q]?) →
      wpList Tryd.prog ops Q rest (a.put o.dst (.slice (some ⟨g, 0, none⟩) (n + 1) cap)) w') :
    wpList Tryd.prog ops Q (o :: rest) a W := by
  subst hW
  obtain ⟨i0, hi0, hz0, hz1, hz2⟩ := info_parts infoFile
  subst hH
  refine wpList_append_lies _ hgd s x 23 ho base 29 i0 _ 2 40 Tryd.underlying23 hi0 hz0 hz1 hz2 rfl (by omega) v n (flatF fs) hs (hown.alloc _) ⟨w0.heap.size, 0, none⟩ 1 1 [.string f.name, .slice f.A f.n f.c] hx rfl (cell_two_new _ _ _ _) ?_ (by omega) (by unfold maxLen; omega) (by omega) (by simp; omega) (w0.heap.size + 1) (by simp) (fun g cap w' hown1 hg1 hat hlt => ?_)
  · intro u hu
    simp at hu
    rcases hu with rfl | rfl <;> rfl
  · refine h g cap w' ?_ (((Below.refl base w0).alloc hbase _).grown hg1 (by simp; omega) (fun g hg => (hown.lt g hg).1)) (by have := hg1.size; simp at this; omega) (hat.imp id fun e => by omega) (fun q hq hne => ?_)
    · rw [flatF_append, flatF_one]
      exact hown1
    · rw [hg1.block q (by simp; omega) (fun e => hne e.symm)]
      exact Below.heap_alloc w0 _ q hq

/-- The cells of a slice of files, at its own address. -/
theorem Files.news {w : World} {lo hi n : Nat} {ad : Addr} {fs : List Kf} (h : Files w lo hi (some ad) n fs) : ∀ j u, (flatF fs)[j]? = some u → w.cell? (ad.add j) = some u := by
  intro j u hu
  have hl := h.len
  have hn : 0 < n := by
    rcases Nat.eq_zero_or_pos n with h0 | h0
    · have : fs = [] := List.eq_nil_of_length_eq_zero (by omega)
      subst this
      simp [flatF] at hu
    · exact h0
  obtain ⟨b, off, e, _, hbl, hc⟩ := h.1.2 (by omega)
  injection e with e
  subst e
  have hadd : (⟨b, off, none⟩ : Addr).add j = ⟨b, off + j, none⟩ := by unfold Addr.add; split <;> simp_all
  rw [hadd]
  exact hc j u hu
/-- What stands behind k files. -/
theorem Files.post {w : World} {lo hi n b off : Nat} {fs : List Kf} (h : Files w lo hi (some ⟨b, off, none⟩) n fs) {k : Nat} (hk : k ≤ n) : Files w lo hi (some ⟨b, off + k * 2, none⟩) (n - k) (fs.drop k) := by
  have hl := h.len
  refine ⟨⟨by rw [flatF_len, List.length_drop, hl], fun hn => ?_⟩, fun x hx => h.2 x (List.mem_of_mem_drop hx)⟩
  obtain ⟨b', off', e, h1, h2, hc⟩ := h.1.2 (by omega)
  simp only [Option.some.injEq, Addr.mk.injEq, and_true] at e
  obtain ⟨rfl, rfl⟩ := e
  refine ⟨b, off + k * 2, rfl, h1, h2, fun j u hu => ?_⟩
  have := hc (k * 2 + j) u (by
    rw [← flatF_drop, List.getElem?_drop] at hu
    exact hu)
  rw [Nat.add_assoc]
  exact this
theorem Files.postAt {w : World} {lo hi n b c : Nat} {fs : List Kf} (h : Files w lo hi (some ⟨b, 0, none⟩) n fs) {k : Nat} (hk : k ≤ n) (hc : n ≤ c) {ad : Addr} (had : (if c = k then some (⟨b, 0, none⟩ : Addr) else some ⟨b, k * 2, none⟩) = some ad) :
    ∀ j u, (flatF (fs.drop k))[j]? = some u → w.cell? (ad.add j) = some u := by
  by_cases e : c = k
  · intro j u hu
    have hl := h.len
    have : fs.drop k = [] := List.drop_eq_nil_of_le (by omega)
    rw [this] at hu
    simp [flatF] at hu
  · rw [if_neg e] at had
    injection had with had
    subst had
    have := h.post hk
    rw [Nat.zero_add] at this
    exact this.news

end Go.Proofs.YtldnpfkgehgfpaaDoor
