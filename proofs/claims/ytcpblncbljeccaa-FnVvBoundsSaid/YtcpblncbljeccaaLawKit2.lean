/-
  More plain facts that the laws on counts want: what is in what, the next counts.
-/
import Derived.Test.YtcpblncbljeccaaLawKit
namespace Go.Proofs.Ytcpblncbljeccaa
open Go.RowKit

theorem in3 (a b c x y z : Int) : vvIn [a, b, c] [x, y, z] = (decide (a ≤ x) && (decide (b ≤ y) && decide (c ≤ z))) := by simp [vvIn]
theorem inOk_yes {x y : List Int} (hx : vvOk x = true) (hy : vvOk y = true) : vvInOk x y = vvIn x y := by simp [vvInOk, hx, hy]
theorem in_join_l {x y : List Int} (hx : vvOk x = true) (hy : vvOk y = true) : vvInOk x (vvJoinOk x y) = true := by
  rw [joinOk_yes hx hy, inOk_yes hx (vvOk_join hx hy)]
  obtain ⟨a, b, c, rfl, _⟩ := vvOk_form hx
  obtain ⟨a', b', c', rfl, _⟩ := vvOk_form hy
  rw [vvJoin3, in3]
  simp; omega
theorem in_join_r {x y : List Int} (hx : vvOk x = true) (hy : vvOk y = true) : vvInOk y (vvJoinOk x y) = true := by
  rw [joinOk_yes hx hy, inOk_yes hy (vvOk_join hx hy)]
  obtain ⟨a, b, c, rfl, _⟩ := vvOk_form hx
  obtain ⟨a', b', c', rfl, _⟩ := vvOk_form hy
  rw [vvJoin3, in3]
  simp; omega
theorem join_in {x y z : List Int} (hx : vvOk x = true) (hy : vvOk y = true) (hz : vvOk z = true) : vvInOk (vvJoinOk x y) z = (vvInOk x z && vvInOk y z) := by
  rw [joinOk_yes hx hy, inOk_yes (vvOk_join hx hy) hz, inOk_yes hx hz, inOk_yes hy hz]
  obtain ⟨a, b, c, rfl, _⟩ := vvOk_form hx
  obtain ⟨a', b', c', rfl, _⟩ := vvOk_form hy
  obtain ⟨a'', b'', c'', rfl, _⟩ := vvOk_form hz
  rw [vvJoin3, in3, in3, in3, Bool.eq_iff_iff]
  simp; omega
theorem joinOk_comm {x y : List Int} (hx : vvOk x = true) (hy : vvOk y = true) : vvJoinOk y x = vvJoinOk x y := by
  rw [joinOk_yes hx hy, joinOk_yes hy hx, vvJoin_comm hx hy]
theorem joinOk_self {x : List Int} (hx : vvOk x = true) : vvJoinOk x x = x := by rw [joinOk_yes hx hx, vvJoin_self hx]

theorem next_form {x : List Int} {s : Int} (h : nextOk x s = true) : ∃ (k : Nat), s = (k : Int) + 1 ∧ k < 3 ∧ vvOk x = true ∧ x.getD k 0 < 30 ∧ vvNext x s = x.set k (x.getD k 0 + 1) := by
  have h' := h
  simp only [nextOk, Bool.and_eq_true, decide_eq_true_eq] at h'
  obtain ⟨⟨h1, h2, h3⟩, h4⟩ := h'
  refine ⟨(s - 1).toNat, by omega, by omega, h1, h4, by simp [vvNext, h]⟩
theorem vvOk_next {x : List Int} {s : Int} (h : nextOk x s = true) : vvOk (vvNext x s) = true := by
  obtain ⟨k, rfl, hk, hx, hl, e⟩ := next_form h
  rw [e]
  obtain ⟨a, b, c, rfl, _⟩ := vvOk_form hx
  match k, hk with
  | 0, _ => simp at hl; simp; exact vvOk_mk (by omega)
  | 1, _ => simp at hl; simp; exact vvOk_mk (by omega)
  | 2, _ => simp at hl; simp; exact vvOk_mk (by omega)
theorem vvNext_len {x : List Int} {s : Int} : (vvNext x s).length ≤ 3 := by
  by_cases h : nextOk x s = true
  · rw [vvOk_len (vvOk_next h)]; exact Nat.le_refl _
  · simp [vvNext, h]
theorem next_in {x : List Int} {s : Int} (h : nextOk x s = true) : vvInOk x (vvNext x s) = true ∧ vvInOk (vvNext x s) x = false := by
  have hn := vvOk_next h
  obtain ⟨k, rfl, hk, hx, hl, e⟩ := next_form h
  rw [inOk_yes hx hn, inOk_yes hn hx, e]
  obtain ⟨a, b, c, rfl, _⟩ := vvOk_form hx
  match k, hk with
  | 0, _ => simp [in3]; omega
  | 1, _ => simp [in3]; omega
  | 2, _ => simp [in3]; omega
theorem next_at {x : List Int} {s : Int} (h : nextOk x s = true) (j : Nat) (hj : j < 3) : (vvNext x s).getD j 0 = if (j : Int) = s - 1 then x.getD j 0 + 1 else x.getD j 0 := by
  obtain ⟨k, rfl, hk, hx, hl, e⟩ := next_form h
  rw [e]
  obtain ⟨a, b, c, rfl, _⟩ := vvOk_form hx
  match k, hk, j, hj with
  | 0, _, 0, _ => simp
  | 0, _, 1, _ => simp
  | 0, _, 2, _ => simp
  | 1, _, 0, _ => simp
  | 1, _, 1, _ => simp
  | 1, _, 2, _ => simp
  | 2, _, 0, _ => simp
  | 2, _, 1, _ => simp
  | 2, _, 2, _ => simp

theorem apart {x : List Int} {s o : Int} (hs : nextOk x s = true) (ho : nextOk x o = true) (hne : o ≠ s) :
    nextOk (vvNext x s) o = true ∧ vvInOk (vvNext x s) (vvNext x o) = false ∧ vvInOk (vvNext x o) (vvNext x s) = false ∧ vvJoinOk (vvNext x s) (vvNext x o) = vvNext (vvNext x s) o := by
  have h1 := vvOk_next hs
  have h2 := vvOk_next ho
  obtain ⟨k, rfl, hk, hx, hl, e⟩ := next_form hs
  obtain ⟨m, rfl, hm, _, hl', e'⟩ := next_form ho
  have h3 : nextOk (vvNext x ((k : Int) + 1)) ((m : Int) + 1) = true := by
    rw [nextOk_iff _ m hm h1, e]
    have : (x.set k (x.getD k 0 + 1)).getD m 0 = x.getD m 0 := by
      rw [List.getD_eq_getElem?_getD, List.getElem?_set_ne (by omega), ← List.getD_eq_getElem?_getD]
    rw [this]; simpa using hl'
  refine ⟨h3, ?_⟩
  obtain ⟨m', hm', _, _, _, e''⟩ := next_form h3
  obtain rfl : m' = m := by omega
  rw [inOk_yes h1 h2, inOk_yes h2 h1, joinOk_yes h1 h2, e'', e, e']
  obtain ⟨a, b, c, rfl, _⟩ := vvOk_form hx
  match k, hk, m', hm with
  | 0, _, 0, _ => omega
  | 1, _, 1, _ => omega
  | 2, _, 2, _ => omega
  | 0, _, 1, _ => simp [in3, vvJoin3]; omega
  | 0, _, 2, _ => simp [in3, vvJoin3]; omega
  | 1, _, 0, _ => simp [in3, vvJoin3]; omega
  | 1, _, 2, _ => simp [in3, vvJoin3]; omega
  | 2, _, 0, _ => simp [in3, vvJoin3]; omega
  | 2, _, 1, _ => simp [in3, vvJoin3]; omega

theorem in_both {x y : List Int} (hx : vvOk x = true) (hy : vvOk y = true) (h : vvInOk x y = true) : vvInOk y x = decide (x = y) := by
  rw [inOk_yes hx hy] at h
  rw [inOk_yes hy hx]
  obtain ⟨a, b, c, rfl, _⟩ := vvOk_form hx
  obtain ⟨a', b', c', rfl, _⟩ := vvOk_form hy
  rw [in3] at h ⊢
  simp at h
  rw [Bool.eq_iff_iff]
  simp; omega
theorem in_self {x : List Int} (hx : vvOk x = true) : vvInOk x x = true := by
  rw [inOk_yes hx hx]
  obtain ⟨a, b, c, rfl, _⟩ := vvOk_form hx
  simp [in3]
theorem in_ne {x y : List Int} (hx : vvOk x = true) (h : vvInOk x y = false) : decide (x = y) = false := by
  rw [decide_eq_false_iff_not]
  rintro rfl
  rw [in_self hx] at h; cases h

/-- The law of append at an operation that is guarded, its guard saying yes. -/
theorem append_guarded {P : Program} {ops : Array Oper} {rest : List Oper} {o : Oper} {a : Act} {Q : Exit → Act → World → Prop} (w : World) (hw : Region.wanted o (yielded ops a.tmps) = true) (s x : Operand) (t : TypeId)
    (ho : o.op = .call { callee := .builtin .append, args := #[s, x], argTypes := #[t, t] })
    (base : Nat) (e : TypeId) (i : TypeInfo) (z : Value) (size bytes : Nat) (ht : P.underlying t = some (.slice e)) (hi : P.info? e = some i) (hz : i.zero = some z)
    (hsize : i.size = size) (hby : i.bytes = bytes) (hzs : z.cells.size = size) (hsz : 0 < size)
    (v : Value) (n : Nat) (xs : List Value) (hs : a.eval s = v) (hown : w.ownsRow base e size v n xs)
    (ad : Addr) (m c : Nat) (news : List Value) (hx : a.eval x = .slice (some ad) m c) (hl : news.length = m * size) (hnews : ∀ j u, news[j]? = some u → w.cell? (ad.add j) = some u) (h1 : ∀ u ∈ news, u.oneCell' = true)
    (hm : 0 < m) (h63 : n + m ≤ maxLen) (hbytes : (n + m) * bytes ≤ 140737488355328) (hbase : base ≤ w.heap.size) (H : Nat) (hH : w.heap.size = H)
    (h : ∀ g cap w', w'.ownsRow base e size (.slice (some ⟨g, 0, none⟩) (n + m) cap) (n + m) (xs ++ news) → w.grownBy w' v.ownBlock → (v.ownBlock = some g ∨ g = H) → g < w'.heap.size → wpList P ops Q rest (a.put o.dst (.slice (some ⟨g, 0, none⟩) (n + m) cap)) w') : wpList P ops Q (o :: rest) a w :=
  BigFrame.wpList_want hw fun _ hK => wp_append_lies w s x t ho base e i z size bytes ht hi hz hsize hby hzs hsz v n xs hs hown ad m c news hx hl hnews h1 hm h63 hbytes hbase H hH fun g cap w' h2 h3 h4 h5 => hK _ _ (h g cap w' h2 h3 h4 h5)

theorem ints_tail {w : World} {lo hi b off : Nat} {xs : List Int} (h : Ints w lo hi (some ⟨b, off, none⟩) 3 xs) : Ints w lo hi (some ⟨b, off + 1, none⟩) 2 (xs.drop 1) := by
  have hl := h.len
  obtain ⟨b', off', e, h1, h2, hc⟩ := h.2 (by omega)
  simp only [Option.some.injEq, Addr.mk.injEq, and_true] at e
  obtain ⟨rfl, rfl⟩ := e
  refine ⟨by simp [hl], fun _ => ⟨b, off + 1, rfl, h1, h2, fun j u hu => ?_⟩⟩
  have := hc (1 + j) u (by rw [← hu, List.map_drop, List.getElem?_drop])
  rw [show off + 1 + j = off + (1 + j) from by omega]
  exact this

end Go.Proofs.Ytcpblncbljeccaa
