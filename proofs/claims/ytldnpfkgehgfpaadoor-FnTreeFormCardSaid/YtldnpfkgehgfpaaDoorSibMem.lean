
/-
  A version of a file in memory: a variable of three cells (a slice of counts, a mark, a text).
-/
import Derived.Test.YtldnpfkgehgfpaaDoorHas
import Derived.Test.YtldnpfkgehgfpaaDoorPlainSib
import Derived.PlainAid
import Derived.Laws.Cover1
import Derived.Lib.SlTrimSet
namespace Go.Proofs.YtldnpfkgehgfpaaDoor
open Go.RowKit Go.PlainAid

/-- Block g is a variable of three cells. -/
def Var3 (T : TypeId) (w : World) (g : Nat) (v0 v1 v2 : Value) : Prop := w.heap[g]? = some (.cells #[v0, v1, v2] T (0, 0))
section
variable {T : TypeId} {w w' : World} {g : Nat} {v0 v1 v2 : Value}
theorem Var3.lt (h : Var3 T w g v0 v1 v2) : g < w.heap.size := (Array.getElem?_eq_some_iff.1 h).1
theorem Var3.c0 (h : Var3 T w g v0 v1 v2) : w.cell? ⟨g, 0, none⟩ = some v0 := by have h' : w.heap[g]? = _ := h; simp [World.cell?, h']
theorem Var3.c1 (h : Var3 T w g v0 v1 v2) : w.cell? ⟨g, 1, none⟩ = some v1 := by have h' : w.heap[g]? = _ := h; simp [World.cell?, h']
theorem Var3.c2 (h : Var3 T w g v0 v1 v2) : w.cell? ⟨g, 2, none⟩ = some v2 := by have h' : w.heap[g]? = _ := h; simp [World.cell?, h']
theorem Var3.f (h : Var3 T w g v0 v1 v2) (k : Nat) : w.frozen? ⟨g, k, none⟩ = false := by have h' : w.heap[g]? = _ := h; simp [World.frozen?, h']
theorem Var3.new (T : TypeId) (w : World) (v0 v1 v2 : Value) : Var3 T (w.alloc (.cells #[v0, v1, v2] T)) w.heap.size v0 v1 v2 := heap_alloc_new w _
theorem Var3.step (h : Var3 T w g v0 v1 v2) (hb : Below w.heap.size w w') : Var3 T w' g v0 v1 v2 := (hb.block g h.lt).trans h
theorem Var3.below {B : Nat} (h : Var3 T w g v0 v1 v2) (hb : Below B w w') (hg : g < B) : Var3 T w' g v0 v1 v2 := (hb.block g hg).trans h
theorem Var3.gro {k : Nat} (h : Var3 T w g v0 v1 v2) (hb : Gro k w w') (hg : g ≠ k) : Var3 T w' g v0 v1 v2 := (hb.block g h.lt hg).trans h
theorem Var3.alloc (h : Var3 T w g v0 v1 v2) (o : Obj) : Var3 T (w.alloc o) g v0 v1 v2 := h.step (bel_alloc w o)
theorem Var3.set0 (h : Var3 T w g v0 v1 v2) (v : Value) : Var3 T (w.setCell ⟨g, 0, none⟩ v) g v v1 v2 := heap_setCell_same w g 0 _ _ v h
theorem Var3.set1 (h : Var3 T w g v0 v1 v2) (v : Value) : Var3 T (w.setCell ⟨g, 1, none⟩ v) g v0 v v2 := heap_setCell_same w g 1 _ _ v h
theorem Var3.set2 (h : Var3 T w g v0 v1 v2) (v : Value) : Var3 T (w.setCell ⟨g, 2, none⟩ v) g v0 v1 v := heap_setCell_same w g 2 _ _ v h
theorem Var3.other (h : Var3 T w g v0 v1 v2) {a : Addr} (ha : a.block ≠ g) (v : Value) : Var3 T (w.setCell a v) g v0 v1 v2 := (Below.heap_setCell w a v g (fun e => ha e.symm)).trans h
end

/-! ## A text -/
theorem isEmpty_size (t : ByteArray) : t.toList.isEmpty = (t.size == 0) := by
  rw [Lib.toList_data]
  rcases t with ⟨⟨l⟩⟩
  cases l with
  | nil => rfl
  | cons a l => simp [ByteArray.size]
theorem bt_list (t : ByteArray) {k : Nat} (h : k < t.size) : bt t k = ((t.data.toList[k]'(by simpa using h)).toNat : Int) := by
  unfold bt; rw [dif_pos h]; rfl
theorem textOk_iff (t : ByteArray) : textOk t = true ↔ t.size ≤ 4 ∧ ∀ k, k < t.size → 97 ≤ bt t k ∧ bt t k ≤ 100 := by
  simp only [textOk, Bool.and_eq_true, decide_eq_true_eq, List.all_eq_true]
  refine and_congr_right fun _ => ⟨fun h k hk => ?_, fun h b hb => ?_⟩
  · have := h _ (List.getElem_mem (l := t.data.toList) (n := k) (by simpa using hk))
    rw [bt_list t hk]
    omega
  · obtain ⟨k, hk, rfl⟩ := List.getElem_of_mem hb
    have hk' : k < t.size := by simpa using hk
    have := h k hk'
    rw [bt_list t hk'] at this
    omega
theorem textOk_bad {t : ByteArray} {k : Nat} (hk : k < t.size) (h : bt t k < 97 ∨ 100 < bt t k) : textOk t = false := by
  rw [Bool.eq_false_iff]
  intro ht
  have := ((textOk_iff t).1 ht).2 k hk
  omega
theorem textOk_all {t : ByteArray} (h : ∀ k, k < t.size → 97 ≤ bt t k ∧ bt t k ≤ 100) : textOk t = decide (t.size ≤ 4) := by
  rw [Bool.eq_iff_iff, textOk_iff, decide_eq_true_eq]
  exact ⟨fun h' => h'.1, fun h' => ⟨h', h⟩⟩

theorem drop_empty (p : UInt8 → Bool) (l : List UInt8) : (l.dropWhile p).isEmpty = l.all p := by
  induction l with
  | nil => rfl
  | cons a l ih => by_cases h : p a = true <;> simp [h, ih]
theorem drop_all (p : UInt8 → Bool) (l : List UInt8) : (l.dropWhile p).all p = l.all p := by
  induction l with
  | nil => rfl
  | cons a l ih => by_cases h : p a = true <;> simp [h, ih]
theorem trimS_empty (l cs : List UInt8) : (Lib.trimS l cs).isEmpty = l.all (cs.contains ·) := by
  unfold Lib.trimS Lib.trimLeftS Lib.trimRightS
  rw [drop_empty, List.all_reverse, drop_all, List.all_reverse]
theorem abcd (b : UInt8) : ([97, 98, 99, 100] : List UInt8).contains b = (decide (97 ≤ b.toNat) && decide (b.toNat ≤ 100)) := by
  rw [Bool.eq_iff_iff]
  simp only [List.contains_iff_mem, List.mem_cons, List.not_mem_nil, or_false, Bool.and_eq_true, decide_eq_true_eq]
  constructor
  · rintro (rfl | rfl | rfl | rfl) <;> decide
  · rintro ⟨h1, h2⟩
    have h : b.toNat = 97 ∨ b.toNat = 98 ∨ b.toNat = 99 ∨ b.toNat = 100 := by omega
    rcases h with h | h | h | h
    · exact .inl (UInt8.toNat_inj.1 (by rw [h]; rfl))
    · exact .inr (.inl (UInt8.toNat_inj.1 (by rw [h]; rfl)))
    · exact .inr (.inr (.inl (UInt8.toNat_inj.1 (by rw [h]; rfl))))
    · exact .inr (.inr (.inr (UInt8.toNat_inj.1 (by rw [h]; rfl))))
theorem textOk_small {t : ByteArray} (h : t.size ≤ 4) : textOk t = (Lib.trimS t.data.toList [97, 98, 99, 100]).isEmpty := by
  rw [trimS_empty]
  simp only [textOk, abcd, h, decide_true, Bool.true_and]

/-! ## The order of texts -/
theorem less_nums : ∀ l m : List UInt8, Op.bytesLess l m = decide (cmpV (l.map fun x => (x.toNat : Int)) (m.map fun x => (x.toNat : Int)) = -1)
  | [], [] => rfl
  | [], _ :: _ => rfl
  | _ :: _, [] => rfl
  | a :: x, b :: y => by
    have ih := less_nums x y
    simp only [Op.bytesLess, List.map_cons, cmpV, ih]
    by_cases h1 : a.toNat < b.toNat
    · have h2 : (a.toNat : Int) < b.toNat := by omega
      have h3 : a < b := UInt8.lt_iff_toNat_lt.2 h1
      simp [h2, h3]
    · have h2 : ¬ (a.toNat : Int) < b.toNat := by omega
      have h3 : ¬ a < b := fun h => h1 (UInt8.lt_iff_toNat_lt.1 h)
      by_cases h4 : b.toNat < a.toNat
      · have h5 : (b.toNat : Int) < a.toNat := by omega
        have h6 : (a == b) = false := by rw [beq_eq_false_iff_ne]; rintro rfl; omega
        simp [h2, h3, h5, h6]
      · have h5 : ¬ (b.toNat : Int) < a.toNat := by omega
        have h6 : a = b := UInt8.toNat_inj.1 (by omega)
        subst h6
        simp
theorem less_cmpT (t u : ByteArray) : Op.bytesLess t.toList u.toList = decide (cmpT t u = -1) := by
  rw [Lib.toList_data, Lib.toList_data, less_nums]; rfl
theorem eq_cmpT (t u : ByteArray) : (t.toList == u.toList) = decide (cmpT t u = 0) := by
  rw [Lib.toList_data, Lib.toList_data, Bool.eq_iff_iff, beq_iff_eq, decide_eq_true_eq]
  constructor
  · intro h
    have : t = u := by cases t; cases u; simp at h; simp [h]
    subst this
    exact cmpT_good.same t
  · intro h
    rw [cmpT_good.eq _ _ h]

end Go.Proofs.YtldnpfkgehgfpaaDoor
