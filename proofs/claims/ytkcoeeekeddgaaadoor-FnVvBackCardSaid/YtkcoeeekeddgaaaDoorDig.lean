
/-
  The decimals of numbers, as texts.
-/
import Derived.Test.YtkcoeeekeddgaaaDoorSibMem
import Derived.Lib.ItoaNum
import Derived.Laws.IdiomStrings
namespace Go.Proofs.YtkcoeeekeddgaaaDoor
open Go.RowKit Go.PlainAid

/-- The decimals of a small number. -/
def dg (i : Nat) : ByteArray := ⟨(Lib.decDigits i).toArray⟩

theorem conv1 (b : UInt8) (x : Int) (hx : x = (b.toNat : Int)) (w : World) :
    (convert 35 9 (.slice (some ⟨w.heap.size, 0, none⟩) 1 1)).run Tryd.prog (w.alloc (.cells #[.int .u8 x] 5)) = .ok (.string ⟨#[b]⟩) (w.alloc (.cells #[.int .u8 x] 5)) := by
  subst hx
  exact run_convert_bytes_back (P := Tryd.prog) _ 35 9 5 ⟨w.heap.size, 0, none⟩ 1 [b] Tryd.underlying35 Tryd.underlying5 Tryd.underlying9 (fun j hj => by
    obtain rfl : j = 0 := by simpa using hj
    have hh := heap_alloc_new w (.cells #[.int .u8 (b.toNat : Int)] 5)
    generalize w.alloc (.cells #[.int .u8 (b.toNat : Int)] 5) = W at hh ⊢
    simp [World.cell?, hh, Addr.add])
theorem dg1 {i : Nat} (hi : i < 10) : dg i = ⟨#[UInt8.ofNat (48 + i)]⟩ := by
  unfold dg Lib.decDigits
  rw [dif_pos hi]
theorem byte48 {i : Nat} (hi : i < 10) : (48 + (i : Int)) = ((UInt8.ofNat (48 + i)).toNat : Int) := by
  rw [UInt8.toNat_ofNat']
  omega

theorem dg2 {i : Nat} (h1 : 10 ≤ i) : dg i = dg (i / 10) ++ ⟨#[UInt8.ofNat (48 + i % 10)]⟩ := by
  unfold dg
  rw [Lib.decDigits, dif_neg (by omega)]
  apply ByteArray.ext
  simp
theorem dg_size {i : Nat} (hi : i < 100) : (dg i).size ≤ 2 := by
  by_cases h : i < 10
  · rw [dg1 h]; exact (by omega : 1 ≤ 2)
  · rw [dg2 (by omega), dg1 (show i / 10 < 10 by omega), ByteArray.size_append]; exact Nat.le_refl 2

theorem dg_len : ∀ (n i : Nat), i < 10 ^ (n + 1) → (dg i).size ≤ n + 1
  | 0, i, h => by rw [dg1 (by simpa using h)]; exact Nat.le_refl 1
  | n + 1, i, h => by
    by_cases h1 : i < 10
    · rw [dg1 h1]; exact Nat.le_add_left 1 (n + 1)
    · have := dg_len n (i / 10) (by rw [Nat.pow_succ] at h; omega)
      rw [dg2 (by omega), ByteArray.size_append]
      show _ + 1 ≤ _
      omega
theorem ba_assoc (a b c : ByteArray) : a ++ b ++ c = a ++ (b ++ c) := by
  apply ByteArray.ext
  simp [Array.append_assoc]

end Go.Proofs.YtkcoeeekeddgaaaDoor
