
/-
  For the exact law on merging: a merged list is small.
-/
import Derived.Test.YtlmjgbonoihccaaDoorMergeK
import Derived.Test.YtlmjgbonoihccaaDoorSibsIH
import Derived.Test.YtlmjgbonoihccaaDoorExKit
namespace Go.Proofs.YtlmjgbonoihccaaDoor
open Go.RowKit Go.PlainAid

theorem totS_three : ∀ {ss : List Sb}, (∀ x ∈ ss, vvOk x.vv = true) → totS ss = 3 * ss.length
  | [], _ => rfl
  | s :: r, h => by
    have h1 := vvOk_len (h s (by simp))
    have h2 := totS_three (ss := r) (fun x hx => h x (by simp [hx]))
    show s.vv.length + totS r = 3 * (r.length + 1)
    omega
theorem totS_merge (a b : List Sb) : totS (mergeV a b) ≤ 1048576 := by
  rcases h : mergeOk a b with _ | _
  · rw [mergeV_no h]; exact Nat.zero_le _
  · have h1 := mergeV_len a b
    rw [mergeV_yes h] at h1 ⊢
    rw [totS_three (allOk (mergeOk_iff.1 h).2.2)]
    omega
theorem posTo_le {ss : List Sb} {k j : Nat} (h : totS ss ≤ 1048576) (hj : j ≤ 1048576) : k ≤ posTo ss k j ∧ posTo ss k j ≤ k + 3145728 := by
  have := totS_le (ss := ss) j
  unfold posTo
  omega

end Go.Proofs.YtlmjgbonoihccaaDoor
