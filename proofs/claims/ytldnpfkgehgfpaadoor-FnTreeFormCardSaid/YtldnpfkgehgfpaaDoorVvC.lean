
/-
  Contracts of the functions that make lists of counts: toIntS, vvJoin, l1Join.
-/
import Derived.Test.YtldnpfkgehgfpaaDoorVvB
import Derived.OwnWalk
import Derived.Maps.AppendAt
import Derived.Deep.DeepMust
import Derived.Deep.AppendLies
import Derived.Deep.RegionHeld3
namespace Go.Proofs.YtldnpfkgehgfpaaDoor
open Go.RowKit

theorem infoInt : (Tryd.prog.info? 3).map (fun i => (i.zero, i.size, i.bytes)) = some (some (.int .i64 0), 1, 8) := by kernel_rfl

/-- The first k of xs, then zeros, n in all. -/
def fillTo (xs : List Int) (n k : Nat) : List Int := xs.take k ++ List.replicate (n - k) 0
theorem fillTo_zero (xs : List Int) (n : Nat) : fillTo xs n 0 = List.replicate n 0 := by simp [fillTo]
theorem fillTo_all {xs : List Int} {n : Nat} (h : xs.length = n) : fillTo xs n n = xs := by simp [fillTo, List.take_of_length_le, h]
theorem fillTo_set {xs : List Int} {n k : Nat} (h : xs.length = n) (hk : k < n) {x : Int} (hx : xs.getD k 0 = x) :
    ((fillTo xs n k).map (Value.int .i64)).set k (.int .i64 x) = (fillTo xs n (k + 1)).map (Value.int .i64) := by
  rw [← List.map_set]
  congr 1
  have hkl : k < xs.length := by omega
  have hx' : xs[k] = x := by rw [← hx, List.getD_eq_getElem?_getD, List.getElem?_eq_getElem hkl]; rfl
  have hr : List.replicate (n - k) (0 : Int) = 0 :: List.replicate (n - (k + 1)) 0 := by
    rw [show n - k = (n - (k + 1)) + 1 from by omega]; rfl
  have hl : (xs.take k).length = k := by simp; omega
  unfold fillTo
  rw [hr, List.set_append_right _ _ (by omega), hl, Nat.sub_self, List.set_cons_zero, List.take_succ_eq_append_getElem hkl, hx']
  simp
theorem len_fillTo {xs : List Int} {n k : Nat} (h : xs.length = n) (hk : k ≤ n) : (fillTo xs n k).length = n := by simp [fillTo]; omega
theorem fillTo_at {xs : List Int} {n k : Nat} (h : xs.length = n) (hk : k ≤ n) {j : Nat} (hj : j < n) : ∃ u, ((fillTo xs n k).map (Value.int .i64))[j]? = some u := by
  have := len_fillTo h hk
  exact ⟨_, List.getElem?_eq_getElem (by simp; omega)⟩

theorem take_snoc_map {zs : List Int} {k : Nat} (hk : k < zs.length) {x : Int} (hx : zs.getD k 0 = x) : (zs.take k).map (Value.int .i64) ++ [.int .i64 x] = (zs.take (k + 1)).map (Value.int .i64) := by
  have hx' : zs[k] = x := by rw [← hx, List.getD_eq_getElem?_getD, List.getElem?_eq_getElem hk]; rfl
  rw [List.take_succ_eq_append_getElem hk, hx', List.map_append]
  rfl

end Go.Proofs.YtldnpfkgehgfpaaDoor
