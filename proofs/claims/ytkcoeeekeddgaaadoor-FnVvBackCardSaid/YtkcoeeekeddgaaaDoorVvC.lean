
/-
  Contracts of the functions that make lists of counts: toIntS, vvJoin, l1Join.
-/
import Derived.Test.YtkcoeeekeddgaaaDoorVvB
import Derived.OwnWalk
import Derived.Maps.AppendAt
import Derived.Deep.DeepMust
import Derived.Deep.AppendLies
import Derived.Deep.RegionHeld3
namespace Go.Proofs.YtkcoeeekeddgaaaDoor
open Go.RowKit

theorem infoInt : (Tryd.prog.info? 3).map (fun i => (i.zero, i.size, i.bytes)) = some (some (.int .i64 0), 1, 8) := by kernel_rfl

/-- The first k of xs, then zeros, n in all. -/
def fillTo (xs : List Int) (n k : Nat) : List Int := xs.take k ++ List.replicate (n - k) 0
theorem fillTo_zero (xs : List Int) (n : Nat) : fillTo xs n 0 = List.replicate n 0 := by simp [fillTo]
theorem fillTo_all {xs : List Int} {n : Nat} (h : xs.length = n) : fillTo xs n n = xs := by simp [fillTo, List.take_of_length_le, h]
theorem fillTo_set {xs : List Int} {n k : Nat} (h : xs.length = n) (hk : k < n) {x : Int} (hx : xs.getD k 0 = x) :
    ((fillTo xs n k).map (Value.int .i64)).set k (.int .i64 x) = (fillTo xs n (k + 1)).map (Value.int .i64) := by
  rw [← List.map_set]
  congr 1
  have hkl : k < xs.length := by omega
  have hx' : xs[k] = x := by rw [← hx, List.getD_eq_getElem?_getD, List.getElem?_eq_getElem hkl]; rfl
  have hr : List.replicate (n - k) (0 : Int) = 0 :: List.replicate (n - (k + 1)) 0 := by
    rw [show n - k = (n - (k + 1)) + 1 from by omega]; rfl
  have hl : (xs.take k).length = k := by simp; omega
  unfold fillTo
  rw [hr, List.set_append_right _ _ (by omega), hl, Nat.sub_self, List.set_cons_zero, List.take_succ_eq_append_getElem hkl, hx']
  simp
theorem len_fillTo {xs : List Int} {n k : Nat} (h : xs.length = n) (hk : k ≤ n) : (fillTo xs n k).length = n := by simp [fillTo]; omega
theorem fillTo_at {xs : List Int} {n k : Nat} (h : xs.length = n) (hk : k ≤ n) {j : Nat} (hj : j < n) : ∃ u, ((fillTo xs n k).map (Value.int .i64))[j]? = some u := by
  have := len_fillTo h hk
  exact ⟨_, List.getElem?_eq_getElem (by simp; omega)⟩

set_option maxRecDepth 100000 in
theorem toIntS_any (A : Option Addr) (n c : Nat) (xs : List Int) (w : World) (lo hi : Nat) (h1 : Ints w lo hi A n xs) (hhi : hi ≤ w.heap.size) (hn : n ≤ 1048576) :
    Calls Tryd.prog 15 #[.slice A n c] w fun e w' => ∃ g, e = .returned (.slice (some ⟨g, 0, none⟩) n n) ∧ Below w.heap.size w w' ∧ w'.ownsRow w.heap.size 3 1 (.slice (some ⟨g, 0, none⟩) n n) n (xs.map (Value.int .i64)) := by
  obtain ⟨i0, hi0, hz0, hz1, hz2⟩ := info_parts infoInt
  have L1 := Lib.hid h1.len
  have H1 := Lib.hid h1
  have G2 := Lib.hid hz2
  clear h1 hz2
  go_enter Tryd.func15, Tryd.ntmps15
  go_wp2_with (at_make; refine wpList_make_full _ rfl _ _ 22 rfl w.heap.size 3 i0 (.int .i64 0) 1 Tryd.underlying22 hi0 hz0 hz1 .i64 .i64 _ _ n rfl rfl rfl rfl (by rw [G2.out]; omega) (by unfold maxLen; omega) (by simp) ?_; intro w1 hown1 hg1)
  have hb1 : Below w.heap.size w w1 := (Below.refl _ _).grown hg1 (Nat.le_refl _) (by simp)
  have hown : w1.ownsRow w.heap.size 3 1 (.slice (some ⟨w.heap.size, 0, none⟩) n n) n ((fillTo xs n 0).map (Value.int .i64)) := by
    rw [fillTo_zero, List.map_replicate]
    have e : (madeCells (Value.cells (.int .i64 0)) (n * 1)).toList = List.replicate n (Value.int .i64 0) := by rw [Nat.mul_one]; exact toList_madeCells_one _ _
    rw [← e]; exact hown1
  clear hown1 hg1
  go_loopw [4] (fun i wr => ∃ k : Nat, k ≤ n ∧ i = .int .i64 k ∧ Hid (Below w.heap.size w wr) ∧ Hid (wr.ownsRow w.heap.size 3 1 (.slice (some ⟨w.heap.size, 0, none⟩) n n) n ((fillTo xs n k).map (Value.int .i64)))) (fun i _ => n - (intOf i).toNat)
  case atStart => exact ⟨0, Nat.zero_le _, rfl, hb1, hown⟩
  case round =>
    obtain ⟨k, hk, rfl, HB, HO⟩ := hrel
    clear hb1 hown
    by_cases hlt : k < n
    · obtain ⟨b, off, x, rfl, _, hbh, hc, hx⟩ := H1.out.at_ hlt
      have hc' : wr.cell? ⟨b, off + k, none⟩ = some (.int .i64 x) := (HB.out.cell (p := ⟨b, off + k, none⟩) (by show b < _; omega)).trans hc
      obtain ⟨u, hu⟩ := fillTo_at L1.out hk hlt
      have hs : wr.cell? ⟨w.heap.size, k, none⟩ = some u := (HO.out.cellAt k (by omega)).trans hu
      have hf : wr.frozen? ⟨w.heap.size, k, none⟩ = false := HO.out.frozenAt k
      have HU := Lib.hid hu
      clear hu hc
      go_wp2
      go_roundw
      case rel =>
        refine ⟨k + 1, by omega, by go_num, HB.out.setCell (p := ⟨w.heap.size, k, none⟩) (Nat.le_refl _) _, ?_⟩
        rw [← fillTo_set L1.out hlt hx.out]
        exact (HO.out.stored k _).1
      case measure => simp [intOf]; omega
    · go_wp2
      go_ret
      obtain rfl : k = n := by omega
      refine ⟨w.heap.size, rfl, HB.out, ?_⟩
      have := HO.out
      rw [fillTo_all L1.out] at this
      exact this

theorem take_snoc_map {zs : List Int} {k : Nat} (hk : k < zs.length) {x : Int} (hx : zs.getD k 0 = x) : (zs.take k).map (Value.int .i64) ++ [.int .i64 x] = (zs.take (k + 1)).map (Value.int .i64) := by
  have hx' : zs[k] = x := by rw [← hx, List.getD_eq_getElem?_getD, List.getElem?_eq_getElem hk]; rfl
  rw [List.take_succ_eq_append_getElem hk, hx', List.map_append]
  rfl

end Go.Proofs.YtkcoeeekeddgaaaDoor
