
/-
  Contracts of sibsVv and SibsVv (the program's and the reference's).
-/
import Derived.Test.YtlmjgbonoihccaaDoorSibsC
import Derived.Test.YtlmjgbonoihccaaDoorSibsD
import Derived.Test.YtlmjgbonoihccaaDoorSibsE
namespace Go.Proofs.YtlmjgbonoihccaaDoor
open Go.RowKit Go.PlainAid

/-- What SibsVv says. -/
def vvSibs (ss : List Sb) : List Int := if sibsOk ss then joinAll ss else []
theorem vvSibs_yes {ss : List Sb} (h : sibsOk ss = true) : vvSibs ss = joinAll ss := by simp [vvSibs, h]
theorem vvSibs_no {ss : List Sb} (h : sibsOk ss = false) : vvSibs ss = [] := by simp [vvSibs, h]
theorem allOk {ss : List Sb} (h : sibsOk ss = true) : ∀ x ∈ ss, vvOk x.vv = true := fun x hx => sibOk_vv ((sibsOk_iff.1 h).1 x hx)
theorem vvSibs_le (ss : List Sb) : (vvSibs ss).length ≤ 3 := by
  unfold vvSibs
  split
  · rename_i h; rw [vvOk_len (joinAll_ok (allOk h))]; exact Nat.le_refl _
  · simp
theorem Has.ofOwn {w : World} {lo hi n c : Nat} {A : Option Addr} {xs : List Int} (h : OwnInts w lo hi A n c xs) (hh : hi ≤ w.heap.size) : Has w A n xs := Has.of h.ints hh

set_option maxRecDepth 100000 in
set_option maxHeartbeats 1600000 in
theorem sibsVv_any (A : Option Addr) (n c : Nat) (ks : List Kv) (w : World) (h : HasS w A n ks) (hn : n ≤ maxLen) (hok : ∀ x ∈ sbs ks, vvOk x.vv = true) :
    Calls Tryd.prog 49 #[.slice A n c] w fun e w' => MadeInts w w' (joinAll (sbs ks)) e := by
  unfold maxLen at hn
  obtain ⟨i0, hi0, hz0, hz1, hz2⟩ := info_parts infoInt
  have H := Lib.hid h
  have HL := Lib.hid h.len
  have HK := Lib.hid hok
  have G2 := Lib.hid hz2
  clear h hz2 hok
  go_enter Tryd.func49, Tryd.ntmps49
  go_wp2_with (at_make; refine wpList_make_full _ rfl _ _ 25 rfl w.heap.size 3 i0 (.int .i64 0) 1 Tryd.underlying25 hi0 hz0 hz1 .i64 .i64 _ _ 3 rfl rfl rfl rfl (by rw [G2.out]; omega) (by unfold maxLen; omega) (by simp) ?_; intro w1 hown1 hg1)
  have hb1 : Below w.heap.size w w1 := (Below.refl _ _).grown hg1 (Nat.le_refl _) (by simp)
  have hown : OwnInts w1 w.heap.size w1.heap.size (some ⟨w.heap.size, 0, none⟩) 3 3 (joinTo (sbs ks) 0) := by
    rw [joinTo_zero]
    have e : (madeCells (Value.cells (.int .i64 0)) (3 * 1)).toList = ([0, 0, 0] : List Int).map (Value.int .i64) := by rw [Nat.mul_one]; exact toList_madeCells_one _ _
    rw [e] at hown1
    exact OwnInts.of hown1 (Nat.le_refl _)
  clear hown1 hg1
  go_loopw [3, 9] (fun v i wr => ∃ (k : Nat) (B : Option Addr) (d : Nat), k ≤ n ∧ i = .int .i64 k ∧ v = .slice B 3 d ∧ Hid (Below w.heap.size w wr) ∧ Hid (OwnInts wr w.heap.size wr.heap.size B 3 d (joinTo (sbs ks) k))) (fun _ i _ => n - (intOf i).toNat)
  case atStart => exact ⟨0, _, 3, Nat.zero_le _, rfl, rfl, hb1, hown⟩
  case round =>
    obtain ⟨k, B, d, hk, rfl, rfl, HB, HO⟩ := hrel
    clear hb1 hown
    by_cases hlt : k < n
    · obtain ⟨b, off, A', n', c', vv, g, t, rfl, hbl, c0, c1, c2, I, hn', ht', hx⟩ := H.out.at_ hlt
      have q0 := cell_upC HB.out c0
      have q1 := cell_upC HB.out c1
      have q2 := cell_upC HB.out c2
      have W1 := bel_alloc wr (.cells #[.slice A' n' c', .bool g, .string t] 31)
      have IR := Lib.hid ((I.step HB.out).step W1)
      have BR := Lib.hid (HB.out.trans (W1.mono HB.out.size))
      have OR := Lib.hid ((Has.ofOwn HO.out (Nat.le_refl _)).step W1)
      have N3 := Lib.hid (I.len.symm.trans (vvOk_len (HK.out _ (List.mem_of_getElem? (sbs_at hx.out)))))
      have hs := joinTo_succ (sbs_at hx.out)
      have HS := Lib.hid hs
      have hsz := HB.out.size
      clear c0 c1 c2 I W1 hs
      go_wp2_with fail
      refine (vvJoin_any B A' 3 n' d c' (joinTo (sbs ks) k) vv _ _ _ _ _ OR.out IR.out (Nat.le_refl _) (Nat.le_refl _) rfl N3.out).mono ?_
      rintro e w2 ⟨g2, c2, rfl, hb, ho⟩
      have B2 := Lib.hid (BR.out.trans (hb.mono BR.out.size))
      have O2 : Hid (OwnInts w2 w.heap.size w2.heap.size (some ⟨g2, 0, none⟩) 3 c2 (joinTo (sbs ks) (k + 1))) := Lib.hid (by
        rw [HS.out]
        exact (OwnInts.of ho (Nat.le_refl _)).wide BR.out.size (Nat.le_refl _))
      clear hb ho
      go_wp2
      go_roundw
      case rel => exact ⟨k + 1, _, c2, by omega, by go_num, rfl, B2.out, O2.out⟩
      case measure => simp [intOf]; omega
    · go_wp2
      go_ret
      have e : joinTo (sbs ks) k = joinAll (sbs ks) := joinTo_all (by rw [sbs_len, HL.out]; omega)
      have HO' := HO.out
      rw [e] at HO'
      exact MadeInts.of HO'.len HB.out HO'.1

set_option maxRecDepth 100000 in
set_option maxHeartbeats 1600000 in
theorem l2Vv_any (A : Option Addr) (n c : Nat) (ks : List Kv) (w : World) (h : HasS w A n ks) (hn : n ≤ maxLen) (hok : ∀ x ∈ sbs ks, vvOk x.vv = true) :
    Calls Tryd.prog 50 #[.slice A n c] w fun e w' => MadeInts w w' (joinAll (sbs ks)) e := by
  unfold maxLen at hn
  obtain ⟨i0, hi0, hz0, hz1, hz2⟩ := info_parts infoInt
  have H := Lib.hid h
  have HL := Lib.hid h.len
  have HK := Lib.hid hok
  have G2 := Lib.hid hz2
  clear h hz2 hok
  go_enter Tryd.func50, Tryd.ntmps50
  go_wp2_with (at_make; refine wpList_make_full _ rfl _ _ 25 rfl w.heap.size 3 i0 (.int .i64 0) 1 Tryd.underlying25 hi0 hz0 hz1 .i64 .i64 _ _ 3 rfl rfl rfl rfl (by rw [G2.out]; omega) (by unfold maxLen; omega) (by simp) ?_; intro w1 hown1 hg1)
  have hb1 : Below w.heap.size w w1 := (Below.refl _ _).grown hg1 (Nat.le_refl _) (by simp)
  have hown : OwnInts w1 w.heap.size w1.heap.size (some ⟨w.heap.size, 0, none⟩) 3 3 (joinTo (sbs ks) 0) := by
    rw [joinTo_zero]
    have e : (madeCells (Value.cells (.int .i64 0)) (3 * 1)).toList = ([0, 0, 0] : List Int).map (Value.int .i64) := by rw [Nat.mul_one]; exact toList_madeCells_one _ _
    rw [e] at hown1
    exact OwnInts.of hown1 (Nat.le_refl _)
  clear hown1 hg1
  go_loopw [3, 4] (fun v i wr => ∃ (k : Nat) (B : Option Addr) (d : Nat), k ≤ n ∧ i = .int .i64 k ∧ v = .slice B 3 d ∧ Hid (Below w.heap.size w wr) ∧ Hid (OwnInts wr w.heap.size wr.heap.size B 3 d (joinTo (sbs ks) k))) (fun _ i _ => n - (intOf i).toNat)
  case atStart => exact ⟨0, _, 3, Nat.zero_le _, rfl, rfl, hb1, hown⟩
  case round =>
    obtain ⟨k, B, d, hk, rfl, rfl, HB, HO⟩ := hrel
    clear hb1 hown
    by_cases hlt : k < n
    · obtain ⟨b, off, A', n', c', vv, g, t, rfl, hbl, c0, c1, c2, I, hn', ht', hx⟩ := H.out.at_ hlt
      have q0 := cell_upC HB.out c0
      have IR := Lib.hid (I.step HB.out)
      have OR := Lib.hid (Has.ofOwn HO.out (Nat.le_refl _))
      have N3 := Lib.hid (I.len.symm.trans (vvOk_len (HK.out _ (List.mem_of_getElem? (sbs_at hx.out)))))
      have hs := joinTo_succ (sbs_at hx.out)
      have HS := Lib.hid hs
      have hsz := HB.out.size
      clear c0 c1 c2 I hs
      go_wp2_with fail
      refine (l1Join_any B A' 3 n' d c' (joinTo (sbs ks) k) vv _ _ _ _ _ OR.out IR.out (Nat.le_refl _) (Nat.le_refl _) rfl N3.out).mono ?_
      rintro e w2 ⟨g2, c2, rfl, hb, ho⟩
      have B2 := Lib.hid (HB.out.trans (hb.mono HB.out.size))
      have O2 : Hid (OwnInts w2 w.heap.size w2.heap.size (some ⟨g2, 0, none⟩) 3 c2 (joinTo (sbs ks) (k + 1))) := Lib.hid (by
        rw [HS.out]
        exact (OwnInts.of ho (Nat.le_refl _)).wide HB.out.size (Nat.le_refl _))
      clear hb ho
      go_wp2
      go_roundw
      case rel => exact ⟨k + 1, _, c2, by omega, by go_num, rfl, B2.out, O2.out⟩
      case measure => simp [intOf]; omega
    · go_wp2
      go_ret
      have e : joinTo (sbs ks) k = joinAll (sbs ks) := joinTo_all (by rw [sbs_len, HL.out]; omega)
      have HO' := HO.out
      rw [e] at HO'
      exact MadeInts.of HO'.len HB.out HO'.1

set_option maxRecDepth 100000 in
theorem iSibsVv_any (A : Option Addr) (n c : Nat) (ks : List Kv) (w : World) (h : HasS w A n ks) (hn : n ≤ maxLen) :
    Calls Tryd.prog 16 #[.slice A n c] w fun e w' => MadeInts w w' (vvSibs (sbs ks)) e := by
  have H := Lib.hid h
  clear h
  by_cases k1 : sibsOk (sbs ks) = true
  · go_enter Tryd.func16, Tryd.ntmps16
    go_wp2_with fail
    refine (areSibs_any A n c ks _ H.out hn).mono ?_
    rintro e w1 ⟨rfl, hb⟩
    rw [k1]
    have B1 := Lib.hid hb
    have H1 := Lib.hid (H.out.step hb)
    clear hb
    go_wp2_with fail
    refine (sibsVv_any A n c ks _ H1.out hn (allOk k1)).mono ?_
    rintro e w2 ⟨A', c', rfl, hb, ho⟩
    have B2 := Lib.hid (B1.out.trans (hb.mono B1.out.size))
    have HO := Lib.hid ho
    have hs1 := B1.out.size
    clear hb ho
    go_wp2
    go_ret
    rw [vvSibs_yes k1]
    exact ⟨A', c', rfl, B2.out, row_mono HO.out hs1⟩
  · have k1' : sibsOk (sbs ks) = false := by simpa using k1
    clear k1
    go_enter Tryd.func16, Tryd.ntmps16
    go_wp2_with fail
    refine (areSibs_any A n c ks _ H.out hn).mono ?_
    rintro e w1 ⟨rfl, hb⟩
    rw [k1']
    have B1 := Lib.hid hb
    clear hb
    go_wp2
    go_ret
    rw [vvSibs_no k1']
    exact ⟨none, 0, rfl, B1.out, World.ownsRow_nil _ _ _ _⟩

set_option maxRecDepth 100000 in
theorem sSibsVv_any (A : Option Addr) (n c : Nat) (ks : List Kv) (w : World) (h : HasS w A n ks) (hn : n ≤ maxLen) :
    Calls Tryd.prog 18 #[.slice A n c] w fun e w' => MadeInts w w' (vvSibs (sbs ks)) e := by
  have H := Lib.hid h
  clear h
  by_cases k1 : sibsOk (sbs ks) = true
  · go_enter Tryd.func18, Tryd.ntmps18
    go_wp2_with fail
    refine (sSibsOk_any A n c ks _ H.out hn).mono ?_
    rintro e w1 ⟨rfl, hb⟩
    rw [k1]
    have B1 := Lib.hid hb
    have H1 := Lib.hid (H.out.step hb)
    clear hb
    go_wp2_with fail
    refine (l2Vv_any A n c ks _ H1.out hn (allOk k1)).mono ?_
    rintro e w2 ⟨A', c', rfl, hb, ho⟩
    have B2 := Lib.hid (B1.out.trans (hb.mono B1.out.size))
    have HO := Lib.hid ho
    have hs1 := B1.out.size
    clear hb ho
    go_wp2
    go_ret
    rw [vvSibs_yes k1]
    exact ⟨A', c', rfl, B2.out, row_mono HO.out hs1⟩
  · have k1' : sibsOk (sbs ks) = false := by simpa using k1
    clear k1
    go_enter Tryd.func18, Tryd.ntmps18
    go_wp2_with fail
    refine (sSibsOk_any A n c ks _ H.out hn).mono ?_
    rintro e w1 ⟨rfl, hb⟩
    rw [k1']
    have B1 := Lib.hid hb
    have hs1 := B1.out.size
    clear hb
    go_wp2
    go_ret
    rw [vvSibs_no k1']
    exact ⟨_, 0, rfl, B1.out.alloc hs1 _, World.ownsRow_lit w1 #[] 0 hs1 (by unfold maxLen; omega) rfl⟩

theorem iSibsVv_e {A : Option Addr} {n c : Nat} {ks : List Kv} {ts : List Int} {w : World} (h : HasS w A n ks) (hn : n ≤ maxLen) (ht : vvSibs (sbs ks) = ts) :
    Calls Tryd.prog 16 #[.slice A n c] w fun e w' => MadeInts w w' ts e := by
  subst ht; exact iSibsVv_any A n c ks w h hn
theorem sSibsVv_e {A : Option Addr} {n c : Nat} {ks : List Kv} {ts : List Int} {w : World} (h : HasS w A n ks) (hn : n ≤ maxLen) (ht : vvSibs (sbs ks) = ts) :
    Calls Tryd.prog 18 #[.slice A n c] w fun e w' => MadeInts w w' ts e := by
  subst ht; exact sSibsVv_any A n c ks w h hn

end Go.Proofs.YtlmjgbonoihccaaDoor
