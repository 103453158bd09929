
/-
  Contracts of markSibS and heldSibS.
-/
import Derived.Test.YtlmjgbonoihccaaDoorSibsH
namespace Go.Proofs.YtlmjgbonoihccaaDoor
open Go.RowKit Go.PlainAid

/-- What marking makes of versions. -/
def smarks : Nat → List Sb → List Sb
  | _, [] => []
  | k, s :: r => ⟨marks k s.vv.length, decide ((k + s.vv.length) % 3 = 0), mt (k + s.vv.length + 1)⟩ :: smarks (k + s.vv.length + 2) r
def posTo (ss : List Sb) (k j : Nat) : Nat := k + totS (ss.take j) + 2 * j
theorem posTo_succ {ss : List Sb} {k j : Nat} {x : Sb} (hx : ss[j]? = some x) : posTo ss k (j + 1) = posTo ss k j + x.vv.length + 2 := by
  unfold posTo; rw [totS_take hx]; omega
theorem smarks_len : ∀ (ss : List Sb) (k : Nat), (smarks k ss).length = ss.length
  | [], _ => rfl
  | s :: r, k => by simp [smarks, smarks_len r]
theorem smarks_append : ∀ (a b : List Sb) (k : Nat), smarks k (a ++ b) = smarks k a ++ smarks (k + totS a + 2 * a.length) b
  | [], b, k => by simp [smarks, totS]
  | s :: r, b, k => by
    simp only [List.cons_append, smarks, smarks_append r b, totS, List.length_cons]
    rw [show k + s.vv.length + 2 + totS r + 2 * r.length = k + (s.vv.length + totS r) + 2 * (r.length + 1) by omega]
def smarkTo (ss : List Sb) (k j : Nat) : List Sb := smarks k (ss.take j) ++ ss.drop j
def smarkOne (p : Nat) (x : Sb) : Sb := ⟨marks p x.vv.length, decide ((p + x.vv.length) % 3 = 0), mt (p + x.vv.length + 1)⟩
theorem smarks_take {ss : List Sb} {k j : Nat} {x : Sb} (hx : ss[j]? = some x) : smarks k (ss.take (j + 1)) = smarks k (ss.take j) ++ [smarkOne (posTo ss k j) x] := by
  obtain ⟨hj, rfl⟩ := List.getElem?_eq_some_iff.1 hx
  have hl : (ss.take j).length = j := by simp; omega
  rw [List.take_succ_eq_append_getElem hj, smarks_append, hl]
  rfl
theorem smarkTo_at {ss : List Sb} {k j : Nat} {x : Sb} (hx : ss[j]? = some x) : (smarkTo ss k j)[j]? = some x := by
  obtain ⟨hj, rfl⟩ := List.getElem?_eq_some_iff.1 hx
  have hl : (smarks k (ss.take j)).length = j := by rw [smarks_len]; simp; omega
  unfold smarkTo
  rw [List.getElem?_append_right (by omega), hl, Nat.sub_self, List.drop_eq_getElem_cons hj]
  rfl
theorem smarkTo_set {ss : List Sb} {k j : Nat} {x : Sb} (hx : ss[j]? = some x) : (smarkTo ss k j).set j (smarkOne (posTo ss k j) x) = smarkTo ss k (j + 1) := by
  have h := smarks_take (k := k) hx
  obtain ⟨hj, rfl⟩ := List.getElem?_eq_some_iff.1 hx
  have hl : (smarks k (ss.take j)).length = j := by rw [smarks_len]; simp; omega
  unfold smarkTo
  rw [h, List.set_append_right _ _ (by omega), hl, Nat.sub_self, List.drop_eq_getElem_cons hj, List.set_cons_zero, List.append_assoc]
  rfl
theorem smarkTo_all {ss : List Sb} {n : Nat} (k : Nat) (h : ss.length = n) : smarkTo ss k n = smarks k ss := by simp [smarkTo, List.drop_of_length_le, List.take_of_length_le, h]
theorem smarkTo_zero (ss : List Sb) (k : Nat) : smarkTo ss k 0 = ss := by simp [smarkTo, smarks]
theorem sbs_set (ks : List Kv) (j : Nat) (k : Kv) : sbs (ks.set j k) = (sbs ks).set j k.s := by simp [sbs, List.map_set]
theorem totS_le {ss : List Sb} (j : Nat) : totS (ss.take j) ≤ totS ss := by
  have := totS_append (ss.take j) (ss.drop j)
  rw [List.take_append_drop] at this
  omega

/-- A list that a call has made lies in a block, no more. -/
theorem OwnInts.narrow {w : World} {lo hi n c : Nat} {A : Option Addr} {xs : List Int} (h : OwnInts w lo hi A n c xs) :
    ∃ l u, OwnInts w l u A n c xs ∧ (∀ b, (Value.slice A n c).ownBlock ≠ some b → b < l ∨ u ≤ b) ∧ (∀ b, b < lo ∨ hi ≤ b → b < l ∨ u ≤ b) := by
  cases A with
  | none =>
    refine ⟨0, 0, ⟨?_, fun g hg => by cases hg⟩, fun b _ => .inr (Nat.zero_le _), fun b _ => .inr (Nat.zero_le _)⟩
    refine ⟨h.1.1, ?_⟩
    rcases h.1.2 with h2 | ⟨g, cap, cur, hv, _⟩
    · exact .inl h2
    · cases hv
  | some a =>
    have hl := (h.1.lt a.block rfl).1
    have hu := h.2 a.block rfl
    refine ⟨a.block, a.block + 1, ⟨⟨h.1.1, ?_⟩, fun g hg => by injection hg with hg; omega⟩, fun b hb => ?_, fun b hb => by omega⟩
    · rcases h.1.2 with h2 | ⟨g, cap, cur, hv, hg, rest⟩
      · exact .inl h2
      · refine .inr ⟨g, cap, cur, hv, ?_, rest⟩
        injection hv with hv
        injection hv with hv
        subst hv
        exact Nat.le_refl _
    · have : a.block ≠ b := fun e => hb (by rw [← e]; rfl)
      omega

set_option maxRecDepth 100000 in
set_option maxHeartbeats 3200000 in
theorem markSibS_any (A : Option Addr) (n c : Nat) (ks : List Kv) (k : Nat) (w : World) (lo hi : Nat) (h : OwnSibs w lo hi A n c ks) (hhi : hi ≤ w.heap.size) (h1 : 1 ≤ k) (hk : k ≤ 10000000) (hn : n ≤ 1048576) (ht : totS (sbs ks) ≤ 1048576) :
    Calls Tryd.prog 29 #[.slice A n c, .int .i64 k] w fun e w' => e = .returned (.int .i64 ((posTo (sbs ks) k n : Nat) : Int)) ∧ Within lo hi w w' ∧ ∃ ks', OwnSibs w' lo hi A n c ks' ∧ sbs ks' = smarks k (sbs ks) := by
  have L := Lib.hid h.len
  have H := Lib.hid h
  clear h
  obtain ⟨ss, hss⟩ : ∃ ss, ss = sbs ks := ⟨_, rfl⟩
  rw [← hss] at ht ⊢
  have HS := Lib.hid hss
  have LS : Hid (ss.length = n) := Lib.hid (by rw [hss, sbs_len]; exact L.out)
  clear hss
  go_enter Tryd.func29, Tryd.ntmps29
  go_wp2
  go_loopw [5, 1] (fun i v wr => ∃ (j p : Nat) (ls : List Kv), j ≤ n ∧ i = .int .i64 j ∧ v = .int .i64 p ∧ Hid (p = posTo ss k j) ∧ Hid (Within lo hi w wr) ∧ Hid (OwnSibs wr lo hi A n c ls) ∧ Hid (sbs ls = smarkTo ss k j)) (fun i _ _ => n - (intOf i).toNat)
  case atStart => exact ⟨0, k, ks, Nat.zero_le _, rfl, rfl, (by show k = posTo ss k 0; simp [posTo, totS]), Within.refl _ _ _, H.out, by rw [smarkTo_zero]; exact HS.out.symm⟩
  case round =>
    obtain ⟨j, p, ls, hj, rfl, rfl, HP, HI, HO, HL⟩ := hrel
    by_cases hlt : j < n
    · obtain ⟨g, rfl, hg1, hg2⟩ := own_head HO.out (by omega)
      have hjl : j < ls.length := by have := HO.out.len; omega
      obtain ⟨⟨A', n', c', ⟨vv, gg, t⟩⟩, hx⟩ : ∃ x, ls[j]? = some x := ⟨_, List.getElem?_eq_getElem hjl⟩
      have hxs : ss[j]? = some ⟨vv, gg, t⟩ := by
        obtain ⟨y, hy⟩ : ∃ y, ss[j]? = some y := ⟨_, List.getElem?_eq_getElem (by rw [LS.out]; exact hlt)⟩
        have h1 := smarkTo_at (k := k) hy
        rw [← HL.out, sbs_at hx] at h1
        injection h1 with h1
        rw [hy, ← h1]
      obtain ⟨c0, c1, c2⟩ := own_at HO.out hx
      have hpn : p ≤ 13200000 := by
        have := totS_le (ss := ss) j
        have := HP.out
        unfold posTo at this
        omega
      have ho := HO.out.own _ (List.mem_of_getElem? hx)
      have hlen : vv.length = n' := ho.1.len
      obtain ⟨l, u, hno, hoth, hout⟩ := ho.1.narrow
      have HX := Lib.hid hx
      have HXS := Lib.hid hxs
      have HT := Lib.hid hoth
      have HU := Lib.hid hout
      have hn' : n' ≤ 1048576 := ho.2.1
      have hsz := HI.out.size
      clear hx hxs hoth hout
      go_wp2_with fail
      refine (markIntS_any A' n' c' vv p _ l u hno (by omega) (by omega) hn').mono ?_
      rintro e w2 ⟨rfl, hI, hO2⟩
      have HO2 := Lib.hid (HO.out.setV HX.out (xs := marks (p : Int) n') (by
        exact ⟨⟨hO2.1.1, by
          rcases hO2.1.2 with h2 | ⟨q, cap, cur, hv, hq, rest⟩
          · exact .inl h2
          · exact .inr ⟨q, cap, cur, hv, (ho.1.1.lt q (by rw [hv]; rfl)).1, rest⟩⟩, ho.1.2⟩) (fun b hb => hI.block b (HT.out b hb)))
      have HI2 : Hid (Within lo hi w w2) := Lib.hid ⟨hI.os.trans HI.out.os, hI.tape.trans HI.out.tape, hI.output.trans HI.out.output, by rw [hI.size]; exact HI.out.size, fun b hb h' => (hI.block b (HU.out b h')).trans (HI.out.block b hb h')⟩
      have hs2 : w2.heap.size = wr.heap.size := hI.size
      have hx2 : (ls.set j ⟨A', n', c', marks (p : Int) n', gg, t⟩)[j]? = some ⟨A', n', c', marks (p : Int) n', gg, t⟩ := by rw [List.getElem?_set_self hjl]
      obtain ⟨d0, d1, d2⟩ := own_at HO2.out hx2
      have f1 := HO2.out.row.frozenAt (j * 3 + 1)
      have f2 := HO2.out.row.frozenAt (j * 3 + 2)
      have HX2 := Lib.hid hx2
      clear hI hO2 hx2 c0 c1 c2 hno ho
      go_wp2_with fail
      have ecast : (p : Int) + (n' : Int) + 1 = ((p + n' + 1 : Nat) : Int) := by omega
      rw [ecast]
      refine (markText_any (p + n' + 1) (by omega) (by omega) _).mono ?_
      rintro e w3 ⟨rfl, hb⟩
      have eb : (((p : Int) + (n' : Int)) % 3 == 0) = decide ((p + vv.length) % 3 = 0) := by rw [Bool.eq_iff_iff, beq_iff_eq, decide_eq_true_eq, hlen]; omega
      rw [eb] at hb
      have o3 := HO2.out.setG HX2.out (decide ((p + vv.length) % 3 = 0))
      rw [List.set_set] at o3
      have s3 : (w2.setCell ⟨g, j * 3 + 1, none⟩ (.bool (decide ((p + vv.length) % 3 = 0)))).heap.size = w2.heap.size := by simp [World.setCell]
      have o4 := o3.below hb (by rw [s3]; omega)
      have HI4 := Lib.hid ((HI2.out.setCell (p := ⟨g, j * 3 + 1, none⟩) hg1 hg2 (.bool (decide ((p + vv.length) % 3 = 0)))).trans_below hb)
      have hx4 : (ls.set j ⟨A', n', c', marks (p : Int) n', decide ((p + vv.length) % 3 = 0), t⟩)[j]? = some ⟨A', n', c', marks (p : Int) n', decide ((p + vv.length) % 3 = 0), t⟩ := by rw [List.getElem?_set_self hjl]
      obtain ⟨_, _, g2⟩ := own_at o4 hx4
      have k2 := o4.row.frozenAt (j * 3 + 2)
      have HO4 := Lib.hid o4
      have HX4 := Lib.hid hx4
      clear hb eb ecast o3 o4 hx4 d0 d1 d2 f1 f2
      go_wp2
      go_roundw
      case rel =>
        have o5 := HO4.out.setT HX4.out (mt (p + n' + 1)) (by have := mt_size (k := p + n' + 1) (by omega); unfold maxLen; omega)
        rw [List.set_set] at o5
        refine ⟨j + 1, p + n' + 2, _, by omega, by go_num, by go_num, ?_, HI4.out.setCell (p := ⟨g, j * 3 + 2, none⟩) hg1 hg2 _, o5, ?_⟩
        · show p + n' + 2 = posTo ss k (j + 1)
          rw [posTo_succ HXS.out, ← HP.out, hlen]
        · show sbs _ = smarkTo ss k (j + 1)
          rw [sbs_set, HL.out, ← smarkTo_set HXS.out, ← HP.out]
          simp only [smarkOne, hlen]
      case measure => simp [intOf]; omega
    · go_wp2
      go_ret
      obtain rfl : j = n := by omega
      exact ⟨by rw [← HP.out]; rfl, HI.out, ls, HO.out, by rw [HL.out, smarkTo_all k LS.out]⟩

end Go.Proofs.YtlmjgbonoihccaaDoor
