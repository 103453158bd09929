
/-
  Contracts of markText, eqStringS, markStringS, heldStringS.
-/
import Derived.Test.YtkcoeeekeddgaaaDoorSibsF
namespace Go.Proofs.YtkcoeeekeddgaaaDoor
open Go.RowKit Go.PlainAid

/-- The text with which a place is marked. -/
def mt (k : Nat) : ByteArray := ⟨#[109]⟩ ++ dg k
theorem mt_size {k : Nat} (hk : k ≤ 100000000) : (mt k).size ≤ 11 := by
  have := dg_len 8 k (by omega)
  unfold mt
  rw [ByteArray.size_append]
  show 1 + _ ≤ _
  omega

set_option maxRecDepth 100000 in
set_option maxHeartbeats 1600000 in
theorem markText_any (k : Nat) (h1 : 1 ≤ k) (hk : k ≤ 100000000) (w : World) :
    Calls Tryd.prog 65 #[.int .i64 k] w fun e w' => e = .returned (.string (mt k)) ∧ Below w.heap.size w w' := by
  have hs := dg_len 8 k (by omega)
  have i0 : ¬ (k : Int) ≤ 0 := by omega
  go_enter Tryd.func65, Tryd.ntmps65
  go_wp2
  go_loopw [0, 3] (fun kv ov wr => ∃ (i : Nat) (o : ByteArray), kv = .int .i64 i ∧ ov = .string o ∧ i ≤ k ∧ o.size ≤ 9 ∧ Hid ((0 < i ∧ dg k = dg i ++ o) ∨ (i = 0 ∧ o = dg k)) ∧ Hid (Below w.heap.size w wr)) (fun kv _ _ => (intOf kv).toNat)
  case atStart => exact ⟨k, ⟨#[]⟩, rfl, rfl, Nat.le_refl _, Nat.zero_le _, .inl ⟨h1, by apply ByteArray.ext; simp⟩, Below.refl _ _⟩
  case round =>
    obtain ⟨i, o, rfl, rfl, hik, ho, HD, HB⟩ := hrel
    by_cases h0 : 0 < i
    · have hd : dg k = dg i ++ o := by
        rcases HD.out with ⟨_, h⟩ | ⟨h, _⟩
        · exact h
        · omega
      have j0 : (0 : Int) < i := by omega
      obtain ⟨b, hb⟩ : ∃ b, UInt8.ofNat (48 + i % 10) = b := ⟨_, rfl⟩
      have hc := conv1 b (48 + (i : Int) % 10) (by rw [← hb, ← byte48 (show i % 10 < 10 by omega)]; omega) wr
      have hadd : ¬ (9223372036854775807 : Int) < 1 + (o.size : Int) := by omega
      have hnew : (0 < i / 10 ∧ dg k = dg (i / 10) ++ (⟨#[b]⟩ ++ o)) ∨ (i / 10 = 0 ∧ ⟨#[b]⟩ ++ o = dg k) := by
        by_cases h10 : 10 ≤ i
        · exact .inl ⟨by omega, by rw [hd, dg2 h10, hb, ba_assoc]⟩
        · refine .inr ⟨by omega, ?_⟩
          rw [hd, dg1 (show i < 10 by omega), ← hb, show i % 10 = i by omega]
      have hsz : (⟨#[b]⟩ ++ o : ByteArray).size ≤ 9 := by
        rcases hnew with ⟨_, h⟩ | ⟨_, h⟩
        · have := congrArg ByteArray.size h
          rw [ByteArray.size_append] at this
          omega
        · rw [h]; exact hs
      have HN := Lib.hid hnew
      have HZ := Lib.hid hsz
      clear hb hd hnew hsz HD
      go_wp2
      go_roundw
      case rel => exact ⟨i / 10, (ByteArray.mk #[b]) ++ o, by go_num, rfl, by omega, HZ.out, HN.out, HB.out.alloc HB.out.size _⟩
      case measure => simp [intOf]; omega
    · have he : o = dg k := by
        rcases HD.out with ⟨h, _⟩ | ⟨_, h⟩
        · omega
        · exact h
      subst he
      have hadd : ¬ (9223372036854775807 : Int) < 1 + ((dg k).size : Int) := by omega
      go_wp2
      go_ret
      exact ⟨rfl, HB.out⟩

theorem ba_list {t u : ByteArray} : (t.toList == u.toList) = true ↔ t = u := by
  rw [beq_iff_eq, Lib.toList_data, Lib.toList_data]
  constructor
  · intro h; cases t; cases u; simp at h; simp [h]
  · rintro rfl; rfl
theorem txts_ne {a b : List ByteArray} {k : Nat} {x y : ByteArray} (hx : a[k]? = some x) (hy : b[k]? = some y) (h : x ≠ y) : a ≠ b := by
  rintro rfl
  rw [hx] at hy
  injection hy with hy
  exact h hy
theorem txts_eq {a b : List ByteArray} {n : Nat} (ha : a.length = n) (hb : b.length = n) (h : ∀ j x y, j < n → a[j]? = some x → b[j]? = some y → x = y) : a = b := by
  apply List.ext_getElem (by omega)
  intro j h1 h2
  exact h j _ _ (by omega) (List.getElem?_eq_getElem h1) (List.getElem?_eq_getElem h2)

set_option maxRecDepth 100000 in
theorem eqStringS_any (A B : Option Addr) (n m c d : Nat) (xs ys : List ByteArray) (w : World) (lo hi lo' hi' : Nat) (h1 : Txts w lo hi A n xs) (h2 : Txts w lo' hi' B m ys) (hn : n ≤ maxLen) :
    Calls Tryd.prog 36 #[.slice A n c, .slice B m d] w fun e w' => e = .returned (.bool (decide (xs = ys))) ∧ ∃ q, w.drewN q = w' := by
  unfold maxLen at hn
  have L1 := Lib.hid h1.len
  have L2 := Lib.hid h2.len
  have H1 := Lib.hid h1
  have H2 := Lib.hid h2
  clear h1 h2
  by_cases hl : n = m
  · subst hl
    go_enter Tryd.func36, Tryd.ntmps36
    go_wp2
    go_loopw [5] (fun i wr => ∃ k : Nat, k ≤ n ∧ i = .int .i64 k ∧ Hid (∃ q, w.drewN q = wr) ∧ Hid (∀ j x y, j < k → xs[j]? = some x → ys[j]? = some y → x = y)) (fun i _ => n - (intOf i).toNat)
    case atStart => exact ⟨0, Nat.zero_le _, rfl, ⟨0, rfl⟩, fun j x y hj => absurd hj (by omega)⟩
    case round =>
      obtain ⟨k, hk, rfl, HW, hall⟩ := hrel
      obtain ⟨q, rfl⟩ := HW.out
      by_cases hlt : k < n
      · obtain ⟨b, off, x, rfl, _, hc, hx⟩ := H1.out.at_ hlt
        obtain ⟨b', off', y, rfl, _, hc', hy⟩ := H2.out.at_ hlt
        obtain ⟨z, hz⟩ : ∃ z, (x.toList == y.toList) = z := ⟨_, rfl⟩
        have HZ := Lib.hid hz
        have hz' : (x.toList != y.toList) = !z := by rw [bne, hz]
        cases z
        · go_wp2
          go_quiet (fail)
          go_wp2
          go_ret
          exact ⟨ret_bool (by rw [eq_comm, decide_eq_false_iff_not]; exact txts_ne hx.out hy.out (fun e => by have := HZ.out; rw [ba_list.2 e] at this; cases this)), (by obtain ⟨z, hz⟩ := drew2 w q _; exact ⟨z, hz⟩)⟩
        · go_wp2
          go_quiet (fail)
          go_wp2
          go_roundw
          case rel =>
            refine ⟨k + 1, by omega, by go_num, ⟨_, rfl⟩, fun j x' y' hj hjx hjy => ?_⟩
            by_cases e : j = k
            · subst e
              rw [hx.out] at hjx
              rw [hy.out] at hjy
              injection hjx with hjx
              injection hjy with hjy
              rw [← hjx, ← hjy]
              exact ba_list.1 HZ.out
            · exact hall.out j x' y' (by omega) hjx hjy
          case measure => simp [intOf]; omega
      · go_wp2
        go_ret
        exact ⟨ret_bool (by rw [eq_comm, decide_eq_true_eq]; exact txts_eq (n := n) L1.out L2.out (fun j x y hj => hall.out j x y (by omega))), q, rfl⟩
  · have hne : ((n : Int) != (m : Int)) = true := by simp; omega
    have HN := Lib.hid hl
    clear hl
    go_enter Tryd.func36, Tryd.ntmps36
    go_wp2
    go_ret
    exact ⟨ret_bool (by rw [eq_comm, decide_eq_false_iff_not]; intro e; subst e; exact HN.out (L1.out.symm.trans L2.out)), 0, rfl⟩

/-- New blocks; of the old ones nothing but blocks lo .. hi-1 has turned. -/
structure Within (lo hi : Nat) (w w' : World) : Prop where
  os : w'.os = w.os
  tape : w'.tape = w.tape
  output : w'.output = w.output
  size : w.heap.size ≤ w'.heap.size
  block : ∀ b, b < w.heap.size → b < lo ∨ hi ≤ b → w'.heap[b]? = w.heap[b]?
section
variable {lo hi : Nat} {a w w' : World}
theorem Within.refl (lo hi : Nat) (w : World) : Within lo hi w w := ⟨rfl, rfl, rfl, Nat.le_refl _, fun _ _ _ => rfl⟩
theorem Within.setCell (h : Within lo hi a w) {p : Addr} (h1 : lo ≤ p.block) (h2 : p.block < hi) (u : Value) : Within lo hi a (w.setCell p u) :=
  ⟨h.os, h.tape, h.output, by have := h.size; simp [World.setCell]; omega, fun b hl hb => (Below.heap_setCell _ _ _ _ (by omega)).trans (h.block b hl hb)⟩
theorem Within.trans_below (h : Within lo hi a w) (hb : Below w.heap.size w w') : Within lo hi a w' :=
  ⟨hb.os.trans h.os, hb.tape.trans h.tape, hb.output.trans h.output, Nat.le_trans h.size hb.size, fun b hl h' => (hb.block b (Nat.lt_of_lt_of_le hl h.size)).trans (h.block b hl h')⟩
theorem Within.trans_inside (h : Within lo hi a w) (hb : Inside lo hi w w') : Within lo hi a w' :=
  ⟨hb.os.trans h.os, hb.tape.trans h.tape, hb.output.trans h.output, by rw [hb.size]; exact h.size, fun b hl h' => (hb.block b h').trans (h.block b hl h')⟩
theorem Within.below {B : Nat} (h : Within lo hi w w') (hB : B ≤ lo) (hs : B ≤ w.heap.size) : Below B w w' := ⟨h.os, h.tape, h.output, h.size, fun k hk => h.block k (by omega) (by omega)⟩
theorem Within.keep {lo' hi' : Nat} (h : Within lo hi w w') (h1 : hi' ≤ lo ∨ hi ≤ lo') (h2 : hi' ≤ w.heap.size) : Keep lo' hi' w w' := fun b h3 h4 => h.block b (by omega) (by omega)
end

/-- n marks from k on. -/
def tmarks (k n : Nat) : List ByteArray := (List.range n).map fun j => mt (k + j)
theorem tmarks_len (k n : Nat) : (tmarks k n).length = n := by simp [tmarks]
theorem tmarks_at (k : Nat) {n j : Nat} (h : j < n) : (tmarks k n)[j]? = some (mt (k + j)) := by simp [tmarks, h]
def tmarkTo (ts : List ByteArray) (k j : Nat) : List ByteArray := tmarks k j ++ ts.drop j
theorem tmarkTo_all {ts : List ByteArray} {n : Nat} (k : Nat) (h : ts.length = n) : tmarkTo ts k n = tmarks k n := by simp [tmarkTo, List.drop_of_length_le, h]
theorem tmarkTo_set {ts : List ByteArray} {j : Nat} (k : Nat) (h : j < ts.length) : (tmarkTo ts k j).set j (mt (k + j)) = tmarkTo ts k (j + 1) := by
  have e : tmarks k (j + 1) = tmarks k j ++ [mt (k + j)] := by simp [tmarks, List.range_succ]
  unfold tmarkTo
  rw [e, List.set_append_right _ _ (by rw [tmarks_len]; exact Nat.le_refl _), tmarks_len, Nat.sub_self, List.drop_eq_getElem_cons h, List.set_cons_zero, List.append_assoc]
  rfl
theorem tmarkTo_at {ts : List ByteArray} {j : Nat} (k : Nat) (h : j < ts.length) : ∃ t, (tmarkTo ts k j)[j]? = some t := by
  unfold tmarkTo
  rw [List.getElem?_append_right (by rw [tmarks_len]; exact Nat.le_refl _), tmarks_len, Nat.sub_self, List.drop_eq_getElem_cons h]
  exact ⟨_, rfl⟩

set_option maxRecDepth 100000 in
set_option maxHeartbeats 1600000 in
theorem markStringS_any (A : Option Addr) (n c : Nat) (ts : List ByteArray) (k : Nat) (w : World) (lo hi : Nat) (h : OwnTxts w lo hi A n c ts) (hhi : hi ≤ w.heap.size) (h1 : 1 ≤ k) (hk : k ≤ 10000000) (hn : n ≤ 1048576) :
    Calls Tryd.prog 39 #[.slice A n c, .int .i64 k] w fun e w' => e = .returned (.int .i64 ((k : Int) + n)) ∧ Within lo hi w w' ∧ OwnTxts w' lo hi A n c (tmarks k n) := by
  have L := Lib.hid h.len
  have H := Lib.hid h
  clear h
  go_enter Tryd.func39, Tryd.ntmps39
  go_wp2
  go_loopw [5, 1] (fun i v wr => ∃ j : Nat, j ≤ n ∧ i = .int .i64 j ∧ v = .int .i64 ((k : Int) + j) ∧ Hid (Within lo hi w wr) ∧ Hid (OwnTxts wr lo hi A n c (tmarkTo ts k j))) (fun i _ _ => n - (intOf i).toNat)
  case atStart => exact ⟨0, Nat.zero_le _, rfl, by simp, Within.refl _ _ _, H.out⟩
  case round =>
    obtain ⟨j, hj, rfl, rfl, HI, HO⟩ := hrel
    by_cases hlt : j < n
    · obtain ⟨g, cap, hv, hg1, hg3⟩ := HO.out.1.form (by omega)
      have hA : A = some ⟨g, 0, none⟩ := by injection hv
      subst hA
      have hg2 : g < hi := HO.out.2 g rfl
      have hsz := HI.out.size
      clear hv
      go_wp2_with fail
      refine (markText_any (k + j) (by omega) (by omega) _).mono ?_
      rintro e w2 ⟨rfl, hb⟩
      have HI2 := Lib.hid (HI.out.trans_below hb)
      have ho2 := HO.out.below (hb.mono (show hi ≤ wr.heap.size by omega)) (Nat.le_refl _)
      obtain ⟨t, ht⟩ := tmarkTo_at (ts := ts) k (by rw [L.out]; exact hlt)
      have hs := (ho2.1.cellAt j (by omega)).trans (show _ = some (Value.string t) by rw [List.getElem?_map, ht]; rfl)
      have hf := ho2.1.frozenAt j
      have HO2 := Lib.hid ho2
      clear hb ho2 ht
      go_wp2
      go_roundw
      case rel =>
        refine ⟨j + 1, by omega, by go_num, by go_num, HI2.out.setCell (p := ⟨g, j, none⟩) hg1 hg2 _, ?_, HO2.out.2⟩
        have e : (tmarkTo ts k (j + 1)).map Value.string = ((tmarkTo ts k j).map Value.string).set j (.string (mt (k + j))) := by rw [← tmarkTo_set k (by rw [L.out]; exact hlt), List.map_set]
        rw [e]
        exact (HO2.out.1.stored j _).1
      case measure => simp [intOf]; omega
    · go_wp2
      go_ret
      obtain rfl : j = n := by omega
      have HO' := HO.out
      rw [tmarkTo_all k L.out] at HO'
      exact ⟨rfl, HI.out, HO'⟩

set_option maxRecDepth 100000 in
set_option maxHeartbeats 1600000 in
theorem heldStringS_any (A : Option Addr) (n c : Nat) (k : Nat) (w : World) (lo hi : Nat) (h : Txts w lo hi A n (tmarks k n)) (hhi : hi ≤ w.heap.size) (h1 : 1 ≤ k) (hk : k ≤ 10000000) (hn : n ≤ 1048576) :
    Calls Tryd.prog 40 #[.slice A n c, .int .i64 k] w fun e w' => e = .returned (.int .i64 ((k : Int) + n)) ∧ Below w.heap.size w w' := by
  have H := Lib.hid h
  clear h
  go_enter Tryd.func40, Tryd.ntmps40
  go_wp2
  go_loopw [5, 1] (fun i v wr => ∃ j : Nat, j ≤ n ∧ i = .int .i64 j ∧ v = .int .i64 ((k : Int) + j) ∧ Hid (Below w.heap.size w wr)) (fun i _ _ => n - (intOf i).toNat)
  case atStart => exact ⟨0, Nat.zero_le _, rfl, by simp, Below.refl _ _⟩
  case round =>
    obtain ⟨j, hj, rfl, rfl, HB⟩ := hrel
    by_cases hlt : j < n
    · obtain ⟨b, off, x, rfl, hbh, hc, hx⟩ := (H.out.below HB.out hhi).at_ hlt
      have hx' := hx.out
      rw [tmarks_at k hlt] at hx'
      injection hx' with hx'
      subst hx'
      have C := Lib.hid hc
      have i1 : (j : Int) < (n : Int) := by omega
      have i2 : (0 : Int) ≤ (j : Int) := by omega
      clear hx hc
      go_wp2
      go_region_held3 (fun w' => w'.cell? ⟨b, off + j, none⟩ = some (.string (mt (k + j))) ∧ Below w.heap.size w w')
        (first
          | exact ⟨by exact C.out, HB.out.drew⟩
          | (go_split_ands
             exact ⟨cell_upC hb (by assumption), Below.trans (by assumption) (hb.mono (Below.size (by assumption)))⟩))
        (first
          | (go_at_call 65; refine (markText_any (k + j) (by omega) (by omega) _).mono ?_; rintro e w6 ⟨rfl, hb⟩))
      go_split_ands
      go_wp2
      go_roundw
      case rel => exact ⟨j + 1, by omega, by go_num, by go_num, by assumption⟩
      case measure => simp [intOf]; omega
    · go_wp2
      go_ret
      obtain rfl : j = n := by omega
      exact ⟨rfl, HB.out⟩

end Go.Proofs.YtkcoeeekeddgaaaDoor
