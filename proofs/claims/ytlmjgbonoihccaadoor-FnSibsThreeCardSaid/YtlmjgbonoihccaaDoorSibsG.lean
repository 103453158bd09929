
/-
  Contracts of markText, eqStringS, markStringS, heldStringS.
-/
import Derived.Test.YtlmjgbonoihccaaDoorSibsF
namespace Go.Proofs.YtlmjgbonoihccaaDoor
open Go.RowKit Go.PlainAid

/-- The text with which a place is marked. -/
def mt (k : Nat) : ByteArray := ⟨#[109]⟩ ++ dg k
theorem mt_size {k : Nat} (hk : k ≤ 100000000) : (mt k).size ≤ 11 := by
  have := dg_len 8 k (by omega)
  unfold mt
  rw [ByteArray.size_append]
  show 1 + _ ≤ _
  omega

set_option maxRecDepth 100000 in
set_option maxHeartbeats 1600000 in
theorem markText_any (k : Nat) (h1 : 1 ≤ k) (hk : k ≤ 100000000) (w : World) :
    Calls Tryd.prog 64 #[.int .i64 k] w fun e w' => e = .returned (.string (mt k)) ∧ Below w.heap.size w w' := by
  have hs := dg_len 8 k (by omega)
  have i0 : ¬ (k : Int) ≤ 0 := by omega
  go_enter Tryd.func64, Tryd.ntmps64
  go_wp2
  go_loopw [0, 3] (fun kv ov wr => ∃ (i : Nat) (o : ByteArray), kv = .int .i64 i ∧ ov = .string o ∧ i ≤ k ∧ o.size ≤ 9 ∧ Hid ((0 < i ∧ dg k = dg i ++ o) ∨ (i = 0 ∧ o = dg k)) ∧ Hid (Below w.heap.size w wr)) (fun kv _ _ => (intOf kv).toNat)
  case atStart => exact ⟨k, ⟨#[]⟩, rfl, rfl, Nat.le_refl _, Nat.zero_le _, .inl ⟨h1, by apply ByteArray.ext; simp⟩, Below.refl _ _⟩
  case round =>
    obtain ⟨i, o, rfl, rfl, hik, ho, HD, HB⟩ := hrel
    by_cases h0 : 0 < i
    · have hd : dg k = dg i ++ o := by
        rcases HD.out with ⟨_, h⟩ | ⟨h, _⟩
        · exact h
        · omega
      have j0 : (0 : Int) < i := by omega
      obtain ⟨b, hb⟩ : ∃ b, UInt8.ofNat (48 + i % 10) = b := ⟨_, rfl⟩
      have hc := conv1 b (48 + (i : Int) % 10) (by rw [← hb, ← byte48 (show i % 10 < 10 by omega)]; omega) wr
      have hadd : ¬ (9223372036854775807 : Int) < 1 + (o.size : Int) := by omega
      have hnew : (0 < i / 10 ∧ dg k = dg (i / 10) ++ (⟨#[b]⟩ ++ o)) ∨ (i / 10 = 0 ∧ ⟨#[b]⟩ ++ o = dg k) := by
        by_cases h10 : 10 ≤ i
        · exact .inl ⟨by omega, by rw [hd, dg2 h10, hb, ba_assoc]⟩
        · refine .inr ⟨by omega, ?_⟩
          rw [hd, dg1 (show i < 10 by omega), ← hb, show i % 10 = i by omega]
      have hsz : (⟨#[b]⟩ ++ o : ByteArray).size ≤ 9 := by
        rcases hnew with ⟨_, h⟩ | ⟨_, h⟩
        · have := congrArg ByteArray.size h
          rw [ByteArray.size_append] at this
          omega
        · rw [h]; exact hs
      have HN := Lib.hid hnew
      have HZ := Lib.hid hsz
      clear hb hd hnew hsz HD
      go_wp2
      go_roundw
      case rel => exact ⟨i / 10, (ByteArray.mk #[b]) ++ o, by go_num, rfl, by omega, HZ.out, HN.out, HB.out.alloc HB.out.size _⟩
      case measure => simp [intOf]; omega
    · have he : o = dg k := by
        rcases HD.out with ⟨h, _⟩ | ⟨_, h⟩
        · omega
        · exact h
      subst he
      have hadd : ¬ (9223372036854775807 : Int) < 1 + ((dg k).size : Int) := by omega
      go_wp2
      go_ret
      exact ⟨rfl, HB.out⟩

theorem ba_list {t u : ByteArray} : (t.toList == u.toList) = true ↔ t = u := by
  rw [beq_iff_eq, Lib.toList_data, Lib.toList_data]
  constructor
  · intro h; cases t; cases u; simp at h; simp [h]
  · rintro rfl; rfl
theorem txts_ne {a b : List ByteArray} {k : Nat} {x y : ByteArray} (hx : a[k]? = some x) (hy : b[k]? = some y) (h : x ≠ y) : a ≠ b := by
  rintro rfl
  rw [hx] at hy
  injection hy with hy
  exact h hy
theorem txts_eq {a b : List ByteArray} {n : Nat} (ha : a.length = n) (hb : b.length = n) (h : ∀ j x y, j < n → a[j]? = some x → b[j]? = some y → x = y) : a = b := by
  apply List.ext_getElem (by omega)
  intro j h1 h2
  exact h j _ _ (by omega) (List.getElem?_eq_getElem h1) (List.getElem?_eq_getElem h2)

/-- New blocks; of the old ones nothing but blocks lo .. hi-1 has turned. -/
structure Within (lo hi : Nat) (w w' : World) : Prop where
  os : w'.os = w.os
  tape : w'.tape = w.tape
  output : w'.output = w.output
  size : w.heap.size ≤ w'.heap.size
  block : ∀ b, b < w.heap.size → b < lo ∨ hi ≤ b → w'.heap[b]? = w.heap[b]?
section
variable {lo hi : Nat} {a w w' : World}
theorem Within.refl (lo hi : Nat) (w : World) : Within lo hi w w := ⟨rfl, rfl, rfl, Nat.le_refl _, fun _ _ _ => rfl⟩
theorem Within.setCell (h : Within lo hi a w) {p : Addr} (h1 : lo ≤ p.block) (h2 : p.block < hi) (u : Value) : Within lo hi a (w.setCell p u) :=
  ⟨h.os, h.tape, h.output, by have := h.size; simp [World.setCell]; omega, fun b hl hb => (Below.heap_setCell _ _ _ _ (by omega)).trans (h.block b hl hb)⟩
theorem Within.trans_below (h : Within lo hi a w) (hb : Below w.heap.size w w') : Within lo hi a w' :=
  ⟨hb.os.trans h.os, hb.tape.trans h.tape, hb.output.trans h.output, Nat.le_trans h.size hb.size, fun b hl h' => (hb.block b (Nat.lt_of_lt_of_le hl h.size)).trans (h.block b hl h')⟩
theorem Within.trans_inside (h : Within lo hi a w) (hb : Inside lo hi w w') : Within lo hi a w' :=
  ⟨hb.os.trans h.os, hb.tape.trans h.tape, hb.output.trans h.output, by rw [hb.size]; exact h.size, fun b hl h' => (hb.block b h').trans (h.block b hl h')⟩
theorem Within.below {B : Nat} (h : Within lo hi w w') (hB : B ≤ lo) (hs : B ≤ w.heap.size) : Below B w w' := ⟨h.os, h.tape, h.output, h.size, fun k hk => h.block k (by omega) (by omega)⟩
theorem Within.keep {lo' hi' : Nat} (h : Within lo hi w w') (h1 : hi' ≤ lo ∨ hi ≤ lo') (h2 : hi' ≤ w.heap.size) : Keep lo' hi' w w' := fun b h3 h4 => h.block b (by omega) (by omega)
end

/-- n marks from k on. -/
def tmarks (k n : Nat) : List ByteArray := (List.range n).map fun j => mt (k + j)
theorem tmarks_len (k n : Nat) : (tmarks k n).length = n := by simp [tmarks]
theorem tmarks_at (k : Nat) {n j : Nat} (h : j < n) : (tmarks k n)[j]? = some (mt (k + j)) := by simp [tmarks, h]
def tmarkTo (ts : List ByteArray) (k j : Nat) : List ByteArray := tmarks k j ++ ts.drop j
theorem tmarkTo_all {ts : List ByteArray} {n : Nat} (k : Nat) (h : ts.length = n) : tmarkTo ts k n = tmarks k n := by simp [tmarkTo, List.drop_of_length_le, h]
theorem tmarkTo_set {ts : List ByteArray} {j : Nat} (k : Nat) (h : j < ts.length) : (tmarkTo ts k j).set j (mt (k + j)) = tmarkTo ts k (j + 1) := by
  have e : tmarks k (j + 1) = tmarks k j ++ [mt (k + j)] := by simp [tmarks, List.range_succ]
  unfold tmarkTo
  rw [e, List.set_append_right _ _ (by rw [tmarks_len]; exact Nat.le_refl _), tmarks_len, Nat.sub_self, List.drop_eq_getElem_cons h, List.set_cons_zero, List.append_assoc]
  rfl
theorem tmarkTo_at {ts : List ByteArray} {j : Nat} (k : Nat) (h : j < ts.length) : ∃ t, (tmarkTo ts k j)[j]? = some t := by
  unfold tmarkTo
  rw [List.getElem?_append_right (by rw [tmarks_len]; exact Nat.le_refl _), tmarks_len, Nat.sub_self, List.drop_eq_getElem_cons h]
  exact ⟨_, rfl⟩

end Go.Proofs.YtlmjgbonoihccaaDoor
