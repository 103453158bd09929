
/-
  Plain facts on texts of counts: cut at a point, read as decimals. No program in sight.
-/
import Derived.Test.YtkcoeeekeddgaaaDoorTextB
import Derived.Lib.SplitLaws
import Derived.Lib.AtoiAllCases
namespace Go.Proofs.YtkcoeeekeddgaaaDoor

/-- Cut at each point. -/
def cutB : List UInt8 → List (List UInt8)
  | [] => [[]]
  | b :: r => if b = 46 then [] :: cutB r else match cutB r with
    | [] => [[b]]
    | h :: t => (b :: h) :: t
theorem cutB_ne : ∀ l : List UInt8, cutB l ≠ []
  | [] => by simp [cutB]
  | b :: r => by
    unfold cutB
    split
    · simp
    · split <;> simp
theorem cutB_free : ∀ {x : List UInt8}, (∀ b ∈ x, b ≠ 46) → cutB x = [x]
  | [], _ => rfl
  | b :: x, h => by
    have ih := cutB_free (x := x) (fun c hc => h c (by simp [hc]))
    unfold cutB
    rw [if_neg (h b (by simp)), ih]
theorem cutB_point : ∀ {x : List UInt8} (r : List UInt8), (∀ b ∈ x, b ≠ 46) → cutB (x ++ 46 :: r) = x :: cutB r
  | [], r, _ => by simp [cutB]
  | b :: x, r, h => by
    have ih := cutB_point (x := x) r (fun c hc => h c (by simp [hc]))
    rw [List.cons_append]
    conv => lhs; unfold cutB
    rw [if_neg (h b (by simp)), ih]

/-- The decimals of a number up to 30. -/
theorem dec_form {i : Nat} (h : i ≤ 30) : (∃ a, a < 10 ∧ i = a ∧ Lib.decDigits i = [UInt8.ofNat (48 + a)]) ∨ (∃ a b, a < 10 ∧ b < 10 ∧ 1 ≤ a ∧ i = 10 * a + b ∧ Lib.decDigits i = [UInt8.ofNat (48 + a), UInt8.ofNat (48 + b)]) := by
  by_cases h1 : i < 10
  · exact .inl ⟨i, h1, rfl, by rw [Lib.decDigits, dif_pos h1]⟩
  · refine .inr ⟨i / 10, i % 10, by omega, by omega, by omega, by omega, ?_⟩
    rw [Lib.decDigits, dif_neg h1, Lib.decDigits, dif_pos (by omega)]
    rfl
theorem byte_nat {a : Nat} (h : a < 10) : (UInt8.ofNat (48 + a)).toNat = 48 + a := by rw [UInt8.toNat_ofNat']; omega
theorem byte_ne {a : Nat} (h : a < 10) : UInt8.ofNat (48 + a) ≠ 46 := fun e => by
  have := congrArg UInt8.toNat e
  rw [byte_nat h] at this
  have e2 : (46 : UInt8).toNat = 46 := rfl
  omega
theorem dec_free {i : Nat} (h : i ≤ 30) : ∀ b ∈ Lib.decDigits i, b ≠ 46 := by
  rcases dec_form h with ⟨a, ha, _, e⟩ | ⟨a, b, ha, hb, _, _, e⟩
  · rw [e]; intro x hx; rw [List.mem_singleton] at hx; rw [hx]; exact byte_ne ha
  · rw [e]; intro x hx
    rcases List.mem_cons.1 hx with hx | hx
    · rw [hx]; exact byte_ne ha
    · rw [List.mem_singleton] at hx; rw [hx]; exact byte_ne hb
/-- A digit. -/
def isDig (b : UInt8) : Bool := decide (48 ≤ b.toNat) && decide (b.toNat ≤ 57)
/-- What one or two digits say; -1 for anything else. -/
def decB : List UInt8 → Int
  | [a] => if isDig a then (a.toNat : Int) - 48 else -1
  | [a, b] => if isDig a && isDig b then 10 * ((a.toNat : Int) - 48) + ((b.toNat : Int) - 48) else -1
  | _ => -1
theorem isDig_of {a : Nat} (h : a < 10) : isDig (UInt8.ofNat (48 + a)) = true := by
  unfold isDig
  rw [byte_nat h, Bool.and_eq_true, decide_eq_true_eq, decide_eq_true_eq]
  omega
theorem decB_dec {i : Nat} (h : i ≤ 30) : decB (Lib.decDigits i) = i := by
  rcases dec_form h with ⟨a, ha, rfl, e⟩ | ⟨a, b, ha, hb, _, rfl, e⟩
  · rw [e]; simp only [decB, isDig_of ha, if_true, byte_nat ha]; omega
  · rw [e]; simp only [decB, isDig_of ha, isDig_of hb, Bool.and_self, if_true, byte_nat ha, byte_nat hb]; omega
theorem atoi_dec {i : Nat} (h : i ≤ 30) : Lib.atoiAll (Lib.decDigits i) = .ok (i : Int) := by
  have p1 : ∀ {a : Nat}, a < 10 → ∀ acc r, acc ≤ 100 → Lib.parseUint10 acc (UInt8.ofNat (48 + a) :: r) = Lib.parseUint10 (acc * 10 + a) r := by
    intro a ha acc r hacc
    rw [Lib.parseUint10, byte_nat ha, if_pos (by omega), if_neg (by omega), if_neg (by omega), show 48 + a - 48 = a by omega]
  have p2 : ∀ {a : Nat}, a < 10 → ∀ r u, Lib.parseUint10 0 (UInt8.ofNat (48 + a) :: r) = .ok u → u ≤ 1000 → Lib.atoiAll (UInt8.ofNat (48 + a) :: r) = .ok (u : Int) := by
    intro a ha r u hu h1
    rw [Lib.atoiAll_plain _ _ (by rw [byte_nat ha]; omega) (by rw [byte_nat ha]; omega)]
    unfold Lib.parseMag
    rw [if_neg (by simp), hu]
    show (if 9223372036854775808 ≤ u then Lib.NumEnd.range else Lib.NumEnd.ok (u : Int)) = _
    rw [if_neg (by omega)]
  rcases dec_form h with ⟨a, ha, rfl, e⟩ | ⟨a, b, ha, hb, _, rfl, e⟩
  · rw [e]
    refine p2 ha [] i ?_ (by omega)
    rw [p1 ha 0 [] (by omega)]
    simp [Lib.parseUint10]
  · rw [e]
    refine p2 ha _ (10 * a + b) ?_ (by omega)
    rw [p1 ha 0 _ (by omega), p1 hb _ _ (by omega)]
    simp [Lib.parseUint10]; omega

/-- The texts of counts that are ok. -/
theorem out_form {xs : List Int} (h : vvOk xs = true) : ∃ a b c : Nat, xs = [(a : Int), (b : Int), (c : Int)] ∧ a ≤ 30 ∧ b ≤ 30 ∧ c ≤ 30 ∧ (outT xs 3).data.toList = Lib.decDigits a ++ 46 :: (Lib.decDigits b ++ 46 :: Lib.decDigits c) := by
  obtain ⟨x, y, z, rfl, h1, h2, h3, h4, h5, h6⟩ := vvOk_form h
  refine ⟨x.toNat, y.toNat, z.toNat, by rw [Int.toNat_of_nonneg h1, Int.toNat_of_nonneg h3, Int.toNat_of_nonneg h5], by omega, by omega, by omega, ?_⟩
  simp [outT, Lib.join, List.intercalate]
theorem cut_out {xs : List Int} (h : vvOk xs = true) : cutB (outT xs 3).data.toList = xs.map fun x => Lib.decDigits x.toNat := by
  obtain ⟨a, b, c, rfl, ha, hb, hc, e⟩ := out_form h
  rw [e, cutB_point _ (dec_free ha), cutB_point _ (dec_free hb), cutB_free (dec_free hc)]
  simp
theorem map_decB {xs : List Int} (h : vvOk xs = true) : (xs.map fun x => Lib.decDigits x.toNat).map decB = xs := by
  obtain ⟨a, b, c, rfl, ha, hb, hc, e⟩ := out_form h
  simp [decB_dec ha, decB_dec hb, decB_dec hc]
/-- Counts are read back from their text. -/
theorem out_inj {xs ys : List Int} (hx : vvOk xs = true) (hy : vvOk ys = true) (h : outT xs 3 = outT ys 3) : xs = ys := by
  rw [← map_decB hx, ← map_decB hy, ← cut_out hx, ← cut_out hy, h]
theorem out_ne {xs : List Int} (hx : vvOk xs = true) : (outT xs 3).toList.isEmpty = false := by
  obtain ⟨a, b, c, rfl, ha, hb, hc, e⟩ := out_form hx
  rw [Lib.toList_data, e]
  cases Lib.decDigits a <;> rfl
theorem text_eq {xs ys : List Int} (hx : vvOk xs = true) (hy : vvOk ys = true) : ((textV xs).toList == (textV ys).toList) = decide (xs = ys) := by
  rw [textV_yes hx, textV_yes hy, Bool.eq_iff_iff, beq_iff_eq, decide_eq_true_eq, Lib.toList_data, Lib.toList_data]
  constructor
  · intro h
    refine out_inj hx hy ?_
    cases h1 : outT xs 3
    cases h2 : outT ys 3
    rw [h1, h2] at h
    simp at h
    rw [h]
  · intro h; rw [h]

/-! ## strings.Split at a point -/
theorem index_point : ∀ {x : List UInt8} (r : List UInt8), (∀ b ∈ x, b ≠ 46) → Lib.index (x ++ 46 :: r) [46] = x.length
  | [], r, _ => by simp [Lib.index, List.isPrefixOf]
  | b :: x, r, h => by
    have ih := index_point (x := x) r (fun c hc => h c (by simp [hc]))
    have hb := h b (by simp)
    rw [List.cons_append]
    unfold Lib.index
    have e : ([46] : List UInt8).isPrefixOf (b :: (x ++ 46 :: r)) = false := by
      simp [List.isPrefixOf]; exact fun e => hb e.symm
    rw [e, ih]
    simp
theorem split_point {x : List UInt8} (r : List UInt8) (h : ∀ b ∈ x, b ≠ 46) (k : Nat) : Lib.splitK [46] 0 (k + 1) (x ++ 46 :: r) = x :: Lib.splitK [46] 0 k r := by
  have e : ((x.length : Int) == -1) = false := by simp
  have t1 : (x ++ 46 :: r).take x.length = x := List.take_left
  have t2 : (x ++ 46 :: r).drop (x.length + 1) = r := by rw [← List.drop_drop, List.drop_left]; rfl
  rw [Lib.splitK, index_point r h, if_neg (by rw [e]; exact Bool.false_ne_true)]
  show (x ++ 46 :: r).take (x.length + 0) :: Lib.splitK [46] 0 k ((x ++ 46 :: r).drop (x.length + 1)) = _
  rw [Nat.add_zero, t1, t2]
theorem split_cut : ∀ (k : Nat) (l : List UInt8), l.count 46 = k → Lib.splitK [46] 0 k l = cutB l
  | 0, l, h => by
    rw [cutB_free (fun b hb e => by
      have := List.count_pos_iff.2 (e ▸ hb)
      omega)]
    rfl
  | k + 1, l, h => by
    have hm : (46 : UInt8) ∈ l := List.count_pos_iff.1 (by omega)
    obtain ⟨x, r, rfl, hx⟩ : ∃ x r, l = x ++ 46 :: r ∧ ∀ b ∈ x, b ≠ 46 := by
      clear h
      induction l with
      | nil => cases hm
      | cons b t ih =>
        by_cases hb : b = 46
        · exact ⟨[], t, by rw [hb]; rfl, by simp⟩
        · obtain ⟨x, r, e, hx⟩ := ih (by
            rcases List.mem_cons.1 hm with h | h
            · exact absurd h.symm hb
            · exact h)
          exact ⟨b :: x, r, by rw [e]; rfl, fun c hc => by
            rcases List.mem_cons.1 hc with h | h
            · rw [h]; exact hb
            · exact hx c h⟩
    have h0 : x.count 46 = 0 := List.count_eq_zero.2 (fun hm => hx _ hm rfl)
    rw [List.count_append, h0, List.count_cons_self] at h
    rw [split_point r hx, cutB_point r hx, split_cut k r (by omega)]
/-- The pieces of a text. -/
def pieces (t : ByteArray) : List ByteArray := Lib.splitB ⟨#[46]⟩ 0 (Lib.countB t ⟨#[46]⟩) t
theorem pieces_data (t : ByteArray) : (pieces t).map (·.data.toList) = cutB t.data.toList := by
  unfold pieces
  rw [Lib.splitB_data]
  exact split_cut _ _ (Lib.count_one 46 t.data.toList).symm
theorem pieces_len (t : ByteArray) : (pieces t).length = Lib.countB t ⟨#[46]⟩ + 1 := Lib.splitB_all ⟨#[46]⟩ (Nat.le_refl 1) 0 _ t rfl

/-! ## Reading -/
/-- What a text reads as. -/
def Reads (t : ByteArray) (xs : List Int) (ok : Bool) : Prop := (ok = true ∧ vvOk xs = true ∧ outT xs 3 = t) ∨ (ok = false ∧ xs = [] ∧ ∀ ys, vvOk ys = true → outT ys 3 ≠ t)
theorem Reads.one {t : ByteArray} {xs ys : List Int} {ok ok' : Bool} (h : Reads t xs ok) (h' : Reads t ys ok') : xs = ys ∧ ok = ok' := by
  rcases h with ⟨rfl, h1, h2⟩ | ⟨rfl, rfl, h1⟩ <;> rcases h' with ⟨rfl, g1, g2⟩ | ⟨rfl, rfl, g1⟩
  · exact ⟨out_inj h1 g1 (h2.trans g2.symm), rfl⟩
  · exact absurd h2 (g1 xs h1)
  · exact absurd g2 (h1 ys g1)
  · exact ⟨rfl, rfl⟩
theorem Reads.len {t : ByteArray} {xs : List Int} {ok : Bool} (h : Reads t xs ok) : xs.length ≤ 3 := by
  rcases h with ⟨_, h1, _⟩ | ⟨_, rfl, _⟩
  · rw [vvOk_len h1]; exact Nat.le_refl _
  · exact Nat.zero_le _
theorem Reads.of_out {xs : List Int} (h : vvOk xs = true) : Reads (outT xs 3) xs true := .inl ⟨rfl, h, rfl⟩
/-- If some counts have this text, the pieces are their decimals. -/
theorem piece_dec {t : ByteArray} {ys : List Int} (hy : vvOk ys = true) (h : outT ys 3 = t) {j : Nat} {p : ByteArray} (hp : (pieces t)[j]? = some p) : ∃ i : Nat, i ≤ 30 ∧ ys[j]? = some (i : Int) ∧ p.data.toList = Lib.decDigits i := by
  have h1 := pieces_data t
  rw [← h, cut_out hy, h] at h1
  have h2 := congrArg (fun l => l[j]?) h1
  simp only [List.getElem?_map, hp, Option.map_some] at h2
  rcases hj : ys[j]? with _ | x
  · rw [hj] at h2; cases h2
  · rw [hj] at h2
    simp only [Option.map_some, Option.some.injEq] at h2
    have hb := ((vvOk_eq ys).1 hy).2 j (List.getElem?_eq_some_iff.1 hj).1
    rw [List.getD_eq_getElem?_getD, hj] at hb
    simp at hb
    exact ⟨x.toNat, by omega, by rw [Int.toNat_of_nonneg hb.1], h2⟩
theorem pieces_three {t : ByteArray} {ys : List Int} (hy : vvOk ys = true) (h : outT ys 3 = t) : (pieces t).length = 3 := by
  have h1 := congrArg List.length (pieces_data t)
  rw [← h, cut_out hy, h, List.length_map, List.length_map, vvOk_len hy] at h1
  exact h1

end Go.Proofs.YtkcoeeekeddgaaaDoor
